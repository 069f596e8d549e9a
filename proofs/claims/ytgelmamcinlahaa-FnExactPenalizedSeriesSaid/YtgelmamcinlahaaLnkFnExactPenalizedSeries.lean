/- Links: each Go function returns what its model computes and leaves what was there. Printed by my generator. -/
import Derived.Test.YtgelmamcinlahaaLnkFnExactPenalizedSeriesA
namespace Go.Proofs.Ytgelmamcinlahaa
set_option maxRecDepth 10000
open Go Go.RowKit Go.ChangeShapes Go.WideShapes
set_option linter.unusedVariables false
set_option linter.unusedSimpArgs false

theorem M.impl_penalizedSeries_ok (w0 : World) (a0 : Series) {v1 : Value} (h2 : rdL (· < w0.heap.size) w0 v1 a0.Races) (a1 : List Penalty) {v3 : Value} (h4 : rdL (· < w0.heap.size) w0 v3 a1) {r : Series} (hm : M.impl_penalizedSeries a0 a1 = some r) :
    Calls Try.prog 44 #[(.agg #[(.int .i64 a0.Boats), (.int .i64 a0.Scheme), v1]), v3] w0 fun e w' => ∃ (rv0 : Value) (rS0 : Nat → Prop), e = .returned (.agg #[(.int .i64 r.Boats), (.int .i64 r.Scheme), rv0]) ∧ Fresh w0 w' [Ent.own 46 rS0 rv0 r.Races] := by
  unfold M.impl_penalizedSeries at hm
  refine calls_CW (args := [(.agg #[(.int .i64 a0.Boats), (.int .i64 a0.Scheme), v1]), v3]) Try.func44 rfl rfl rfl ?_
  have hL := Hp.start w0
  refine CW.seq ?_
  refine CW.regionL ?_
  refine OW.cons (S_box (cs := #[(.int .i64 a0.Boats), (.int .i64 a0.Scheme), v1]) hL rfl rfl rfl ?_)
  intro wd5 b6 hL
  refine OW.cons (S_alloc (cs := #[(.int .i64 0), (.int .i64 0), (.slice none 0 0)]) hL Try_T31 rfl rfl ?_)
  intro wd7 b8 hL
  refine OW.nil ?_
  refine CW.seq ?_
  refine CW.regionL ?_
  refine OW.cons (OP.val (v := (.pointer (some ⟨b6, 0, none⟩))) rfl (x_fieldAddr (fsz := 1) 0 0 0 Try.underlying31 rfl Try_T2 rfl rfl rfl) ?_)
  refine OW.cons (OP.val (v := (.int .i64 a0.Boats)) rfl (x_load1 Try.underlying2 rfl rfl (hL.cellB 1 rfl rfl)) ?_)
  refine OW.cons (OP.val (v := (.pointer (some ⟨b6, 1, none⟩))) rfl (x_fieldAddr (fsz := 1) 0 1 1 Try.underlying31 rfl Try_T2 rfl rfl rfl) ?_)
  refine OW.cons (OP.val (v := (.int .i64 a0.Scheme)) rfl (x_load1 Try.underlying2 rfl rfl (hL.cellB 1 rfl rfl)) ?_)
  refine OW.cons (OP.val (v := (.agg #[(.int .i64 a0.Boats), (.int .i64 a0.Scheme), (.slice none 0 0)])) rfl (x_build Try_B31 (ps := [(0, (.int .i64 a0.Boats)), (1, (.int .i64 a0.Scheme))]) ⟨⟨rfl, rfl⟩, ⟨rfl, rfl⟩, trivial⟩ (by simp [Instr.fill, cells_int, cells_bool, cells_string, cells_agg, cells_slice, cells_pointer])) ?_)
  refine OW.cons (S_alloc (cs := #[(.int .i64 0), (.int .i64 0), (.slice none 0 0)]) hL Try_T31 rfl rfl ?_)
  intro wd9 b10 hL
  refine OW.cons (S_storeN (l := [(.int .i64 a0.Boats), (.int .i64 a0.Scheme), (.slice none 0 0)]) (cs' := #[(.int .i64 a0.Boats), (.int .i64 a0.Scheme), (.slice none 0 0)]) hL 0 rfl Try_T31 rfl rfl (List.forall_mem_cons.2 ⟨rfl, (List.forall_mem_cons.2 ⟨rfl, (List.forall_mem_cons.2 ⟨rfl, (fun _ h => by cases h)⟩)⟩)⟩) rfl (Nat.le_of_ble_eq_true rfl) rfl ?_)
  intro wd11 hL
  refine OW.nil ?_
  refine CW.seq ?_
  refine CW.seq ?_
  refine CW.regionL ?_
  refine OW.cons (OP.val (v := (.pointer (some ⟨b6, 2, none⟩))) rfl (x_fieldAddr (fsz := 1) 0 2 2 Try.underlying31 rfl Try_T29 rfl rfl rfl) ?_)
  refine OW.cons (OP.val (v := v1) rfl (x_load1 Try.underlying29 rfl rfl (hL.cellB 2 rfl rfl)) ?_)
  refine OW.cons (OP.val (v := (.int .i64 (a0.Races.length : Int))) rfl (x_lenR Try.underlying29 rfl (hL.rdS 3 rfl h2)) ?_)
  refine OW.cons (OP.val (v := (.int .i64 0)) rfl (x_move) ?_)
  refine OW.nil ?_
  obtain ⟨o108, ho109, hm⟩ := bndE hm
  have hL := hL.pushNil Race 46
  refine CW.loopB (fun (s_l1 : (List Race) × Int) (F : Fr) (w : World) => ∃ (v104 : Value) (S105 : Nat → Prop), F 1 = v3 ∧ F 4 = (.pointer (some ⟨b8, 0, none⟩)) ∧ F 5 = (.pointer (some ⟨b10, 0, none⟩)) ∧ F 19 = v1 ∧ F 20 = (.int .i64 (a0.Races.length : Int)) ∧ F 21 = (.int .i64 s_l1.2) ∧ Hp w0 [Ent.own 46 S105 v104 s_l1.1, Ent.blk b10 31 #[(.int .i64 a0.Boats), (.int .i64 a0.Scheme), v104], Ent.blk b8 31 #[(.int .i64 0), (.int .i64 0), (.slice none 0 0)], Ent.blk b6 31 #[(.int .i64 a0.Boats), (.int .i64 a0.Scheme), v1], Ent.snap w0 w0.heap.size] w) (fun o => outc o (fun x => some x) (fun s => M.impl_penalizedSeries_a1 a0 a1 s) = some r) ho109 hm ⟨(.slice none 0 0), None_, rfl, rfl, rfl, rfl, rfl, rfl, hL⟩ ?_ ?_
  · intro s_l1 F110 wd111 hJ hm
    have hm := outcE hm
    have hm : M.impl_penalizedSeries_a1 a0 a1 s_l1 = some r := hm
    unfold M.impl_penalizedSeries_a1 at hm
    obtain ⟨v104, S105, f112, f113, f114, f115, f116, f117, hL⟩ := hJ
    refine CW.seq ?_
    refine CW.seq ?_
    refine CW.regionL ?_
    refine OW.cons (OP.val (v := v3) rfl (x_mv f112) ?_)
    refine OW.cons (OP.val (v := (.int .i64 (a1.length : Int))) rfl (x_lenR Try.underlying33 rfl (hL.rdS 4 rfl h4)) ?_)
    refine OW.cons (OP.val (v := (.int .i64 0)) rfl (x_move) ?_)
    refine OW.nil ?_
    obtain ⟨o586, ho587, hm⟩ := bndE hm
    refine CW.loopB (fun (s_l2 : (List Race) × Int) (F : Fr) (w : World) => ∃ (S583 : Nat → Prop), F 1 = v3 ∧ F 4 = (.pointer (some ⟨b8, 0, none⟩)) ∧ F 5 = (.pointer (some ⟨b10, 0, none⟩)) ∧ F 36 = v3 ∧ F 37 = (.int .i64 (a1.length : Int)) ∧ F 38 = (.int .i64 s_l2.2) ∧ Hp w0 [Ent.own 46 S583 v104 s_l2.1, Ent.blk b10 31 #[(.int .i64 a0.Boats), (.int .i64 a0.Scheme), v104], Ent.blk b8 31 #[(.int .i64 0), (.int .i64 0), (.slice none 0 0)], Ent.blk b6 31 #[(.int .i64 a0.Boats), (.int .i64 a0.Scheme), v1], Ent.snap w0 w0.heap.size] w) (fun o => outc o (fun x => some x) (fun s => M.impl_penalizedSeries_a2 a0 a1 s) = some r) ho587 hm ⟨S105, f112, f113, f114, rfl, rfl, rfl, hL⟩ ?_ ?_
    · intro s_l2 F588 wd589 hJ hm
      have hm := outcE hm
      have hm : M.impl_penalizedSeries_a2 a0 a1 s_l2 = some r := hm
      unfold M.impl_penalizedSeries_a2 at hm
      obtain ⟨S583, f590, f591, f592, f593, f594, f595, hL⟩ := hJ
      refine CW.seq ?_
      refine CW.seq ?_
      refine CW.regionL ?_
      refine OW.cons (OP.val (v := v3) rfl (x_mv f590) ?_)
      refine OW.cons (OP.val (v := (.int .i64 (a1.length : Int))) rfl (x_lenR Try.underlying33 rfl (hL.rdS 4 rfl h4)) ?_)
      refine OW.cons (OP.val (v := (.int .i64 0)) rfl (x_move) ?_)
      refine OW.nil ?_
      obtain ⟨o930, ho931, hm⟩ := bndE hm
      refine CW.loopB (fun (s_l3 : (List Race) × Int) (F : Fr) (w : World) => ∃ (S927 : Nat → Prop), F 4 = (.pointer (some ⟨b8, 0, none⟩)) ∧ F 5 = (.pointer (some ⟨b10, 0, none⟩)) ∧ F 74 = v3 ∧ F 75 = (.int .i64 (a1.length : Int)) ∧ F 76 = (.int .i64 s_l3.2) ∧ Hp w0 [Ent.own 46 S927 v104 s_l3.1, Ent.blk b10 31 #[(.int .i64 a0.Boats), (.int .i64 a0.Scheme), v104], Ent.blk b8 31 #[(.int .i64 0), (.int .i64 0), (.slice none 0 0)], Ent.blk b6 31 #[(.int .i64 a0.Boats), (.int .i64 a0.Scheme), v1], Ent.snap w0 w0.heap.size] w) (fun o => outc o (fun x => some x) (fun s => M.impl_penalizedSeries_a3 a0 s) = some r) ho931 hm ⟨S583, f591, f592, rfl, rfl, rfl, hL⟩ ?_ ?_
      · intro s_l3 F932 wd933 hJ hm
        have hm := outcE hm
        have hm : M.impl_penalizedSeries_a3 a0 s_l3 = some r := hm
        unfold M.impl_penalizedSeries_a3 at hm
        obtain ⟨S927, f934, f935, f936, f937, f938, hL⟩ := hJ
        refine CW.seq ?_
        refine CW.regionL ?_
        refine OW.cons (OP.val (v := (.agg #[(.int .i64 a0.Boats), (.int .i64 a0.Scheme), v104])) rfl (x_loadN (cs := [(.int .i64 a0.Boats), (.int .i64 a0.Scheme), v104]) Try.underlying31 Try_T31 rfl f935 (hL.cellsB 1 rfl (o := 0) (l := [(.int .i64 a0.Boats), (.int .i64 a0.Scheme), v104]) (by intro j u hj; exact (by simpa using hj)))) ?_)
        refine OW.cons (S_storeN (l := [(.int .i64 a0.Boats), (.int .i64 a0.Scheme), v104]) (cs' := #[(.int .i64 a0.Boats), (.int .i64 a0.Scheme), v104]) hL 2 rfl Try_T31 f934 rfl (List.forall_mem_cons.2 ⟨rfl, (List.forall_mem_cons.2 ⟨rfl, (List.forall_mem_cons.2 ⟨rdL_one (hL.rdO 0 rfl), (fun _ h => by cases h)⟩)⟩)⟩) rfl (Nat.le_of_ble_eq_true rfl) rfl ?_)
        intro wd939 hL
        refine OW.nil ?_
        refine CW.ret ?_
        obtain rfl := Option.some.inj hm
        exact RRc rfl f934 (run_loadBlk Try.underlying31 Try_T31 (hL.get 2 rfl) rfl) ⟨v104, S927, rfl, hL.fresh 4 rfl [0] (by decide) (by decide) rfl⟩
      · intro s_l3 F940 wd941 t928 hJ hm hr929
        unfold M.impl_penalizedSeries_l3 at hm
        obtain ⟨S927, f942, f943, f944, f945, f946, hL⟩ := hJ
        refine CW.seq ?_
        refine CW.regionL ?_
        refine OW.cons (OP.val (v := (.bool (decide (s_l3.2 < (a1.length : Int))))) rfl (x_lss f946 f945) ?_)
        refine OW.nil ?_
        refine CW.seq ?_
        refine CW.condM (t := decide (s_l3.2 < (a1.length : Int))) rfl hm (fun hb947 hm => ?_) (fun hb947 hm => ?_)
        · refine CW.skip ?_
          refine CW.seqJ (fun (s_j1 : (List Race)) (F : Fr) (w : World) => ∃ (S1026 : Nat → Prop), F 4 = (.pointer (some ⟨b8, 0, none⟩)) ∧ F 5 = (.pointer (some ⟨b10, 0, none⟩)) ∧ F 74 = v3 ∧ F 75 = (.int .i64 (a1.length : Int)) ∧ F 76 = (.int .i64 s_l3.2) ∧ Hp w0 [Ent.own 46 S1026 v104 s_j1, Ent.blk b10 31 #[(.int .i64 a0.Boats), (.int .i64 a0.Scheme), v104], Ent.blk b8 31 #[(.int .i64 0), (.int .i64 0), (.slice none 0 0)], Ent.blk b6 31 #[(.int .i64 a0.Boats), (.int .i64 a0.Scheme), v1], Ent.snap w0 w0.heap.size] w) (fun s_j1 => M.impl_penalizedSeries_j1 s_l3 s_j1 = some t928) ?_ ?_
          · refine CW.blockJ (fun (s_j2 : (List Race)) (F : Fr) (w : World) => ∃ (S1069 : Nat → Prop), F 4 = (.pointer (some ⟨b8, 0, none⟩)) ∧ F 5 = (.pointer (some ⟨b10, 0, none⟩)) ∧ F 74 = v3 ∧ F 75 = (.int .i64 (a1.length : Int)) ∧ F 76 = (.int .i64 s_l3.2) ∧ Hp w0 [Ent.own 46 S1069 v104 s_j2, Ent.blk b10 31 #[(.int .i64 a0.Boats), (.int .i64 a0.Scheme), v104], Ent.blk b8 31 #[(.int .i64 0), (.int .i64 0), (.slice none 0 0)], Ent.blk b6 31 #[(.int .i64 a0.Boats), (.int .i64 a0.Scheme), v1], Ent.snap w0 w0.heap.size] w) (fun s_j2 => M.impl_penalizedSeries_j2 s_l3 s_j2 = some t928) ?_ ?_
            · refine CW.seq ?_
              refine CW.regionL ?_
              obtain ⟨x1077, ha1078, hm⟩ := bndE hm
              obtain ⟨hz1079, ha1083⟩ := idxE ha1078
              obtain ⟨b1080, q1081, hix1082⟩ := rdL_ix (hL.rdS 4 rfl h4) hz1079 ha1083
              refine OW.cons (OP.val (v := (.pointer (some ⟨b1080, q1081, none⟩))) rfl (x_ix Try.underlying33 Try_T48 f944 f946 hix1082) ?_)
              refine OW.cons (OP.val (v := (.agg #[(.int .i64 x1077.Race), (.int .i64 x1077.Boat), (.int .i64 x1077.Kind), (.int .i64 x1077.Value)])) rfl (x_loadN (cs := [(.int .i64 x1077.Race), (.int .i64 x1077.Boat), (.int .i64 x1077.Kind), (.int .i64 x1077.Value)]) Try.underlying48 Try_T48 rfl rfl (rdF_cells (hL.rdS 4 rfl h4) hix1082 ha1083)) ?_)
              refine OW.cons (S_alloc (cs := #[(.int .i64 0), (.int .i64 0), (.int .i64 0), (.int .i64 0)]) hL Try_T48 rfl rfl ?_)
              intro wd1084 b1085 hL
              refine OW.cons (S_storeN (l := [(.int .i64 x1077.Race), (.int .i64 x1077.Boat), (.int .i64 x1077.Kind), (.int .i64 x1077.Value)]) (cs' := #[(.int .i64 x1077.Race), (.int .i64 x1077.Boat), (.int .i64 x1077.Kind), (.int .i64 x1077.Value)]) hL 0 rfl Try_T48 rfl rfl (List.forall_mem_cons.2 ⟨rfl, (List.forall_mem_cons.2 ⟨rfl, (List.forall_mem_cons.2 ⟨rfl, (List.forall_mem_cons.2 ⟨rfl, (fun _ h => by cases h)⟩)⟩)⟩)⟩) rfl (Nat.le_of_ble_eq_true rfl) rfl ?_)
              intro wd1086 hL
              refine OW.nil ?_
              refine CW.seq ?_
              refine CW.regionL ?_
              refine OW.cons (OP.val (v := (.pointer (some ⟨b1085, 2, none⟩))) rfl (x_fieldAddr (fsz := 1) 0 2 2 Try.underlying48 rfl Try_T2 rfl rfl rfl) ?_)
              refine OW.cons (OP.val (v := (.int .i64 x1077.Kind)) rfl (x_load1 Try.underlying2 rfl rfl (hL.cellB 0 rfl rfl)) ?_)
              refine OW.cons (OP.val (v := (.bool (x1077.Kind == 1))) rfl (x_eql rfl rfl) ?_)
              refine OW.nil ?_
              refine CW.condM (t := x1077.Kind == 1) rfl hm (fun hb1087 hm => ?_) (fun hb1087 hm => ?_)
              · obtain ⟨wz1088, hL, ho1089⟩ := hL.freeze 1 rfl
                simp only [List.set_cons_zero, List.set_cons_succ] at hL
                refine CW.draw Try_mixed ?_
                have hL := hL.call (Mod.drew _)
                refine DW.pre (fuel := 1) (fin := ((((((((((((((((Array.replicate 16 false).setIfInBounds 0 true).setIfInBounds 1 true).setIfInBounds 2 true).setIfInBounds 3 true).setIfInBounds 4 true).setIfInBounds 5 true).setIfInBounds 6 true).setIfInBounds 7 true).setIfInBounds 8 true).setIfInBounds 9 true).setIfInBounds 10 true).setIfInBounds 11 true).setIfInBounds 12 true).setIfInBounds 13 true).setIfInBounds 14 true)) (C := fun w' => Mod None_ _ w') [0, 1, 2, 3, 4, 5, 6, 7, 8, 9, 10, 11, 12, 13, 14] (Mod.refl _ _) (by kernel_rfl) (by kernel_rfl) ?_
                refine QW.cons rfl (QP.val (v := (.pointer (some ⟨b10, 2, none⟩))) rfl (fun w' hm' => x_fieldAddr (fsz := 1) 0 2 2 Try.underlying31 rfl Try_T29 rfl f943 rfl) ?_)
                refine QW.cons rfl (QP.val (v := v104) rfl (fun w' hm' => x_load1 Try.underlying29 rfl rfl ((hL.call hm').cellB 2 rfl rfl)) ?_)
                refine QW.cons rfl (QP.val (v := (.pointer (some ⟨b1085, 0, none⟩))) rfl (fun w' hm' => x_fieldAddr (fsz := 1) 0 0 0 Try.underlying48 rfl Try_T2 rfl rfl rfl) ?_)
                refine QW.cons rfl (QP.val (v := (.int .i64 x1077.Race)) rfl (fun w' hm' => x_load1 Try.underlying2 rfl rfl ((hL.call hm').cellB 0 rfl rfl)) ?_)
                obtain ⟨x1090, ha1091, hm⟩ := bndE hm
                obtain ⟨hz1092, ha1100⟩ := idxE ha1091
                obtain ⟨b1093, q1094, v1095, hix1096, hs1097, hc1098, hr1099⟩ := rdN_at ho1089.1.rdL hz1092 ha1100
                refine QW.cons rfl (QP.val (v := (.pointer (some ⟨b1093, q1094, none⟩))) rfl (fun w' hm' => x_ix Try.underlying29 Try_T46 rfl rfl hix1096) ?_)
                refine QW.cons rfl (QP.val (v := (.pointer (some ⟨b1093, q1094, none⟩))) rfl (fun w' hm' => x_fieldAddr (fsz := 1) q1094 0 q1094 Try.underlying46 rfl Try_T44 rfl rfl rfl) ?_)
                refine QW.cons rfl (QP.val (v := v1095) rfl (fun w' hm' => x_load1 Try.underlying44 rfl rfl ((hL.call hm').cellF 1 rfl hs1097 hc1098)) ?_)
                refine QW.cons rfl (QP.val (v := (.pointer (some ⟨b1085, 1, none⟩))) rfl (fun w' hm' => x_fieldAddr (fsz := 1) 0 1 1 Try.underlying48 rfl Try_T2 rfl rfl rfl) ?_)
                refine QW.cons rfl (QP.val (v := (.int .i64 x1077.Boat)) rfl (fun w' hm' => x_load1 Try.underlying2 rfl rfl ((hL.call hm').cellB 0 rfl rfl)) ?_)
                refine QW.cons rfl (QP.val (v := (.pointer (some ⟨b1085, 1, none⟩))) rfl (fun w' hm' => x_fieldAddr (fsz := 1) 0 1 1 Try.underlying48 rfl Try_T2 rfl rfl rfl) ?_)
                refine QW.cons rfl (QP.val (v := (.int .i64 x1077.Boat)) rfl (fun w' hm' => x_load1 Try.underlying2 rfl rfl ((hL.call hm').cellB 0 rfl rfl)) ?_)
                refine QW.cons rfl (QP.val (v := (.pointer (some ⟨b1085, 3, none⟩))) rfl (fun w' hm' => x_fieldAddr (fsz := 1) 0 3 3 Try.underlying48 rfl Try_T2 rfl rfl rfl) ?_)
                refine QW.cons rfl (QP.val (v := (.int .i64 x1077.Value)) rfl (fun w' hm' => x_load1 Try.underlying2 rfl rfl ((hL.call hm').cellB 0 rfl rfl)) ?_)
                refine QW.cons rfl (QP.val (v := (.agg #[(.int .i64 x1077.Boat), (.int .i64 x1077.Value), (.int .i64 0)])) rfl (fun w' hm' => x_build Try_B50 (ps := [(0, (.int .i64 x1077.Boat)), (1, (.int .i64 x1077.Value)), (2, (.int .i64 0))]) ⟨⟨rfl, rfl⟩, ⟨rfl, rfl⟩, ⟨rfl, rfl⟩, trivial⟩ (by simp [Instr.fill, cells_int, cells_bool, cells_string, cells_agg, cells_slice, cells_pointer])) ?_)
                obtain ⟨x1101, ha1102, hm⟩ := bndE hm
                obtain ⟨hz1103, ha1107⟩ := idxE ha1102
                obtain ⟨b1104, q1105, hix1106⟩ := rdL_ix (hL.rdF 1 rfl hr1099) hz1103 ha1107
                refine QW.cons rfl (QP.val (v := (.pointer (some ⟨b1104, q1105, none⟩))) rfl (fun w' hm' => x_ix Try.underlying44 Try_T50 rfl rfl hix1106) ?_)
                refine QW.nil ?_
                intro wd1108 hmod
                have hL := hL.call hmod
                have hc1110 := hL.cellF 1 rfl hs1097 hc1098
                have hL := hL.thaw 1 rfl ho1089
                simp only [List.set_cons_zero, List.set_cons_succ] at hL
                refine DW.only 15 rfl (by kernel_rfl) (S_inRow (α := Finish) (x1090.Finishes.set (x1077.Boat : Int).toNat (Finish.mk x1077.Boat x1077.Value 0)) (Race.mk (x1090.Finishes.set (x1077.Boat : Int).toNat (Finish.mk x1077.Boat x1077.Value 0))) rfl hL 1 rfl hix1096 ha1100 hc1110 (fun E2 S1 hL hK => S_storeXN (l := [(.int .i64 x1077.Boat), (.int .i64 x1077.Value), (.int .i64 0)]) (Finish.mk x1077.Boat x1077.Value 0) hL 0 rfl Try_T50 hix1106 ha1107 rfl rfl rfl hK) ?_)
                intro wd1109 S1111 hL
                simp only [List.set_cons_zero, List.set_cons_succ] at hL
                refine DW.done (by kernel_rfl) ?_
                have hL := hL.sel [1, 2, 3, 4, 5] (by decide) rfl
                exact ⟨s_l3.1.set (x1077.Race : Int).toNat (Race.mk (x1090.Finishes.set (x1077.Boat : Int).toNat (Finish.mk x1077.Boat x1077.Value 0))), hm, ⟨S1111, f942, f943, f944, f945, f946, hL⟩⟩
              · refine CW.skip ?_
                have hL := hL.sel [1, 2, 3, 4, 5] (by decide) rfl
                exact ⟨s_l3.1, hm, ⟨S927, f942, f943, f944, f945, f946, hL⟩⟩
            · intro s_j2 F1070 wd1071 hJ hm
              unfold M.impl_penalizedSeries_j2 at hm
              obtain ⟨S1069, f1072, f1073, f1074, f1075, f1076, hL⟩ := hJ
              exact ⟨s_j2, hm, ⟨S1069, f1072, f1073, f1074, f1075, f1076, hL⟩⟩
          · intro s_j1 F1027 wd1028 hJ hm
            unfold M.impl_penalizedSeries_j1 at hm
            obtain ⟨S1026, f1029, f1030, f1031, f1032, f1033, hL⟩ := hJ
            refine CW.regionL ?_
            refine OW.cons (OP.val (v := (.int .i64 (w64 (s_l3.2 + 1)))) rfl (x_add f1033 rfl) ?_)
            refine OW.cons (OP.val (v := (.int .i64 (w64 (s_l3.2 + 1)))) rfl (x_move) ?_)
            refine OW.nil ?_
            obtain rfl := Option.some.inj hm
            exact ⟨_, rfl, ⟨S1026, f1029, f1030, f1031, f1032, rfl, hL⟩⟩
        · refine CW.exit ?_
          refine XJ.hit ?_
          obtain rfl := Option.some.inj hm
          exact ⟨_, rfl, ⟨S927, f942, f943, f944, f945, f946, hL⟩⟩
    · intro s_l2 F1112 wd1113 t584 hJ hm hr585
      unfold M.impl_penalizedSeries_l2 at hm
      obtain ⟨S583, f1114, f1115, f1116, f1117, f1118, f1119, hL⟩ := hJ
      refine CW.seq ?_
      refine CW.regionL ?_
      refine OW.cons (OP.val (v := (.bool (decide (s_l2.2 < (a1.length : Int))))) rfl (x_lss f1119 f1118) ?_)
      refine OW.nil ?_
      refine CW.seq ?_
      refine CW.condM (t := decide (s_l2.2 < (a1.length : Int))) rfl hm (fun hb1120 hm => ?_) (fun hb1120 hm => ?_)
      · refine CW.skip ?_
        refine CW.seqJ (fun (s_j3 : (List Race)) (F : Fr) (w : World) => ∃ (S1232 : Nat → Prop), F 1 = v3 ∧ F 4 = (.pointer (some ⟨b8, 0, none⟩)) ∧ F 5 = (.pointer (some ⟨b10, 0, none⟩)) ∧ F 36 = v3 ∧ F 37 = (.int .i64 (a1.length : Int)) ∧ F 38 = (.int .i64 s_l2.2) ∧ Hp w0 [Ent.own 46 S1232 v104 s_j3, Ent.blk b10 31 #[(.int .i64 a0.Boats), (.int .i64 a0.Scheme), v104], Ent.blk b8 31 #[(.int .i64 0), (.int .i64 0), (.slice none 0 0)], Ent.blk b6 31 #[(.int .i64 a0.Boats), (.int .i64 a0.Scheme), v1], Ent.snap w0 w0.heap.size] w) (fun s_j3 => M.impl_penalizedSeries_j3 s_l2 s_j3 = some t584) ?_ ?_
        · refine CW.blockJ (fun (s_j4 : (List Race)) (F : Fr) (w : World) => ∃ (S1292 : Nat → Prop), F 1 = v3 ∧ F 4 = (.pointer (some ⟨b8, 0, none⟩)) ∧ F 5 = (.pointer (some ⟨b10, 0, none⟩)) ∧ F 36 = v3 ∧ F 37 = (.int .i64 (a1.length : Int)) ∧ F 38 = (.int .i64 s_l2.2) ∧ Hp w0 [Ent.own 46 S1292 v104 s_j4, Ent.blk b10 31 #[(.int .i64 a0.Boats), (.int .i64 a0.Scheme), v104], Ent.blk b8 31 #[(.int .i64 0), (.int .i64 0), (.slice none 0 0)], Ent.blk b6 31 #[(.int .i64 a0.Boats), (.int .i64 a0.Scheme), v1], Ent.snap w0 w0.heap.size] w) (fun s_j4 => M.impl_penalizedSeries_j4 s_l2 s_j4 = some t584) ?_ ?_
          · refine CW.seq ?_
            refine CW.regionL ?_
            obtain ⟨x1301, ha1302, hm⟩ := bndE hm
            obtain ⟨hz1303, ha1307⟩ := idxE ha1302
            obtain ⟨b1304, q1305, hix1306⟩ := rdL_ix (hL.rdS 4 rfl h4) hz1303 ha1307
            refine OW.cons (OP.val (v := (.pointer (some ⟨b1304, q1305, none⟩))) rfl (x_ix Try.underlying33 Try_T48 f1117 f1119 hix1306) ?_)
            refine OW.cons (OP.val (v := (.agg #[(.int .i64 x1301.Race), (.int .i64 x1301.Boat), (.int .i64 x1301.Kind), (.int .i64 x1301.Value)])) rfl (x_loadN (cs := [(.int .i64 x1301.Race), (.int .i64 x1301.Boat), (.int .i64 x1301.Kind), (.int .i64 x1301.Value)]) Try.underlying48 Try_T48 rfl rfl (rdF_cells (hL.rdS 4 rfl h4) hix1306 ha1307)) ?_)
            refine OW.cons (S_alloc (cs := #[(.int .i64 0), (.int .i64 0), (.int .i64 0), (.int .i64 0)]) hL Try_T48 rfl rfl ?_)
            intro wd1308 b1309 hL
            refine OW.cons (S_storeN (l := [(.int .i64 x1301.Race), (.int .i64 x1301.Boat), (.int .i64 x1301.Kind), (.int .i64 x1301.Value)]) (cs' := #[(.int .i64 x1301.Race), (.int .i64 x1301.Boat), (.int .i64 x1301.Kind), (.int .i64 x1301.Value)]) hL 0 rfl Try_T48 rfl rfl (List.forall_mem_cons.2 ⟨rfl, (List.forall_mem_cons.2 ⟨rfl, (List.forall_mem_cons.2 ⟨rfl, (List.forall_mem_cons.2 ⟨rfl, (fun _ h => by cases h)⟩)⟩)⟩)⟩) rfl (Nat.le_of_ble_eq_true rfl) rfl ?_)
            intro wd1310 hL
            refine OW.nil ?_
            refine CW.seq ?_
            obtain ⟨wz1311, hL, ho1312⟩ := hL.freeze 1 rfl
            simp only [List.set_cons_zero, List.set_cons_succ] at hL
            refine CW.draw Try_mixed ?_
            have hL := hL.call (Mod.drew _)
            refine DW.pre (fuel := 0) (fin := ((((((((((((Array.replicate 11 false).setIfInBounds 0 true).setIfInBounds 1 true).setIfInBounds 2 true).setIfInBounds 3 true).setIfInBounds 4 true).setIfInBounds 5 true).setIfInBounds 6 true).setIfInBounds 7 true).setIfInBounds 8 true).setIfInBounds 9 true).setIfInBounds 10 true)) (C := fun w' => Mod None_ _ w') [0, 1, 2, 3, 4, 5, 6, 7, 8, 9, 10] (Mod.refl _ _) (by kernel_rfl) (by kernel_rfl) ?_
            refine QW.cons rfl (QP.val (v := (.pointer (some ⟨b10, 2, none⟩))) rfl (fun w' hm' => x_fieldAddr (fsz := 1) 0 2 2 Try.underlying31 rfl Try_T29 rfl f1116 rfl) ?_)
            refine QW.cons rfl (QP.val (v := v104) rfl (fun w' hm' => x_load1 Try.underlying29 rfl rfl ((hL.call hm').cellB 2 rfl rfl)) ?_)
            refine QW.cons rfl (QP.val (v := (.pointer (some ⟨b1309, 0, none⟩))) rfl (fun w' hm' => x_fieldAddr (fsz := 1) 0 0 0 Try.underlying48 rfl Try_T2 rfl rfl rfl) ?_)
            refine QW.cons rfl (QP.val (v := (.int .i64 x1301.Race)) rfl (fun w' hm' => x_load1 Try.underlying2 rfl rfl ((hL.call hm').cellB 0 rfl rfl)) ?_)
            obtain ⟨x1313, ha1314, hm⟩ := bndE hm
            obtain ⟨hz1315, ha1323⟩ := idxE ha1314
            obtain ⟨b1316, q1317, v1318, hix1319, hs1320, hc1321, hr1322⟩ := rdN_at ho1312.1.rdL hz1315 ha1323
            refine QW.cons rfl (QP.val (v := (.pointer (some ⟨b1316, q1317, none⟩))) rfl (fun w' hm' => x_ix Try.underlying29 Try_T46 rfl rfl hix1319) ?_)
            refine QW.cons rfl (QP.val (v := (.pointer (some ⟨b1316, q1317, none⟩))) rfl (fun w' hm' => x_fieldAddr (fsz := 1) q1317 0 q1317 Try.underlying46 rfl Try_T44 rfl rfl rfl) ?_)
            refine QW.cons rfl (QP.val (v := v1318) rfl (fun w' hm' => x_load1 Try.underlying44 rfl rfl ((hL.call hm').cellF 1 rfl hs1320 hc1321)) ?_)
            refine QW.cons rfl (QP.val (v := (.pointer (some ⟨b1309, 1, none⟩))) rfl (fun w' hm' => x_fieldAddr (fsz := 1) 0 1 1 Try.underlying48 rfl Try_T2 rfl rfl rfl) ?_)
            refine QW.cons rfl (QP.val (v := (.int .i64 x1301.Boat)) rfl (fun w' hm' => x_load1 Try.underlying2 rfl rfl ((hL.call hm').cellB 0 rfl rfl)) ?_)
            obtain ⟨x1324, ha1325, hm⟩ := bndE hm
            obtain ⟨hz1326, ha1330⟩ := idxE ha1325
            obtain ⟨b1327, q1328, hix1329⟩ := rdL_ix (hL.rdF 1 rfl hr1322) hz1326 ha1330
            refine QW.cons rfl (QP.val (v := (.pointer (some ⟨b1327, q1328, none⟩))) rfl (fun w' hm' => x_ix Try.underlying44 Try_T50 rfl rfl hix1329) ?_)
            refine QW.cons rfl (QP.val (v := (.pointer (some ⟨b1327, q1328, none⟩))) rfl (fun w' hm' => x_assign) ?_)
            refine QW.nil ?_
            intro wd1331 hmod
            have hL := hL.call hmod
            refine DW.done (by kernel_rfl) ?_
            refine CW.seqJ (fun (s_j5 : Bool) (F : Fr) (w : World) => F 1 = v3 ∧ F 4 = (.pointer (some ⟨b8, 0, none⟩)) ∧ F 5 = (.pointer (some ⟨b10, 0, none⟩)) ∧ F 9 = (.pointer (some ⟨b1309, 0, none⟩)) ∧ F 10 = (.pointer (some ⟨b1327, q1328, none⟩)) ∧ F 36 = v3 ∧ F 37 = (.int .i64 (a1.length : Int)) ∧ F 38 = (.int .i64 s_l2.2) ∧ F 61 = (.bool s_j5) ∧ Hp w0 [Ent.blk b1309 48 #[(.int .i64 x1301.Race), (.int .i64 x1301.Boat), (.int .i64 x1301.Kind), (.int .i64 x1301.Value)], Ent.frzS wz1311 S583, Ent.blk b10 31 #[(.int .i64 a0.Boats), (.int .i64 a0.Scheme), v104], Ent.blk b8 31 #[(.int .i64 0), (.int .i64 0), (.slice none 0 0)], Ent.blk b6 31 #[(.int .i64 a0.Boats), (.int .i64 a0.Scheme), v1], Ent.snap w0 w0.heap.size] w) (fun s_j5 => M.impl_penalizedSeries_j5 s_l2 x1301 x1313 x1324 s_j5 = some t584) ?_ ?_
            · refine CW.regionL ?_
              refine OW.cons (OP.val (v := (.pointer (some ⟨b1309, 2, none⟩))) rfl (x_fieldAddr (fsz := 1) 0 2 2 Try.underlying48 rfl Try_T2 rfl rfl rfl) ?_)
              refine OW.cons (OP.val (v := (.int .i64 x1301.Kind)) rfl (x_load1 Try.underlying2 rfl rfl (hL.cellB 0 rfl rfl)) ?_)
              refine OW.cons (OP.val (v := (.bool (x1301.Kind == 2))) rfl (x_eql rfl rfl) ?_)
              refine OW.cons (OP.val (v := (.bool (x1301.Kind == 2))) rfl (x_move) ?_)
              refine ifB_elim hm (fun hb1351 hm => ?_) (fun hb1351 hm => ?_)
              · refine OW.cons (OP.yes' rfl rfl hb1351 (OP.val (v := (.pointer (some ⟨b1327, q1328, none⟩))) rfl (x_move) ?_))
                refine OW.cons (OP.yes' rfl rfl hb1351 (OP.val (v := (.pointer (some ⟨b1327, q1328, none⟩))) rfl (x_nilCheck rfl) ?_))
                refine OW.cons (OP.yes' rfl rfl hb1351 (OP.val (v := (.pointer (some ⟨b1327, q1328 + 1, none⟩))) rfl (x_fieldAddr (fsz := 1) q1328 1 (q1328 + 1) Try.underlying50 rfl Try_T2 rfl rfl rfl) ?_))
                refine OW.cons (OP.yes' rfl rfl hb1351 (OP.val (v := (.int .i64 x1324.Code)) rfl (x_load1 Try.underlying2 rfl rfl (rdF_cells (hL.rdF 1 rfl hr1322) hix1329 ha1330 1 _ rfl)) ?_))
                refine OW.cons (OP.yes' rfl rfl hb1351 (OP.val (v := (.bool (x1324.Code == 0))) rfl (x_eql rfl rfl) ?_))
                refine OW.cons (OP.val (v := (.bool (x1324.Code == 0))) rfl (x_pickT' rfl hb1351 rfl) ?_)
                refine OW.nil ?_
                exact ⟨x1324.Code == 0, hm, ⟨f1114, f1115, f1116, rfl, rfl, f1117, f1118, f1119, rfl, hL⟩⟩
              · refine OW.cons (OP.no' rfl rfl hb1351 rfl ?_)
                refine OW.cons (OP.no' rfl rfl hb1351 rfl ?_)
                refine OW.cons (OP.no' rfl rfl hb1351 rfl ?_)
                refine OW.cons (OP.no' rfl rfl hb1351 rfl ?_)
                refine OW.cons (OP.no' rfl rfl hb1351 rfl ?_)
                refine OW.cons (OP.val (v := (.bool false)) rfl (x_pickF' rfl hb1351 rfl) ?_)
                refine OW.nil ?_
                exact ⟨false, hm, ⟨f1114, f1115, f1116, rfl, rfl, f1117, f1118, f1119, rfl, hL⟩⟩
            · intro s_j5 F1333 wd1334 hJ hm
              unfold M.impl_penalizedSeries_j5 at hm
              obtain ⟨f1335, f1336, f1337, f1338, f1339, f1340, f1341, f1342, f1343, hL⟩ := hJ
              refine CW.condM (t := s_j5) f1343 hm (fun hb1344 hm => ?_) (fun hb1344 hm => ?_)
              · refine CW.drawH (fun w' => Hp w0 [Ent.blk b1309 48 #[(.int .i64 x1301.Race), (.int .i64 x1301.Boat), (.int .i64 x1301.Kind), (.int .i64 x1301.Value)], Ent.blk b10 31 #[(.int .i64 a0.Boats), (.int .i64 a0.Scheme), v104], Ent.blk b8 31 #[(.int .i64 0), (.int .i64 0), (.slice none 0 0)], Ent.blk b6 31 #[(.int .i64 a0.Boats), (.int .i64 a0.Scheme), v1], Ent.snap w0 w0.heap.size] w') Try_mixed ?_
                have hL := hL.call (Mod.drew _)
                have hS := (hL.sel [0, 2, 3, 4, 5] (by decide) rfl)
                refine DH.take 0 rfl (by kernel_rfl) (by kernel_rfl) (by kernel_rfl) rfl rfl hS (YH.val (v := (.pointer (some ⟨b1327, q1328, none⟩))) (fun w' hS' => x_mv f1339)) ?_
                have hS := (hL.sel [0, 2, 3, 4, 5] (by decide) rfl)
                refine DH.take 1 rfl (by kernel_rfl) (by kernel_rfl) (by kernel_rfl) rfl rfl hS (YH.val (v := (.pointer (some ⟨b1327, q1328, none⟩))) (fun w' hS' => x_mv f1339)) ?_
                have hS := (hL.sel [0, 2, 3, 4, 5] (by decide) rfl)
                refine DH.take 2 rfl (by kernel_rfl) (by kernel_rfl) (by kernel_rfl) rfl rfl hS (YH.val (v := (.pointer (some ⟨b1327, q1328, none⟩))) (fun w' hS' => x_nilCheck rfl)) ?_
                have hS := (hL.sel [0, 2, 3, 4, 5] (by decide) rfl)
                refine DH.take 3 rfl (by kernel_rfl) (by kernel_rfl) (by kernel_rfl) rfl rfl hS (YH.val (v := (.pointer (some ⟨b1327, q1328 + 2, none⟩))) (fun w' hS' => x_fieldAddr (fsz := 1) q1328 2 (q1328 + 2) Try.underlying50 rfl Try_T2 rfl rfl rfl)) ?_
                have hS := (hL.sel [0, 2, 3, 4, 5] (by decide) rfl)
                refine DH.take 5 rfl (by kernel_rfl) (by kernel_rfl) (by kernel_rfl) rfl rfl hS (YH.val (v := (.pointer (some ⟨b1309, 3, none⟩))) (fun w' hS' => x_fieldAddr (fsz := 1) 0 3 3 Try.underlying48 rfl Try_T2 rfl f1338 rfl)) ?_
                have hS := (hL.sel [0, 2, 3, 4, 5] (by decide) rfl)
                refine DH.take 6 rfl (by kernel_rfl) (by kernel_rfl) (by kernel_rfl) rfl rfl hS (YH.val (v := (.int .i64 x1301.Value)) (fun w' hS' => x_load1 Try.underlying2 rfl rfl (hS'.cellB 0 rfl rfl))) ?_
                refine DH.only 4 rfl (by kernel_rfl) (OP.val (v := (.int .i64 x1324.Time)) rfl (x_load1 Try.underlying2 rfl rfl (rdF_cells (hL.rdF 1 rfl hr1322) hix1329 ha1330 2 _ rfl)) ?_)
                refine ⟨(hL.sel [0, 2, 3, 4, 5] (by decide) rfl), ?_⟩
                have hS := (hL.sel [0, 2, 3, 4, 5] (by decide) rfl)
                refine DH.take 7 rfl (by kernel_rfl) (by kernel_rfl) (by kernel_rfl) rfl rfl hS (YH.val (v := (.int .i64 (w64 (x1324.Time + x1301.Value)))) (fun w' hS' => x_add rfl rfl)) ?_
                have hS := (hL.sel [0, 2, 3, 4, 5] (by decide) rfl)
                refine DH.take 8 rfl (by kernel_rfl) (by kernel_rfl) (by kernel_rfl) rfl rfl hS (YH.val (v := (.int .i64 (min 1000000000 (w64 (x1324.Time + x1301.Value))))) (fun w' hS' => x_min2 rfl rfl)) ?_
                have hS := (hL.sel [0, 2, 3, 4, 5] (by decide) rfl)
                refine DH.take 9 rfl (by kernel_rfl) (by kernel_rfl) (by kernel_rfl) rfl rfl hS (YH.val (v := (.pointer (some ⟨b1327, q1328, none⟩))) (fun w' hS' => x_nilCheck rfl)) ?_
                have hS := (hL.sel [0, 2, 3, 4, 5] (by decide) rfl)
                refine DH.take 10 rfl (by kernel_rfl) (by kernel_rfl) (by kernel_rfl) rfl rfl hS (YH.val (v := (.pointer (some ⟨b1327, q1328 + 2, none⟩))) (fun w' hS' => x_fieldAddr (fsz := 1) q1328 2 (q1328 + 2) Try.underlying50 rfl Try_T2 rfl rfl rfl)) ?_
                have hc1349 := hL.cellF 1 rfl hs1320 hc1321
                have hL := hL.thaw 1 rfl ho1312
                simp only [List.set_cons_zero, List.set_cons_succ] at hL
                refine DH.only 11 rfl (by kernel_rfl) (S_inRow (α := Finish) (x1313.Finishes.set (x1301.Boat : Int).toNat (Finish.mk x1324.Boat x1324.Code (min 1000000000 (w64 (x1324.Time + x1301.Value))))) (Race.mk (x1313.Finishes.set (x1301.Boat : Int).toNat (Finish.mk x1324.Boat x1324.Code (min 1000000000 (w64 (x1324.Time + x1301.Value)))))) rfl hL 1 rfl hix1319 ha1323 hc1349 (fun E2 S1 hL hK => S_storeX (j := 2) (Finish.mk x1324.Boat x1324.Code (min 1000000000 (w64 (x1324.Time + x1301.Value)))) hL 0 rfl Try_T2 hix1329 ha1330 rfl rfl rfl rfl rfl rfl hK) ?_)
                intro wd1348 S1350 hL
                simp only [List.set_cons_zero, List.set_cons_succ] at hL
                refine ⟨(hL.sel [0, 2, 3, 4, 5] (by decide) rfl), ?_⟩
                refine DH.done (by kernel_rfl) ?_
                have hL := hL.sel [1, 2, 3, 4, 5] (by decide) rfl
                exact ⟨s_l2.1.set (x1301.Race : Int).toNat (Race.mk (x1313.Finishes.set (x1301.Boat : Int).toNat (Finish.mk x1324.Boat x1324.Code (min 1000000000 (w64 (x1324.Time + x1301.Value)))))), hm, ⟨S1350, f1335, f1336, f1337, f1340, f1341, f1342, hL⟩⟩
              · refine CW.skip ?_
                have hL := hL.thaw 1 rfl ho1312
                have hL := hL.sel [1, 2, 3, 4, 5] (by decide) rfl
                exact ⟨s_l2.1, hm, ⟨S583, f1335, f1336, f1337, f1340, f1341, f1342, hL⟩⟩
          · intro s_j4 F1293 wd1294 hJ hm
            unfold M.impl_penalizedSeries_j4 at hm
            obtain ⟨S1292, f1295, f1296, f1297, f1298, f1299, f1300, hL⟩ := hJ
            exact ⟨s_j4, hm, ⟨S1292, f1295, f1296, f1297, f1298, f1299, f1300, hL⟩⟩
        · intro s_j3 F1233 wd1234 hJ hm
          unfold M.impl_penalizedSeries_j3 at hm
          obtain ⟨S1232, f1235, f1236, f1237, f1238, f1239, f1240, hL⟩ := hJ
          refine CW.regionL ?_
          refine OW.cons (OP.val (v := (.int .i64 (w64 (s_l2.2 + 1)))) rfl (x_add f1240 rfl) ?_)
          refine OW.cons (OP.val (v := (.int .i64 (w64 (s_l2.2 + 1)))) rfl (x_move) ?_)
          refine OW.nil ?_
          obtain rfl := Option.some.inj hm
          exact ⟨_, rfl, ⟨S1232, f1235, f1236, f1237, f1238, f1239, rfl, hL⟩⟩
      · refine CW.exit ?_
        refine XJ.hit ?_
        obtain rfl := Option.some.inj hm
        exact ⟨_, rfl, ⟨S583, f1114, f1115, f1116, f1117, f1118, f1119, hL⟩⟩
  · intro s_l1 F1352 wd1353 t106 hJ hm hr107
    unfold M.impl_penalizedSeries_l1 at hm
    obtain ⟨v104, S105, f1354, f1355, f1356, f1357, f1358, f1359, hL⟩ := hJ
    refine CW.seq ?_
    refine CW.regionL ?_
    refine OW.cons (OP.val (v := (.bool (decide (s_l1.2 < (a0.Races.length : Int))))) rfl (x_lss f1359 f1358) ?_)
    refine OW.nil ?_
    refine CW.seq ?_
    refine CW.condM (t := decide (s_l1.2 < (a0.Races.length : Int))) rfl hm (fun hb1360 hm => ?_) (fun hb1360 hm => ?_)
    · refine CW.skip ?_
      refine CW.seq ?_
      refine CW.block ?_
      refine CW.seq ?_
      refine CW.regionL ?_
      obtain ⟨x1361, ha1362, hm⟩ := bndE hm
      obtain ⟨hz1363, ha1371⟩ := idxE ha1362
      obtain ⟨b1364, q1365, v1366, hix1367, hs1368, hc1369, hr1370⟩ := rdN_at h2 hz1363 ha1371
      refine OW.cons (OP.val (v := (.pointer (some ⟨b1364, q1365, none⟩))) rfl (x_ix Try.underlying29 Try_T46 f1357 f1359 hix1367) ?_)
      refine OW.cons (OP.val (v := (.agg #[v1366])) rfl (x_loadN (cs := [v1366]) Try.underlying46 Try_T46 rfl rfl (by intro j u hj; match j, hj with | 0, hj => (simp at hj; subst hj; exact (hL.cellS 4 rfl hs1368 hc1369)))) ?_)
      refine OW.cons (S_alloc (cs := #[(.slice none 0 0)]) hL Try_T46 rfl rfl ?_)
      intro wd1372 b1373 hL
      refine OW.cons (S_storeN (l := [v1366]) (cs' := #[v1366]) hL 0 rfl Try_T46 rfl rfl (List.forall_mem_cons.2 ⟨rdL_one (hL.rdS 5 rfl hr1370), (fun _ h => by cases h)⟩) rfl (Nat.le_of_ble_eq_true rfl) rfl ?_)
      intro wd1374 hL
      refine OW.nil ?_
      refine CW.drawH (fun w' => Hp w0 [Ent.blk b1373 46 #[v1366], Ent.blk b8 31 #[(.int .i64 0), (.int .i64 0), (.slice none 0 0)], Ent.blk b6 31 #[(.int .i64 a0.Boats), (.int .i64 a0.Scheme), v1], Ent.snap w0 w0.heap.size] w') Try_mixed ?_
      have hL := hL.call (Mod.drew _)
      have hS := (hL.sel [0, 3, 4, 5] (by decide) rfl)
      refine DH.take 0 rfl (by kernel_rfl) (by kernel_rfl) (by kernel_rfl) rfl rfl hS (YH.val (v := (.pointer (some ⟨b10, 2, none⟩))) (fun w' hS' => x_fieldAddr (fsz := 1) 0 2 2 Try.underlying31 rfl Try_T29 rfl f1356 rfl)) ?_
      have hS := (hL.sel [0, 3, 4, 5] (by decide) rfl)
      refine DH.take 3 rfl (by kernel_rfl) (by kernel_rfl) (by kernel_rfl) rfl rfl hS (YH.val (v := (.pointer (some ⟨b1373, 0, none⟩))) (fun w' hS' => x_fieldAddr (fsz := 1) 0 0 0 Try.underlying46 rfl Try_T44 rfl rfl rfl)) ?_
      have hS := (hL.sel [0, 3, 4, 5] (by decide) rfl)
      refine DH.take 4 rfl (by kernel_rfl) (by kernel_rfl) (by kernel_rfl) rfl rfl hS (YH.val (v := v1366) (fun w' hS' => x_load1 Try.underlying44 rfl rfl (hS'.cellB 0 rfl rfl))) ?_
      obtain ⟨hc1396, hm⟩ := chkE hm
      obtain ⟨hc1403, hm⟩ := chkE hm
      refine DH.node (listed' := #[true, true, true, true, true, true, true, true, true, true, true]) (fuel' := 0) (fun (F : Fr) (w : World) => ∃ (v1436 : Value) (S1437 : Nat → Prop), F 1 = v3 ∧ F 4 = (.pointer (some ⟨b8, 0, none⟩)) ∧ F 5 = (.pointer (some ⟨b10, 0, none⟩)) ∧ F 19 = v1 ∧ F 20 = (.int .i64 (a0.Races.length : Int)) ∧ F 21 = (.int .i64 s_l1.2) ∧ Hp w0 [Ent.own 46 S1437 v1436 (s_l1.1 ++ ([(Race.mk (([] : List Finish) ++ x1361.Finishes))] : List Race)), Ent.blk b1373 46 #[v1366], Ent.blk b10 31 #[(.int .i64 a0.Boats), (.int .i64 a0.Scheme), v1436], Ent.blk b8 31 #[(.int .i64 0), (.int .i64 0), (.slice none 0 0)], Ent.blk b6 31 #[(.int .i64 a0.Boats), (.int .i64 a0.Scheme), v1], Ent.snap w0 w0.heap.size] w) ?_ (fun hN1427 => ?_)
      · intro F1452 wd1453 hJ
        obtain ⟨v1436, S1437, f1454, f1455, f1456, f1457, f1458, f1459, hL⟩ := hJ
        refine DH.done (by kernel_rfl) ?_
        refine CW.regionL ?_
        refine OW.cons (OP.val (v := (.int .i64 (w64 (s_l1.2 + 1)))) rfl (x_add f1459 rfl) ?_)
        refine OW.cons (OP.val (v := (.int .i64 (w64 (s_l1.2 + 1)))) rfl (x_move) ?_)
        refine OW.nil ?_
        have hL := hL.sel [0, 2, 3, 4, 5] (by decide) rfl
        obtain rfl := Option.some.inj hm
        exact ⟨_, rfl, ⟨v1436, S1437, f1454, f1455, f1456, f1457, f1458, rfl, hL⟩⟩
      refine DH.node (listed' := #[true, true, true, true, true, true, true, true, true, true, false]) (fuel' := 1) (fun (F : Fr) (w : World) => ∃ (v1438 : Value) (S1439 : Nat → Prop), F 1 = v3 ∧ F 4 = (.pointer (some ⟨b8, 0, none⟩)) ∧ F 5 = (.pointer (some ⟨b10, 0, none⟩)) ∧ F 19 = v1 ∧ F 20 = (.int .i64 (a0.Races.length : Int)) ∧ F 21 = (.int .i64 s_l1.2) ∧ F 33 = v1438 ∧ F 34 = (.pointer (some ⟨b10, 2, none⟩)) ∧ Hp w0 [Ent.own 46 S1439 v1438 (s_l1.1 ++ ([(Race.mk (([] : List Finish) ++ x1361.Finishes))] : List Race)), Ent.blk b1373 46 #[v1366], Ent.blk b10 31 #[(.int .i64 a0.Boats), (.int .i64 a0.Scheme), v104], Ent.blk b8 31 #[(.int .i64 0), (.int .i64 0), (.slice none 0 0)], Ent.blk b6 31 #[(.int .i64 a0.Boats), (.int .i64 a0.Scheme), v1], Ent.snap w0 w0.heap.size] w) ?_ (fun hN1428 => ?_)
      · intro F1460 wd1461 hJ
        obtain ⟨v1438, S1439, f1462, f1463, f1464, f1465, f1466, f1467, f1468, f1469, hL⟩ := hJ
        refine DH.only 10 rfl (by kernel_rfl) (S_store (cs' := #[(.int .i64 a0.Boats), (.int .i64 a0.Scheme), v1438]) hL 2 rfl Try_T29 f1469 (rdL_one (hL.rdO 0 rfl)) f1468 rfl rfl ?_)
        intro wd1470 hL
        refine ⟨(hL.sel [1, 3, 4, 5] (by decide) rfl), ?_⟩
        exact DH.relist (listed' := #[true, true, true, true, true, true, true, true, true, true, true]) (by kernel_rfl) (hN1427 _ _ ⟨v1438, S1439, f1462, f1463, f1464, f1465, f1466, f1467, hL⟩)
      refine DH.node (listed' := #[true, true, true, true, true, true, true, true, false, false, false]) (fuel' := 3) (fun (F : Fr) (w : World) => ∃ (v1440 : Value) (S1441 : Nat → Prop), F 1 = v3 ∧ F 4 = (.pointer (some ⟨b8, 0, none⟩)) ∧ F 5 = (.pointer (some ⟨b10, 0, none⟩)) ∧ F 19 = v1 ∧ F 20 = (.int .i64 (a0.Races.length : Int)) ∧ F 21 = (.int .i64 s_l1.2) ∧ F 26 = v104 ∧ F 32 = v1440 ∧ Hp w0 [Ent.own 46 S1441 v1440 ([(Race.mk (([] : List Finish) ++ x1361.Finishes))] : List Race), Ent.blk b1373 46 #[v1366], Ent.own 46 S105 v104 s_l1.1, Ent.blk b10 31 #[(.int .i64 a0.Boats), (.int .i64 a0.Scheme), v104], Ent.blk b8 31 #[(.int .i64 0), (.int .i64 0), (.slice none 0 0)], Ent.blk b6 31 #[(.int .i64 a0.Boats), (.int .i64 a0.Scheme), v1], Ent.snap w0 w0.heap.size] w) ?_ (fun hN1429 => ?_)
      · intro F1471 wd1472 hJ
        obtain ⟨v1440, S1441, f1473, f1474, f1475, f1476, f1477, f1478, f1479, f1480, hL⟩ := hJ
        have hL := hL.sel [2, 0, 1, 3, 4, 5, 6] (by decide) rfl
        refine DH.only 8 rfl (by kernel_rfl) (S_appendN Finish hL Try.underlying29 Try_T46 rfl f1479 f1480 hc1403 (by decide) rfl ?_)
        intro wd1481 v1482 S1483 hL
        refine ⟨(hL.sel [1, 3, 4, 5] (by decide) rfl), ?_⟩
        have hS := (hL.sel [1, 3, 4, 5] (by decide) rfl)
        refine DH.take 9 rfl (by kernel_rfl) (by kernel_rfl) (by kernel_rfl) rfl rfl hS (YH.val (v := (.pointer (some ⟨b10, 2, none⟩))) (fun w' hS' => x_fieldAddr (fsz := 1) 0 2 2 Try.underlying31 rfl Try_T29 rfl f1475 rfl)) ?_
        exact DH.relist (listed' := #[true, true, true, true, true, true, true, true, true, true, false]) (by kernel_rfl) (hN1428 _ _ ⟨v1482, S1483, f1473, f1474, f1475, f1476, f1477, f1478, rfl, rfl, hL⟩)
      refine DH.node (listed' := #[true, true, true, true, true, true, true, false, false, false, false]) (fuel' := 4) (fun (F : Fr) (w : World) => ∃ (v1442 : Value) (S1443 : Nat → Prop), F 1 = v3 ∧ F 4 = (.pointer (some ⟨b8, 0, none⟩)) ∧ F 5 = (.pointer (some ⟨b10, 0, none⟩)) ∧ F 19 = v1 ∧ F 20 = (.int .i64 (a0.Races.length : Int)) ∧ F 21 = (.int .i64 s_l1.2) ∧ F 26 = v104 ∧ F 31 = (.agg #[v1442]) ∧ Hp w0 [Ent.own 50 S1443 v1442 (([] : List Finish) ++ x1361.Finishes), Ent.blk b1373 46 #[v1366], Ent.own 46 S105 v104 s_l1.1, Ent.blk b10 31 #[(.int .i64 a0.Boats), (.int .i64 a0.Scheme), v104], Ent.blk b8 31 #[(.int .i64 0), (.int .i64 0), (.slice none 0 0)], Ent.blk b6 31 #[(.int .i64 a0.Boats), (.int .i64 a0.Scheme), v1], Ent.snap w0 w0.heap.size] w) ?_ (fun hN1430 => ?_)
      · intro F1484 wd1485 hJ
        obtain ⟨v1442, S1443, f1486, f1487, f1488, f1489, f1490, f1491, f1492, f1493, hL⟩ := hJ
        refine DH.only 7 rfl (by kernel_rfl) (S_lit1 (Race.mk (([] : List Finish) ++ x1361.Finishes)) rfl hL Try.underlying29 Try_T46 ((congrArg Value.cells f1493).trans rfl) rfl ?_)
        intro wd1494 v1495 S1496 hL
        refine ⟨(hL.sel [1, 4, 5, 6] (by decide) rfl), ?_⟩
        exact DH.relist (listed' := #[true, true, true, true, true, true, true, true, false, false, false]) (by kernel_rfl) (hN1429 _ _ ⟨v1495, S1496, f1486, f1487, f1488, f1489, f1490, f1491, f1492, rfl, hL⟩)
      refine DH.node (listed' := #[true, false, true, true, true, true, true, true, false, false, false]) (fuel' := 4) (fun (F : Fr) (w : World) => ∃ (v1444 : Value) (S1445 : Nat → Prop), F 1 = v3 ∧ F 4 = (.pointer (some ⟨b8, 0, none⟩)) ∧ F 5 = (.pointer (some ⟨b10, 0, none⟩)) ∧ F 19 = v1 ∧ F 20 = (.int .i64 (a0.Races.length : Int)) ∧ F 21 = (.int .i64 s_l1.2) ∧ F 25 = (.pointer (some ⟨b10, 2, none⟩)) ∧ F 32 = v1444 ∧ Hp w0 [Ent.own 46 S1445 v1444 ([(Race.mk (([] : List Finish) ++ x1361.Finishes))] : List Race), Ent.blk b1373 46 #[v1366], Ent.own 46 S105 v104 s_l1.1, Ent.blk b10 31 #[(.int .i64 a0.Boats), (.int .i64 a0.Scheme), v104], Ent.blk b8 31 #[(.int .i64 0), (.int .i64 0), (.slice none 0 0)], Ent.blk b6 31 #[(.int .i64 a0.Boats), (.int .i64 a0.Scheme), v1], Ent.snap w0 w0.heap.size] w) ?_ (fun hN1431 => ?_)
      · intro F1497 wd1498 hJ
        obtain ⟨v1444, S1445, f1499, f1500, f1501, f1502, f1503, f1504, f1505, f1506, hL⟩ := hJ
        refine DH.only 1 rfl (by kernel_rfl) (OP.val (v := v104) rfl (x_load1 Try.underlying29 rfl f1505 (hL.cellB 3 rfl rfl)) ?_)
        refine ⟨(hL.sel [1, 4, 5, 6] (by decide) rfl), ?_⟩
        exact DH.relist (listed' := #[true, true, true, true, true, true, true, true, false, false, false]) (by kernel_rfl) (hN1429 _ _ ⟨v1444, S1445, f1499, f1500, f1501, f1502, f1503, f1504, rfl, f1506, hL⟩)
      refine DH.node (listed' := #[true, false, true, true, true, true, true, false, false, false, false]) (fuel' := 5) (fun (F : Fr) (w : World) => ∃ (v1446 : Value) (S1447 : Nat → Prop), F 1 = v3 ∧ F 4 = (.pointer (some ⟨b8, 0, none⟩)) ∧ F 5 = (.pointer (some ⟨b10, 0, none⟩)) ∧ F 19 = v1 ∧ F 20 = (.int .i64 (a0.Races.length : Int)) ∧ F 21 = (.int .i64 s_l1.2) ∧ F 25 = (.pointer (some ⟨b10, 2, none⟩)) ∧ F 31 = (.agg #[v1446]) ∧ Hp w0 [Ent.own 50 S1447 v1446 (([] : List Finish) ++ x1361.Finishes), Ent.blk b1373 46 #[v1366], Ent.own 46 S105 v104 s_l1.1, Ent.blk b10 31 #[(.int .i64 a0.Boats), (.int .i64 a0.Scheme), v104], Ent.blk b8 31 #[(.int .i64 0), (.int .i64 0), (.slice none 0 0)], Ent.blk b6 31 #[(.int .i64 a0.Boats), (.int .i64 a0.Scheme), v1], Ent.snap w0 w0.heap.size] w) ?_ (fun hN1432 => ?_)
      · intro F1507 wd1508 hJ
        obtain ⟨v1446, S1447, f1509, f1510, f1511, f1512, f1513, f1514, f1515, f1516, hL⟩ := hJ
        refine DH.all (rs := [1, 7]) (by kernel_rfl) (by simp) ?_
        intro i1517 hi1518
        simp only [List.mem_cons, List.not_mem_nil, or_false] at hi1518
        rcases hi1518 with rfl | rfl
        · refine ⟨_, rfl, ?_⟩
          refine OP.val (v := v104) rfl (x_load1 Try.underlying29 rfl f1515 (hL.cellB 3 rfl rfl)) ?_
          refine ⟨(hL.sel [1, 4, 5, 6] (by decide) rfl), ?_⟩
          exact DH.relist (listed' := #[true, true, true, true, true, true, true, false, false, false, false]) (by kernel_rfl) (hN1430 _ _ ⟨v1446, S1447, f1509, f1510, f1511, f1512, f1513, f1514, rfl, f1516, hL⟩)
        · refine ⟨_, rfl, ?_⟩
          refine S_lit1 (Race.mk (([] : List Finish) ++ x1361.Finishes)) rfl hL Try.underlying29 Try_T46 ((congrArg Value.cells f1516).trans rfl) rfl ?_
          intro wd1519 v1520 S1521 hL
          refine ⟨(hL.sel [1, 4, 5, 6] (by decide) rfl), ?_⟩
          exact DH.relist (listed' := #[true, false, true, true, true, true, true, true, false, false, false]) (by kernel_rfl) (hN1431 _ _ ⟨v1520, S1521, f1509, f1510, f1511, f1512, f1513, f1514, f1515, rfl, hL⟩)
      refine DH.node (listed' := #[true, true, true, true, true, false, false, false, false, false, false]) (fuel' := 6) (fun (F : Fr) (w : World) => ∃ (v1448 : Value) (S1449 : Nat → Prop), F 1 = v3 ∧ F 4 = (.pointer (some ⟨b8, 0, none⟩)) ∧ F 5 = (.pointer (some ⟨b10, 0, none⟩)) ∧ F 19 = v1 ∧ F 20 = (.int .i64 (a0.Races.length : Int)) ∧ F 21 = (.int .i64 s_l1.2) ∧ F 26 = v104 ∧ F 27 = v1448 ∧ F 29 = v1366 ∧ Hp w0 [Ent.own 50 S1449 v1448 ([] : List Finish), Ent.blk b1373 46 #[v1366], Ent.own 46 S105 v104 s_l1.1, Ent.blk b10 31 #[(.int .i64 a0.Boats), (.int .i64 a0.Scheme), v104], Ent.blk b8 31 #[(.int .i64 0), (.int .i64 0), (.slice none 0 0)], Ent.blk b6 31 #[(.int .i64 a0.Boats), (.int .i64 a0.Scheme), v1], Ent.snap w0 w0.heap.size] w) ?_ (fun hN1433 => ?_)
      · intro F1522 wd1523 hJ
        obtain ⟨v1448, S1449, f1524, f1525, f1526, f1527, f1528, f1529, f1530, f1531, f1532, hL⟩ := hJ
        refine DH.only 5 rfl (by kernel_rfl) (S_append (ys := x1361.Finishes) hL 0 rfl Try.underlying44 Try_T50 rfl f1531 f1532 (hL.rdS 6 rfl hr1370) hc1396 (by decide) rfl ?_)
        intro wd1533 v1534 S1535 hL
        refine ⟨(hL.sel [1, 4, 5, 6] (by decide) rfl), ?_⟩
        have hS := (hL.sel [1, 4, 5, 6] (by decide) rfl)
        refine DH.take 6 rfl (by kernel_rfl) (by kernel_rfl) (by kernel_rfl) rfl rfl hS (YH.val (v := (.agg #[v1534])) (fun w' hS' => x_build Try_B46 (ps := [(0, v1534)]) ⟨⟨rfl, rfl⟩, trivial⟩ (by simp [Instr.fill, cells_int, cells_bool, cells_string, cells_agg, cells_slice, cells_pointer, (rdL_cells (hL.rdO 0 rfl))]))) ?_
        exact DH.relist (listed' := #[true, true, true, true, true, true, true, false, false, false, false]) (by kernel_rfl) (hN1430 _ _ ⟨v1534, S1535, f1524, f1525, f1526, f1527, f1528, f1529, f1530, rfl, hL⟩)
      refine DH.node (listed' := #[true, true, false, true, true, false, false, false, false, false, false]) (fuel' := 7) (fun (F : Fr) (w : World) => F 1 = v3 ∧ F 4 = (.pointer (some ⟨b8, 0, none⟩)) ∧ F 5 = (.pointer (some ⟨b10, 0, none⟩)) ∧ F 19 = v1 ∧ F 20 = (.int .i64 (a0.Races.length : Int)) ∧ F 21 = (.int .i64 s_l1.2) ∧ F 26 = v104 ∧ F 29 = v1366 ∧ Hp w0 [Ent.blk b1373 46 #[v1366], Ent.own 46 S105 v104 s_l1.1, Ent.blk b10 31 #[(.int .i64 a0.Boats), (.int .i64 a0.Scheme), v104], Ent.blk b8 31 #[(.int .i64 0), (.int .i64 0), (.slice none 0 0)], Ent.blk b6 31 #[(.int .i64 a0.Boats), (.int .i64 a0.Scheme), v1], Ent.snap w0 w0.heap.size] w) ?_ (fun hN1434 => ?_)
      · intro F1536 wd1537 hJ
        obtain ⟨f1538, f1539, f1540, f1541, f1542, f1543, f1544, f1545, hL⟩ := hJ
        refine DH.only 2 rfl (by kernel_rfl) (S_lit ([] : List Finish) hL Try.underlying44 Try_T50 rfl (by decide) (by first | (simp [Instr.fill, madeCells, Value.cells, ev, upd, Flat.enc, Flat.sz]; done) | rfl | kernel_rfl) rfl rfl ?_)
        intro wd1546 v1547 S1548 hL
        refine ⟨(hL.sel [1, 4, 5, 6] (by decide) rfl), ?_⟩
        exact DH.relist (listed' := #[true, true, true, true, true, false, false, false, false, false, false]) (by kernel_rfl) (hN1433 _ _ ⟨v1547, S1548, f1538, f1539, f1540, f1541, f1542, f1543, f1544, rfl, f1545, hL⟩)
      refine DH.node (listed' := #[true, false, true, true, true, false, false, false, false, false, false]) (fuel' := 7) (fun (F : Fr) (w : World) => ∃ (v1450 : Value) (S1451 : Nat → Prop), F 1 = v3 ∧ F 4 = (.pointer (some ⟨b8, 0, none⟩)) ∧ F 5 = (.pointer (some ⟨b10, 0, none⟩)) ∧ F 19 = v1 ∧ F 20 = (.int .i64 (a0.Races.length : Int)) ∧ F 21 = (.int .i64 s_l1.2) ∧ F 25 = (.pointer (some ⟨b10, 2, none⟩)) ∧ F 27 = v1450 ∧ F 29 = v1366 ∧ Hp w0 [Ent.own 50 S1451 v1450 ([] : List Finish), Ent.blk b1373 46 #[v1366], Ent.own 46 S105 v104 s_l1.1, Ent.blk b10 31 #[(.int .i64 a0.Boats), (.int .i64 a0.Scheme), v104], Ent.blk b8 31 #[(.int .i64 0), (.int .i64 0), (.slice none 0 0)], Ent.blk b6 31 #[(.int .i64 a0.Boats), (.int .i64 a0.Scheme), v1], Ent.snap w0 w0.heap.size] w) ?_ (fun hN1435 => ?_)
      · intro F1549 wd1550 hJ
        obtain ⟨v1450, S1451, f1551, f1552, f1553, f1554, f1555, f1556, f1557, f1558, f1559, hL⟩ := hJ
        refine DH.all (rs := [1, 5]) (by kernel_rfl) (by simp) ?_
        intro i1560 hi1561
        simp only [List.mem_cons, List.not_mem_nil, or_false] at hi1561
        rcases hi1561 with rfl | rfl
        · refine ⟨_, rfl, ?_⟩
          refine OP.val (v := v104) rfl (x_load1 Try.underlying29 rfl f1557 (hL.cellB 3 rfl rfl)) ?_
          refine ⟨(hL.sel [1, 4, 5, 6] (by decide) rfl), ?_⟩
          exact DH.relist (listed' := #[true, true, true, true, true, false, false, false, false, false, false]) (by kernel_rfl) (hN1433 _ _ ⟨v1450, S1451, f1551, f1552, f1553, f1554, f1555, f1556, rfl, f1558, f1559, hL⟩)
        · refine ⟨_, rfl, ?_⟩
          refine S_append (ys := x1361.Finishes) hL 0 rfl Try.underlying44 Try_T50 rfl f1558 f1559 (hL.rdS 6 rfl hr1370) hc1396 (by decide) rfl ?_
          intro wd1562 v1563 S1564 hL
          refine ⟨(hL.sel [1, 4, 5, 6] (by decide) rfl), ?_⟩
          have hS := (hL.sel [1, 4, 5, 6] (by decide) rfl)
          refine DH.take 6 rfl (by kernel_rfl) (by kernel_rfl) (by kernel_rfl) rfl rfl hS (YH.val (v := (.agg #[v1563])) (fun w' hS' => x_build Try_B46 (ps := [(0, v1563)]) ⟨⟨rfl, rfl⟩, trivial⟩ (by simp [Instr.fill, cells_int, cells_bool, cells_string, cells_agg, cells_slice, cells_pointer, (rdL_cells (hL.rdO 0 rfl))]))) ?_
          exact DH.relist (listed' := #[true, false, true, true, true, true, true, false, false, false, false]) (by kernel_rfl) (hN1432 _ _ ⟨v1563, S1564, f1551, f1552, f1553, f1554, f1555, f1556, f1557, rfl, hL⟩)
      refine DH.all (rs := [1, 2]) (by kernel_rfl) (by simp) ?_
      intro i1565 hi1566
      simp only [List.mem_cons, List.not_mem_nil, or_false] at hi1566
      rcases hi1566 with rfl | rfl
      · refine ⟨_, rfl, ?_⟩
        refine OP.val (v := v104) rfl (x_load1 Try.underlying29 rfl rfl (hL.cellB 2 rfl rfl)) ?_
        refine ⟨(hL.sel [0, 3, 4, 5] (by decide) rfl), ?_⟩
        exact DH.relist (listed' := #[true, true, false, true, true, false, false, false, false, false, false]) (by kernel_rfl) (hN1434 _ _ ⟨f1354, f1355, f1356, f1357, f1358, f1359, rfl, rfl, hL⟩)
      · refine ⟨_, rfl, ?_⟩
        refine S_lit ([] : List Finish) hL Try.underlying44 Try_T50 rfl (by decide) (by first | (simp [Instr.fill, madeCells, Value.cells, ev, upd, Flat.enc, Flat.sz]; done) | rfl | kernel_rfl) rfl rfl ?_
        intro wd1567 v1568 S1569 hL
        refine ⟨(hL.sel [1, 4, 5, 6] (by decide) rfl), ?_⟩
        exact DH.relist (listed' := #[true, false, true, true, true, false, false, false, false, false, false]) (by kernel_rfl) (hN1435 _ _ ⟨v1568, S1569, f1354, f1355, f1356, f1357, f1358, f1359, rfl, rfl, rfl, hL⟩)
    · refine CW.exit ?_
      refine XJ.hit ?_
      obtain rfl := Option.some.inj hm
      exact ⟨_, rfl, ⟨v104, S105, f1354, f1355, f1356, f1357, f1358, f1359, hL⟩⟩

theorem M.impl_PenalizedSeries_ok (w0 : World) (a0 : Series) {v1 : Value} (h2 : rdL (· < w0.heap.size) w0 v1 a0.Races) (a1 : List Penalty) {v3 : Value} (h4 : rdL (· < w0.heap.size) w0 v3 a1) {r : Series × Int} (hm : M.impl_PenalizedSeries a0 a1 = some r) :
    Calls Try.prog 18 #[(.agg #[(.int .i64 a0.Boats), (.int .i64 a0.Scheme), v1]), v3] w0 fun e w' => ∃ (rv0 : Value) (rS0 : Nat → Prop), e = .returned (.tuple #[(.agg #[(.int .i64 r.1.Boats), (.int .i64 r.1.Scheme), rv0]), (.int .i64 r.2)]) ∧ Fresh w0 w' [Ent.own 46 rS0 rv0 r.1.Races] := by
  unfold M.impl_PenalizedSeries at hm
  refine calls_CW (args := [(.agg #[(.int .i64 a0.Boats), (.int .i64 a0.Scheme), v1]), v3]) Try.func18 rfl rfl rfl ?_
  have hL := Hp.start w0
  refine CW.seq ?_
  refine CW.regionL ?_
  refine OW.cons (S_box (cs := #[(.int .i64 a0.Boats), (.int .i64 a0.Scheme), v1]) hL rfl rfl rfl ?_)
  intro wd5 b6 hL
  refine OW.cons (S_alloc (cs := #[(.int .i64 0), (.int .i64 0), (.slice none 0 0)]) hL Try_T31 rfl rfl ?_)
  intro wd7 b8 hL
  refine OW.cons (OP.val (v := (.int .i64 0)) rfl (x_assign) ?_)
  refine OW.nil ?_
  refine CW.seq ?_
  refine CW.seq ?_
  refine CW.regionL ?_
  refine OW.cons (OP.val (v := (.agg #[(.int .i64 a0.Boats), (.int .i64 a0.Scheme), v1])) rfl (x_loadN (cs := [(.int .i64 a0.Boats), (.int .i64 a0.Scheme), v1]) Try.underlying31 Try_T31 rfl rfl (hL.cellsB 1 rfl (o := 0) (l := [(.int .i64 a0.Boats), (.int .i64 a0.Scheme), v1]) (by intro j u hj; exact (by simpa using hj)))) ?_)
  refine OW.cons (OP.val (v := v3) rfl (x_move) ?_)
  obtain ⟨x9, hx10, hm⟩ := bndE hm
  refine OW.cons (OP.call rfl (x_call (vs := [(.agg #[(.int .i64 a0.Boats), (.int .i64 a0.Scheme), v1]), v3]) Try_C43 ⟨rfl, rfl, trivial⟩) (M.impl_penaltyCode_ok _ a0 (hL.rdS 2 rfl h2) a1 (hL.rdS 2 rfl h4) hx10) ?_)
  rintro e11 wd12 ⟨rfl, hF13⟩
  refine ⟨_, rfl, ?_⟩
  have hL := hL.pushAll hF13
  simp only [List.cons_append, List.nil_append, List.set_cons_zero, List.set_cons_succ] at hL
  refine OW.cons (OP.val (v := (.int .i64 x9)) rfl (x_assign) ?_)
  refine OW.nil ?_
  refine CW.seq ?_
  refine CW.regionL ?_
  refine OW.cons (OP.val (v := (.int .i64 x9)) rfl (x_move) ?_)
  refine OW.cons (OP.val (v := (.bool (x9 != 0))) rfl (x_neq rfl rfl) ?_)
  refine OW.nil ?_
  refine CW.condM (t := x9 != 0) rfl hm (fun hb14 hm => ?_) (fun hb14 hm => ?_)
  · refine CW.seq ?_
    refine CW.regionL ?_
    refine OW.cons (OP.val (v := (.agg #[(.int .i64 0), (.int .i64 0), (.slice none 0 0)])) rfl (x_build Try_B31 (ps := []) trivial (by simp [Instr.fill, cells_int, cells_bool, cells_string, cells_agg, cells_slice, cells_pointer])) ?_)
    refine OW.cons (OP.val (v := (.int .i64 x9)) rfl (x_move) ?_)
    refine OW.cons (S_storeN (l := [(.int .i64 0), (.int .i64 0), (.slice none 0 0)]) (cs' := #[(.int .i64 0), (.int .i64 0), (.slice none 0 0)]) hL 0 rfl Try_T31 rfl rfl (List.forall_mem_cons.2 ⟨rfl, (List.forall_mem_cons.2 ⟨rfl, (List.forall_mem_cons.2 ⟨rfl, (fun _ h => by cases h)⟩)⟩)⟩) rfl (Nat.le_of_ble_eq_true rfl) rfl ?_)
    intro wd15 hL
    refine OW.cons (OP.val (v := (.int .i64 x9)) rfl (x_assign) ?_)
    refine OW.nil ?_
    refine CW.ret ?_
    have hL := hL.pushNil Race 46
    obtain rfl := Option.some.inj hm
    exact RRct rfl rfl (run_loadBlk Try.underlying31 Try_T31 (hL.get 1 rfl) rfl) rfl ⟨(.slice none 0 0), None_, rfl, hL.fresh 3 rfl [0] (by decide) (by decide) rfl⟩
  · refine CW.skip ?_
    refine CW.seq ?_
    refine CW.regionL ?_
    refine OW.cons (OP.val (v := (.agg #[(.int .i64 a0.Boats), (.int .i64 a0.Scheme), v1])) rfl (x_loadN (cs := [(.int .i64 a0.Boats), (.int .i64 a0.Scheme), v1]) Try.underlying31 Try_T31 rfl rfl (hL.cellsB 1 rfl (o := 0) (l := [(.int .i64 a0.Boats), (.int .i64 a0.Scheme), v1]) (by intro j u hj; exact (by simpa using hj)))) ?_)
    refine OW.cons (OP.val (v := v3) rfl (x_move) ?_)
    obtain ⟨x16, hx17, hm⟩ := bndE hm
    refine OW.cons (OP.call rfl (x_call (vs := [(.agg #[(.int .i64 a0.Boats), (.int .i64 a0.Scheme), v1]), v3]) Try_C44 ⟨rfl, rfl, trivial⟩) (M.impl_penalizedSeries_ok _ a0 (hL.rdS 2 rfl h2) a1 (hL.rdS 2 rfl h4) hx17) ?_)
    rintro e20 wd21 ⟨v19, S18, rfl, hF22⟩
    refine ⟨_, rfl, ?_⟩
    have hL := hL.pushAll hF22
    simp only [List.cons_append, List.nil_append, List.set_cons_zero, List.set_cons_succ] at hL
    refine OW.cons (S_storeN (l := [(.int .i64 x16.Boats), (.int .i64 x16.Scheme), v19]) (cs' := #[(.int .i64 x16.Boats), (.int .i64 x16.Scheme), v19]) hL 1 rfl Try_T31 rfl rfl (List.forall_mem_cons.2 ⟨rfl, (List.forall_mem_cons.2 ⟨rfl, (List.forall_mem_cons.2 ⟨rdL_one (hL.rdO 0 rfl), (fun _ h => by cases h)⟩)⟩)⟩) rfl (Nat.le_of_ble_eq_true rfl) rfl ?_)
    intro wd23 hL
    refine OW.cons (OP.val (v := (.int .i64 0)) rfl (x_assign) ?_)
    refine OW.nil ?_
    refine CW.ret ?_
    obtain rfl := Option.some.inj hm
    exact RRct rfl rfl (run_loadBlk Try.underlying31 Try_T31 (hL.get 1 rfl) rfl) rfl ⟨v19, S18, rfl, hL.fresh 3 rfl [0] (by decide) (by decide) rfl⟩

theorem M.spec_l21Result_ok (w0 : World) (a0 : Series) {v1 : Value} (h2 : rdL (· < w0.heap.size) w0 v1 a0.Races) (a1 : List Penalty) {v3 : Value} (h4 : rdL (· < w0.heap.size) w0 v3 a1) {r : Int} (hm : M.spec_l21Result a0 a1 = some r) :
    Calls Try.prog 45 #[(.agg #[(.int .i64 a0.Boats), (.int .i64 a0.Scheme), v1]), v3] w0 fun e w' => e = .returned (.int .i64 r) ∧ Fresh w0 w' [] := by
  unfold M.spec_l21Result at hm
  refine calls_CW (args := [(.agg #[(.int .i64 a0.Boats), (.int .i64 a0.Scheme), v1]), v3]) Try.func45 rfl rfl rfl ?_
  have hL := Hp.start w0
  refine CW.seq ?_
  refine CW.regionL ?_
  refine OW.cons (S_box (cs := #[(.int .i64 a0.Boats), (.int .i64 a0.Scheme), v1]) hL rfl rfl rfl ?_)
  intro wd5 b6 hL
  refine OW.cons (OP.val (v := (.int .i64 0)) rfl (x_assign) ?_)
  refine OW.nil ?_
  refine CW.seq ?_
  refine CW.seq ?_
  refine CW.regionL ?_
  refine OW.cons (OP.val (v := (.agg #[(.int .i64 a0.Boats), (.int .i64 a0.Scheme), v1])) rfl (x_loadN (cs := [(.int .i64 a0.Boats), (.int .i64 a0.Scheme), v1]) Try.underlying31 Try_T31 rfl rfl (hL.cellsB 0 rfl (o := 0) (l := [(.int .i64 a0.Boats), (.int .i64 a0.Scheme), v1]) (by intro j u hj; exact (by simpa using hj)))) ?_)
  obtain ⟨x7, hx8, hm⟩ := bndE hm
  refine OW.cons (OP.call rfl (x_call (vs := [(.agg #[(.int .i64 a0.Boats), (.int .i64 a0.Scheme), v1])]) Try_C34 ⟨rfl, trivial⟩) (M.spec_IsSeries_ok _ a0 (hL.rdS 1 rfl h2) hx8) ?_)
  rintro e9 wd10 ⟨rfl, hF11⟩
  refine ⟨_, rfl, ?_⟩
  have hL := hL.pushAll hF11
  simp only [List.cons_append, List.nil_append, List.set_cons_zero, List.set_cons_succ] at hL
  refine OW.cons (OP.val (v := (.bool (!x7))) rfl (x_not rfl) ?_)
  refine OW.nil ?_
  refine CW.condM (t := !x7) rfl hm (fun hb12 hm => ?_) (fun hb12 hm => ?_)
  · refine CW.seq ?_
    refine CW.regionL ?_
    refine OW.cons (OP.val (v := (.int .i64 1)) rfl (x_assign) ?_)
    refine OW.nil ?_
    refine CW.ret ?_
    obtain rfl := Option.some.inj hm
    exact RR1 rfl rfl ⟨rfl, hL.fresh 1 rfl [] (by decide) (by decide) rfl⟩
  · refine CW.skip ?_
    refine CW.seq ?_
    refine CW.seq ?_
    refine CW.regionL ?_
    refine OW.cons (OP.val (v := (.agg #[(.int .i64 a0.Boats), (.int .i64 a0.Scheme), v1])) rfl (x_loadN (cs := [(.int .i64 a0.Boats), (.int .i64 a0.Scheme), v1]) Try.underlying31 Try_T31 rfl rfl (hL.cellsB 0 rfl (o := 0) (l := [(.int .i64 a0.Boats), (.int .i64 a0.Scheme), v1]) (by intro j u hj; exact (by simpa using hj)))) ?_)
    refine OW.cons (OP.val (v := v3) rfl (x_move) ?_)
    obtain ⟨x13, hx14, hm⟩ := bndE hm
    refine OW.cons (OP.call rfl (x_call (vs := [(.agg #[(.int .i64 a0.Boats), (.int .i64 a0.Scheme), v1]), v3]) Try_C35 ⟨rfl, rfl, trivial⟩) (M.spec_l21Valid_ok _ a0 (hL.rdS 1 rfl h2) a1 (hL.rdS 1 rfl h4) hx14) ?_)
    rintro e15 wd16 ⟨rfl, hF17⟩
    refine ⟨_, rfl, ?_⟩
    have hL := hL.pushAll hF17
    simp only [List.cons_append, List.nil_append, List.set_cons_zero, List.set_cons_succ] at hL
    refine OW.cons (OP.val (v := (.bool (!x13))) rfl (x_not rfl) ?_)
    refine OW.nil ?_
    refine CW.condM (t := !x13) rfl hm (fun hb18 hm => ?_) (fun hb18 hm => ?_)
    · refine CW.seq ?_
      refine CW.regionL ?_
      refine OW.cons (OP.val (v := (.int .i64 2)) rfl (x_assign) ?_)
      refine OW.nil ?_
      refine CW.ret ?_
      obtain rfl := Option.some.inj hm
      exact RR1 rfl rfl ⟨rfl, hL.fresh 1 rfl [] (by decide) (by decide) rfl⟩
    · refine CW.skip ?_
      refine CW.seq ?_
      refine CW.regionL ?_
      refine OW.cons (OP.val (v := (.int .i64 0)) rfl (x_assign) ?_)
      refine OW.nil ?_
      refine CW.ret ?_
      obtain rfl := Option.some.inj hm
      exact RR1 rfl rfl ⟨rfl, hL.fresh 1 rfl [] (by decide) (by decide) rfl⟩

theorem M.spec_l26Done_ok (w0 : World) (a0 : Finish) {r : Bool} (hm : M.spec_l26Done a0 = some r) :
    Calls Try.prog 70 #[(.agg #[(.int .i64 a0.Boat), (.int .i64 a0.Code), (.int .i64 a0.Time)])] w0 fun e w' => e = .returned (.bool r) ∧ Fresh w0 w' [] := by
  unfold M.spec_l26Done at hm
  refine calls_CW (args := [(.agg #[(.int .i64 a0.Boat), (.int .i64 a0.Code), (.int .i64 a0.Time)])]) Try.func70 rfl rfl rfl ?_
  have hL := Hp.start w0
  refine CW.seq ?_
  refine CW.regionL ?_
  refine OW.cons (S_box (cs := #[(.int .i64 a0.Boat), (.int .i64 a0.Code), (.int .i64 a0.Time)]) hL rfl rfl rfl ?_)
  intro wd1 b2 hL
  refine OW.cons (OP.val (v := (.bool false)) rfl (x_assign) ?_)
  refine OW.nil ?_
  refine CW.seq ?_
  refine CW.regionL ?_
  refine OW.cons (OP.val (v := (.pointer (some ⟨b2, 1, none⟩))) rfl (x_fieldAddr (fsz := 1) 0 1 1 Try.underlying50 rfl Try_T2 rfl rfl rfl) ?_)
  refine OW.cons (OP.val (v := (.int .i64 a0.Code)) rfl (x_load1 Try.underlying2 rfl rfl (hL.cellB 0 rfl rfl)) ?_)
  refine OW.cons (OP.val (v := (.bool (a0.Code == 0))) rfl (x_eql rfl rfl) ?_)
  refine OW.cons (OP.val (v := (.bool (a0.Code == 0))) rfl (x_assign) ?_)
  refine OW.nil ?_
  refine CW.ret ?_
  obtain rfl := Option.some.inj hm
  exact RR1 rfl rfl ⟨rfl, hL.fresh 1 rfl [] (by decide) (by decide) rfl⟩

theorem M.spec_l21Series_ok (w0 : World) (a0 : Series) {v1 : Value} (h2 : rdL (· < w0.heap.size) w0 v1 a0.Races) (a1 : List Penalty) {v3 : Value} (h4 : rdL (· < w0.heap.size) w0 v3 a1) {r : Series} (hm : M.spec_l21Series a0 a1 = some r) :
    Calls Try.prog 46 #[(.agg #[(.int .i64 a0.Boats), (.int .i64 a0.Scheme), v1]), v3] w0 fun e w' => ∃ (rv0 : Value) (rS0 : Nat → Prop), e = .returned (.agg #[(.int .i64 r.Boats), (.int .i64 r.Scheme), rv0]) ∧ Fresh w0 w' [Ent.own 46 rS0 rv0 r.Races] := by
  unfold M.spec_l21Series at hm
  refine calls_CW (args := [(.agg #[(.int .i64 a0.Boats), (.int .i64 a0.Scheme), v1]), v3]) Try.func46 rfl rfl rfl ?_
  have hL := Hp.start w0
  refine CW.seq ?_
  refine CW.regionL ?_
  refine OW.cons (S_box (cs := #[(.int .i64 a0.Boats), (.int .i64 a0.Scheme), v1]) hL rfl rfl rfl ?_)
  intro wd5 b6 hL
  refine OW.cons (S_alloc (cs := #[(.int .i64 0), (.int .i64 0), (.slice none 0 0)]) hL Try_T31 rfl rfl ?_)
  intro wd7 b8 hL
  refine OW.nil ?_
  refine CW.seq ?_
  refine CW.regionL ?_
  refine OW.cons (S_lit0 (α := Finish) Race hL Try.underlying29 Try_T46 rfl ?_)
  intro wd9 v10 S11 hL
  refine OW.cons (OP.val (v := v10) rfl (x_assign) ?_)
  refine OW.nil ?_
  refine CW.seq ?_
  refine CW.seq ?_
  refine CW.regionL ?_
  refine OW.cons (OP.val (v := (.int .i64 0)) rfl (x_assign) ?_)
  refine OW.nil ?_
  obtain ⟨o70, ho71, hm⟩ := bndE hm
  refine CW.loopB (fun (s_l1 : (List Race) × Int) (F : Fr) (w : World) => ∃ (v66 : Value) (S67 : Nat → Prop), F 1 = v3 ∧ F 2 = (.pointer (some ⟨b6, 0, none⟩)) ∧ F 4 = (.pointer (some ⟨b8, 0, none⟩)) ∧ F 5 = v66 ∧ F 6 = (.int .i64 s_l1.2) ∧ Hp w0 [Ent.own 46 S67 v66 s_l1.1, Ent.blk b8 31 #[(.int .i64 0), (.int .i64 0), (.slice none 0 0)], Ent.blk b6 31 #[(.int .i64 a0.Boats), (.int .i64 a0.Scheme), v1], Ent.snap w0 w0.heap.size] w) (fun o => outc o (fun x => some x) (fun s => M.spec_l21Series_a1 a0 a1 s) = some r) ho71 hm ⟨v10, S11, rfl, rfl, rfl, rfl, rfl, hL⟩ ?_ ?_
  · intro s_l1 F72 wd73 hJ hm
    have hm := outcE hm
    have hm : M.spec_l21Series_a1 a0 a1 s_l1 = some r := hm
    unfold M.spec_l21Series_a1 at hm
    obtain ⟨v66, S67, f74, f75, f76, f77, f78, hL⟩ := hJ
    refine CW.seq ?_
    refine CW.seq ?_
    refine CW.regionL ?_
    refine OW.cons (OP.val (v := (.int .i64 0)) rfl (x_assign) ?_)
    refine OW.nil ?_
    obtain ⟨o1101, ho1102, hm⟩ := bndE hm
    refine CW.loopB (fun (s_l2 : (List Race) × Int) (F : Fr) (w : World) => ∃ (S1098 : Nat → Prop), F 1 = v3 ∧ F 2 = (.pointer (some ⟨b6, 0, none⟩)) ∧ F 4 = (.pointer (some ⟨b8, 0, none⟩)) ∧ F 5 = v66 ∧ F 7 = (.int .i64 s_l2.2) ∧ Hp w0 [Ent.own 46 S1098 v66 s_l2.1, Ent.blk b8 31 #[(.int .i64 0), (.int .i64 0), (.slice none 0 0)], Ent.blk b6 31 #[(.int .i64 a0.Boats), (.int .i64 a0.Scheme), v1], Ent.snap w0 w0.heap.size] w) (fun o => outc o (fun x => some x) (fun s => M.spec_l21Series_a2 a0 a1 s) = some r) ho1102 hm ⟨S67, f74, f75, f76, f77, rfl, hL⟩ ?_ ?_
    · intro s_l2 F1103 wd1104 hJ hm
      have hm := outcE hm
      have hm : M.spec_l21Series_a2 a0 a1 s_l2 = some r := hm
      unfold M.spec_l21Series_a2 at hm
      obtain ⟨S1098, f1105, f1106, f1107, f1108, f1109, hL⟩ := hJ
      refine CW.seq ?_
      refine CW.seq ?_
      refine CW.regionL ?_
      refine OW.cons (OP.val (v := (.int .i64 0)) rfl (x_assign) ?_)
      refine OW.nil ?_
      obtain ⟨o1444, ho1445, hm⟩ := bndE hm
      refine CW.loopB (fun (s_l3 : (List Race) × Int) (F : Fr) (w : World) => ∃ (S1441 : Nat → Prop), F 1 = v3 ∧ F 2 = (.pointer (some ⟨b6, 0, none⟩)) ∧ F 4 = (.pointer (some ⟨b8, 0, none⟩)) ∧ F 5 = v66 ∧ F 10 = (.int .i64 s_l3.2) ∧ Hp w0 [Ent.own 46 S1441 v66 s_l3.1, Ent.blk b8 31 #[(.int .i64 0), (.int .i64 0), (.slice none 0 0)], Ent.blk b6 31 #[(.int .i64 a0.Boats), (.int .i64 a0.Scheme), v1], Ent.snap w0 w0.heap.size] w) (fun o => outc o (fun x => some x) (fun s => M.spec_l21Series_a3 a0 s) = some r) ho1445 hm ⟨S1098, f1105, f1106, f1107, f1108, rfl, hL⟩ ?_ ?_
      · intro s_l3 F1446 wd1447 hJ hm
        have hm := outcE hm
        have hm : M.spec_l21Series_a3 a0 s_l3 = some r := hm
        unfold M.spec_l21Series_a3 at hm
        obtain ⟨S1441, f1448, f1449, f1450, f1451, f1452, hL⟩ := hJ
        refine CW.seq ?_
        refine CW.regionL ?_
        refine OW.cons (OP.val (v := (.pointer (some ⟨b6, 0, none⟩))) rfl (x_fieldAddr (fsz := 1) 0 0 0 Try.underlying31 rfl Try_T2 rfl f1449 rfl) ?_)
        refine OW.cons (OP.val (v := (.int .i64 a0.Boats)) rfl (x_load1 Try.underlying2 rfl rfl (hL.cellB 2 rfl rfl)) ?_)
        refine OW.cons (OP.val (v := (.pointer (some ⟨b6, 1, none⟩))) rfl (x_fieldAddr (fsz := 1) 0 1 1 Try.underlying31 rfl Try_T2 rfl f1449 rfl) ?_)
        refine OW.cons (OP.val (v := (.int .i64 a0.Scheme)) rfl (x_load1 Try.underlying2 rfl rfl (hL.cellB 2 rfl rfl)) ?_)
        refine OW.cons (OP.val (v := v66) rfl (x_mv f1451) ?_)
        refine OW.cons (OP.val (v := (.agg #[(.int .i64 a0.Boats), (.int .i64 a0.Scheme), v66])) rfl (x_build Try_B31 (ps := [(0, (.int .i64 a0.Boats)), (1, (.int .i64 a0.Scheme)), (2, v66)]) ⟨⟨rfl, rfl⟩, ⟨rfl, rfl⟩, ⟨rfl, rfl⟩, trivial⟩ (by simp [Instr.fill, cells_int, cells_bool, cells_string, cells_agg, cells_slice, cells_pointer, (rdL_cells (hL.rdO 0 rfl))])) ?_)
        refine OW.cons (S_storeN (l := [(.int .i64 a0.Boats), (.int .i64 a0.Scheme), v66]) (cs' := #[(.int .i64 a0.Boats), (.int .i64 a0.Scheme), v66]) hL 1 rfl Try_T31 f1450 rfl (List.forall_mem_cons.2 ⟨rfl, (List.forall_mem_cons.2 ⟨rfl, (List.forall_mem_cons.2 ⟨rdL_one (hL.rdO 0 rfl), (fun _ h => by cases h)⟩)⟩)⟩) rfl (Nat.le_of_ble_eq_true rfl) rfl ?_)
        intro wd1453 hL
        refine OW.nil ?_
        refine CW.ret ?_
        obtain rfl := Option.some.inj hm
        exact RRc rfl f1450 (run_loadBlk Try.underlying31 Try_T31 (hL.get 1 rfl) rfl) ⟨v66, S1441, rfl, hL.fresh 3 rfl [0] (by decide) (by decide) rfl⟩
      · intro s_l3 F1454 wd1455 t1442 hJ hm hr1443
        unfold M.spec_l21Series_l3 at hm
        obtain ⟨S1441, f1456, f1457, f1458, f1459, f1460, hL⟩ := hJ
        refine CW.seq ?_
        refine CW.seq ?_
        refine CW.regionL ?_
        refine OW.cons (OP.val (v := (.int .i64 s_l3.2)) rfl (x_mv f1460) ?_)
        refine OW.cons (OP.val (v := v3) rfl (x_mv f1456) ?_)
        refine OW.cons (OP.val (v := (.int .i64 (a1.length : Int))) rfl (x_lenR Try.underlying33 rfl (hL.rdS 3 rfl h4)) ?_)
        refine OW.cons (OP.val (v := (.bool (decide (s_l3.2 < (a1.length : Int))))) rfl (x_lss rfl rfl) ?_)
        refine OW.nil ?_
        refine CW.condM (t := decide (s_l3.2 < (a1.length : Int))) rfl hm (fun hb1461 hm => ?_) (fun hb1461 hm => ?_)
        · refine CW.skip ?_
          refine CW.seqJ (fun (s_j1 : (List Race)) (F : Fr) (w : World) => ∃ (S1540 : Nat → Prop), F 1 = v3 ∧ F 2 = (.pointer (some ⟨b6, 0, none⟩)) ∧ F 4 = (.pointer (some ⟨b8, 0, none⟩)) ∧ F 5 = v66 ∧ F 10 = (.int .i64 s_l3.2) ∧ Hp w0 [Ent.own 46 S1540 v66 s_j1, Ent.blk b8 31 #[(.int .i64 0), (.int .i64 0), (.slice none 0 0)], Ent.blk b6 31 #[(.int .i64 a0.Boats), (.int .i64 a0.Scheme), v1], Ent.snap w0 w0.heap.size] w) (fun s_j1 => M.spec_l21Series_j1 s_l3 s_j1 = some t1442) ?_ ?_
          · refine CW.blockJ (fun (s_j2 : (List Race)) (F : Fr) (w : World) => ∃ (S1583 : Nat → Prop), F 1 = v3 ∧ F 2 = (.pointer (some ⟨b6, 0, none⟩)) ∧ F 4 = (.pointer (some ⟨b8, 0, none⟩)) ∧ F 5 = v66 ∧ F 10 = (.int .i64 s_l3.2) ∧ Hp w0 [Ent.own 46 S1583 v66 s_j2, Ent.blk b8 31 #[(.int .i64 0), (.int .i64 0), (.slice none 0 0)], Ent.blk b6 31 #[(.int .i64 a0.Boats), (.int .i64 a0.Scheme), v1], Ent.snap w0 w0.heap.size] w) (fun s_j2 => M.spec_l21Series_j2 s_l3 s_j2 = some t1442) ?_ ?_
            · refine CW.seq ?_
              refine CW.regionL ?_
              refine OW.cons (OP.val (v := v3) rfl (x_mv f1456) ?_)
              refine OW.cons (OP.val (v := (.int .i64 s_l3.2)) rfl (x_mv f1460) ?_)
              obtain ⟨x1591, ha1592, hm⟩ := bndE hm
              obtain ⟨hz1593, ha1597⟩ := idxE ha1592
              obtain ⟨b1594, q1595, hix1596⟩ := rdL_ix (hL.rdS 3 rfl h4) hz1593 ha1597
              refine OW.cons (OP.val (v := (.pointer (some ⟨b1594, q1595, none⟩))) rfl (x_ix Try.underlying33 Try_T48 rfl rfl hix1596) ?_)
              refine OW.cons (OP.val (v := (.agg #[(.int .i64 x1591.Race), (.int .i64 x1591.Boat), (.int .i64 x1591.Kind), (.int .i64 x1591.Value)])) rfl (x_loadN (cs := [(.int .i64 x1591.Race), (.int .i64 x1591.Boat), (.int .i64 x1591.Kind), (.int .i64 x1591.Value)]) Try.underlying48 Try_T48 rfl rfl (rdF_cells (hL.rdS 3 rfl h4) hix1596 ha1597)) ?_)
              refine OW.cons (S_alloc (cs := #[(.int .i64 0), (.int .i64 0), (.int .i64 0), (.int .i64 0)]) hL Try_T48 rfl rfl ?_)
              intro wd1598 b1599 hL
              refine OW.cons (S_storeN (l := [(.int .i64 x1591.Race), (.int .i64 x1591.Boat), (.int .i64 x1591.Kind), (.int .i64 x1591.Value)]) (cs' := #[(.int .i64 x1591.Race), (.int .i64 x1591.Boat), (.int .i64 x1591.Kind), (.int .i64 x1591.Value)]) hL 0 rfl Try_T48 rfl rfl (List.forall_mem_cons.2 ⟨rfl, (List.forall_mem_cons.2 ⟨rfl, (List.forall_mem_cons.2 ⟨rfl, (List.forall_mem_cons.2 ⟨rfl, (fun _ h => by cases h)⟩)⟩)⟩)⟩) rfl (Nat.le_of_ble_eq_true rfl) rfl ?_)
              intro wd1600 hL
              refine OW.nil ?_
              refine CW.seq ?_
              refine CW.regionL ?_
              refine OW.cons (OP.val (v := (.pointer (some ⟨b1599, 2, none⟩))) rfl (x_fieldAddr (fsz := 1) 0 2 2 Try.underlying48 rfl Try_T2 rfl rfl rfl) ?_)
              refine OW.cons (OP.val (v := (.int .i64 x1591.Kind)) rfl (x_load1 Try.underlying2 rfl rfl (hL.cellB 0 rfl rfl)) ?_)
              refine OW.cons (OP.val (v := (.bool (x1591.Kind == 1))) rfl (x_eql rfl rfl) ?_)
              refine OW.nil ?_
              refine CW.condM (t := x1591.Kind == 1) rfl hm (fun hb1601 hm => ?_) (fun hb1601 hm => ?_)
              · obtain ⟨wz1602, hL, ho1603⟩ := hL.freeze 1 rfl
                simp only [List.set_cons_zero, List.set_cons_succ] at hL
                refine CW.draw Try_mixed ?_
                have hL := hL.call (Mod.drew _)
                refine DW.pre (fuel := 1) (fin := (((((((((((((((Array.replicate 15 false).setIfInBounds 0 true).setIfInBounds 1 true).setIfInBounds 2 true).setIfInBounds 3 true).setIfInBounds 4 true).setIfInBounds 5 true).setIfInBounds 6 true).setIfInBounds 7 true).setIfInBounds 8 true).setIfInBounds 9 true).setIfInBounds 10 true).setIfInBounds 11 true).setIfInBounds 12 true).setIfInBounds 13 true)) (C := fun w' => Mod None_ _ w') [0, 1, 2, 3, 4, 5, 6, 7, 8, 9, 10, 11, 12, 13] (Mod.refl _ _) (by kernel_rfl) (by kernel_rfl) ?_
                refine QW.cons rfl (QP.val (v := v66) rfl (fun w' hm' => x_mv f1459) ?_)
                refine QW.cons rfl (QP.val (v := (.pointer (some ⟨b1599, 0, none⟩))) rfl (fun w' hm' => x_fieldAddr (fsz := 1) 0 0 0 Try.underlying48 rfl Try_T2 rfl rfl rfl) ?_)
                refine QW.cons rfl (QP.val (v := (.int .i64 x1591.Race)) rfl (fun w' hm' => x_load1 Try.underlying2 rfl rfl ((hL.call hm').cellB 0 rfl rfl)) ?_)
                obtain ⟨x1604, ha1605, hm⟩ := bndE hm
                obtain ⟨hz1606, ha1614⟩ := idxE ha1605
                obtain ⟨b1607, q1608, v1609, hix1610, hs1611, hc1612, hr1613⟩ := rdN_at ho1603.1.rdL hz1606 ha1614
                refine QW.cons rfl (QP.val (v := (.pointer (some ⟨b1607, q1608, none⟩))) rfl (fun w' hm' => x_ix Try.underlying29 Try_T46 rfl rfl hix1610) ?_)
                refine QW.cons rfl (QP.val (v := (.pointer (some ⟨b1607, q1608, none⟩))) rfl (fun w' hm' => x_fieldAddr (fsz := 1) q1608 0 q1608 Try.underlying46 rfl Try_T44 rfl rfl rfl) ?_)
                refine QW.cons rfl (QP.val (v := v1609) rfl (fun w' hm' => x_load1 Try.underlying44 rfl rfl ((hL.call hm').cellF 1 rfl hs1611 hc1612)) ?_)
                refine QW.cons rfl (QP.val (v := (.pointer (some ⟨b1599, 1, none⟩))) rfl (fun w' hm' => x_fieldAddr (fsz := 1) 0 1 1 Try.underlying48 rfl Try_T2 rfl rfl rfl) ?_)
                refine QW.cons rfl (QP.val (v := (.int .i64 x1591.Boat)) rfl (fun w' hm' => x_load1 Try.underlying2 rfl rfl ((hL.call hm').cellB 0 rfl rfl)) ?_)
                refine QW.cons rfl (QP.val (v := (.pointer (some ⟨b1599, 1, none⟩))) rfl (fun w' hm' => x_fieldAddr (fsz := 1) 0 1 1 Try.underlying48 rfl Try_T2 rfl rfl rfl) ?_)
                refine QW.cons rfl (QP.val (v := (.int .i64 x1591.Boat)) rfl (fun w' hm' => x_load1 Try.underlying2 rfl rfl ((hL.call hm').cellB 0 rfl rfl)) ?_)
                refine QW.cons rfl (QP.val (v := (.pointer (some ⟨b1599, 3, none⟩))) rfl (fun w' hm' => x_fieldAddr (fsz := 1) 0 3 3 Try.underlying48 rfl Try_T2 rfl rfl rfl) ?_)
                refine QW.cons rfl (QP.val (v := (.int .i64 x1591.Value)) rfl (fun w' hm' => x_load1 Try.underlying2 rfl rfl ((hL.call hm').cellB 0 rfl rfl)) ?_)
                refine QW.cons rfl (QP.val (v := (.agg #[(.int .i64 x1591.Boat), (.int .i64 x1591.Value), (.int .i64 0)])) rfl (fun w' hm' => x_build Try_B50 (ps := [(0, (.int .i64 x1591.Boat)), (1, (.int .i64 x1591.Value))]) ⟨⟨rfl, rfl⟩, ⟨rfl, rfl⟩, trivial⟩ (by simp [Instr.fill, cells_int, cells_bool, cells_string, cells_agg, cells_slice, cells_pointer])) ?_)
                obtain ⟨x1615, ha1616, hm⟩ := bndE hm
                obtain ⟨hz1617, ha1621⟩ := idxE ha1616
                obtain ⟨b1618, q1619, hix1620⟩ := rdL_ix (hL.rdF 1 rfl hr1613) hz1617 ha1621
                refine QW.cons rfl (QP.val (v := (.pointer (some ⟨b1618, q1619, none⟩))) rfl (fun w' hm' => x_ix Try.underlying44 Try_T50 rfl rfl hix1620) ?_)
                refine QW.nil ?_
                intro wd1622 hmod
                have hL := hL.call hmod
                have hc1624 := hL.cellF 1 rfl hs1611 hc1612
                have hL := hL.thaw 1 rfl ho1603
                simp only [List.set_cons_zero, List.set_cons_succ] at hL
                refine DW.only 14 rfl (by kernel_rfl) (S_inRow (α := Finish) (x1604.Finishes.set (x1591.Boat : Int).toNat (Finish.mk x1591.Boat x1591.Value 0)) (Race.mk (x1604.Finishes.set (x1591.Boat : Int).toNat (Finish.mk x1591.Boat x1591.Value 0))) rfl hL 1 rfl hix1610 ha1614 hc1624 (fun E2 S1 hL hK => S_storeXN (l := [(.int .i64 x1591.Boat), (.int .i64 x1591.Value), (.int .i64 0)]) (Finish.mk x1591.Boat x1591.Value 0) hL 0 rfl Try_T50 hix1620 ha1621 rfl rfl rfl hK) ?_)
                intro wd1623 S1625 hL
                simp only [List.set_cons_zero, List.set_cons_succ] at hL
                refine DW.done (by kernel_rfl) ?_
                have hL := hL.sel [1, 2, 3, 4] (by decide) rfl
                exact ⟨s_l3.1.set (x1591.Race : Int).toNat (Race.mk (x1604.Finishes.set (x1591.Boat : Int).toNat (Finish.mk x1591.Boat x1591.Value 0))), hm, ⟨S1625, f1456, f1457, f1458, f1459, f1460, hL⟩⟩
              · refine CW.skip ?_
                have hL := hL.sel [1, 2, 3, 4] (by decide) rfl
                exact ⟨s_l3.1, hm, ⟨S1441, f1456, f1457, f1458, f1459, f1460, hL⟩⟩
            · intro s_j2 F1584 wd1585 hJ hm
              unfold M.spec_l21Series_j2 at hm
              obtain ⟨S1583, f1586, f1587, f1588, f1589, f1590, hL⟩ := hJ
              exact ⟨s_j2, hm, ⟨S1583, f1586, f1587, f1588, f1589, f1590, hL⟩⟩
          · intro s_j1 F1541 wd1542 hJ hm
            unfold M.spec_l21Series_j1 at hm
            obtain ⟨S1540, f1543, f1544, f1545, f1546, f1547, hL⟩ := hJ
            refine CW.regionL ?_
            refine OW.cons (OP.val (v := (.int .i64 s_l3.2)) rfl (x_mv f1547) ?_)
            refine OW.cons (OP.val (v := (.int .i64 (w64 (s_l3.2 + 1)))) rfl (x_add rfl rfl) ?_)
            refine OW.cons (OP.val (v := (.int .i64 (w64 (s_l3.2 + 1)))) rfl (x_assign) ?_)
            refine OW.nil ?_
            obtain rfl := Option.some.inj hm
            exact ⟨_, rfl, ⟨S1540, f1543, f1544, f1545, f1546, rfl, hL⟩⟩
        · refine CW.exit ?_
          refine XJ.hit ?_
          obtain rfl := Option.some.inj hm
          exact ⟨_, rfl, ⟨S1441, f1456, f1457, f1458, f1459, f1460, hL⟩⟩
    · intro s_l2 F1626 wd1627 t1099 hJ hm hr1100
      unfold M.spec_l21Series_l2 at hm
      obtain ⟨S1098, f1628, f1629, f1630, f1631, f1632, hL⟩ := hJ
      refine CW.seq ?_
      refine CW.seq ?_
      refine CW.regionL ?_
      refine OW.cons (OP.val (v := (.int .i64 s_l2.2)) rfl (x_mv f1632) ?_)
      refine OW.cons (OP.val (v := v3) rfl (x_mv f1628) ?_)
      refine OW.cons (OP.val (v := (.int .i64 (a1.length : Int))) rfl (x_lenR Try.underlying33 rfl (hL.rdS 3 rfl h4)) ?_)
      refine OW.cons (OP.val (v := (.bool (decide (s_l2.2 < (a1.length : Int))))) rfl (x_lss rfl rfl) ?_)
      refine OW.nil ?_
      refine CW.condM (t := decide (s_l2.2 < (a1.length : Int))) rfl hm (fun hb1633 hm => ?_) (fun hb1633 hm => ?_)
      · refine CW.skip ?_
        refine CW.seqJ (fun (s_j3 : (List Race)) (F : Fr) (w : World) => ∃ (S1884 : Nat → Prop), F 1 = v3 ∧ F 2 = (.pointer (some ⟨b6, 0, none⟩)) ∧ F 4 = (.pointer (some ⟨b8, 0, none⟩)) ∧ F 5 = v66 ∧ F 7 = (.int .i64 s_l2.2) ∧ Hp w0 [Ent.own 46 S1884 v66 s_j3, Ent.blk b8 31 #[(.int .i64 0), (.int .i64 0), (.slice none 0 0)], Ent.blk b6 31 #[(.int .i64 a0.Boats), (.int .i64 a0.Scheme), v1], Ent.snap w0 w0.heap.size] w) (fun s_j3 => M.spec_l21Series_j3 s_l2 s_j3 = some t1099) ?_ ?_
        · refine CW.blockJ (fun (s_j4 : (List Race)) (F : Fr) (w : World) => ∃ (S2013 : Nat → Prop), F 1 = v3 ∧ F 2 = (.pointer (some ⟨b6, 0, none⟩)) ∧ F 4 = (.pointer (some ⟨b8, 0, none⟩)) ∧ F 5 = v66 ∧ F 7 = (.int .i64 s_l2.2) ∧ Hp w0 [Ent.own 46 S2013 v66 s_j4, Ent.blk b8 31 #[(.int .i64 0), (.int .i64 0), (.slice none 0 0)], Ent.blk b6 31 #[(.int .i64 a0.Boats), (.int .i64 a0.Scheme), v1], Ent.snap w0 w0.heap.size] w) (fun s_j4 => M.spec_l21Series_j4 s_l2 s_j4 = some t1099) ?_ ?_
          · refine CW.seq ?_
            refine CW.regionL ?_
            refine OW.cons (OP.val (v := v3) rfl (x_mv f1628) ?_)
            refine OW.cons (OP.val (v := (.int .i64 s_l2.2)) rfl (x_mv f1632) ?_)
            obtain ⟨x2021, ha2022, hm⟩ := bndE hm
            obtain ⟨hz2023, ha2027⟩ := idxE ha2022
            obtain ⟨b2024, q2025, hix2026⟩ := rdL_ix (hL.rdS 3 rfl h4) hz2023 ha2027
            refine OW.cons (OP.val (v := (.pointer (some ⟨b2024, q2025, none⟩))) rfl (x_ix Try.underlying33 Try_T48 rfl rfl hix2026) ?_)
            refine OW.cons (OP.val (v := (.agg #[(.int .i64 x2021.Race), (.int .i64 x2021.Boat), (.int .i64 x2021.Kind), (.int .i64 x2021.Value)])) rfl (x_loadN (cs := [(.int .i64 x2021.Race), (.int .i64 x2021.Boat), (.int .i64 x2021.Kind), (.int .i64 x2021.Value)]) Try.underlying48 Try_T48 rfl rfl (rdF_cells (hL.rdS 3 rfl h4) hix2026 ha2027)) ?_)
            refine OW.cons (S_alloc (cs := #[(.int .i64 0), (.int .i64 0), (.int .i64 0), (.int .i64 0)]) hL Try_T48 rfl rfl ?_)
            intro wd2028 b2029 hL
            refine OW.cons (S_storeN (l := [(.int .i64 x2021.Race), (.int .i64 x2021.Boat), (.int .i64 x2021.Kind), (.int .i64 x2021.Value)]) (cs' := #[(.int .i64 x2021.Race), (.int .i64 x2021.Boat), (.int .i64 x2021.Kind), (.int .i64 x2021.Value)]) hL 0 rfl Try_T48 rfl rfl (List.forall_mem_cons.2 ⟨rfl, (List.forall_mem_cons.2 ⟨rfl, (List.forall_mem_cons.2 ⟨rfl, (List.forall_mem_cons.2 ⟨rfl, (fun _ h => by cases h)⟩)⟩)⟩)⟩) rfl (Nat.le_of_ble_eq_true rfl) rfl ?_)
            intro wd2030 hL
            refine OW.nil ?_
            refine CW.seq ?_
            obtain ⟨wz2031, hL, ho2032⟩ := hL.freeze 1 rfl
            simp only [List.set_cons_zero, List.set_cons_succ] at hL
            refine CW.drawH (fun w' => Hp w0 [Ent.blk b2029 48 #[(.int .i64 x2021.Race), (.int .i64 x2021.Boat), (.int .i64 x2021.Kind), (.int .i64 x2021.Value)], Ent.frzS wz2031 S1098, Ent.blk b8 31 #[(.int .i64 0), (.int .i64 0), (.slice none 0 0)], Ent.blk b6 31 #[(.int .i64 a0.Boats), (.int .i64 a0.Scheme), v1], Ent.snap w0 w0.heap.size] w') Try_mixed ?_
            have hL := hL.call (Mod.drew _)
            have hS := (hL.sel [0, 1, 2, 3, 4] (by decide) rfl)
            refine DH.take 0 rfl (by kernel_rfl) (by kernel_rfl) (by kernel_rfl) rfl rfl hS (YH.val (v := v66) (fun w' hS' => x_mv f1631)) ?_
            have hS := (hL.sel [0, 1, 2, 3, 4] (by decide) rfl)
            refine DH.take 1 rfl (by kernel_rfl) (by kernel_rfl) (by kernel_rfl) rfl rfl hS (YH.val (v := (.pointer (some ⟨b2029, 0, none⟩))) (fun w' hS' => x_fieldAddr (fsz := 1) 0 0 0 Try.underlying48 rfl Try_T2 rfl rfl rfl)) ?_
            have hS := (hL.sel [0, 1, 2, 3, 4] (by decide) rfl)
            refine DH.take 2 rfl (by kernel_rfl) (by kernel_rfl) (by kernel_rfl) rfl rfl hS (YH.val (v := (.int .i64 x2021.Race)) (fun w' hS' => x_load1 Try.underlying2 rfl rfl (hS'.cellB 0 rfl rfl))) ?_
            have hS := (hL.sel [0, 1, 2, 3, 4] (by decide) rfl)
            obtain ⟨x2054, ha2055, hm⟩ := bndE hm
            obtain ⟨hz2056, ha2064⟩ := idxE ha2055
            obtain ⟨b2057, q2058, v2059, hix2060, hs2061, hc2062, hr2063⟩ := rdN_at ho2032.1.rdL hz2056 ha2064
            refine DH.take 3 rfl (by kernel_rfl) (by kernel_rfl) (by kernel_rfl) rfl rfl hS (YH.val (v := (.pointer (some ⟨b2057, q2058, none⟩))) (fun w' hS' => x_ix Try.underlying29 Try_T46 rfl rfl hix2060)) ?_
            have hS := (hL.sel [0, 1, 2, 3, 4] (by decide) rfl)
            refine DH.take 4 rfl (by kernel_rfl) (by kernel_rfl) (by kernel_rfl) rfl rfl hS (YH.val (v := (.pointer (some ⟨b2057, q2058, none⟩))) (fun w' hS' => x_fieldAddr (fsz := 1) q2058 0 q2058 Try.underlying46 rfl Try_T44 rfl rfl rfl)) ?_
            have hS := (hL.sel [0, 1, 2, 3, 4] (by decide) rfl)
            refine DH.take 5 rfl (by kernel_rfl) (by kernel_rfl) (by kernel_rfl) rfl rfl hS (YH.val (v := v2059) (fun w' hS' => x_load1 Try.underlying44 rfl rfl (hS'.cellF 1 rfl hs2061 hc2062))) ?_
            have hS := (hL.sel [0, 1, 2, 3, 4] (by decide) rfl)
            refine DH.take 6 rfl (by kernel_rfl) (by kernel_rfl) (by kernel_rfl) rfl rfl hS (YH.val (v := (.pointer (some ⟨b2029, 1, none⟩))) (fun w' hS' => x_fieldAddr (fsz := 1) 0 1 1 Try.underlying48 rfl Try_T2 rfl rfl rfl)) ?_
            have hS := (hL.sel [0, 1, 2, 3, 4] (by decide) rfl)
            refine DH.take 7 rfl (by kernel_rfl) (by kernel_rfl) (by kernel_rfl) rfl rfl hS (YH.val (v := (.int .i64 x2021.Boat)) (fun w' hS' => x_load1 Try.underlying2 rfl rfl (hS'.cellB 0 rfl rfl))) ?_
            have hS := (hL.sel [0, 1, 2, 3, 4] (by decide) rfl)
            obtain ⟨x2065, ha2066, hm⟩ := bndE hm
            obtain ⟨hz2067, ha2071⟩ := idxE ha2066
            obtain ⟨b2068, q2069, hix2070⟩ := rdL_ix (hL.rdF 1 rfl hr2063) hz2067 ha2071
            refine DH.take 8 rfl (by kernel_rfl) (by kernel_rfl) (by kernel_rfl) rfl rfl hS (YH.val (v := (.pointer (some ⟨b2068, q2069, none⟩))) (fun w' hS' => x_ix Try.underlying44 Try_T50 rfl rfl hix2070)) ?_
            have hS := (hL.sel [0, 1, 2, 3, 4] (by decide) rfl)
            refine DH.take 9 rfl (by kernel_rfl) (by kernel_rfl) (by kernel_rfl) rfl rfl hS (YH.val (v := (.agg #[(.int .i64 x2065.Boat), (.int .i64 x2065.Code), (.int .i64 x2065.Time)])) (fun w' hS' => x_loadN (cs := [(.int .i64 x2065.Boat), (.int .i64 x2065.Code), (.int .i64 x2065.Time)]) Try.underlying50 Try_T50 rfl rfl (rdF_cells (hS'.rdF 1 rfl hr2063) hix2070 ha2071))) ?_
            refine DH.only 10 rfl (by kernel_rfl) (S_alloc (cs := #[(.int .i64 0), (.int .i64 0), (.int .i64 0)]) hL Try_T50 rfl rfl ?_)
            intro wd2072 b2073 hL
            refine ⟨(hL.sel [1, 2, 3, 4, 5] (by decide) rfl), ?_⟩
            refine DH.only 11 rfl (by kernel_rfl) (S_storeN (l := [(.int .i64 x2065.Boat), (.int .i64 x2065.Code), (.int .i64 x2065.Time)]) (cs' := #[(.int .i64 x2065.Boat), (.int .i64 x2065.Code), (.int .i64 x2065.Time)]) hL 0 rfl Try_T50 rfl rfl (List.forall_mem_cons.2 ⟨rfl, (List.forall_mem_cons.2 ⟨rfl, (List.forall_mem_cons.2 ⟨rfl, (fun _ h => by cases h)⟩)⟩)⟩) rfl (Nat.le_of_ble_eq_true rfl) rfl ?_)
            intro wd2074 hL
            refine ⟨(hL.sel [1, 2, 3, 4, 5] (by decide) rfl), ?_⟩
            refine DH.done (by kernel_rfl) ?_
            have hL := hL.thaw 2 rfl ho2032
            refine CW.seqJ (fun (s_j5 : Bool) (F : Fr) (w : World) => F 1 = v3 ∧ F 2 = (.pointer (some ⟨b6, 0, none⟩)) ∧ F 4 = (.pointer (some ⟨b8, 0, none⟩)) ∧ F 5 = v66 ∧ F 7 = (.int .i64 s_l2.2) ∧ F 8 = (.pointer (some ⟨b2029, 0, none⟩)) ∧ F 9 = (.pointer (some ⟨b2073, 0, none⟩)) ∧ F 58 = (.bool s_j5) ∧ Hp w0 [Ent.blk b2073 50 #[(.int .i64 x2065.Boat), (.int .i64 x2065.Code), (.int .i64 x2065.Time)], Ent.blk b2029 48 #[(.int .i64 x2021.Race), (.int .i64 x2021.Boat), (.int .i64 x2021.Kind), (.int .i64 x2021.Value)], Ent.own 46 S1098 v66 s_l2.1, Ent.blk b8 31 #[(.int .i64 0), (.int .i64 0), (.slice none 0 0)], Ent.blk b6 31 #[(.int .i64 a0.Boats), (.int .i64 a0.Scheme), v1], Ent.snap w0 w0.heap.size] w) (fun s_j5 => M.spec_l21Series_j5 s_l2 x2021 x2065 s_j5 = some t1099) ?_ ?_
            · refine CW.regionL ?_
              refine OW.cons (OP.val (v := (.pointer (some ⟨b2029, 2, none⟩))) rfl (x_fieldAddr (fsz := 1) 0 2 2 Try.underlying48 rfl Try_T2 rfl rfl rfl) ?_)
              refine OW.cons (OP.val (v := (.int .i64 x2021.Kind)) rfl (x_load1 Try.underlying2 rfl rfl (hL.cellB 1 rfl rfl)) ?_)
              refine OW.cons (OP.val (v := (.bool (x2021.Kind == 2))) rfl (x_eql rfl rfl) ?_)
              refine OW.cons (OP.val (v := (.bool (x2021.Kind == 2))) rfl (x_move) ?_)
              refine ifB_elim hm (fun hb2136 hm => ?_) (fun hb2136 hm => ?_)
              · refine OW.cons (OP.yes' rfl rfl hb2136 (OP.val (v := (.agg #[(.int .i64 x2065.Boat), (.int .i64 x2065.Code), (.int .i64 x2065.Time)])) rfl (x_loadN (cs := [(.int .i64 x2065.Boat), (.int .i64 x2065.Code), (.int .i64 x2065.Time)]) Try.underlying50 Try_T50 rfl rfl (hL.cellsB 0 rfl (o := 0) (l := [(.int .i64 x2065.Boat), (.int .i64 x2065.Code), (.int .i64 x2065.Time)]) (by intro j u hj; exact (by simpa using hj)))) ?_))
                obtain ⟨x2137, hx2138, hm⟩ := bndE hm
                refine OW.cons (OP.yes' rfl rfl hb2136 (OP.call rfl (x_call (vs := [(.agg #[(.int .i64 x2065.Boat), (.int .i64 x2065.Code), (.int .i64 x2065.Time)])]) Try_C70 ⟨rfl, trivial⟩) (M.spec_l26Done_ok _ x2065 hx2138) ?_))
                rintro e2139 wd2140 ⟨rfl, hF2141⟩
                refine ⟨_, rfl, ?_⟩
                have hL := hL.pushAll hF2141
                simp only [List.cons_append, List.nil_append, List.set_cons_zero, List.set_cons_succ] at hL
                refine OW.cons (OP.val (v := (.bool x2137)) rfl (x_pickT' rfl hb2136 rfl) ?_)
                refine OW.nil ?_
                exact ⟨x2137, hm, ⟨f1628, f1629, f1630, f1631, f1632, rfl, rfl, rfl, hL⟩⟩
              · refine OW.cons (OP.no' rfl rfl hb2136 rfl ?_)
                refine OW.cons (OP.no' rfl rfl hb2136 rfl ?_)
                refine OW.cons (OP.val (v := (.bool false)) rfl (x_pickF' rfl hb2136 rfl) ?_)
                refine OW.nil ?_
                exact ⟨false, hm, ⟨f1628, f1629, f1630, f1631, f1632, rfl, rfl, rfl, hL⟩⟩
            · intro s_j5 F2081 wd2082 hJ hm
              unfold M.spec_l21Series_j5 at hm
              obtain ⟨f2083, f2084, f2085, f2086, f2087, f2088, f2089, f2090, hL⟩ := hJ
              refine CW.condM (t := s_j5) f2090 hm (fun hb2091 hm => ?_) (fun hb2091 hm => ?_)
              · obtain ⟨wz2092, hL, ho2093⟩ := hL.freeze 2 rfl
                simp only [List.set_cons_zero, List.set_cons_succ] at hL
                refine CW.drawH (fun w' => Hp w0 [Ent.blk b2073 50 #[(.int .i64 x2065.Boat), (.int .i64 x2065.Code), (.int .i64 x2065.Time)], Ent.blk b2029 48 #[(.int .i64 x2021.Race), (.int .i64 x2021.Boat), (.int .i64 x2021.Kind), (.int .i64 x2021.Value)], Ent.blk b8 31 #[(.int .i64 0), (.int .i64 0), (.slice none 0 0)], Ent.blk b6 31 #[(.int .i64 a0.Boats), (.int .i64 a0.Scheme), v1], Ent.snap w0 w0.heap.size] w') Try_mixed ?_
                have hL := hL.call (Mod.drew _)
                have hS := (hL.sel [0, 1, 3, 4, 5] (by decide) rfl)
                refine DH.take 0 rfl (by kernel_rfl) (by kernel_rfl) (by kernel_rfl) rfl rfl hS (YH.val (v := v66) (fun w' hS' => x_mv f2086)) ?_
                have hS := (hL.sel [0, 1, 3, 4, 5] (by decide) rfl)
                refine DH.take 1 rfl (by kernel_rfl) (by kernel_rfl) (by kernel_rfl) rfl rfl hS (YH.val (v := (.pointer (some ⟨b2029, 0, none⟩))) (fun w' hS' => x_fieldAddr (fsz := 1) 0 0 0 Try.underlying48 rfl Try_T2 rfl f2088 rfl)) ?_
                have hS := (hL.sel [0, 1, 3, 4, 5] (by decide) rfl)
                refine DH.take 2 rfl (by kernel_rfl) (by kernel_rfl) (by kernel_rfl) rfl rfl hS (YH.val (v := (.int .i64 x2021.Race)) (fun w' hS' => x_load1 Try.underlying2 rfl rfl (hS'.cellB 1 rfl rfl))) ?_
                have hS := (hL.sel [0, 1, 3, 4, 5] (by decide) rfl)
                obtain ⟨x2115, ha2116, hm⟩ := bndE hm
                obtain ⟨hz2117, ha2125⟩ := idxE ha2116
                obtain ⟨b2118, q2119, v2120, hix2121, hs2122, hc2123, hr2124⟩ := rdN_at ho2093.1.rdL hz2117 ha2125
                refine DH.take 3 rfl (by kernel_rfl) (by kernel_rfl) (by kernel_rfl) rfl rfl hS (YH.val (v := (.pointer (some ⟨b2118, q2119, none⟩))) (fun w' hS' => x_ix Try.underlying29 Try_T46 rfl rfl hix2121)) ?_
                have hS := (hL.sel [0, 1, 3, 4, 5] (by decide) rfl)
                refine DH.take 4 rfl (by kernel_rfl) (by kernel_rfl) (by kernel_rfl) rfl rfl hS (YH.val (v := (.pointer (some ⟨b2118, q2119, none⟩))) (fun w' hS' => x_fieldAddr (fsz := 1) q2119 0 q2119 Try.underlying46 rfl Try_T44 rfl rfl rfl)) ?_
                have hS := (hL.sel [0, 1, 3, 4, 5] (by decide) rfl)
                refine DH.take 6 rfl (by kernel_rfl) (by kernel_rfl) (by kernel_rfl) rfl rfl hS (YH.val (v := (.pointer (some ⟨b2029, 1, none⟩))) (fun w' hS' => x_fieldAddr (fsz := 1) 0 1 1 Try.underlying48 rfl Try_T2 rfl f2088 rfl)) ?_
                have hS := (hL.sel [0, 1, 3, 4, 5] (by decide) rfl)
                refine DH.take 7 rfl (by kernel_rfl) (by kernel_rfl) (by kernel_rfl) rfl rfl hS (YH.val (v := (.int .i64 x2021.Boat)) (fun w' hS' => x_load1 Try.underlying2 rfl rfl (hS'.cellB 1 rfl rfl))) ?_
                have hS := (hL.sel [0, 1, 3, 4, 5] (by decide) rfl)
                refine DH.take 8 rfl (by kernel_rfl) (by kernel_rfl) (by kernel_rfl) rfl rfl hS (YH.val (v := (.pointer (some ⟨b2073, 2, none⟩))) (fun w' hS' => x_fieldAddr (fsz := 1) 0 2 2 Try.underlying50 rfl Try_T2 rfl f2089 rfl)) ?_
                have hS := (hL.sel [0, 1, 3, 4, 5] (by decide) rfl)
                refine DH.take 9 rfl (by kernel_rfl) (by kernel_rfl) (by kernel_rfl) rfl rfl hS (YH.val (v := (.int .i64 x2065.Time)) (fun w' hS' => x_load1 Try.underlying2 rfl rfl (hS'.cellB 0 rfl rfl))) ?_
                have hS := (hL.sel [0, 1, 3, 4, 5] (by decide) rfl)
                refine DH.take 10 rfl (by kernel_rfl) (by kernel_rfl) (by kernel_rfl) rfl rfl hS (YH.val (v := (.pointer (some ⟨b2029, 3, none⟩))) (fun w' hS' => x_fieldAddr (fsz := 1) 0 3 3 Try.underlying48 rfl Try_T2 rfl f2088 rfl)) ?_
                have hS := (hL.sel [0, 1, 3, 4, 5] (by decide) rfl)
                refine DH.take 11 rfl (by kernel_rfl) (by kernel_rfl) (by kernel_rfl) rfl rfl hS (YH.val (v := (.int .i64 x2021.Value)) (fun w' hS' => x_load1 Try.underlying2 rfl rfl (hS'.cellB 1 rfl rfl))) ?_
                have hS := (hL.sel [0, 1, 3, 4, 5] (by decide) rfl)
                refine DH.take 12 rfl (by kernel_rfl) (by kernel_rfl) (by kernel_rfl) rfl rfl hS (YH.val (v := (.int .i64 (w64 (x2065.Time + x2021.Value)))) (fun w' hS' => x_add rfl rfl)) ?_
                have hS := (hL.sel [0, 1, 3, 4, 5] (by decide) rfl)
                refine DH.take 13 rfl (by kernel_rfl) (by kernel_rfl) (by kernel_rfl) rfl rfl hS (YH.val (v := (.int .i64 (min 1000000000 (w64 (x2065.Time + x2021.Value))))) (fun w' hS' => x_min2 rfl rfl)) ?_
                refine DH.only 5 rfl (by kernel_rfl) (OP.val (v := v2120) rfl (x_load1 Try.underlying44 rfl rfl (hL.cellF 2 rfl hs2122 hc2123)) ?_)
                refine ⟨(hL.sel [0, 1, 3, 4, 5] (by decide) rfl), ?_⟩
                have hS := (hL.sel [0, 1, 3, 4, 5] (by decide) rfl)
                obtain ⟨x2126, ha2127, hm⟩ := bndE hm
                obtain ⟨hz2128, ha2132⟩ := idxE ha2127
                obtain ⟨b2129, q2130, hix2131⟩ := rdL_ix (hL.rdF 2 rfl hr2124) hz2128 ha2132
                refine DH.take 14 rfl (by kernel_rfl) (by kernel_rfl) (by kernel_rfl) rfl rfl hS (YH.val (v := (.pointer (some ⟨b2129, q2130, none⟩))) (fun w' hS' => x_ix Try.underlying44 Try_T50 rfl rfl hix2131)) ?_
                have hS := (hL.sel [0, 1, 3, 4, 5] (by decide) rfl)
                refine DH.take 15 rfl (by kernel_rfl) (by kernel_rfl) (by kernel_rfl) rfl rfl hS (YH.val (v := (.pointer (some ⟨b2129, q2130 + 2, none⟩))) (fun w' hS' => x_fieldAddr (fsz := 1) q2130 2 (q2130 + 2) Try.underlying50 rfl Try_T2 rfl rfl rfl)) ?_
                have hc2134 := hL.cellF 2 rfl hs2122 hc2123
                have hL := hL.thaw 2 rfl ho2093
                simp only [List.set_cons_zero, List.set_cons_succ] at hL
                refine DH.only 16 rfl (by kernel_rfl) (S_inRow (α := Finish) (x2115.Finishes.set (x2021.Boat : Int).toNat (Finish.mk x2126.Boat x2126.Code (min 1000000000 (w64 (x2065.Time + x2021.Value))))) (Race.mk (x2115.Finishes.set (x2021.Boat : Int).toNat (Finish.mk x2126.Boat x2126.Code (min 1000000000 (w64 (x2065.Time + x2021.Value)))))) rfl hL 2 rfl hix2121 ha2125 hc2134 (fun E2 S1 hL hK => S_storeX (j := 2) (Finish.mk x2126.Boat x2126.Code (min 1000000000 (w64 (x2065.Time + x2021.Value)))) hL 0 rfl Try_T2 hix2131 ha2132 rfl rfl rfl rfl rfl rfl hK) ?_)
                intro wd2133 S2135 hL
                simp only [List.set_cons_zero, List.set_cons_succ] at hL
                refine ⟨(hL.sel [0, 1, 3, 4, 5] (by decide) rfl), ?_⟩
                refine DH.done (by kernel_rfl) ?_
                have hL := hL.sel [2, 3, 4, 5] (by decide) rfl
                exact ⟨s_l2.1.set (x2021.Race : Int).toNat (Race.mk (x2115.Finishes.set (x2021.Boat : Int).toNat (Finish.mk x2126.Boat x2126.Code (min 1000000000 (w64 (x2065.Time + x2021.Value)))))), hm, ⟨S2135, f2083, f2084, f2085, f2086, f2087, hL⟩⟩
              · refine CW.skip ?_
                have hL := hL.sel [2, 3, 4, 5] (by decide) rfl
                exact ⟨s_l2.1, hm, ⟨S1098, f2083, f2084, f2085, f2086, f2087, hL⟩⟩
          · intro s_j4 F2014 wd2015 hJ hm
            unfold M.spec_l21Series_j4 at hm
            obtain ⟨S2013, f2016, f2017, f2018, f2019, f2020, hL⟩ := hJ
            exact ⟨s_j4, hm, ⟨S2013, f2016, f2017, f2018, f2019, f2020, hL⟩⟩
        · intro s_j3 F1885 wd1886 hJ hm
          unfold M.spec_l21Series_j3 at hm
          obtain ⟨S1884, f1887, f1888, f1889, f1890, f1891, hL⟩ := hJ
          refine CW.regionL ?_
          refine OW.cons (OP.val (v := (.int .i64 s_l2.2)) rfl (x_mv f1891) ?_)
          refine OW.cons (OP.val (v := (.int .i64 (w64 (s_l2.2 + 1)))) rfl (x_add rfl rfl) ?_)
          refine OW.cons (OP.val (v := (.int .i64 (w64 (s_l2.2 + 1)))) rfl (x_assign) ?_)
          refine OW.nil ?_
          obtain rfl := Option.some.inj hm
          exact ⟨_, rfl, ⟨S1884, f1887, f1888, f1889, f1890, rfl, hL⟩⟩
      · refine CW.exit ?_
        refine XJ.hit ?_
        obtain rfl := Option.some.inj hm
        exact ⟨_, rfl, ⟨S1098, f1628, f1629, f1630, f1631, f1632, hL⟩⟩
  · intro s_l1 F2142 wd2143 t68 hJ hm hr69
    unfold M.spec_l21Series_l1 at hm
    obtain ⟨v66, S67, f2144, f2145, f2146, f2147, f2148, hL⟩ := hJ
    refine CW.seq ?_
    refine CW.seq ?_
    refine CW.regionL ?_
    refine OW.cons (OP.val (v := (.int .i64 s_l1.2)) rfl (x_mv f2148) ?_)
    refine OW.cons (OP.val (v := (.pointer (some ⟨b6, 2, none⟩))) rfl (x_fieldAddr (fsz := 1) 0 2 2 Try.underlying31 rfl Try_T29 rfl f2145 rfl) ?_)
    refine OW.cons (OP.val (v := v1) rfl (x_load1 Try.underlying29 rfl rfl (hL.cellB 2 rfl rfl)) ?_)
    refine OW.cons (OP.val (v := (.int .i64 (a0.Races.length : Int))) rfl (x_lenR Try.underlying29 rfl (hL.rdS 3 rfl h2)) ?_)
    refine OW.cons (OP.val (v := (.bool (decide (s_l1.2 < (a0.Races.length : Int))))) rfl (x_lss rfl rfl) ?_)
    refine OW.nil ?_
    refine CW.condM (t := decide (s_l1.2 < (a0.Races.length : Int))) rfl hm (fun hb2149 hm => ?_) (fun hb2149 hm => ?_)
    · refine CW.skip ?_
      refine CW.seq ?_
      refine CW.block ?_
      refine CW.regionL ?_
      refine OW.cons (OP.val (v := v66) rfl (x_mv f2147) ?_)
      refine OW.cons (S_lit ([] : List Finish) hL Try.underlying44 Try_T50 rfl (by decide) (by first | (simp [Instr.fill, madeCells, Value.cells, ev, upd, Flat.enc, Flat.sz]; done) | rfl | kernel_rfl) rfl rfl ?_)
      intro wd2150 v2151 S2152 hL
      refine OW.cons (OP.val (v := (.pointer (some ⟨b6, 2, none⟩))) rfl (x_fieldAddr (fsz := 1) 0 2 2 Try.underlying31 rfl Try_T29 rfl f2145 rfl) ?_)
      refine OW.cons (OP.val (v := v1) rfl (x_load1 Try.underlying29 rfl rfl (hL.cellB 3 rfl rfl)) ?_)
      refine OW.cons (OP.val (v := (.int .i64 s_l1.2)) rfl (x_mv f2148) ?_)
      obtain ⟨x2153, ha2154, hm⟩ := bndE hm
      obtain ⟨hz2155, ha2163⟩ := idxE ha2154
      obtain ⟨b2156, q2157, v2158, hix2159, hs2160, hc2161, hr2162⟩ := rdN_at h2 hz2155 ha2163
      refine OW.cons (OP.val (v := (.pointer (some ⟨b2156, q2157, none⟩))) rfl (x_ix Try.underlying29 Try_T46 rfl rfl hix2159) ?_)
      refine OW.cons (OP.val (v := (.pointer (some ⟨b2156, q2157, none⟩))) rfl (x_fieldAddr (fsz := 1) q2157 0 q2157 Try.underlying46 rfl Try_T44 rfl rfl rfl) ?_)
      refine OW.cons (OP.val (v := v2158) rfl (x_load1 Try.underlying44 rfl rfl (hL.cellS 4 rfl hs2160 hc2161)) ?_)
      obtain ⟨hc2167, hm⟩ := chkE hm
      refine OW.cons (S_append (ys := x2153.Finishes) hL 0 rfl Try.underlying44 Try_T50 rfl rfl rfl (hL.rdS 4 rfl hr2162) hc2167 (by decide) rfl ?_)
      intro wd2164 v2165 S2166 hL
      refine OW.cons (OP.val (v := (.agg #[v2165])) rfl (x_build Try_B46 (ps := [(0, v2165)]) ⟨⟨rfl, rfl⟩, trivial⟩ (by simp [Instr.fill, cells_int, cells_bool, cells_string, cells_agg, cells_slice, cells_pointer, (rdL_cells (hL.rdO 0 rfl))])) ?_)
      refine OW.cons (S_lit1 (Race.mk (([] : List Finish) ++ x2153.Finishes)) rfl hL Try.underlying29 Try_T46 rfl rfl ?_)
      intro wd2168 v2169 S2170 hL
      obtain ⟨hc2174, hm⟩ := chkE hm
      have hL := hL.sel [1, 0, 2, 3, 4] (by decide) rfl
      refine OW.cons (S_appendN Finish hL Try.underlying29 Try_T46 rfl rfl rfl hc2174 (by decide) rfl ?_)
      intro wd2171 v2172 S2173 hL
      refine OW.cons (OP.val (v := v2172) rfl (x_assign) ?_)
      refine OW.nil ?_
      refine CW.regionL ?_
      refine OW.cons (OP.val (v := (.int .i64 s_l1.2)) rfl (x_mv f2148) ?_)
      refine OW.cons (OP.val (v := (.int .i64 (w64 (s_l1.2 + 1)))) rfl (x_add rfl rfl) ?_)
      refine OW.cons (OP.val (v := (.int .i64 (w64 (s_l1.2 + 1)))) rfl (x_assign) ?_)
      refine OW.nil ?_
      obtain rfl := Option.some.inj hm
      exact ⟨_, rfl, ⟨v2172, S2173, f2144, f2145, f2146, rfl, rfl, hL⟩⟩
    · refine CW.exit ?_
      refine XJ.hit ?_
      obtain rfl := Option.some.inj hm
      exact ⟨_, rfl, ⟨v66, S67, f2144, f2145, f2146, f2147, f2148, hL⟩⟩

theorem M.spec_PenalizedSeries_ok (w0 : World) (a0 : Series) {v1 : Value} (h2 : rdL (· < w0.heap.size) w0 v1 a0.Races) (a1 : List Penalty) {v3 : Value} (h4 : rdL (· < w0.heap.size) w0 v3 a1) {r : Series × Int} (hm : M.spec_PenalizedSeries a0 a1 = some r) :
    Calls Try.prog 19 #[(.agg #[(.int .i64 a0.Boats), (.int .i64 a0.Scheme), v1]), v3] w0 fun e w' => ∃ (rv0 : Value) (rS0 : Nat → Prop), e = .returned (.tuple #[(.agg #[(.int .i64 r.1.Boats), (.int .i64 r.1.Scheme), rv0]), (.int .i64 r.2)]) ∧ Fresh w0 w' [Ent.own 46 rS0 rv0 r.1.Races] := by
  unfold M.spec_PenalizedSeries at hm
  refine calls_CW (args := [(.agg #[(.int .i64 a0.Boats), (.int .i64 a0.Scheme), v1]), v3]) Try.func19 rfl rfl rfl ?_
  have hL := Hp.start w0
  refine CW.seq ?_
  refine CW.regionL ?_
  refine OW.cons (S_box (cs := #[(.int .i64 a0.Boats), (.int .i64 a0.Scheme), v1]) hL rfl rfl rfl ?_)
  intro wd5 b6 hL
  refine OW.cons (S_alloc (cs := #[(.int .i64 0), (.int .i64 0), (.slice none 0 0)]) hL Try_T31 rfl rfl ?_)
  intro wd7 b8 hL
  refine OW.cons (OP.val (v := (.int .i64 0)) rfl (x_assign) ?_)
  refine OW.nil ?_
  refine CW.seq ?_
  refine CW.regionL ?_
  refine OW.cons (OP.val (v := (.agg #[(.int .i64 a0.Boats), (.int .i64 a0.Scheme), v1])) rfl (x_loadN (cs := [(.int .i64 a0.Boats), (.int .i64 a0.Scheme), v1]) Try.underlying31 Try_T31 rfl rfl (hL.cellsB 1 rfl (o := 0) (l := [(.int .i64 a0.Boats), (.int .i64 a0.Scheme), v1]) (by intro j u hj; exact (by simpa using hj)))) ?_)
  refine OW.cons (OP.val (v := v3) rfl (x_move) ?_)
  obtain ⟨x9, hx10, hm⟩ := bndE hm
  refine OW.cons (OP.call rfl (x_call (vs := [(.agg #[(.int .i64 a0.Boats), (.int .i64 a0.Scheme), v1]), v3]) Try_C45 ⟨rfl, rfl, trivial⟩) (M.spec_l21Result_ok _ a0 (hL.rdS 2 rfl h2) a1 (hL.rdS 2 rfl h4) hx10) ?_)
  rintro e11 wd12 ⟨rfl, hF13⟩
  refine ⟨_, rfl, ?_⟩
  have hL := hL.pushAll hF13
  simp only [List.cons_append, List.nil_append, List.set_cons_zero, List.set_cons_succ] at hL
  refine OW.cons (OP.val (v := (.int .i64 x9)) rfl (x_assign) ?_)
  refine OW.nil ?_
  refine CW.seq ?_
  refine CW.seq ?_
  refine CW.regionL ?_
  refine OW.cons (OP.val (v := (.int .i64 x9)) rfl (x_move) ?_)
  refine OW.cons (OP.val (v := (.bool (x9 != 0))) rfl (x_neq rfl rfl) ?_)
  refine OW.nil ?_
  refine CW.condM (t := x9 != 0) rfl hm (fun hb14 hm => ?_) (fun hb14 hm => ?_)
  · refine CW.seq ?_
    refine CW.regionL ?_
    refine OW.cons (OP.val (v := (.agg #[(.int .i64 0), (.int .i64 0), (.slice none 0 0)])) rfl (x_build Try_B31 (ps := []) trivial (by simp [Instr.fill, cells_int, cells_bool, cells_string, cells_agg, cells_slice, cells_pointer])) ?_)
    refine OW.cons (OP.val (v := (.int .i64 x9)) rfl (x_move) ?_)
    refine OW.cons (S_storeN (l := [(.int .i64 0), (.int .i64 0), (.slice none 0 0)]) (cs' := #[(.int .i64 0), (.int .i64 0), (.slice none 0 0)]) hL 0 rfl Try_T31 rfl rfl (List.forall_mem_cons.2 ⟨rfl, (List.forall_mem_cons.2 ⟨rfl, (List.forall_mem_cons.2 ⟨rfl, (fun _ h => by cases h)⟩)⟩)⟩) rfl (Nat.le_of_ble_eq_true rfl) rfl ?_)
    intro wd15 hL
    refine OW.cons (OP.val (v := (.int .i64 x9)) rfl (x_assign) ?_)
    refine OW.nil ?_
    refine CW.ret ?_
    have hL := hL.pushNil Race 46
    obtain rfl := Option.some.inj hm
    exact RRct rfl rfl (run_loadBlk Try.underlying31 Try_T31 (hL.get 1 rfl) rfl) rfl ⟨(.slice none 0 0), None_, rfl, hL.fresh 3 rfl [0] (by decide) (by decide) rfl⟩
  · refine CW.skip ?_
    refine CW.seq ?_
    refine CW.regionL ?_
    refine OW.cons (OP.val (v := (.agg #[(.int .i64 a0.Boats), (.int .i64 a0.Scheme), v1])) rfl (x_loadN (cs := [(.int .i64 a0.Boats), (.int .i64 a0.Scheme), v1]) Try.underlying31 Try_T31 rfl rfl (hL.cellsB 1 rfl (o := 0) (l := [(.int .i64 a0.Boats), (.int .i64 a0.Scheme), v1]) (by intro j u hj; exact (by simpa using hj)))) ?_)
    refine OW.cons (OP.val (v := v3) rfl (x_move) ?_)
    obtain ⟨x16, hx17, hm⟩ := bndE hm
    refine OW.cons (OP.call rfl (x_call (vs := [(.agg #[(.int .i64 a0.Boats), (.int .i64 a0.Scheme), v1]), v3]) Try_C46 ⟨rfl, rfl, trivial⟩) (M.spec_l21Series_ok _ a0 (hL.rdS 2 rfl h2) a1 (hL.rdS 2 rfl h4) hx17) ?_)
    rintro e20 wd21 ⟨v19, S18, rfl, hF22⟩
    refine ⟨_, rfl, ?_⟩
    have hL := hL.pushAll hF22
    simp only [List.cons_append, List.nil_append, List.set_cons_zero, List.set_cons_succ] at hL
    refine OW.cons (S_storeN (l := [(.int .i64 x16.Boats), (.int .i64 x16.Scheme), v19]) (cs' := #[(.int .i64 x16.Boats), (.int .i64 x16.Scheme), v19]) hL 1 rfl Try_T31 rfl rfl (List.forall_mem_cons.2 ⟨rfl, (List.forall_mem_cons.2 ⟨rfl, (List.forall_mem_cons.2 ⟨rdL_one (hL.rdO 0 rfl), (fun _ h => by cases h)⟩)⟩)⟩) rfl (Nat.le_of_ble_eq_true rfl) rfl ?_)
    intro wd23 hL
    refine OW.cons (OP.val (v := (.int .i64 0)) rfl (x_assign) ?_)
    refine OW.nil ?_
    refine CW.ret ?_
    obtain rfl := Option.some.inj hm
    exact RRct rfl rfl (run_loadBlk Try.underlying31 Try_T31 (hL.get 1 rfl) rfl) rfl ⟨v19, S18, rfl, hL.fresh 3 rfl [0] (by decide) (by decide) rfl⟩

theorem M.laws_markFinishS_ok (w0 : World) {E4 : TypeId} {S2 : Nat → Prop} {v1 : Value} (a0 : List Finish) (he3 : (Ent.own E4 S2 v1 a0).H w0) (a1 : Int) {r : (Int) × (List Finish)} (hm : M.laws_markFinishS a0 a1 = some r) :
    Calls Try.prog 72 #[v1, (.int .i64 a1)] w0 fun e w' => ∃ (ioS : Nat → Prop), e = .returned (.int .i64 r.1) ∧ Mut w0 w' (Ent.own E4 S2 v1 a0).S [Ent.own E4 ioS v1 r.2] := by
  unfold M.laws_markFinishS at hm
  refine calls_CW (args := [v1, (.int .i64 a1)]) Try.func72 rfl rfl rfl ?_
  have hL := Hp.startIO he3
  refine CW.seq ?_
  refine CW.regionL ?_
  refine OW.cons (OP.val (v := (.int .i64 0)) rfl (x_assign) ?_)
  refine OW.nil ?_
  refine CW.seq ?_
  refine CW.seq ?_
  refine CW.regionL ?_
  refine OW.cons (OP.val (v := (.int .i64 0)) rfl (x_assign) ?_)
  refine OW.nil ?_
  obtain ⟨o59, ho60, hm⟩ := bndE hm
  refine CW.loopB (fun (s_l1 : (List Finish) × Int × Int) (F : Fr) (w : World) => ∃ (S56 : Nat → Prop), F 0 = v1 ∧ F 1 = (.int .i64 s_l1.2.1) ∧ F 5 = (.int .i64 s_l1.2.2) ∧ Hp w0 [Ent.own E4 S56 v1 s_l1.1, Ent.frz w0 (Ent.own E4 S2 v1 a0).S] w) (fun o => outc o (fun x => some x) (fun s => M.laws_markFinishS_a1 s) = some r) ho60 hm ⟨S2, rfl, rfl, rfl, hL⟩ ?_ ?_
  · intro s_l1 F61 wd62 hJ hm
    have hm := outcE hm
    have hm : M.laws_markFinishS_a1 s_l1 = some r := hm
    unfold M.laws_markFinishS_a1 at hm
    obtain ⟨S56, f63, f64, f65, hL⟩ := hJ
    refine CW.seq ?_
    refine CW.regionL ?_
    refine OW.cons (OP.val (v := (.int .i64 s_l1.2.1)) rfl (x_mv f64) ?_)
    refine OW.cons (OP.val (v := (.int .i64 s_l1.2.1)) rfl (x_assign) ?_)
    refine OW.nil ?_
    refine CW.ret ?_
    obtain rfl := Option.some.inj hm
    exact RR1 rfl rfl ⟨S56, rfl, hL.mutOut 1 rfl [0] (by decide) (by decide) rfl⟩
  · intro s_l1 F66 wd67 t57 hJ hm hr58
    unfold M.laws_markFinishS_l1 at hm
    obtain ⟨S56, f68, f69, f70, hL⟩ := hJ
    refine CW.seq ?_
    refine CW.seq ?_
    refine CW.regionL ?_
    refine OW.cons (OP.val (v := (.int .i64 s_l1.2.2)) rfl (x_mv f70) ?_)
    refine OW.cons (OP.val (v := v1) rfl (x_mv f68) ?_)
    refine OW.cons (OP.val (v := (.int .i64 (s_l1.1.length : Int))) rfl (x_lenR Try.underlying44 rfl (hL.rdO 0 rfl)) ?_)
    refine OW.cons (OP.val (v := (.bool (decide (s_l1.2.2 < (s_l1.1.length : Int))))) rfl (x_lss rfl rfl) ?_)
    refine OW.nil ?_
    refine CW.condM (t := decide (s_l1.2.2 < (s_l1.1.length : Int))) rfl hm (fun hb71 hm => ?_) (fun hb71 hm => ?_)
    · refine CW.skip ?_
      refine CW.seq ?_
      refine CW.block ?_
      refine CW.seq ?_
      refine CW.regionL ?_
      refine OW.cons (OP.val (v := v1) rfl (x_mv f68) ?_)
      refine OW.cons (OP.val (v := (.int .i64 s_l1.2.2)) rfl (x_mv f70) ?_)
      refine OW.cons (OP.val (v := (.int .i64 s_l1.2.1)) rfl (x_mv f69) ?_)
      obtain ⟨x72, ha73, hm⟩ := bndE hm
      obtain ⟨hz74, ha78⟩ := idxE ha73
      obtain ⟨b75, q76, hix77⟩ := rdL_ix (hL.rdO 0 rfl) hz74 ha78
      refine OW.cons (OP.val (v := (.pointer (some ⟨b75, q76, none⟩))) rfl (x_ix Try.underlying44 Try_T50 rfl rfl hix77) ?_)
      refine OW.cons (OP.val (v := (.pointer (some ⟨b75, q76, none⟩))) rfl (x_fieldAddr (fsz := 1) q76 0 q76 Try.underlying50 rfl Try_T2 rfl rfl rfl) ?_)
      refine OW.cons (S_storeX (j := 0) (Finish.mk s_l1.2.1 x72.Code x72.Time) hL 0 rfl Try_T2 hix77 ha78 rfl rfl rfl rfl rfl rfl ?_)
      intro wd79 hL
      refine OW.nil ?_
      refine CW.seq ?_
      refine CW.regionL ?_
      refine OW.cons (OP.val (v := (.int .i64 s_l1.2.1)) rfl (x_mv f69) ?_)
      refine OW.cons (OP.val (v := (.int .i64 (w64 (s_l1.2.1 + 1)))) rfl (x_add rfl rfl) ?_)
      refine OW.cons (OP.val (v := (.int .i64 (w64 (s_l1.2.1 + 1)))) rfl (x_assign) ?_)
      refine OW.nil ?_
      refine CW.seq ?_
      refine CW.regionL ?_
      refine OW.cons (OP.val (v := v1) rfl (x_mv f68) ?_)
      refine OW.cons (OP.val (v := (.int .i64 s_l1.2.2)) rfl (x_mv f70) ?_)
      refine OW.cons (OP.val (v := (.int .i64 (w64 (s_l1.2.1 + 1)))) rfl (x_move) ?_)
      obtain ⟨x80, ha81, hm⟩ := bndE hm
      obtain ⟨hz82, ha86⟩ := idxE ha81
      obtain ⟨b83, q84, hix85⟩ := rdL_ix (hL.rdO 0 rfl) hz82 ha86
      refine OW.cons (OP.val (v := (.pointer (some ⟨b83, q84, none⟩))) rfl (x_ix Try.underlying44 Try_T50 rfl rfl hix85) ?_)
      refine OW.cons (OP.val (v := (.pointer (some ⟨b83, q84 + 1, none⟩))) rfl (x_fieldAddr (fsz := 1) q84 1 (q84 + 1) Try.underlying50 rfl Try_T2 rfl rfl rfl) ?_)
      refine OW.cons (S_storeX (j := 1) (Finish.mk x80.Boat (w64 (s_l1.2.1 + 1)) x80.Time) hL 0 rfl Try_T2 hix85 ha86 rfl rfl rfl rfl rfl rfl ?_)
      intro wd87 hL
      refine OW.nil ?_
      refine CW.seq ?_
      refine CW.regionL ?_
      refine OW.cons (OP.val (v := (.int .i64 (w64 (s_l1.2.1 + 1)))) rfl (x_move) ?_)
      refine OW.cons (OP.val (v := (.int .i64 (w64 ((w64 (s_l1.2.1 + 1)) + 1)))) rfl (x_add rfl rfl) ?_)
      refine OW.cons (OP.val (v := (.int .i64 (w64 ((w64 (s_l1.2.1 + 1)) + 1)))) rfl (x_assign) ?_)
      refine OW.nil ?_
      refine CW.seq ?_
      refine CW.regionL ?_
      refine OW.cons (OP.val (v := v1) rfl (x_mv f68) ?_)
      refine OW.cons (OP.val (v := (.int .i64 s_l1.2.2)) rfl (x_mv f70) ?_)
      refine OW.cons (OP.val (v := (.int .i64 (w64 ((w64 (s_l1.2.1 + 1)) + 1)))) rfl (x_move) ?_)
      obtain ⟨x88, ha89, hm⟩ := bndE hm
      obtain ⟨hz90, ha94⟩ := idxE ha89
      obtain ⟨b91, q92, hix93⟩ := rdL_ix (hL.rdO 0 rfl) hz90 ha94
      refine OW.cons (OP.val (v := (.pointer (some ⟨b91, q92, none⟩))) rfl (x_ix Try.underlying44 Try_T50 rfl rfl hix93) ?_)
      refine OW.cons (OP.val (v := (.pointer (some ⟨b91, q92 + 2, none⟩))) rfl (x_fieldAddr (fsz := 1) q92 2 (q92 + 2) Try.underlying50 rfl Try_T2 rfl rfl rfl) ?_)
      refine OW.cons (S_storeX (j := 2) (Finish.mk x88.Boat x88.Code (w64 ((w64 (s_l1.2.1 + 1)) + 1))) hL 0 rfl Try_T2 hix93 ha94 rfl rfl rfl rfl rfl rfl ?_)
      intro wd95 hL
      refine OW.nil ?_
      refine CW.regionL ?_
      refine OW.cons (OP.val (v := (.int .i64 (w64 ((w64 (s_l1.2.1 + 1)) + 1)))) rfl (x_move) ?_)
      refine OW.cons (OP.val (v := (.int .i64 (w64 ((w64 ((w64 (s_l1.2.1 + 1)) + 1)) + 1)))) rfl (x_add rfl rfl) ?_)
      refine OW.cons (OP.val (v := (.int .i64 (w64 ((w64 ((w64 (s_l1.2.1 + 1)) + 1)) + 1)))) rfl (x_assign) ?_)
      refine OW.nil ?_
      refine CW.regionL ?_
      refine OW.cons (OP.val (v := (.int .i64 s_l1.2.2)) rfl (x_mv f70) ?_)
      refine OW.cons (OP.val (v := (.int .i64 (w64 (s_l1.2.2 + 1)))) rfl (x_add rfl rfl) ?_)
      refine OW.cons (OP.val (v := (.int .i64 (w64 (s_l1.2.2 + 1)))) rfl (x_assign) ?_)
      refine OW.nil ?_
      obtain rfl := Option.some.inj hm
      exact ⟨_, rfl, ⟨S56, f68, rfl, rfl, hL⟩⟩
    · refine CW.exit ?_
      refine XJ.hit ?_
      obtain rfl := Option.some.inj hm
      exact ⟨_, rfl, ⟨S56, f68, f69, f70, hL⟩⟩

theorem M.laws_markRaceS_ok (w0 : World) {E4 : TypeId} {S2 : Nat → Prop} {v1 : Value} (a0 : List Race) (he3 : (Ent.own E4 S2 v1 a0).H w0) (a1 : Int) {r : (Int) × (List Race)} (hm : M.laws_markRaceS a0 a1 = some r) :
    Calls Try.prog 51 #[v1, (.int .i64 a1)] w0 fun e w' => ∃ (ioS : Nat → Prop), e = .returned (.int .i64 r.1) ∧ Mut w0 w' (Ent.own E4 S2 v1 a0).S [Ent.own E4 ioS v1 r.2] := by
  unfold M.laws_markRaceS at hm
  refine calls_CW (args := [v1, (.int .i64 a1)]) Try.func51 rfl rfl rfl ?_
  have hL := Hp.startIO he3
  refine CW.seq ?_
  refine CW.regionL ?_
  refine OW.cons (OP.val (v := (.int .i64 0)) rfl (x_assign) ?_)
  refine OW.nil ?_
  refine CW.seq ?_
  refine CW.seq ?_
  refine CW.regionL ?_
  refine OW.cons (OP.val (v := (.int .i64 0)) rfl (x_assign) ?_)
  refine OW.nil ?_
  obtain ⟨o61, ho62, hm⟩ := bndE hm
  refine CW.loopB (fun (s_l1 : (List Race) × Int × Int) (F : Fr) (w : World) => ∃ (S58 : Nat → Prop), F 0 = v1 ∧ F 1 = (.int .i64 s_l1.2.1) ∧ F 5 = (.int .i64 s_l1.2.2) ∧ Hp w0 [Ent.own E4 S58 v1 s_l1.1, Ent.frz w0 (Ent.own E4 S2 v1 a0).S] w) (fun o => outc o (fun x => some x) (fun s => M.laws_markRaceS_a1 s) = some r) ho62 hm ⟨S2, rfl, rfl, rfl, hL⟩ ?_ ?_
  · intro s_l1 F63 wd64 hJ hm
    have hm := outcE hm
    have hm : M.laws_markRaceS_a1 s_l1 = some r := hm
    unfold M.laws_markRaceS_a1 at hm
    obtain ⟨S58, f65, f66, f67, hL⟩ := hJ
    refine CW.seq ?_
    refine CW.regionL ?_
    refine OW.cons (OP.val (v := (.int .i64 s_l1.2.1)) rfl (x_mv f66) ?_)
    refine OW.cons (OP.val (v := (.int .i64 s_l1.2.1)) rfl (x_assign) ?_)
    refine OW.nil ?_
    refine CW.ret ?_
    obtain rfl := Option.some.inj hm
    exact RR1 rfl rfl ⟨S58, rfl, hL.mutOut 1 rfl [0] (by decide) (by decide) rfl⟩
  · intro s_l1 F68 wd69 t59 hJ hm hr60
    unfold M.laws_markRaceS_l1 at hm
    obtain ⟨S58, f70, f71, f72, hL⟩ := hJ
    refine CW.seq ?_
    refine CW.seq ?_
    refine CW.regionL ?_
    refine OW.cons (OP.val (v := (.int .i64 s_l1.2.2)) rfl (x_mv f72) ?_)
    refine OW.cons (OP.val (v := v1) rfl (x_mv f70) ?_)
    refine OW.cons (OP.val (v := (.int .i64 (s_l1.1.length : Int))) rfl (x_lenR Try.underlying29 rfl (hL.rdO 0 rfl)) ?_)
    refine OW.cons (OP.val (v := (.bool (decide (s_l1.2.2 < (s_l1.1.length : Int))))) rfl (x_lss rfl rfl) ?_)
    refine OW.nil ?_
    refine CW.condM (t := decide (s_l1.2.2 < (s_l1.1.length : Int))) rfl hm (fun hb73 hm => ?_) (fun hb73 hm => ?_)
    · refine CW.skip ?_
      refine CW.seq ?_
      refine CW.block ?_
      refine CW.regionL ?_
      refine OW.cons (OP.val (v := v1) rfl (x_mv f70) ?_)
      refine OW.cons (OP.val (v := (.int .i64 s_l1.2.2)) rfl (x_mv f72) ?_)
      obtain ⟨wz74, hL, ho75⟩ := hL.freeze 0 rfl
      simp only [List.set_cons_zero, List.set_cons_succ] at hL
      obtain ⟨x76, ha77, hm⟩ := bndE hm
      obtain ⟨hz78, ha86⟩ := idxE ha77
      obtain ⟨b79, q80, v81, hix82, hs83, hc84, hr85⟩ := rdN_at ho75.1.rdL hz78 ha86
      refine OW.cons (OP.val (v := (.pointer (some ⟨b79, q80, none⟩))) rfl (x_ix Try.underlying29 Try_T46 rfl rfl hix82) ?_)
      refine OW.cons (OP.val (v := (.pointer (some ⟨b79, q80, none⟩))) rfl (x_fieldAddr (fsz := 1) q80 0 q80 Try.underlying46 rfl Try_T44 rfl rfl rfl) ?_)
      refine OW.cons (OP.val (v := v81) rfl (x_load1 Try.underlying44 rfl rfl (hL.cellF 0 rfl hs83 hc84)) ?_)
      refine OW.cons (OP.val (v := (.int .i64 s_l1.2.1)) rfl (x_mv f71) ?_)
      have hc87 := hL.cellF 0 rfl hs83 hc84
      have hL := hL.thaw 0 rfl ho75
      simp only [List.set_cons_zero, List.set_cons_succ] at hL
      obtain ⟨E88, S89, hp90, hb91⟩ := hL.partR (α := Finish) 0 rfl hix82 ha86 hc87
      obtain ⟨x92, hx93, hm⟩ := bndE hm
      refine OW.cons (OP.call rfl (x_call (vs := [v81, (.int .i64 s_l1.2.1)]) Try_C72 ⟨rfl, rfl, trivial⟩) (M.laws_markFinishS_ok _ x76.Finishes hp90 s_l1.2.1 hx93) ?_)
      rintro e94 wd95 ⟨S97, rfl, hF96⟩
      refine ⟨_, rfl, ?_⟩
      obtain ⟨S98, hL⟩ := hb91 _ _ _ _ (Race.mk x92.2) hF96 rfl
      simp only [List.nil_append, List.set_cons_zero, List.set_cons_succ] at hL
      refine OW.cons (OP.val (v := (.int .i64 x92.1)) rfl (x_assign) ?_)
      refine OW.nil ?_
      refine CW.regionL ?_
      refine OW.cons (OP.val (v := (.int .i64 s_l1.2.2)) rfl (x_mv f72) ?_)
      refine OW.cons (OP.val (v := (.int .i64 (w64 (s_l1.2.2 + 1)))) rfl (x_add rfl rfl) ?_)
      refine OW.cons (OP.val (v := (.int .i64 (w64 (s_l1.2.2 + 1)))) rfl (x_assign) ?_)
      refine OW.nil ?_
      obtain rfl := Option.some.inj hm
      exact ⟨_, rfl, ⟨S98, f70, rfl, rfl, hL⟩⟩
    · refine CW.exit ?_
      refine XJ.hit ?_
      obtain rfl := Option.some.inj hm
      exact ⟨_, rfl, ⟨S58, f70, f71, f72, hL⟩⟩

theorem M.laws_markSeries_ok (w0 : World) {E3 : TypeId} {S2 : Nat → Prop} {v1 : Value} (a0 : Series) (he4 : (Ent.own E3 S2 v1 a0.Races).H w0) (a1 : Int) {r : (Int) × Series} (hm : M.laws_markSeries a0 a1 = some r) :
    Calls Try.prog 22 #[(.agg #[(.int .i64 a0.Boats), (.int .i64 a0.Scheme), v1]), (.int .i64 a1)] w0 fun e w' => ∃ (ioS0 : Nat → Prop), e = .returned (.int .i64 r.1) ∧ Mut w0 w' (Ent.own E3 S2 v1 a0.Races).S [(Ent.own E3 ioS0 v1 r.2.Races)] := by
  unfold M.laws_markSeries at hm
  refine calls_CW (args := [(.agg #[(.int .i64 a0.Boats), (.int .i64 a0.Scheme), v1]), (.int .i64 a1)]) Try.func22 rfl rfl rfl ?_
  have hL := Hp.startIO he4
  refine CW.seq ?_
  refine CW.regionL ?_
  refine OW.cons (S_box (cs := #[(.int .i64 a0.Boats), (.int .i64 a0.Scheme), v1]) hL rfl rfl rfl ?_)
  intro wd5 b6 hL
  refine OW.cons (OP.val (v := (.int .i64 0)) rfl (x_assign) ?_)
  refine OW.nil ?_
  refine CW.seq ?_
  refine CW.regionL ?_
  refine OW.cons (OP.val (v := (.pointer (some ⟨b6, 2, none⟩))) rfl (x_fieldAddr (fsz := 1) 0 2 2 Try.underlying31 rfl Try_T29 rfl rfl rfl) ?_)
  refine OW.cons (OP.val (v := v1) rfl (x_load1 Try.underlying29 rfl rfl (hL.cellB 0 rfl rfl)) ?_)
  refine OW.cons (OP.val (v := (.int .i64 a1)) rfl (x_move) ?_)
  obtain ⟨x7, hx8, hm⟩ := bndE hm
  refine OW.cons (OP.call rfl (x_call (vs := [v1, (.int .i64 a1)]) Try_C51 ⟨rfl, rfl, trivial⟩) (M.laws_markRaceS_ok _ a0.Races (hL.get 1 rfl) a1 hx8) ?_)
  rintro e9 wd10 ⟨S12, rfl, hF11⟩
  refine ⟨_, rfl, ?_⟩
  have hL := hL.mut 1 rfl hF11
  simp only [List.cons_append, List.nil_append, List.set_cons_zero, List.set_cons_succ] at hL
  refine OW.cons (OP.val (v := (.int .i64 x7.1)) rfl (x_assign) ?_)
  refine OW.nil ?_
  refine CW.seq ?_
  refine CW.regionL ?_
  refine OW.cons (OP.val (v := (.int .i64 x7.1)) rfl (x_move) ?_)
  refine OW.cons (OP.val (v := (.int .i64 x7.1)) rfl (x_assign) ?_)
  refine OW.nil ?_
  refine CW.ret ?_
  obtain rfl := Option.some.inj hm
  exact RR1 rfl rfl ⟨S12, rfl, hL.mutOut 2 rfl [1] (by decide) (by decide) rfl⟩

theorem M.laws_markPenaltyS_ok (w0 : World) {E4 : TypeId} {S2 : Nat → Prop} {v1 : Value} (a0 : List Penalty) (he3 : (Ent.own E4 S2 v1 a0).H w0) (a1 : Int) {r : (Int) × (List Penalty)} (hm : M.laws_markPenaltyS a0 a1 = some r) :
    Calls Try.prog 23 #[v1, (.int .i64 a1)] w0 fun e w' => ∃ (ioS : Nat → Prop), e = .returned (.int .i64 r.1) ∧ Mut w0 w' (Ent.own E4 S2 v1 a0).S [Ent.own E4 ioS v1 r.2] := by
  unfold M.laws_markPenaltyS at hm
  refine calls_CW (args := [v1, (.int .i64 a1)]) Try.func23 rfl rfl rfl ?_
  have hL := Hp.startIO he3
  refine CW.seq ?_
  refine CW.regionL ?_
  refine OW.cons (OP.val (v := (.int .i64 0)) rfl (x_assign) ?_)
  refine OW.nil ?_
  refine CW.seq ?_
  refine CW.seq ?_
  refine CW.regionL ?_
  refine OW.cons (OP.val (v := (.int .i64 0)) rfl (x_assign) ?_)
  refine OW.nil ?_
  obtain ⟨o75, ho76, hm⟩ := bndE hm
  refine CW.loopB (fun (s_l1 : (List Penalty) × Int × Int) (F : Fr) (w : World) => ∃ (S72 : Nat → Prop), F 0 = v1 ∧ F 1 = (.int .i64 s_l1.2.1) ∧ F 5 = (.int .i64 s_l1.2.2) ∧ Hp w0 [Ent.own E4 S72 v1 s_l1.1, Ent.frz w0 (Ent.own E4 S2 v1 a0).S] w) (fun o => outc o (fun x => some x) (fun s => M.laws_markPenaltyS_a1 s) = some r) ho76 hm ⟨S2, rfl, rfl, rfl, hL⟩ ?_ ?_
  · intro s_l1 F77 wd78 hJ hm
    have hm := outcE hm
    have hm : M.laws_markPenaltyS_a1 s_l1 = some r := hm
    unfold M.laws_markPenaltyS_a1 at hm
    obtain ⟨S72, f79, f80, f81, hL⟩ := hJ
    refine CW.seq ?_
    refine CW.regionL ?_
    refine OW.cons (OP.val (v := (.int .i64 s_l1.2.1)) rfl (x_mv f80) ?_)
    refine OW.cons (OP.val (v := (.int .i64 s_l1.2.1)) rfl (x_assign) ?_)
    refine OW.nil ?_
    refine CW.ret ?_
    obtain rfl := Option.some.inj hm
    exact RR1 rfl rfl ⟨S72, rfl, hL.mutOut 1 rfl [0] (by decide) (by decide) rfl⟩
  · intro s_l1 F82 wd83 t73 hJ hm hr74
    unfold M.laws_markPenaltyS_l1 at hm
    obtain ⟨S72, f84, f85, f86, hL⟩ := hJ
    refine CW.seq ?_
    refine CW.seq ?_
    refine CW.regionL ?_
    refine OW.cons (OP.val (v := (.int .i64 s_l1.2.2)) rfl (x_mv f86) ?_)
    refine OW.cons (OP.val (v := v1) rfl (x_mv f84) ?_)
    refine OW.cons (OP.val (v := (.int .i64 (s_l1.1.length : Int))) rfl (x_lenR Try.underlying33 rfl (hL.rdO 0 rfl)) ?_)
    refine OW.cons (OP.val (v := (.bool (decide (s_l1.2.2 < (s_l1.1.length : Int))))) rfl (x_lss rfl rfl) ?_)
    refine OW.nil ?_
    refine CW.condM (t := decide (s_l1.2.2 < (s_l1.1.length : Int))) rfl hm (fun hb87 hm => ?_) (fun hb87 hm => ?_)
    · refine CW.skip ?_
      refine CW.seq ?_
      refine CW.block ?_
      refine CW.seq ?_
      refine CW.regionL ?_
      refine OW.cons (OP.val (v := v1) rfl (x_mv f84) ?_)
      refine OW.cons (OP.val (v := (.int .i64 s_l1.2.2)) rfl (x_mv f86) ?_)
      refine OW.cons (OP.val (v := (.int .i64 s_l1.2.1)) rfl (x_mv f85) ?_)
      obtain ⟨x88, ha89, hm⟩ := bndE hm
      obtain ⟨hz90, ha94⟩ := idxE ha89
      obtain ⟨b91, q92, hix93⟩ := rdL_ix (hL.rdO 0 rfl) hz90 ha94
      refine OW.cons (OP.val (v := (.pointer (some ⟨b91, q92, none⟩))) rfl (x_ix Try.underlying33 Try_T48 rfl rfl hix93) ?_)
      refine OW.cons (OP.val (v := (.pointer (some ⟨b91, q92, none⟩))) rfl (x_fieldAddr (fsz := 1) q92 0 q92 Try.underlying48 rfl Try_T2 rfl rfl rfl) ?_)
      refine OW.cons (S_storeX (j := 0) (Penalty.mk s_l1.2.1 x88.Boat x88.Kind x88.Value) hL 0 rfl Try_T2 hix93 ha94 rfl rfl rfl rfl rfl rfl ?_)
      intro wd95 hL
      refine OW.nil ?_
      refine CW.seq ?_
      refine CW.regionL ?_
      refine OW.cons (OP.val (v := (.int .i64 s_l1.2.1)) rfl (x_mv f85) ?_)
      refine OW.cons (OP.val (v := (.int .i64 (w64 (s_l1.2.1 + 1)))) rfl (x_add rfl rfl) ?_)
      refine OW.cons (OP.val (v := (.int .i64 (w64 (s_l1.2.1 + 1)))) rfl (x_assign) ?_)
      refine OW.nil ?_
      refine CW.seq ?_
      refine CW.regionL ?_
      refine OW.cons (OP.val (v := v1) rfl (x_mv f84) ?_)
      refine OW.cons (OP.val (v := (.int .i64 s_l1.2.2)) rfl (x_mv f86) ?_)
      refine OW.cons (OP.val (v := (.int .i64 (w64 (s_l1.2.1 + 1)))) rfl (x_move) ?_)
      obtain ⟨x96, ha97, hm⟩ := bndE hm
      obtain ⟨hz98, ha102⟩ := idxE ha97
      obtain ⟨b99, q100, hix101⟩ := rdL_ix (hL.rdO 0 rfl) hz98 ha102
      refine OW.cons (OP.val (v := (.pointer (some ⟨b99, q100, none⟩))) rfl (x_ix Try.underlying33 Try_T48 rfl rfl hix101) ?_)
      refine OW.cons (OP.val (v := (.pointer (some ⟨b99, q100 + 1, none⟩))) rfl (x_fieldAddr (fsz := 1) q100 1 (q100 + 1) Try.underlying48 rfl Try_T2 rfl rfl rfl) ?_)
      refine OW.cons (S_storeX (j := 1) (Penalty.mk x96.Race (w64 (s_l1.2.1 + 1)) x96.Kind x96.Value) hL 0 rfl Try_T2 hix101 ha102 rfl rfl rfl rfl rfl rfl ?_)
      intro wd103 hL
      refine OW.nil ?_
      refine CW.seq ?_
      refine CW.regionL ?_
      refine OW.cons (OP.val (v := (.int .i64 (w64 (s_l1.2.1 + 1)))) rfl (x_move) ?_)
      refine OW.cons (OP.val (v := (.int .i64 (w64 ((w64 (s_l1.2.1 + 1)) + 1)))) rfl (x_add rfl rfl) ?_)
      refine OW.cons (OP.val (v := (.int .i64 (w64 ((w64 (s_l1.2.1 + 1)) + 1)))) rfl (x_assign) ?_)
      refine OW.nil ?_
      refine CW.seq ?_
      refine CW.regionL ?_
      refine OW.cons (OP.val (v := v1) rfl (x_mv f84) ?_)
      refine OW.cons (OP.val (v := (.int .i64 s_l1.2.2)) rfl (x_mv f86) ?_)
      refine OW.cons (OP.val (v := (.int .i64 (w64 ((w64 (s_l1.2.1 + 1)) + 1)))) rfl (x_move) ?_)
      obtain ⟨x104, ha105, hm⟩ := bndE hm
      obtain ⟨hz106, ha110⟩ := idxE ha105
      obtain ⟨b107, q108, hix109⟩ := rdL_ix (hL.rdO 0 rfl) hz106 ha110
      refine OW.cons (OP.val (v := (.pointer (some ⟨b107, q108, none⟩))) rfl (x_ix Try.underlying33 Try_T48 rfl rfl hix109) ?_)
      refine OW.cons (OP.val (v := (.pointer (some ⟨b107, q108 + 2, none⟩))) rfl (x_fieldAddr (fsz := 1) q108 2 (q108 + 2) Try.underlying48 rfl Try_T2 rfl rfl rfl) ?_)
      refine OW.cons (S_storeX (j := 2) (Penalty.mk x104.Race x104.Boat (w64 ((w64 (s_l1.2.1 + 1)) + 1)) x104.Value) hL 0 rfl Try_T2 hix109 ha110 rfl rfl rfl rfl rfl rfl ?_)
      intro wd111 hL
      refine OW.nil ?_
      refine CW.seq ?_
      refine CW.regionL ?_
      refine OW.cons (OP.val (v := (.int .i64 (w64 ((w64 (s_l1.2.1 + 1)) + 1)))) rfl (x_move) ?_)
      refine OW.cons (OP.val (v := (.int .i64 (w64 ((w64 ((w64 (s_l1.2.1 + 1)) + 1)) + 1)))) rfl (x_add rfl rfl) ?_)
      refine OW.cons (OP.val (v := (.int .i64 (w64 ((w64 ((w64 (s_l1.2.1 + 1)) + 1)) + 1)))) rfl (x_assign) ?_)
      refine OW.nil ?_
      refine CW.seq ?_
      refine CW.regionL ?_
      refine OW.cons (OP.val (v := v1) rfl (x_mv f84) ?_)
      refine OW.cons (OP.val (v := (.int .i64 s_l1.2.2)) rfl (x_mv f86) ?_)
      refine OW.cons (OP.val (v := (.int .i64 (w64 ((w64 ((w64 (s_l1.2.1 + 1)) + 1)) + 1)))) rfl (x_move) ?_)
      obtain ⟨x112, ha113, hm⟩ := bndE hm
      obtain ⟨hz114, ha118⟩ := idxE ha113
      obtain ⟨b115, q116, hix117⟩ := rdL_ix (hL.rdO 0 rfl) hz114 ha118
      refine OW.cons (OP.val (v := (.pointer (some ⟨b115, q116, none⟩))) rfl (x_ix Try.underlying33 Try_T48 rfl rfl hix117) ?_)
      refine OW.cons (OP.val (v := (.pointer (some ⟨b115, q116 + 3, none⟩))) rfl (x_fieldAddr (fsz := 1) q116 3 (q116 + 3) Try.underlying48 rfl Try_T2 rfl rfl rfl) ?_)
      refine OW.cons (S_storeX (j := 3) (Penalty.mk x112.Race x112.Boat x112.Kind (w64 ((w64 ((w64 (s_l1.2.1 + 1)) + 1)) + 1))) hL 0 rfl Try_T2 hix117 ha118 rfl rfl rfl rfl rfl rfl ?_)
      intro wd119 hL
      refine OW.nil ?_
      refine CW.regionL ?_
      refine OW.cons (OP.val (v := (.int .i64 (w64 ((w64 ((w64 (s_l1.2.1 + 1)) + 1)) + 1)))) rfl (x_move) ?_)
      refine OW.cons (OP.val (v := (.int .i64 (w64 ((w64 ((w64 ((w64 (s_l1.2.1 + 1)) + 1)) + 1)) + 1)))) rfl (x_add rfl rfl) ?_)
      refine OW.cons (OP.val (v := (.int .i64 (w64 ((w64 ((w64 ((w64 (s_l1.2.1 + 1)) + 1)) + 1)) + 1)))) rfl (x_assign) ?_)
      refine OW.nil ?_
      refine CW.regionL ?_
      refine OW.cons (OP.val (v := (.int .i64 s_l1.2.2)) rfl (x_mv f86) ?_)
      refine OW.cons (OP.val (v := (.int .i64 (w64 (s_l1.2.2 + 1)))) rfl (x_add rfl rfl) ?_)
      refine OW.cons (OP.val (v := (.int .i64 (w64 (s_l1.2.2 + 1)))) rfl (x_assign) ?_)
      refine OW.nil ?_
      obtain rfl := Option.some.inj hm
      exact ⟨_, rfl, ⟨S72, f84, rfl, rfl, hL⟩⟩
    · refine CW.exit ?_
      refine XJ.hit ?_
      obtain rfl := Option.some.inj hm
      exact ⟨_, rfl, ⟨S72, f84, f85, f86, hL⟩⟩

theorem M.laws_heldFinishS_ok (w0 : World) (a0 : List Finish) {v1 : Value} (h2 : rdL (· < w0.heap.size) w0 v1 a0) (a1 : Int) {r : Int} (hm : M.laws_heldFinishS a0 a1 = some r) :
    Calls Try.prog 73 #[v1, (.int .i64 a1)] w0 fun e w' => e = .returned (.int .i64 r) ∧ Fresh w0 w' [] := by
  unfold M.laws_heldFinishS at hm
  refine calls_CW (args := [v1, (.int .i64 a1)]) Try.func73 rfl rfl rfl ?_
  have hL := Hp.start w0
  refine CW.seq ?_
  refine CW.regionL ?_
  refine OW.cons (OP.val (v := (.int .i64 0)) rfl (x_assign) ?_)
  refine OW.nil ?_
  refine CW.seq ?_
  refine CW.seq ?_
  refine CW.regionL ?_
  refine OW.cons (OP.val (v := (.int .i64 0)) rfl (x_assign) ?_)
  refine OW.nil ?_
  obtain ⟨o55, ho56, hm⟩ := bndE hm
  refine CW.loopB (fun (s_l1 : Int × Int) (F : Fr) (w : World) => F 0 = v1 ∧ F 1 = (.int .i64 s_l1.1) ∧ F 5 = (.int .i64 s_l1.2) ∧ Hp w0 [Ent.snap w0 w0.heap.size] w) (fun o => outc o (fun x => some x) (fun s => M.laws_heldFinishS_a1 s) = some r) ho56 hm ⟨rfl, rfl, rfl, hL⟩ ?_ ?_
  · intro s_l1 F57 wd58 hJ hm
    have hm := outcE hm
    have hm : M.laws_heldFinishS_a1 s_l1 = some r := hm
    unfold M.laws_heldFinishS_a1 at hm
    obtain ⟨f59, f60, f61, hL⟩ := hJ
    refine CW.seq ?_
    refine CW.regionL ?_
    refine OW.cons (OP.val (v := (.int .i64 s_l1.1)) rfl (x_mv f60) ?_)
    refine OW.cons (OP.val (v := (.int .i64 s_l1.1)) rfl (x_assign) ?_)
    refine OW.nil ?_
    refine CW.ret ?_
    obtain rfl := Option.some.inj hm
    exact RR1 rfl rfl ⟨rfl, hL.fresh 0 rfl [] (by decide) (by decide) rfl⟩
  · intro s_l1 F62 wd63 t53 hJ hm hr54
    unfold M.laws_heldFinishS_l1 at hm
    obtain ⟨f64, f65, f66, hL⟩ := hJ
    refine CW.seq ?_
    refine CW.seq ?_
    refine CW.regionL ?_
    refine OW.cons (OP.val (v := (.int .i64 s_l1.2)) rfl (x_mv f66) ?_)
    refine OW.cons (OP.val (v := v1) rfl (x_mv f64) ?_)
    refine OW.cons (OP.val (v := (.int .i64 (a0.length : Int))) rfl (x_lenR Try.underlying44 rfl (hL.rdS 0 rfl h2)) ?_)
    refine OW.cons (OP.val (v := (.bool (decide (s_l1.2 < (a0.length : Int))))) rfl (x_lss rfl rfl) ?_)
    refine OW.nil ?_
    refine CW.condM (t := decide (s_l1.2 < (a0.length : Int))) rfl hm (fun hb67 hm => ?_) (fun hb67 hm => ?_)
    · refine CW.skip ?_
      refine CW.seq ?_
      refine CW.block ?_
      refine CW.seq ?_
      refine CW.seq ?_
      refine CW.regionL ?_
      refine OW.cons (OP.val (v := v1) rfl (x_mv f64) ?_)
      refine OW.cons (OP.val (v := (.int .i64 s_l1.2)) rfl (x_mv f66) ?_)
      obtain ⟨x68, ha69, hm⟩ := bndE hm
      obtain ⟨hz70, ha74⟩ := idxE ha69
      obtain ⟨b71, q72, hix73⟩ := rdL_ix (hL.rdS 0 rfl h2) hz70 ha74
      refine OW.cons (OP.val (v := (.pointer (some ⟨b71, q72, none⟩))) rfl (x_ix Try.underlying44 Try_T50 rfl rfl hix73) ?_)
      refine OW.cons (OP.val (v := (.pointer (some ⟨b71, q72, none⟩))) rfl (x_fieldAddr (fsz := 1) q72 0 q72 Try.underlying50 rfl Try_T2 rfl rfl rfl) ?_)
      refine OW.cons (OP.val (v := (.int .i64 x68.Boat)) rfl (x_load1 Try.underlying2 rfl rfl (rdF_cells (hL.rdS 0 rfl h2) hix73 ha74 0 _ rfl)) ?_)
      refine OW.cons (OP.val (v := (.int .i64 s_l1.1)) rfl (x_mv f65) ?_)
      refine OW.cons (OP.val (v := (.bool (x68.Boat != s_l1.1))) rfl (x_neq rfl rfl) ?_)
      refine OW.nil ?_
      refine CW.condM (t := x68.Boat != s_l1.1) rfl hm (fun hb75 hm => ?_) (fun hb75 hm => ?_)
      · refine CW.seq ?_
        refine CW.regionL ?_
        refine OW.cons (OP.val (v := (.int .i64 (-1))) rfl (x_assign) ?_)
        refine OW.nil ?_
        refine CW.ret ?_
        obtain rfl := Option.some.inj hm
        have hm := hr54 _ rfl
        obtain rfl := Option.some.inj hm
        exact RR1 rfl rfl ⟨rfl, hL.fresh 0 rfl [] (by decide) (by decide) rfl⟩
      · refine CW.skip ?_
        refine CW.seq ?_
        refine CW.regionL ?_
        refine OW.cons (OP.val (v := (.int .i64 s_l1.1)) rfl (x_mv f65) ?_)
        refine OW.cons (OP.val (v := (.int .i64 (w64 (s_l1.1 + 1)))) rfl (x_add rfl rfl) ?_)
        refine OW.cons (OP.val (v := (.int .i64 (w64 (s_l1.1 + 1)))) rfl (x_assign) ?_)
        refine OW.nil ?_
        refine CW.seq ?_
        refine CW.seq ?_
        refine CW.regionL ?_
        refine OW.cons (OP.val (v := v1) rfl (x_mv f64) ?_)
        refine OW.cons (OP.val (v := (.int .i64 s_l1.2)) rfl (x_mv f66) ?_)
        obtain ⟨x76, ha77, hm⟩ := bndE hm
        obtain ⟨hz78, ha82⟩ := idxE ha77
        obtain ⟨b79, q80, hix81⟩ := rdL_ix (hL.rdS 0 rfl h2) hz78 ha82
        refine OW.cons (OP.val (v := (.pointer (some ⟨b79, q80, none⟩))) rfl (x_ix Try.underlying44 Try_T50 rfl rfl hix81) ?_)
        refine OW.cons (OP.val (v := (.pointer (some ⟨b79, q80 + 1, none⟩))) rfl (x_fieldAddr (fsz := 1) q80 1 (q80 + 1) Try.underlying50 rfl Try_T2 rfl rfl rfl) ?_)
        refine OW.cons (OP.val (v := (.int .i64 x76.Code)) rfl (x_load1 Try.underlying2 rfl rfl (rdF_cells (hL.rdS 0 rfl h2) hix81 ha82 1 _ rfl)) ?_)
        refine OW.cons (OP.val (v := (.int .i64 (w64 (s_l1.1 + 1)))) rfl (x_move) ?_)
        refine OW.cons (OP.val (v := (.bool (x76.Code != (w64 (s_l1.1 + 1))))) rfl (x_neq rfl rfl) ?_)
        refine OW.nil ?_
        refine CW.condM (t := x76.Code != (w64 (s_l1.1 + 1))) rfl hm (fun hb83 hm => ?_) (fun hb83 hm => ?_)
        · refine CW.seq ?_
          refine CW.regionL ?_
          refine OW.cons (OP.val (v := (.int .i64 (-1))) rfl (x_assign) ?_)
          refine OW.nil ?_
          refine CW.ret ?_
          obtain rfl := Option.some.inj hm
          have hm := hr54 _ rfl
          obtain rfl := Option.some.inj hm
          exact RR1 rfl rfl ⟨rfl, hL.fresh 0 rfl [] (by decide) (by decide) rfl⟩
        · refine CW.skip ?_
          refine CW.seq ?_
          refine CW.regionL ?_
          refine OW.cons (OP.val (v := (.int .i64 (w64 (s_l1.1 + 1)))) rfl (x_move) ?_)
          refine OW.cons (OP.val (v := (.int .i64 (w64 ((w64 (s_l1.1 + 1)) + 1)))) rfl (x_add rfl rfl) ?_)
          refine OW.cons (OP.val (v := (.int .i64 (w64 ((w64 (s_l1.1 + 1)) + 1)))) rfl (x_assign) ?_)
          refine OW.nil ?_
          refine CW.seq ?_
          refine CW.seq ?_
          refine CW.regionL ?_
          refine OW.cons (OP.val (v := v1) rfl (x_mv f64) ?_)
          refine OW.cons (OP.val (v := (.int .i64 s_l1.2)) rfl (x_mv f66) ?_)
          obtain ⟨x84, ha85, hm⟩ := bndE hm
          obtain ⟨hz86, ha90⟩ := idxE ha85
          obtain ⟨b87, q88, hix89⟩ := rdL_ix (hL.rdS 0 rfl h2) hz86 ha90
          refine OW.cons (OP.val (v := (.pointer (some ⟨b87, q88, none⟩))) rfl (x_ix Try.underlying44 Try_T50 rfl rfl hix89) ?_)
          refine OW.cons (OP.val (v := (.pointer (some ⟨b87, q88 + 2, none⟩))) rfl (x_fieldAddr (fsz := 1) q88 2 (q88 + 2) Try.underlying50 rfl Try_T2 rfl rfl rfl) ?_)
          refine OW.cons (OP.val (v := (.int .i64 x84.Time)) rfl (x_load1 Try.underlying2 rfl rfl (rdF_cells (hL.rdS 0 rfl h2) hix89 ha90 2 _ rfl)) ?_)
          refine OW.cons (OP.val (v := (.int .i64 (w64 ((w64 (s_l1.1 + 1)) + 1)))) rfl (x_move) ?_)
          refine OW.cons (OP.val (v := (.bool (x84.Time != (w64 ((w64 (s_l1.1 + 1)) + 1))))) rfl (x_neq rfl rfl) ?_)
          refine OW.nil ?_
          refine CW.condM (t := x84.Time != (w64 ((w64 (s_l1.1 + 1)) + 1))) rfl hm (fun hb91 hm => ?_) (fun hb91 hm => ?_)
          · refine CW.seq ?_
            refine CW.regionL ?_
            refine OW.cons (OP.val (v := (.int .i64 (-1))) rfl (x_assign) ?_)
            refine OW.nil ?_
            refine CW.ret ?_
            obtain rfl := Option.some.inj hm
            have hm := hr54 _ rfl
            obtain rfl := Option.some.inj hm
            exact RR1 rfl rfl ⟨rfl, hL.fresh 0 rfl [] (by decide) (by decide) rfl⟩
          · refine CW.skip ?_
            refine CW.regionL ?_
            refine OW.cons (OP.val (v := (.int .i64 (w64 ((w64 (s_l1.1 + 1)) + 1)))) rfl (x_move) ?_)
            refine OW.cons (OP.val (v := (.int .i64 (w64 ((w64 ((w64 (s_l1.1 + 1)) + 1)) + 1)))) rfl (x_add rfl rfl) ?_)
            refine OW.cons (OP.val (v := (.int .i64 (w64 ((w64 ((w64 (s_l1.1 + 1)) + 1)) + 1)))) rfl (x_assign) ?_)
            refine OW.nil ?_
            refine CW.regionL ?_
            refine OW.cons (OP.val (v := (.int .i64 s_l1.2)) rfl (x_mv f66) ?_)
            refine OW.cons (OP.val (v := (.int .i64 (w64 (s_l1.2 + 1)))) rfl (x_add rfl rfl) ?_)
            refine OW.cons (OP.val (v := (.int .i64 (w64 (s_l1.2 + 1)))) rfl (x_assign) ?_)
            refine OW.nil ?_
            obtain rfl := Option.some.inj hm
            exact ⟨_, rfl, ⟨f64, rfl, rfl, hL⟩⟩
    · refine CW.exit ?_
      refine XJ.hit ?_
      obtain rfl := Option.some.inj hm
      exact ⟨_, rfl, ⟨f64, f65, f66, hL⟩⟩

theorem M.laws_heldRaceS_ok (w0 : World) (a0 : List Race) {v1 : Value} (h2 : rdL (· < w0.heap.size) w0 v1 a0) (a1 : Int) {r : Int} (hm : M.laws_heldRaceS a0 a1 = some r) :
    Calls Try.prog 52 #[v1, (.int .i64 a1)] w0 fun e w' => e = .returned (.int .i64 r) ∧ Fresh w0 w' [] := by
  unfold M.laws_heldRaceS at hm
  refine calls_CW (args := [v1, (.int .i64 a1)]) Try.func52 rfl rfl rfl ?_
  have hL := Hp.start w0
  refine CW.seq ?_
  refine CW.regionL ?_
  refine OW.cons (OP.val (v := (.int .i64 0)) rfl (x_assign) ?_)
  refine OW.nil ?_
  refine CW.seq ?_
  refine CW.seq ?_
  refine CW.regionL ?_
  refine OW.cons (OP.val (v := (.int .i64 0)) rfl (x_assign) ?_)
  refine OW.nil ?_
  obtain ⟨o41, ho42, hm⟩ := bndE hm
  refine CW.loopB (fun (s_l1 : Int × Int) (F : Fr) (w : World) => F 0 = v1 ∧ F 1 = (.int .i64 s_l1.1) ∧ F 5 = (.int .i64 s_l1.2) ∧ Hp w0 [Ent.snap w0 w0.heap.size] w) (fun o => outc o (fun x => some x) (fun s => M.laws_heldRaceS_a1 s) = some r) ho42 hm ⟨rfl, rfl, rfl, hL⟩ ?_ ?_
  · intro s_l1 F43 wd44 hJ hm
    have hm := outcE hm
    have hm : M.laws_heldRaceS_a1 s_l1 = some r := hm
    unfold M.laws_heldRaceS_a1 at hm
    obtain ⟨f45, f46, f47, hL⟩ := hJ
    refine CW.seq ?_
    refine CW.regionL ?_
    refine OW.cons (OP.val (v := (.int .i64 s_l1.1)) rfl (x_mv f46) ?_)
    refine OW.cons (OP.val (v := (.int .i64 s_l1.1)) rfl (x_assign) ?_)
    refine OW.nil ?_
    refine CW.ret ?_
    obtain rfl := Option.some.inj hm
    exact RR1 rfl rfl ⟨rfl, hL.fresh 0 rfl [] (by decide) (by decide) rfl⟩
  · intro s_l1 F48 wd49 t39 hJ hm hr40
    unfold M.laws_heldRaceS_l1 at hm
    obtain ⟨f50, f51, f52, hL⟩ := hJ
    refine CW.seq ?_
    refine CW.seq ?_
    refine CW.regionL ?_
    refine OW.cons (OP.val (v := (.int .i64 s_l1.2)) rfl (x_mv f52) ?_)
    refine OW.cons (OP.val (v := v1) rfl (x_mv f50) ?_)
    refine OW.cons (OP.val (v := (.int .i64 (a0.length : Int))) rfl (x_lenR Try.underlying29 rfl (hL.rdS 0 rfl h2)) ?_)
    refine OW.cons (OP.val (v := (.bool (decide (s_l1.2 < (a0.length : Int))))) rfl (x_lss rfl rfl) ?_)
    refine OW.nil ?_
    refine CW.condM (t := decide (s_l1.2 < (a0.length : Int))) rfl hm (fun hb53 hm => ?_) (fun hb53 hm => ?_)
    · refine CW.skip ?_
      refine CW.seq ?_
      refine CW.block ?_
      refine CW.seq ?_
      refine CW.regionL ?_
      refine OW.cons (OP.val (v := v1) rfl (x_mv f50) ?_)
      refine OW.cons (OP.val (v := (.int .i64 s_l1.2)) rfl (x_mv f52) ?_)
      obtain ⟨x54, ha55, hm⟩ := bndE hm
      obtain ⟨hz56, ha64⟩ := idxE ha55
      obtain ⟨b57, q58, v59, hix60, hs61, hc62, hr63⟩ := rdN_at h2 hz56 ha64
      refine OW.cons (OP.val (v := (.pointer (some ⟨b57, q58, none⟩))) rfl (x_ix Try.underlying29 Try_T46 rfl rfl hix60) ?_)
      refine OW.cons (OP.val (v := (.pointer (some ⟨b57, q58, none⟩))) rfl (x_fieldAddr (fsz := 1) q58 0 q58 Try.underlying46 rfl Try_T44 rfl rfl rfl) ?_)
      refine OW.cons (OP.val (v := v59) rfl (x_load1 Try.underlying44 rfl rfl (hL.cellS 0 rfl hs61 hc62)) ?_)
      refine OW.cons (OP.val (v := (.int .i64 s_l1.1)) rfl (x_mv f51) ?_)
      obtain ⟨x65, hx66, hm⟩ := bndE hm
      refine OW.cons (OP.call rfl (x_call (vs := [v59, (.int .i64 s_l1.1)]) Try_C73 ⟨rfl, rfl, trivial⟩) (M.laws_heldFinishS_ok _ x54.Finishes (hL.rdS 0 rfl hr63) s_l1.1 hx66) ?_)
      rintro e67 wd68 ⟨rfl, hF69⟩
      refine ⟨_, rfl, ?_⟩
      have hL := hL.pushAll hF69
      simp only [List.cons_append, List.nil_append, List.set_cons_zero, List.set_cons_succ] at hL
      refine OW.cons (OP.val (v := (.int .i64 x65)) rfl (x_assign) ?_)
      refine OW.nil ?_
      refine CW.seq ?_
      refine CW.regionL ?_
      refine OW.cons (OP.val (v := (.int .i64 x65)) rfl (x_move) ?_)
      refine OW.cons (OP.val (v := (.bool (decide (x65 < 0)))) rfl (x_lss rfl rfl) ?_)
      refine OW.nil ?_
      refine CW.condM (t := decide (x65 < 0)) rfl hm (fun hb70 hm => ?_) (fun hb70 hm => ?_)
      · refine CW.seq ?_
        refine CW.regionL ?_
        refine OW.cons (OP.val (v := (.int .i64 (-1))) rfl (x_assign) ?_)
        refine OW.nil ?_
        refine CW.ret ?_
        obtain rfl := Option.some.inj hm
        have hm := hr40 _ rfl
        obtain rfl := Option.some.inj hm
        exact RR1 rfl rfl ⟨rfl, hL.fresh 0 rfl [] (by decide) (by decide) rfl⟩
      · refine CW.skip ?_
        refine CW.regionL ?_
        refine OW.cons (OP.val (v := (.int .i64 s_l1.2)) rfl (x_mv f52) ?_)
        refine OW.cons (OP.val (v := (.int .i64 (w64 (s_l1.2 + 1)))) rfl (x_add rfl rfl) ?_)
        refine OW.cons (OP.val (v := (.int .i64 (w64 (s_l1.2 + 1)))) rfl (x_assign) ?_)
        refine OW.nil ?_
        obtain rfl := Option.some.inj hm
        exact ⟨_, rfl, ⟨f50, rfl, rfl, hL⟩⟩
    · refine CW.exit ?_
      refine XJ.hit ?_
      obtain rfl := Option.some.inj hm
      exact ⟨_, rfl, ⟨f50, f51, f52, hL⟩⟩

theorem M.laws_heldSeries_ok (w0 : World) (a0 : Series) {v1 : Value} (h2 : rdL (· < w0.heap.size) w0 v1 a0.Races) (a1 : Int) {r : Int} (hm : M.laws_heldSeries a0 a1 = some r) :
    Calls Try.prog 24 #[(.agg #[(.int .i64 a0.Boats), (.int .i64 a0.Scheme), v1]), (.int .i64 a1)] w0 fun e w' => e = .returned (.int .i64 r) ∧ Fresh w0 w' [] := by
  unfold M.laws_heldSeries at hm
  refine calls_CW (args := [(.agg #[(.int .i64 a0.Boats), (.int .i64 a0.Scheme), v1]), (.int .i64 a1)]) Try.func24 rfl rfl rfl ?_
  have hL := Hp.start w0
  refine CW.seq ?_
  refine CW.regionL ?_
  refine OW.cons (S_box (cs := #[(.int .i64 a0.Boats), (.int .i64 a0.Scheme), v1]) hL rfl rfl rfl ?_)
  intro wd3 b4 hL
  refine OW.cons (OP.val (v := (.int .i64 0)) rfl (x_assign) ?_)
  refine OW.nil ?_
  refine CW.seq ?_
  refine CW.regionL ?_
  refine OW.cons (OP.val (v := (.pointer (some ⟨b4, 2, none⟩))) rfl (x_fieldAddr (fsz := 1) 0 2 2 Try.underlying31 rfl Try_T29 rfl rfl rfl) ?_)
  refine OW.cons (OP.val (v := v1) rfl (x_load1 Try.underlying29 rfl rfl (hL.cellB 0 rfl rfl)) ?_)
  refine OW.cons (OP.val (v := (.int .i64 a1)) rfl (x_move) ?_)
  obtain ⟨x5, hx6, hm⟩ := bndE hm
  refine OW.cons (OP.call rfl (x_call (vs := [v1, (.int .i64 a1)]) Try_C52 ⟨rfl, rfl, trivial⟩) (M.laws_heldRaceS_ok _ a0.Races (hL.rdS 1 rfl h2) a1 hx6) ?_)
  rintro e7 wd8 ⟨rfl, hF9⟩
  refine ⟨_, rfl, ?_⟩
  have hL := hL.pushAll hF9
  simp only [List.cons_append, List.nil_append, List.set_cons_zero, List.set_cons_succ] at hL
  refine OW.cons (OP.val (v := (.int .i64 x5)) rfl (x_assign) ?_)
  refine OW.nil ?_
  refine CW.seq ?_
  refine CW.seq ?_
  refine CW.regionL ?_
  refine OW.cons (OP.val (v := (.int .i64 x5)) rfl (x_move) ?_)
  refine OW.cons (OP.val (v := (.bool (decide (x5 < 0)))) rfl (x_lss rfl rfl) ?_)
  refine OW.nil ?_
  refine CW.condM (t := decide (x5 < 0)) rfl hm (fun hb10 hm => ?_) (fun hb10 hm => ?_)
  · refine CW.seq ?_
    refine CW.regionL ?_
    refine OW.cons (OP.val (v := (.int .i64 (-1))) rfl (x_assign) ?_)
    refine OW.nil ?_
    refine CW.ret ?_
    obtain rfl := Option.some.inj hm
    exact RR1 rfl rfl ⟨rfl, hL.fresh 1 rfl [] (by decide) (by decide) rfl⟩
  · refine CW.skip ?_
    refine CW.seq ?_
    refine CW.regionL ?_
    refine OW.cons (OP.val (v := (.int .i64 x5)) rfl (x_move) ?_)
    refine OW.cons (OP.val (v := (.int .i64 x5)) rfl (x_assign) ?_)
    refine OW.nil ?_
    refine CW.ret ?_
    obtain rfl := Option.some.inj hm
    exact RR1 rfl rfl ⟨rfl, hL.fresh 1 rfl [] (by decide) (by decide) rfl⟩

theorem M.laws_FnExactPenalizedSeries_ok (w0 : World) (a0 : Series) {v1 : Value} (h2 : rdL (· < w0.heap.size) w0 v1 a0.Races) (a1 : List Penalty) {v3 : Value} (h4 : rdL (· < w0.heap.size) w0 v3 a1) {r : Bool} (hm : M.laws_FnExactPenalizedSeries a0 a1 = some r) :
    Calls Try.prog 5 #[(.agg #[(.int .i64 a0.Boats), (.int .i64 a0.Scheme), v1]), v3] w0 fun e w' => e = .returned (.bool r) ∧ Fresh w0 w' [] := by
  unfold M.laws_FnExactPenalizedSeries at hm
  refine calls_CW (args := [(.agg #[(.int .i64 a0.Boats), (.int .i64 a0.Scheme), v1]), v3]) Try.func5 rfl rfl rfl ?_
  have hL := Hp.start w0
  refine CW.seq ?_
  refine CW.regionL ?_
  refine OW.cons (S_box (cs := #[(.int .i64 a0.Boats), (.int .i64 a0.Scheme), v1]) hL rfl rfl rfl ?_)
  intro wd5 b6 hL
  refine OW.cons (OP.val (v := (.bool false)) rfl (x_assign) ?_)
  refine OW.nil ?_
  refine CW.seq ?_
  refine CW.regionL ?_
  refine OW.cons (OP.val (v := (.int .i64 1048576)) rfl (x_assign) ?_)
  refine OW.nil ?_
  refine CW.seq ?_
  refine CW.regionL ?_
  refine OW.cons (OP.val (v := (.agg #[(.int .i64 a0.Boats), (.int .i64 a0.Scheme), v1])) rfl (x_loadN (cs := [(.int .i64 a0.Boats), (.int .i64 a0.Scheme), v1]) Try.underlying24 Try_T24 rfl rfl (hL.cellsB 0 rfl (o := 0) (l := [(.int .i64 a0.Boats), (.int .i64 a0.Scheme), v1]) (by intro j u hj; exact (by simpa using hj)))) ?_)
  refine OW.cons (OP.val (v := (.int .i64 1048576)) rfl (x_move) ?_)
  obtain ⟨x7, hx8, hm⟩ := bndE hm
  refine OW.cons (OP.call rfl (x_call (vs := [(.agg #[(.int .i64 a0.Boats), (.int .i64 a0.Scheme), v1]), (.int .i64 1048576)]) Try_C8 ⟨rfl, rfl, trivial⟩) (M.laws_szSeries_ok _ a0 (hL.rdS 1 rfl h2) 1048576 hx8) ?_)
  rintro e9 wd10 ⟨rfl, hF11⟩
  refine ⟨_, rfl, ?_⟩
  have hL := hL.pushAll hF11
  simp only [List.cons_append, List.nil_append, List.set_cons_zero, List.set_cons_succ] at hL
  refine OW.cons (OP.val (v := (.int .i64 x7)) rfl (x_assign) ?_)
  refine OW.nil ?_
  refine CW.seq ?_
  refine CW.seq ?_
  refine CW.regionL ?_
  refine OW.cons (OP.val (v := (.int .i64 x7)) rfl (x_move) ?_)
  refine OW.cons (OP.val (v := (.bool (decide (x7 < 0)))) rfl (x_lss rfl rfl) ?_)
  refine OW.nil ?_
  refine CW.condM (t := decide (x7 < 0)) rfl hm (fun hb12 hm => ?_) (fun hb12 hm => ?_)
  · refine CW.seq ?_
    refine CW.regionL ?_
    refine OW.cons (OP.val (v := (.bool true)) rfl (x_assign) ?_)
    refine OW.nil ?_
    refine CW.ret ?_
    obtain rfl := Option.some.inj hm
    exact RR1 rfl rfl ⟨rfl, hL.fresh 1 rfl [] (by decide) (by decide) rfl⟩
  · refine CW.skip ?_
    refine CW.seq ?_
    refine CW.regionL ?_
    refine OW.cons (OP.val (v := v3) rfl (x_move) ?_)
    refine OW.cons (OP.val (v := (.int .i64 x7)) rfl (x_move) ?_)
    obtain ⟨x13, hx14, hm⟩ := bndE hm
    refine OW.cons (OP.call rfl (x_call (vs := [v3, (.int .i64 x7)]) Try_C9 ⟨rfl, rfl, trivial⟩) (M.laws_szPenaltyS_ok _ a1 (hL.rdS 1 rfl h4) x7 hx14) ?_)
    rintro e15 wd16 ⟨rfl, hF17⟩
    refine ⟨_, rfl, ?_⟩
    have hL := hL.pushAll hF17
    simp only [List.cons_append, List.nil_append, List.set_cons_zero, List.set_cons_succ] at hL
    refine OW.cons (OP.val (v := (.int .i64 x13)) rfl (x_assign) ?_)
    refine OW.nil ?_
    refine CW.seq ?_
    refine CW.seq ?_
    refine CW.regionL ?_
    refine OW.cons (OP.val (v := (.int .i64 x13)) rfl (x_move) ?_)
    refine OW.cons (OP.val (v := (.bool (decide (x13 < 0)))) rfl (x_lss rfl rfl) ?_)
    refine OW.nil ?_
    refine CW.condM (t := decide (x13 < 0)) rfl hm (fun hb18 hm => ?_) (fun hb18 hm => ?_)
    · refine CW.seq ?_
      refine CW.regionL ?_
      refine OW.cons (OP.val (v := (.bool true)) rfl (x_assign) ?_)
      refine OW.nil ?_
      refine CW.ret ?_
      obtain rfl := Option.some.inj hm
      exact RR1 rfl rfl ⟨rfl, hL.fresh 1 rfl [] (by decide) (by decide) rfl⟩
    · refine CW.skip ?_
      refine CW.seq ?_
      refine CW.regionL ?_
      refine OW.cons (OP.val (v := (.agg #[(.int .i64 a0.Boats), (.int .i64 a0.Scheme), v1])) rfl (x_loadN (cs := [(.int .i64 a0.Boats), (.int .i64 a0.Scheme), v1]) Try.underlying24 Try_T24 rfl rfl (hL.cellsB 0 rfl (o := 0) (l := [(.int .i64 a0.Boats), (.int .i64 a0.Scheme), v1]) (by intro j u hj; exact (by simpa using hj)))) ?_)
      obtain ⟨x19, hx20, hm⟩ := bndE hm
      refine OW.cons (OP.call rfl (x_call (vs := [(.agg #[(.int .i64 a0.Boats), (.int .i64 a0.Scheme), v1])]) Try_C11 ⟨rfl, trivial⟩) (M.laws_toSeries_ok _ a0 (hL.rdS 1 rfl h2) hx20) ?_)
      rintro e23 wd24 ⟨v22, S21, rfl, hF25⟩
      refine ⟨_, rfl, ?_⟩
      have hL := hL.pushAll hF25
      simp only [List.cons_append, List.nil_append, List.set_cons_zero, List.set_cons_succ] at hL
      refine OW.cons (OP.val (v := v3) rfl (x_move) ?_)
      obtain ⟨x26, hx27, hm⟩ := bndE hm
      refine OW.cons (OP.call rfl (x_call (vs := [v3]) Try_C12 ⟨rfl, trivial⟩) (M.laws_toPenaltyS_ok _ a1 (hL.rdS 2 rfl h4) hx27) ?_)
      rintro e30 wd31 ⟨v29, S28, rfl, hF32⟩
      refine ⟨_, rfl, ?_⟩
      have hL := hL.pushAll hF32
      simp only [List.cons_append, List.nil_append, List.set_cons_zero, List.set_cons_succ] at hL
      obtain ⟨x33, hx34, hm⟩ := bndE hm
      refine OW.cons (OP.call rfl (x_call (vs := [(.agg #[(.int .i64 x19.Boats), (.int .i64 x19.Scheme), v22]), v29]) Try_C19 ⟨rfl, rfl, trivial⟩) (M.spec_PenalizedSeries_ok _ x19 (hL.rdO 1 rfl) x26 (hL.rdO 0 rfl) hx34) ?_)
      rintro e37 wd38 ⟨v36, S35, rfl, hF39⟩
      refine ⟨_, rfl, ?_⟩
      have hL := hL.pushAll hF39
      simp only [List.cons_append, List.nil_append, List.set_cons_zero, List.set_cons_succ] at hL
      refine OW.cons (OP.val (v := (.tuple #[(.agg #[(.int .i64 x33.1.Boats), (.int .i64 x33.1.Scheme), v36]), (.int .i64 x33.2)])) rfl (x_move) ?_)
      refine OW.cons (OP.val (v := (.agg #[(.int .i64 x33.1.Boats), (.int .i64 x33.1.Scheme), v36])) rfl (x_extract rfl rfl) ?_)
      refine OW.cons (OP.val (v := (.int .i64 x33.2)) rfl (x_extract rfl rfl) ?_)
      refine OW.cons (S_alloc (cs := #[(.int .i64 0), (.int .i64 0), (.slice none 0 0)]) hL Try_T31 rfl rfl ?_)
      intro wd40 b41 hL
      refine OW.cons (S_storeN (l := [(.int .i64 x33.1.Boats), (.int .i64 x33.1.Scheme), v36]) (cs' := #[(.int .i64 x33.1.Boats), (.int .i64 x33.1.Scheme), v36]) hL 0 rfl Try_T31 rfl rfl (List.forall_mem_cons.2 ⟨rfl, (List.forall_mem_cons.2 ⟨rfl, (List.forall_mem_cons.2 ⟨rdL_one (hL.rdO 1 rfl), (fun _ h => by cases h)⟩)⟩)⟩) rfl (Nat.le_of_ble_eq_true rfl) rfl ?_)
      intro wd42 hL
      refine OW.cons (OP.val (v := (.int .i64 x33.2)) rfl (x_assign) ?_)
      refine OW.nil ?_
      refine CW.seq ?_
      refine CW.regionL ?_
      refine OW.cons (OP.val (v := (.agg #[(.int .i64 a0.Boats), (.int .i64 a0.Scheme), v1])) rfl (x_loadN (cs := [(.int .i64 a0.Boats), (.int .i64 a0.Scheme), v1]) Try.underlying24 Try_T24 rfl rfl (hL.cellsB 4 rfl (o := 0) (l := [(.int .i64 a0.Boats), (.int .i64 a0.Scheme), v1]) (by intro j u hj; exact (by simpa using hj)))) ?_)
      obtain ⟨x43, hx44, hm⟩ := bndE hm
      refine OW.cons (OP.call rfl (x_call (vs := [(.agg #[(.int .i64 a0.Boats), (.int .i64 a0.Scheme), v1])]) Try_C11 ⟨rfl, trivial⟩) (M.laws_toSeries_ok _ a0 (hL.rdS 5 rfl h2) hx44) ?_)
      rintro e47 wd48 ⟨v46, S45, rfl, hF49⟩
      refine ⟨_, rfl, ?_⟩
      have hL := hL.pushAll hF49
      simp only [List.cons_append, List.nil_append, List.set_cons_zero, List.set_cons_succ] at hL
      refine OW.cons (S_alloc (cs := #[(.int .i64 0), (.int .i64 0), (.slice none 0 0)]) hL Try_T31 rfl rfl ?_)
      intro wd50 b51 hL
      refine OW.cons (S_storeN (l := [(.int .i64 x43.Boats), (.int .i64 x43.Scheme), v46]) (cs' := #[(.int .i64 x43.Boats), (.int .i64 x43.Scheme), v46]) hL 0 rfl Try_T31 rfl rfl (List.forall_mem_cons.2 ⟨rfl, (List.forall_mem_cons.2 ⟨rfl, (List.forall_mem_cons.2 ⟨rdL_one (hL.rdO 1 rfl), (fun _ h => by cases h)⟩)⟩)⟩) rfl (Nat.le_of_ble_eq_true rfl) rfl ?_)
      intro wd52 hL
      refine OW.nil ?_
      refine CW.seq ?_
      refine CW.regionL ?_
      refine OW.cons (OP.val (v := v3) rfl (x_move) ?_)
      obtain ⟨x53, hx54, hm⟩ := bndE hm
      refine OW.cons (OP.call rfl (x_call (vs := [v3]) Try_C12 ⟨rfl, trivial⟩) (M.laws_toPenaltyS_ok _ a1 (hL.rdS 7 rfl h4) hx54) ?_)
      rintro e57 wd58 ⟨v56, S55, rfl, hF59⟩
      refine ⟨_, rfl, ?_⟩
      have hL := hL.pushAll hF59
      simp only [List.cons_append, List.nil_append, List.set_cons_zero, List.set_cons_succ] at hL
      refine OW.cons (OP.val (v := v56) rfl (x_assign) ?_)
      refine OW.nil ?_
      refine CW.seq ?_
      refine CW.regionL ?_
      refine OW.cons (OP.val (v := (.agg #[(.int .i64 x43.Boats), (.int .i64 x43.Scheme), v46])) rfl (x_loadN (cs := [(.int .i64 x43.Boats), (.int .i64 x43.Scheme), v46]) Try.underlying31 Try_T31 rfl rfl (hL.cellsB 1 rfl (o := 0) (l := [(.int .i64 x43.Boats), (.int .i64 x43.Scheme), v46]) (by intro j u hj; exact (by simpa using hj)))) ?_)
      refine OW.cons (OP.val (v := v56) rfl (x_move) ?_)
      obtain ⟨x60, hx61, hm⟩ := bndE hm
      refine OW.cons (OP.call rfl (x_call (vs := [(.agg #[(.int .i64 x43.Boats), (.int .i64 x43.Scheme), v46]), v56]) Try_C18 ⟨rfl, rfl, trivial⟩) (M.impl_PenalizedSeries_ok _ x43 (hL.rdO 2 rfl) x53 (hL.rdO 0 rfl) hx61) ?_)
      rintro e64 wd65 ⟨v63, S62, rfl, hF66⟩
      refine ⟨_, rfl, ?_⟩
      have hL := hL.pushAll hF66
      simp only [List.cons_append, List.nil_append, List.set_cons_zero, List.set_cons_succ] at hL
      refine OW.cons (OP.val (v := (.tuple #[(.agg #[(.int .i64 x60.1.Boats), (.int .i64 x60.1.Scheme), v63]), (.int .i64 x60.2)])) rfl (x_move) ?_)
      refine OW.cons (OP.val (v := (.agg #[(.int .i64 x60.1.Boats), (.int .i64 x60.1.Scheme), v63])) rfl (x_extract rfl rfl) ?_)
      refine OW.cons (OP.val (v := (.int .i64 x60.2)) rfl (x_extract rfl rfl) ?_)
      refine OW.cons (S_alloc (cs := #[(.int .i64 0), (.int .i64 0), (.slice none 0 0)]) hL Try_T31 rfl rfl ?_)
      intro wd67 b68 hL
      refine OW.cons (S_storeN (l := [(.int .i64 x60.1.Boats), (.int .i64 x60.1.Scheme), v63]) (cs' := #[(.int .i64 x60.1.Boats), (.int .i64 x60.1.Scheme), v63]) hL 0 rfl Try_T31 rfl rfl (List.forall_mem_cons.2 ⟨rfl, (List.forall_mem_cons.2 ⟨rfl, (List.forall_mem_cons.2 ⟨rdL_one (hL.rdO 1 rfl), (fun _ h => by cases h)⟩)⟩)⟩) rfl (Nat.le_of_ble_eq_true rfl) rfl ?_)
      intro wd69 hL
      refine OW.cons (OP.val (v := (.int .i64 x60.2)) rfl (x_assign) ?_)
      refine OW.nil ?_
      refine CW.seq ?_
      refine CW.seqJ (fun (s_j1 : Bool) (F : Fr) (w : World) => F 1 = v3 ∧ F 2 = (.pointer (some ⟨b6, 0, none⟩)) ∧ F 6 = (.pointer (some ⟨b41, 0, none⟩)) ∧ F 7 = (.int .i64 x33.2) ∧ F 8 = (.pointer (some ⟨b51, 0, none⟩)) ∧ F 9 = v56 ∧ F 10 = (.pointer (some ⟨b68, 0, none⟩)) ∧ F 11 = (.int .i64 x60.2) ∧ F 53 = (.bool s_j1) ∧ Hp w0 [Ent.blk b68 31 #[(.int .i64 x60.1.Boats), (.int .i64 x60.1.Scheme), v63], Ent.own 46 S62 v63 x60.1.Races, Ent.own 48 S55 v56 x53, Ent.blk b51 31 #[(.int .i64 x43.Boats), (.int .i64 x43.Scheme), v46], Ent.own 46 S45 v46 x43.Races, Ent.blk b41 31 #[(.int .i64 x33.1.Boats), (.int .i64 x33.1.Scheme), v36], Ent.own 46 S35 v36 x33.1.Races, Ent.blk b6 24 #[(.int .i64 a0.Boats), (.int .i64 a0.Scheme), v1], Ent.snap w0 w0.heap.size] w) (fun s_j1 => M.laws_FnExactPenalizedSeries_j1 a0 a1 x33 x43 x53 x60 s_j1 = some r) ?_ ?_
      · refine CW.regionL ?_
        refine OW.cons (OP.val (v := (.agg #[(.int .i64 x60.1.Boats), (.int .i64 x60.1.Scheme), v63])) rfl (x_loadN (cs := [(.int .i64 x60.1.Boats), (.int .i64 x60.1.Scheme), v63]) Try.underlying31 Try_T31 rfl rfl (hL.cellsB 0 rfl (o := 0) (l := [(.int .i64 x60.1.Boats), (.int .i64 x60.1.Scheme), v63]) (by intro j u hj; exact (by simpa using hj)))) ?_)
        refine OW.cons (OP.val (v := (.agg #[(.int .i64 x33.1.Boats), (.int .i64 x33.1.Scheme), v36])) rfl (x_loadN (cs := [(.int .i64 x33.1.Boats), (.int .i64 x33.1.Scheme), v36]) Try.underlying31 Try_T31 rfl rfl (hL.cellsB 5 rfl (o := 0) (l := [(.int .i64 x33.1.Boats), (.int .i64 x33.1.Scheme), v36]) (by intro j u hj; exact (by simpa using hj)))) ?_)
        obtain ⟨x223, hx224, hm⟩ := bndE hm
        refine OW.cons (OP.call rfl (x_call (vs := [(.agg #[(.int .i64 x60.1.Boats), (.int .i64 x60.1.Scheme), v63]), (.agg #[(.int .i64 x33.1.Boats), (.int .i64 x33.1.Scheme), v36])]) Try_C14 ⟨rfl, rfl, trivial⟩) (M.laws_eqSeries_ok _ x60.1 (hL.rdO 1 rfl) x33.1 (hL.rdO 6 rfl) hx224) ?_)
        rintro e225 wd226 ⟨rfl, hF227⟩
        refine ⟨_, rfl, ?_⟩
        have hL := hL.pushAll hF227
        simp only [List.cons_append, List.nil_append, List.set_cons_zero, List.set_cons_succ] at hL
        refine OW.cons (OP.val (v := (.bool (!x223))) rfl (x_not rfl) ?_)
        refine OW.cons (OP.val (v := (.bool (!x223))) rfl (x_move) ?_)
        refine ifB_elim hm (fun hb228 hm => ?_) (fun hb228 hm => ?_)
        · refine OW.cons (OP.no' rfl rfl hb228 rfl ?_)
          refine OW.cons (OP.no' rfl rfl hb228 rfl ?_)
          refine OW.cons (OP.no' rfl rfl hb228 rfl ?_)
          refine OW.cons (OP.val (v := (.bool true)) rfl (x_pickT' rfl hb228 rfl) ?_)
          refine OW.nil ?_
          have hL := hL.sel [0, 1, 2, 3, 4, 5, 6, 9, 10] (by decide) rfl
          exact ⟨true, hm, ⟨rfl, rfl, rfl, rfl, rfl, rfl, rfl, rfl, rfl, hL⟩⟩
        · refine OW.cons (OP.yes' rfl rfl hb228 (OP.val (v := (.int .i64 x60.2)) rfl (x_move) ?_))
          refine OW.cons (OP.yes' rfl rfl hb228 (OP.val (v := (.int .i64 x33.2)) rfl (x_move) ?_))
          refine OW.cons (OP.yes' rfl rfl hb228 (OP.val (v := (.bool (x60.2 != x33.2))) rfl (x_neq rfl rfl) ?_))
          refine OW.cons (OP.val (v := (.bool (x60.2 != x33.2))) rfl (x_pickF' rfl hb228 rfl) ?_)
          refine OW.nil ?_
          have hL := hL.sel [0, 1, 2, 3, 4, 5, 6, 9, 10] (by decide) rfl
          exact ⟨x60.2 != x33.2, hm, ⟨rfl, rfl, rfl, rfl, rfl, rfl, rfl, rfl, rfl, hL⟩⟩
      · intro s_j1 F76 wd77 hJ hm
        unfold M.laws_FnExactPenalizedSeries_j1 at hm
        obtain ⟨f78, f79, f80, f81, f82, f83, f84, f85, f86, hL⟩ := hJ
        refine CW.condM (t := s_j1) f86 hm (fun hb87 hm => ?_) (fun hb87 hm => ?_)
        · refine CW.seq ?_
          refine CW.regionL ?_
          refine OW.cons (OP.val (v := (.bool false)) rfl (x_assign) ?_)
          refine OW.nil ?_
          refine CW.ret ?_
          obtain rfl := Option.some.inj hm
          exact RR1 rfl rfl ⟨rfl, hL.fresh 8 rfl [] (by decide) (by decide) rfl⟩
        · refine CW.skip ?_
          refine CW.seq ?_
          refine CW.seq ?_
          refine CW.drawH (fun w' => Hp w0 [Ent.blk b68 31 #[(.int .i64 x60.1.Boats), (.int .i64 x60.1.Scheme), v63], Ent.own 46 S62 v63 x60.1.Races, Ent.own 48 S55 v56 x53, Ent.blk b51 31 #[(.int .i64 x43.Boats), (.int .i64 x43.Scheme), v46], Ent.own 46 S45 v46 x43.Races, Ent.blk b41 31 #[(.int .i64 x33.1.Boats), (.int .i64 x33.1.Scheme), v36], Ent.own 46 S35 v36 x33.1.Races, Ent.blk b6 24 #[(.int .i64 a0.Boats), (.int .i64 a0.Scheme), v1], Ent.snap w0 w0.heap.size] w') Try_mixed ?_
          have hL := hL.call (Mod.drew _)
          have hS := (hL.sel [0, 1, 2, 3, 4, 5, 6, 7, 8] (by decide) rfl)
          refine DH.take 0 rfl (by kernel_rfl) (by kernel_rfl) (by kernel_rfl) rfl rfl hS (YH.val (v := (.agg #[(.int .i64 x43.Boats), (.int .i64 x43.Scheme), v46])) (fun w' hS' => x_loadN (cs := [(.int .i64 x43.Boats), (.int .i64 x43.Scheme), v46]) Try.underlying31 Try_T31 rfl f82 (hS'.cellsB 3 rfl (o := 0) (l := [(.int .i64 x43.Boats), (.int .i64 x43.Scheme), v46]) (by intro j u hj; exact (by simpa using hj))))) ?_
          have hS := (hL.sel [0, 1, 2, 3, 4, 5, 6, 7, 8] (by decide) rfl)
          refine DH.take 1 rfl (by kernel_rfl) (by kernel_rfl) (by kernel_rfl) rfl rfl hS (YH.val (v := (.agg #[(.int .i64 a0.Boats), (.int .i64 a0.Scheme), v1])) (fun w' hS' => x_loadN (cs := [(.int .i64 a0.Boats), (.int .i64 a0.Scheme), v1]) Try.underlying24 Try_T24 rfl f79 (hS'.cellsB 7 rfl (o := 0) (l := [(.int .i64 a0.Boats), (.int .i64 a0.Scheme), v1]) (by intro j u hj; exact (by simpa using hj))))) ?_
          obtain ⟨x100, hx101, hm⟩ := bndE hm
          refine DH.only 2 rfl (by kernel_rfl) (OP.call rfl (x_call (vs := [(.agg #[(.int .i64 a0.Boats), (.int .i64 a0.Scheme), v1])]) Try_C11 ⟨rfl, trivial⟩) (M.laws_toSeries_ok _ a0 (hL.rdS 8 rfl h2) hx101) ?_)
          rintro e104 wd105 ⟨v103, S102, rfl, hF106⟩
          refine ⟨_, rfl, ?_⟩
          have hL := hL.pushAll hF106
          simp only [List.cons_append, List.nil_append, List.set_cons_zero, List.set_cons_succ] at hL
          refine ⟨(hL.sel [1, 2, 3, 4, 5, 6, 7, 8, 9] (by decide) rfl), ?_⟩
          obtain ⟨x107, hx108, hm⟩ := bndE hm
          refine DH.only 3 rfl (by kernel_rfl) (OP.call rfl (x_call (vs := [(.agg #[(.int .i64 x43.Boats), (.int .i64 x43.Scheme), v46]), (.agg #[(.int .i64 x100.Boats), (.int .i64 x100.Scheme), v103])]) Try_C14 ⟨rfl, rfl, trivial⟩) (M.laws_eqSeries_ok _ x43 (hL.rdO 5 rfl) x100 (hL.rdO 0 rfl) hx108) ?_)
          rintro e109 wd110 ⟨rfl, hF111⟩
          refine ⟨_, rfl, ?_⟩
          have hL := hL.pushAll hF111
          simp only [List.cons_append, List.nil_append, List.set_cons_zero, List.set_cons_succ] at hL
          refine ⟨(hL.sel [1, 2, 3, 4, 5, 6, 7, 8, 9] (by decide) rfl), ?_⟩
          have hS := (hL.sel [1, 2, 3, 4, 5, 6, 7, 8, 9] (by decide) rfl)
          refine DH.take 4 rfl (by kernel_rfl) (by kernel_rfl) (by kernel_rfl) rfl rfl hS (YH.val (v := (.bool (!x107))) (fun w' hS' => x_not rfl)) ?_
          refine DH.done (by kernel_rfl) ?_
          refine CW.condM (t := !x107) rfl hm (fun hb112 hm => ?_) (fun hb112 hm => ?_)
          · refine CW.seq ?_
            refine CW.regionL ?_
            refine OW.cons (OP.val (v := (.bool false)) rfl (x_assign) ?_)
            refine OW.nil ?_
            refine CW.ret ?_
            obtain rfl := Option.some.inj hm
            exact RR1 rfl rfl ⟨rfl, hL.fresh 9 rfl [] (by decide) (by decide) rfl⟩
          · refine CW.skip ?_
            refine CW.seq ?_
            refine CW.seq ?_
            refine CW.regionL ?_
            refine OW.cons (OP.val (v := v56) rfl (x_mv f83) ?_)
            refine OW.cons (OP.val (v := v3) rfl (x_mv f78) ?_)
            obtain ⟨x113, hx114, hm⟩ := bndE hm
            refine OW.cons (OP.call rfl (x_call (vs := [v3]) Try_C12 ⟨rfl, trivial⟩) (M.laws_toPenaltyS_ok _ a1 (hL.rdS 9 rfl h4) hx114) ?_)
            rintro e117 wd118 ⟨v116, S115, rfl, hF119⟩
            refine ⟨_, rfl, ?_⟩
            have hL := hL.pushAll hF119
            simp only [List.cons_append, List.nil_append, List.set_cons_zero, List.set_cons_succ] at hL
            obtain ⟨x120, hx121, hm⟩ := bndE hm
            refine OW.cons (OP.call rfl (x_call (vs := [v56, v116]) Try_C15 ⟨rfl, rfl, trivial⟩) (M.laws_eqPenaltyS_ok _ x53 (hL.rdO 4 rfl) x113 (hL.rdO 0 rfl) hx121) ?_)
            rintro e122 wd123 ⟨rfl, hF124⟩
            refine ⟨_, rfl, ?_⟩
            have hL := hL.pushAll hF124
            simp only [List.cons_append, List.nil_append, List.set_cons_zero, List.set_cons_succ] at hL
            refine OW.cons (OP.val (v := (.bool (!x120))) rfl (x_not rfl) ?_)
            refine OW.nil ?_
            refine CW.condM (t := !x120) rfl hm (fun hb125 hm => ?_) (fun hb125 hm => ?_)
            · refine CW.seq ?_
              refine CW.regionL ?_
              refine OW.cons (OP.val (v := (.bool false)) rfl (x_assign) ?_)
              refine OW.nil ?_
              refine CW.ret ?_
              obtain rfl := Option.some.inj hm
              exact RR1 rfl rfl ⟨rfl, hL.fresh 10 rfl [] (by decide) (by decide) rfl⟩
            · refine CW.skip ?_
              refine CW.seq ?_
              refine CW.regionL ?_
              refine OW.cons (OP.val (v := (.int .i64 1)) rfl (x_assign) ?_)
              refine OW.nil ?_
              refine CW.seq ?_
              refine CW.regionL ?_
              refine OW.cons (OP.val (v := (.agg #[(.int .i64 x43.Boats), (.int .i64 x43.Scheme), v46])) rfl (x_loadN (cs := [(.int .i64 x43.Boats), (.int .i64 x43.Scheme), v46]) Try.underlying31 Try_T31 rfl f82 (hL.cellsB 5 rfl (o := 0) (l := [(.int .i64 x43.Boats), (.int .i64 x43.Scheme), v46]) (by intro j u hj; exact (by simpa using hj)))) ?_)
              refine OW.cons (OP.val (v := (.int .i64 1)) rfl (x_move) ?_)
              obtain ⟨x126, hx127, hm⟩ := bndE hm
              refine OW.cons (OP.call rfl (x_call (vs := [(.agg #[(.int .i64 x43.Boats), (.int .i64 x43.Scheme), v46]), (.int .i64 1)]) Try_C22 ⟨rfl, rfl, trivial⟩) (M.laws_markSeries_ok _ (Series.mk x43.Boats x43.Scheme x43.Races) (hL.get 6 rfl) 1 hx127) ?_)
              rintro e128 wd129 ⟨S131, rfl, hF130⟩
              refine ⟨_, rfl, ?_⟩
              have hL := hL.mut 6 rfl hF130
              simp only [List.cons_append, List.nil_append, List.set_cons_zero, List.set_cons_succ] at hL
              refine OW.cons (OP.val (v := (.int .i64 x126.1)) rfl (x_assign) ?_)
              refine OW.nil ?_
              refine CW.seq ?_
              refine CW.regionL ?_
              refine OW.cons (OP.val (v := v56) rfl (x_mv f83) ?_)
              refine OW.cons (OP.val (v := (.int .i64 x126.1)) rfl (x_move) ?_)
              obtain ⟨x132, hx133, hm⟩ := bndE hm
              refine OW.cons (OP.call rfl (x_call (vs := [v56, (.int .i64 x126.1)]) Try_C23 ⟨rfl, rfl, trivial⟩) (M.laws_markPenaltyS_ok _ x53 (hL.get 4 rfl) x126.1 hx133) ?_)
              rintro e134 wd135 ⟨S137, rfl, hF136⟩
              refine ⟨_, rfl, ?_⟩
              have hL := hL.mut 4 rfl hF136
              simp only [List.cons_append, List.nil_append, List.set_cons_zero, List.set_cons_succ] at hL
              refine OW.cons (OP.val (v := (.int .i64 x132.1)) rfl (x_assign) ?_)
              refine OW.nil ?_
              refine CW.seq ?_
              refine CW.seqJ (fun (s_j2 : Bool) (F : Fr) (w : World) => F 1 = v3 ∧ F 2 = (.pointer (some ⟨b6, 0, none⟩)) ∧ F 6 = (.pointer (some ⟨b41, 0, none⟩)) ∧ F 7 = (.int .i64 x33.2) ∧ F 10 = (.pointer (some ⟨b68, 0, none⟩)) ∧ F 82 = (.bool s_j2) ∧ Hp w0 [Ent.blk b68 31 #[(.int .i64 x60.1.Boats), (.int .i64 x60.1.Scheme), v63], Ent.own 46 S62 v63 x60.1.Races, Ent.blk b51 31 #[(.int .i64 x43.Boats), (.int .i64 x43.Scheme), v46], Ent.own 46 S131 v46 x126.2.Races, Ent.blk b41 31 #[(.int .i64 x33.1.Boats), (.int .i64 x33.1.Scheme), v36], Ent.own 46 S35 v36 x33.1.Races, Ent.blk b6 24 #[(.int .i64 a0.Boats), (.int .i64 a0.Scheme), v1], Ent.snap w0 w0.heap.size] w) (fun s_j2 => M.laws_FnExactPenalizedSeries_j2 a0 a1 x33 x60 s_j2 = some r) ?_ ?_
              · refine CW.regionL ?_
                refine OW.cons (OP.val (v := (.int .i64 x132.1)) rfl (x_move) ?_)
                refine OW.cons (OP.val (v := (.bool (decide (x132.1 < 0)))) rfl (x_lss rfl rfl) ?_)
                refine OW.cons (OP.val (v := (.bool (decide (x132.1 < 0)))) rfl (x_move) ?_)
                refine ifB_elim hm (fun hb216 hm => ?_) (fun hb216 hm => ?_)
                · refine OW.cons (OP.no' rfl rfl hb216 rfl ?_)
                  refine OW.cons (OP.no' rfl rfl hb216 rfl ?_)
                  refine OW.cons (OP.no' rfl rfl hb216 rfl ?_)
                  refine OW.cons (OP.no' rfl rfl hb216 rfl ?_)
                  refine OW.cons (OP.val (v := (.bool true)) rfl (x_pickT' rfl hb216 rfl) ?_)
                  refine OW.cons (OP.val (v := (.bool true)) rfl (x_move) ?_)
                  refine OW.cons (OP.no' rfl rfl rfl rfl ?_)
                  refine OW.cons (OP.no' rfl rfl rfl rfl ?_)
                  refine OW.cons (OP.no' rfl rfl rfl rfl ?_)
                  refine OW.cons (OP.val (v := (.bool true)) rfl (x_pickT' rfl rfl rfl) ?_)
                  refine OW.nil ?_
                  have hL := hL.sel [2, 3, 5, 6, 7, 8, 9, 10] (by decide) rfl
                  exact ⟨true, hm, ⟨f78, f79, f80, f81, f84, rfl, hL⟩⟩
                · refine OW.cons (OP.yes' rfl rfl hb216 (OP.val (v := (.agg #[(.int .i64 x60.1.Boats), (.int .i64 x60.1.Scheme), v63])) rfl (x_loadN (cs := [(.int .i64 x60.1.Boats), (.int .i64 x60.1.Scheme), v63]) Try.underlying31 Try_T31 rfl f84 (hL.cellsB 2 rfl (o := 0) (l := [(.int .i64 x60.1.Boats), (.int .i64 x60.1.Scheme), v63]) (by intro j u hj; exact (by simpa using hj)))) ?_))
                  refine OW.cons (OP.yes' rfl rfl hb216 (OP.val (v := (.agg #[(.int .i64 x33.1.Boats), (.int .i64 x33.1.Scheme), v36])) rfl (x_loadN (cs := [(.int .i64 x33.1.Boats), (.int .i64 x33.1.Scheme), v36]) Try.underlying31 Try_T31 rfl f80 (hL.cellsB 7 rfl (o := 0) (l := [(.int .i64 x33.1.Boats), (.int .i64 x33.1.Scheme), v36]) (by intro j u hj; exact (by simpa using hj)))) ?_))
                  obtain ⟨x217, hx218, hm⟩ := bndE hm
                  refine OW.cons (OP.yes' rfl rfl hb216 (OP.call rfl (x_call (vs := [(.agg #[(.int .i64 x60.1.Boats), (.int .i64 x60.1.Scheme), v63]), (.agg #[(.int .i64 x33.1.Boats), (.int .i64 x33.1.Scheme), v36])]) Try_C14 ⟨rfl, rfl, trivial⟩) (M.laws_eqSeries_ok _ x60.1 (hL.rdO 3 rfl) x33.1 (hL.rdO 8 rfl) hx218) ?_))
                  rintro e219 wd220 ⟨rfl, hF221⟩
                  refine ⟨_, rfl, ?_⟩
                  have hL := hL.pushAll hF221
                  simp only [List.cons_append, List.nil_append, List.set_cons_zero, List.set_cons_succ] at hL
                  refine OW.cons (OP.yes' rfl rfl hb216 (OP.val (v := (.bool (!x217))) rfl (x_not rfl) ?_))
                  refine OW.cons (OP.val (v := (.bool (!x217))) rfl (x_pickF' rfl hb216 rfl) ?_)
                  refine OW.cons (OP.val (v := (.bool (!x217))) rfl (x_move) ?_)
                  refine ifB_elim hm (fun hb222 hm => ?_) (fun hb222 hm => ?_)
                  · refine OW.cons (OP.no' rfl rfl hb222 rfl ?_)
                    refine OW.cons (OP.no' rfl rfl hb222 rfl ?_)
                    refine OW.cons (OP.no' rfl rfl hb222 rfl ?_)
                    refine OW.cons (OP.val (v := (.bool true)) rfl (x_pickT' rfl hb222 rfl) ?_)
                    refine OW.nil ?_
                    have hL := hL.sel [2, 3, 5, 6, 7, 8, 9, 10] (by decide) rfl
                    exact ⟨true, hm, ⟨f78, f79, f80, f81, f84, rfl, hL⟩⟩
                  · refine OW.cons (OP.yes' rfl rfl hb222 (OP.val (v := (.int .i64 x60.2)) rfl (x_mv f85) ?_))
                    refine OW.cons (OP.yes' rfl rfl hb222 (OP.val (v := (.int .i64 x33.2)) rfl (x_mv f81) ?_))
                    refine OW.cons (OP.yes' rfl rfl hb222 (OP.val (v := (.bool (x60.2 != x33.2))) rfl (x_neq rfl rfl) ?_))
                    refine OW.cons (OP.val (v := (.bool (x60.2 != x33.2))) rfl (x_pickF' rfl hb222 rfl) ?_)
                    refine OW.nil ?_
                    have hL := hL.sel [2, 3, 5, 6, 7, 8, 9, 10] (by decide) rfl
                    exact ⟨x60.2 != x33.2, hm, ⟨f78, f79, f80, f81, f84, rfl, hL⟩⟩
              · intro s_j2 F145 wd146 hJ hm
                unfold M.laws_FnExactPenalizedSeries_j2 at hm
                obtain ⟨f147, f148, f149, f150, f151, f152, hL⟩ := hJ
                refine CW.condM (t := s_j2) f152 hm (fun hb153 hm => ?_) (fun hb153 hm => ?_)
                · refine CW.seq ?_
                  refine CW.regionL ?_
                  refine OW.cons (OP.val (v := (.bool false)) rfl (x_assign) ?_)
                  refine OW.nil ?_
                  refine CW.ret ?_
                  obtain rfl := Option.some.inj hm
                  exact RR1 rfl rfl ⟨rfl, hL.fresh 7 rfl [] (by decide) (by decide) rfl⟩
                · refine CW.skip ?_
                  refine CW.seq ?_
                  refine CW.regionL ?_
                  refine OW.cons (OP.val (v := (.int .i64 1)) rfl (x_assign) ?_)
                  refine OW.nil ?_
                  refine CW.seq ?_
                  refine CW.regionL ?_
                  refine OW.cons (OP.val (v := (.agg #[(.int .i64 x60.1.Boats), (.int .i64 x60.1.Scheme), v63])) rfl (x_loadN (cs := [(.int .i64 x60.1.Boats), (.int .i64 x60.1.Scheme), v63]) Try.underlying31 Try_T31 rfl f151 (hL.cellsB 0 rfl (o := 0) (l := [(.int .i64 x60.1.Boats), (.int .i64 x60.1.Scheme), v63]) (by intro j u hj; exact (by simpa using hj)))) ?_)
                  refine OW.cons (OP.val (v := (.int .i64 1)) rfl (x_move) ?_)
                  obtain ⟨x154, hx155, hm⟩ := bndE hm
                  refine OW.cons (OP.call rfl (x_call (vs := [(.agg #[(.int .i64 x60.1.Boats), (.int .i64 x60.1.Scheme), v63]), (.int .i64 1)]) Try_C22 ⟨rfl, rfl, trivial⟩) (M.laws_markSeries_ok _ (Series.mk x60.1.Boats x60.1.Scheme x60.1.Races) (hL.get 1 rfl) 1 hx155) ?_)
                  rintro e156 wd157 ⟨S159, rfl, hF158⟩
                  refine ⟨_, rfl, ?_⟩
                  have hL := hL.mut 1 rfl hF158
                  simp only [List.cons_append, List.nil_append, List.set_cons_zero, List.set_cons_succ] at hL
                  refine OW.cons (OP.val (v := (.int .i64 x154.1)) rfl (x_assign) ?_)
                  refine OW.nil ?_
                  refine CW.seq ?_
                  refine CW.regionL ?_
                  refine OW.cons (OP.val (v := (.int .i64 1)) rfl (x_assign) ?_)
                  refine OW.nil ?_
                  refine CW.seq ?_
                  refine CW.regionL ?_
                  refine OW.cons (OP.val (v := (.agg #[(.int .i64 x60.1.Boats), (.int .i64 x60.1.Scheme), v63])) rfl (x_loadN (cs := [(.int .i64 x60.1.Boats), (.int .i64 x60.1.Scheme), v63]) Try.underlying31 Try_T31 rfl f151 (hL.cellsB 0 rfl (o := 0) (l := [(.int .i64 x60.1.Boats), (.int .i64 x60.1.Scheme), v63]) (by intro j u hj; exact (by simpa using hj)))) ?_)
                  refine OW.cons (OP.val (v := (.int .i64 1)) rfl (x_move) ?_)
                  obtain ⟨x160, hx161, hm⟩ := bndE hm
                  refine OW.cons (OP.call rfl (x_call (vs := [(.agg #[(.int .i64 x60.1.Boats), (.int .i64 x60.1.Scheme), v63]), (.int .i64 1)]) Try_C24 ⟨rfl, rfl, trivial⟩) (M.laws_heldSeries_ok _ (Series.mk x60.1.Boats x60.1.Scheme x154.2.Races) (hL.rdO 1 rfl) 1 hx161) ?_)
                  rintro e162 wd163 ⟨rfl, hF164⟩
                  refine ⟨_, rfl, ?_⟩
                  have hL := hL.pushAll hF164
                  simp only [List.cons_append, List.nil_append, List.set_cons_zero, List.set_cons_succ] at hL
                  refine OW.cons (OP.val (v := (.int .i64 x160)) rfl (x_assign) ?_)
                  refine OW.nil ?_
                  refine CW.seq ?_
                  refine CW.seq ?_
                  refine CW.regionL ?_
                  refine OW.cons (OP.val (v := (.int .i64 x160)) rfl (x_move) ?_)
                  refine OW.cons (OP.val (v := (.bool (decide (x160 < 0)))) rfl (x_lss rfl rfl) ?_)
                  refine OW.nil ?_
                  refine CW.condM (t := decide (x160 < 0)) rfl hm (fun hb165 hm => ?_) (fun hb165 hm => ?_)
                  · refine CW.seq ?_
                    refine CW.regionL ?_
                    refine OW.cons (OP.val (v := (.bool false)) rfl (x_assign) ?_)
                    refine OW.nil ?_
                    refine CW.ret ?_
                    obtain rfl := Option.some.inj hm
                    exact RR1 rfl rfl ⟨rfl, hL.fresh 7 rfl [] (by decide) (by decide) rfl⟩
                  · refine CW.skip ?_
                    refine CW.seq ?_
                    refine CW.seq ?_
                    refine CW.regionL ?_
                    refine OW.cons (OP.val (v := (.int .i64 x160)) rfl (x_move) ?_)
                    refine OW.cons (OP.val (v := (.int .i64 x154.1)) rfl (x_move) ?_)
                    refine OW.cons (OP.val (v := (.bool (x160 != x154.1))) rfl (x_neq rfl rfl) ?_)
                    refine OW.nil ?_
                    refine CW.condM (t := x160 != x154.1) rfl hm (fun hb166 hm => ?_) (fun hb166 hm => ?_)
                    · refine CW.seq ?_
                      refine CW.regionL ?_
                      refine OW.cons (OP.val (v := (.bool false)) rfl (x_assign) ?_)
                      refine OW.nil ?_
                      refine CW.ret ?_
                      obtain rfl := Option.some.inj hm
                      exact RR1 rfl rfl ⟨rfl, hL.fresh 7 rfl [] (by decide) (by decide) rfl⟩
                    · refine CW.skip ?_
                      refine CW.seq ?_
                      refine CW.regionL ?_
                      refine OW.cons (OP.val (v := (.agg #[(.int .i64 a0.Boats), (.int .i64 a0.Scheme), v1])) rfl (x_loadN (cs := [(.int .i64 a0.Boats), (.int .i64 a0.Scheme), v1]) Try.underlying24 Try_T24 rfl f148 (hL.cellsB 6 rfl (o := 0) (l := [(.int .i64 a0.Boats), (.int .i64 a0.Scheme), v1]) (by intro j u hj; exact (by simpa using hj)))) ?_)
                      obtain ⟨x167, hx168, hm⟩ := bndE hm
                      refine OW.cons (OP.call rfl (x_call (vs := [(.agg #[(.int .i64 a0.Boats), (.int .i64 a0.Scheme), v1])]) Try_C11 ⟨rfl, trivial⟩) (M.laws_toSeries_ok _ a0 (hL.rdS 7 rfl h2) hx168) ?_)
                      rintro e171 wd172 ⟨v170, S169, rfl, hF173⟩
                      refine ⟨_, rfl, ?_⟩
                      have hL := hL.pushAll hF173
                      simp only [List.cons_append, List.nil_append, List.set_cons_zero, List.set_cons_succ] at hL
                      refine OW.cons (OP.val (v := v3) rfl (x_mv f147) ?_)
                      obtain ⟨x174, hx175, hm⟩ := bndE hm
                      refine OW.cons (OP.call rfl (x_call (vs := [v3]) Try_C12 ⟨rfl, trivial⟩) (M.laws_toPenaltyS_ok _ a1 (hL.rdS 8 rfl h4) hx175) ?_)
                      rintro e178 wd179 ⟨v177, S176, rfl, hF180⟩
                      refine ⟨_, rfl, ?_⟩
                      have hL := hL.pushAll hF180
                      simp only [List.cons_append, List.nil_append, List.set_cons_zero, List.set_cons_succ] at hL
                      obtain ⟨x181, hx182, hm⟩ := bndE hm
                      refine OW.cons (OP.call rfl (x_call (vs := [(.agg #[(.int .i64 x167.Boats), (.int .i64 x167.Scheme), v170]), v177]) Try_C18 ⟨rfl, rfl, trivial⟩) (M.impl_PenalizedSeries_ok _ x167 (hL.rdO 1 rfl) x174 (hL.rdO 0 rfl) hx182) ?_)
                      rintro e185 wd186 ⟨v184, S183, rfl, hF187⟩
                      refine ⟨_, rfl, ?_⟩
                      have hL := hL.pushAll hF187
                      simp only [List.cons_append, List.nil_append, List.set_cons_zero, List.set_cons_succ] at hL
                      refine OW.cons (OP.val (v := (.tuple #[(.agg #[(.int .i64 x181.1.Boats), (.int .i64 x181.1.Scheme), v184]), (.int .i64 x181.2)])) rfl (x_move) ?_)
                      refine OW.cons (OP.val (v := (.agg #[(.int .i64 x181.1.Boats), (.int .i64 x181.1.Scheme), v184])) rfl (x_extract rfl rfl) ?_)
                      refine OW.cons (OP.val (v := (.int .i64 x181.2)) rfl (x_extract rfl rfl) ?_)
                      refine OW.cons (S_alloc (cs := #[(.int .i64 0), (.int .i64 0), (.slice none 0 0)]) hL Try_T31 rfl rfl ?_)
                      intro wd188 b189 hL
                      refine OW.cons (S_storeN (l := [(.int .i64 x181.1.Boats), (.int .i64 x181.1.Scheme), v184]) (cs' := #[(.int .i64 x181.1.Boats), (.int .i64 x181.1.Scheme), v184]) hL 0 rfl Try_T31 rfl rfl (List.forall_mem_cons.2 ⟨rfl, (List.forall_mem_cons.2 ⟨rfl, (List.forall_mem_cons.2 ⟨rdL_one (hL.rdO 1 rfl), (fun _ h => by cases h)⟩)⟩)⟩) rfl (Nat.le_of_ble_eq_true rfl) rfl ?_)
                      intro wd190 hL
                      refine OW.cons (OP.val (v := (.int .i64 x181.2)) rfl (x_assign) ?_)
                      refine OW.nil ?_
                      refine CW.seq ?_
                      refine CW.seqJ (fun (s_j3 : Bool) (F : Fr) (w : World) => F 10 = (.pointer (some ⟨b68, 0, none⟩)) ∧ F 13 = (.int .i64 x154.1) ∧ F 110 = (.bool s_j3) ∧ Hp w0 [Ent.blk b189 31 #[(.int .i64 x181.1.Boats), (.int .i64 x181.1.Scheme), v184], Ent.own 46 S183 v184 x181.1.Races, Ent.blk b68 31 #[(.int .i64 x60.1.Boats), (.int .i64 x60.1.Scheme), v63], Ent.own 46 S159 v63 x154.2.Races, Ent.blk b51 31 #[(.int .i64 x43.Boats), (.int .i64 x43.Scheme), v46], Ent.own 46 S131 v46 x126.2.Races, Ent.blk b41 31 #[(.int .i64 x33.1.Boats), (.int .i64 x33.1.Scheme), v36], Ent.own 46 S35 v36 x33.1.Races, Ent.blk b6 24 #[(.int .i64 a0.Boats), (.int .i64 a0.Scheme), v1], Ent.snap w0 w0.heap.size] w) (fun s_j3 => M.laws_FnExactPenalizedSeries_j3 x60 x154 s_j3 = some r) ?_ ?_
                      · refine CW.regionL ?_
                        refine OW.cons (OP.val (v := (.agg #[(.int .i64 x181.1.Boats), (.int .i64 x181.1.Scheme), v184])) rfl (x_loadN (cs := [(.int .i64 x181.1.Boats), (.int .i64 x181.1.Scheme), v184]) Try.underlying31 Try_T31 rfl rfl (hL.cellsB 0 rfl (o := 0) (l := [(.int .i64 x181.1.Boats), (.int .i64 x181.1.Scheme), v184]) (by intro j u hj; exact (by simpa using hj)))) ?_)
                        refine OW.cons (OP.val (v := (.agg #[(.int .i64 x33.1.Boats), (.int .i64 x33.1.Scheme), v36])) rfl (x_loadN (cs := [(.int .i64 x33.1.Boats), (.int .i64 x33.1.Scheme), v36]) Try.underlying31 Try_T31 rfl f149 (hL.cellsB 8 rfl (o := 0) (l := [(.int .i64 x33.1.Boats), (.int .i64 x33.1.Scheme), v36]) (by intro j u hj; exact (by simpa using hj)))) ?_)
                        obtain ⟨x210, hx211, hm⟩ := bndE hm
                        refine OW.cons (OP.call rfl (x_call (vs := [(.agg #[(.int .i64 x181.1.Boats), (.int .i64 x181.1.Scheme), v184]), (.agg #[(.int .i64 x33.1.Boats), (.int .i64 x33.1.Scheme), v36])]) Try_C14 ⟨rfl, rfl, trivial⟩) (M.laws_eqSeries_ok _ x181.1 (hL.rdO 1 rfl) x33.1 (hL.rdO 9 rfl) hx211) ?_)
                        rintro e212 wd213 ⟨rfl, hF214⟩
                        refine ⟨_, rfl, ?_⟩
                        have hL := hL.pushAll hF214
                        simp only [List.cons_append, List.nil_append, List.set_cons_zero, List.set_cons_succ] at hL
                        refine OW.cons (OP.val (v := (.bool (!x210))) rfl (x_not rfl) ?_)
                        refine OW.cons (OP.val (v := (.bool (!x210))) rfl (x_move) ?_)
                        refine ifB_elim hm (fun hb215 hm => ?_) (fun hb215 hm => ?_)
                        · refine OW.cons (OP.no' rfl rfl hb215 rfl ?_)
                          refine OW.cons (OP.no' rfl rfl hb215 rfl ?_)
                          refine OW.cons (OP.no' rfl rfl hb215 rfl ?_)
                          refine OW.cons (OP.val (v := (.bool true)) rfl (x_pickT' rfl hb215 rfl) ?_)
                          refine OW.nil ?_
                          have hL := hL.sel [0, 1, 4, 5, 6, 7, 8, 9, 10, 11] (by decide) rfl
                          exact ⟨true, hm, ⟨f151, rfl, rfl, hL⟩⟩
                        · refine OW.cons (OP.yes' rfl rfl hb215 (OP.val (v := (.int .i64 x181.2)) rfl (x_move) ?_))
                          refine OW.cons (OP.yes' rfl rfl hb215 (OP.val (v := (.int .i64 x33.2)) rfl (x_mv f150) ?_))
                          refine OW.cons (OP.yes' rfl rfl hb215 (OP.val (v := (.bool (x181.2 != x33.2))) rfl (x_neq rfl rfl) ?_))
                          refine OW.cons (OP.val (v := (.bool (x181.2 != x33.2))) rfl (x_pickF' rfl hb215 rfl) ?_)
                          refine OW.nil ?_
                          have hL := hL.sel [0, 1, 4, 5, 6, 7, 8, 9, 10, 11] (by decide) rfl
                          exact ⟨x181.2 != x33.2, hm, ⟨f151, rfl, rfl, hL⟩⟩
                      · intro s_j3 F197 wd198 hJ hm
                        unfold M.laws_FnExactPenalizedSeries_j3 at hm
                        obtain ⟨f199, f200, f201, hL⟩ := hJ
                        refine CW.condM (t := s_j3) f201 hm (fun hb202 hm => ?_) (fun hb202 hm => ?_)
                        · refine CW.seq ?_
                          refine CW.regionL ?_
                          refine OW.cons (OP.val (v := (.bool false)) rfl (x_assign) ?_)
                          refine OW.nil ?_
                          refine CW.ret ?_
                          obtain rfl := Option.some.inj hm
                          exact RR1 rfl rfl ⟨rfl, hL.fresh 9 rfl [] (by decide) (by decide) rfl⟩
                        · refine CW.skip ?_
                          refine CW.seq ?_
                          refine CW.regionL ?_
                          refine OW.cons (OP.val (v := (.int .i64 1)) rfl (x_assign) ?_)
                          refine OW.nil ?_
                          refine CW.seq ?_
                          refine CW.regionL ?_
                          refine OW.cons (OP.val (v := (.agg #[(.int .i64 x60.1.Boats), (.int .i64 x60.1.Scheme), v63])) rfl (x_loadN (cs := [(.int .i64 x60.1.Boats), (.int .i64 x60.1.Scheme), v63]) Try.underlying31 Try_T31 rfl f199 (hL.cellsB 2 rfl (o := 0) (l := [(.int .i64 x60.1.Boats), (.int .i64 x60.1.Scheme), v63]) (by intro j u hj; exact (by simpa using hj)))) ?_)
                          refine OW.cons (OP.val (v := (.int .i64 1)) rfl (x_move) ?_)
                          obtain ⟨x203, hx204, hm⟩ := bndE hm
                          refine OW.cons (OP.call rfl (x_call (vs := [(.agg #[(.int .i64 x60.1.Boats), (.int .i64 x60.1.Scheme), v63]), (.int .i64 1)]) Try_C24 ⟨rfl, rfl, trivial⟩) (M.laws_heldSeries_ok _ (Series.mk x60.1.Boats x60.1.Scheme x154.2.Races) (hL.rdO 3 rfl) 1 hx204) ?_)
                          rintro e205 wd206 ⟨rfl, hF207⟩
                          refine ⟨_, rfl, ?_⟩
                          have hL := hL.pushAll hF207
                          simp only [List.cons_append, List.nil_append, List.set_cons_zero, List.set_cons_succ] at hL
                          refine OW.cons (OP.val (v := (.int .i64 x203)) rfl (x_assign) ?_)
                          refine OW.nil ?_
                          refine CW.seq ?_
                          refine CW.seq ?_
                          refine CW.regionL ?_
                          refine OW.cons (OP.val (v := (.int .i64 x203)) rfl (x_move) ?_)
                          refine OW.cons (OP.val (v := (.bool (decide (x203 < 0)))) rfl (x_lss rfl rfl) ?_)
                          refine OW.nil ?_
                          refine CW.condM (t := decide (x203 < 0)) rfl hm (fun hb208 hm => ?_) (fun hb208 hm => ?_)
                          · refine CW.seq ?_
                            refine CW.regionL ?_
                            refine OW.cons (OP.val (v := (.bool false)) rfl (x_assign) ?_)
                            refine OW.nil ?_
                            refine CW.ret ?_
                            obtain rfl := Option.some.inj hm
                            exact RR1 rfl rfl ⟨rfl, hL.fresh 9 rfl [] (by decide) (by decide) rfl⟩
                          · refine CW.skip ?_
                            refine CW.seq ?_
                            refine CW.seq ?_
                            refine CW.regionL ?_
                            refine OW.cons (OP.val (v := (.int .i64 x203)) rfl (x_move) ?_)
                            refine OW.cons (OP.val (v := (.int .i64 x154.1)) rfl (x_mv f200) ?_)
                            refine OW.cons (OP.val (v := (.bool (x203 != x154.1))) rfl (x_neq rfl rfl) ?_)
                            refine OW.nil ?_
                            refine CW.condM (t := x203 != x154.1) rfl hm (fun hb209 hm => ?_) (fun hb209 hm => ?_)
                            · refine CW.seq ?_
                              refine CW.regionL ?_
                              refine OW.cons (OP.val (v := (.bool false)) rfl (x_assign) ?_)
                              refine OW.nil ?_
                              refine CW.ret ?_
                              obtain rfl := Option.some.inj hm
                              exact RR1 rfl rfl ⟨rfl, hL.fresh 9 rfl [] (by decide) (by decide) rfl⟩
                            · refine CW.skip ?_
                              refine CW.seq ?_
                              refine CW.regionL ?_
                              refine OW.cons (OP.val (v := (.bool true)) rfl (x_assign) ?_)
                              refine OW.nil ?_
                              refine CW.ret ?_
                              obtain rfl := Option.some.inj hm
                              exact RR1 rfl rfl ⟨rfl, hL.fresh 9 rfl [] (by decide) (by decide) rfl⟩

end Go.Proofs.Ytgelmamcinlahaa
