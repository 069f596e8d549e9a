/- Links: each Go function returns what its model computes and leaves what was there. Printed by my generator. -/
import Derived.Test.YtgelmamcinlahaaGreatLnkFnExactPlacesLostB
namespace Go.Proofs.YtgelmamcinlahaaGreat
set_option maxRecDepth 10000
open Go Go.RowKit Go.ChangeShapes Go.WideShapes
set_option linter.unusedVariables false
set_option linter.unusedSimpArgs false

theorem M.impl_IsSeries_ok (w0 : World) (a0 : Series) {v1 : Value} (h2 : rdL (· < w0.heap.size) w0 v1 a0.Races) {r : Bool} (hm : M.impl_IsSeries a0 = some r) :
    Calls Tryz.prog 39 #[(.agg #[(.int .i64 a0.Boats), (.int .i64 a0.Scheme), v1])] w0 fun e w' => e = .returned (.bool r) ∧ Fresh w0 w' [] := by
 unfold M.impl_IsSeries at hm
 refine calls_CW (args := [(.agg #[(.int .i64 a0.Boats), (.int .i64 a0.Scheme), v1])]) Tryz.func39 rfl rfl rfl ?_
 have hL := Hp.start w0
 refine CSR ?_
 refine OW.cons (S_box (cs := #[(.int .i64 a0.Boats), (.int .i64 a0.Scheme), v1]) hL rfl rfl rfl ?_)
 intro wd3 b4 hL
 refine OV (.bool false) rfl (x_assign) ?_
 refine ONS ?_
 refine CSR ?_
 refine OV (.pointer (some ⟨b4, 2, none⟩)) rfl (x_fieldAddr (fsz := 1) 0 2 2 U33 rfl Tryz_T31 rfl rfl rfl) ?_
 refine OV v1 rfl (x_load1 U31 rfl rfl (hL.cellB 0 rfl rfl)) ?_
 refine OV (.int .i64 (a0.Races.length : Int)) rfl (x_lenR U31 rfl (hL.rdS 1 rfl h2)) ?_
 refine OV (.int .i64 0) rfl (x_move) ?_
 refine OW.nil ?_
 obtain ⟨o49, ho50, hm⟩ := bndE hm
 refine CW.loopB (fun (s_l1 : Int) (F : Fr) (w : World) => F 1 = (.pointer (some ⟨b4, 0, none⟩)) ∧ F 6 = v1 ∧ F 7 = (.int .i64 (a0.Races.length : Int)) ∧ F 8 = (.int .i64 s_l1) ∧ Hp w0 [Ent.blk b4 33 #[(.int .i64 a0.Boats), (.int .i64 a0.Scheme), v1], Ent.snap w0 w0.heap.size] w) (fun o => outc o (fun x => some x) (fun s => M.impl_IsSeries_a1 a0 s) = some r) ho50 hm ⟨rfl, rfl, rfl, rfl, hL⟩ ?_ ?_
 · intro s_l1 F51 wd52 hJ hm
   have hm := outcE hm
   have hm : M.impl_IsSeries_a1 a0 s_l1 = some r := hm
   unfold M.impl_IsSeries_a1 at hm
   obtain ⟨f53, f54, f55, f56, hL⟩ := hJ
   refine CW.seqJ (fun (s_j1 : Bool) (F : Fr) (w : World) => F 2 = (.bool s_j1) ∧ Hp w0 [Ent.blk b4 33 #[(.int .i64 a0.Boats), (.int .i64 a0.Scheme), v1], Ent.snap w0 w0.heap.size] w) (fun s_j1 => M.impl_IsSeries_j1 s_j1 = some r) ?_ ?_
   · refine CW.regionL ?_
     refine OV (.pointer (some ⟨b4, 0, none⟩)) rfl (x_fieldAddr (fsz := 1) 0 0 0 U33 rfl Tryz_T2 rfl f53 rfl) ?_
     refine OV (.int .i64 a0.Boats) rfl (x_load1 U2 rfl rfl (hL.cellB 0 rfl rfl)) ?_
     obtain ⟨x72, hx73, hm⟩ := bndE hm
     refine OW.cons (OP.call rfl (x_call (vs := [(.int .i64 a0.Boats), (.int .i64 1), (.int .i64 16)]) Tryz_C24 ⟨rfl, rfl, rfl, trivial⟩) (M.impl_within_ok _ a0.Boats 1 16 hx73) ?_)
     rintro e74 wd75 ⟨rfl, hF76⟩
     refine ⟨_, rfl, ?_⟩
     have hL := hL.pushAll hF76
     simp only [lA, lB, lC, lD] at hL
     refine OV (.bool x72) rfl (x_move) ?_
     refine ifB_elim hm (fun hb77 hm => ?_) (fun hb77 hm => ?_)
     · refine OW.cons (OP.yes' rfl rfl hb77 (OP.val (v := (.pointer (some ⟨b4, 1, none⟩))) rfl (x_fieldAddr (fsz := 1) 0 1 1 U33 rfl Tryz_T2 rfl f53 rfl) ?_))
       refine OW.cons (OP.yes' rfl rfl hb77 (OP.val (v := (.int .i64 a0.Scheme)) rfl (x_load1 U2 rfl rfl (hL.cellB 0 rfl rfl)) ?_))
       obtain ⟨x78, hx79, hm⟩ := bndE hm
       refine OW.cons (OP.yes' rfl rfl hb77 (OP.call rfl (x_call (vs := [(.int .i64 a0.Scheme)]) Tryz_C58 ⟨rfl, trivial⟩) (M.impl_isScheme_ok _ a0.Scheme hx79) ?_))
       rintro e80 wd81 ⟨rfl, hF82⟩
       refine ⟨_, rfl, ?_⟩
       have hL := hL.pushAll hF82
       simp only [lA, lB, lC, lD] at hL
       refine OV (.bool x78) rfl (x_pickT' rfl hb77 rfl) ?_
       refine OV (.bool x78) rfl (x_move) ?_
       refine ifB_elim hm (fun hb83 hm => ?_) (fun hb83 hm => ?_)
       · refine OW.cons (OP.yes' rfl rfl hb83 (OP.val (v := (.pointer (some ⟨b4, 2, none⟩))) rfl (x_fieldAddr (fsz := 1) 0 2 2 U33 rfl Tryz_T31 rfl f53 rfl) ?_))
         refine OW.cons (OP.yes' rfl rfl hb83 (OP.val (v := v1) rfl (x_load1 U31 rfl rfl (hL.cellB 0 rfl rfl)) ?_))
         refine OW.cons (OP.yes' rfl rfl hb83 (OP.val (v := (.int .i64 (a0.Races.length : Int))) rfl (x_lenR U31 rfl (hL.rdS 1 rfl h2)) ?_))
         refine OW.cons (OP.yes' rfl rfl hb83 (OP.val (v := (.bool (decide ((a0.Races.length : Int) ≤ 12)))) rfl (x_leq rfl rfl) ?_))
         refine OV (.bool (decide ((a0.Races.length : Int) ≤ 12))) rfl (x_pickT' rfl hb83 rfl) ?_
         refine OV (.bool (decide ((a0.Races.length : Int) ≤ 12))) rfl (x_assign) ?_
         refine OW.nil ?_
         exact ⟨decide ((a0.Races.length : Int) ≤ 12), hm, ⟨rfl, hL⟩⟩
       refine OW.cons (OP.no' rfl rfl hb83 rfl ?_)
       refine OW.cons (OP.no' rfl rfl hb83 rfl ?_)
       refine OW.cons (OP.no' rfl rfl hb83 rfl ?_)
       refine OW.cons (OP.no' rfl rfl hb83 rfl ?_)
       refine OV (.bool false) rfl (x_pickF' rfl hb83 rfl) ?_
       refine OV (.bool false) rfl (x_assign) ?_
       refine OW.nil ?_
       exact ⟨false, hm, ⟨rfl, hL⟩⟩
     refine OW.cons (OP.no' rfl rfl hb77 rfl ?_)
     refine OW.cons (OP.no' rfl rfl hb77 rfl ?_)
     refine OW.cons (OP.no' rfl rfl hb77 rfl ?_)
     refine OV (.bool false) rfl (x_pickF' rfl hb77 rfl) ?_
     refine OV (.bool false) rfl (x_move) ?_
     refine OW.cons (OP.no' rfl rfl rfl rfl ?_)
     refine OW.cons (OP.no' rfl rfl rfl rfl ?_)
     refine OW.cons (OP.no' rfl rfl rfl rfl ?_)
     refine OW.cons (OP.no' rfl rfl rfl rfl ?_)
     refine OV (.bool false) rfl (x_pickF' rfl rfl rfl) ?_
     refine OV (.bool false) rfl (x_assign) ?_
     refine OW.nil ?_
     exact ⟨false, hm, ⟨rfl, hL⟩⟩
   intro s_j1 F69 wd70 hJ hm
   unfold M.impl_IsSeries_j1 at hm
   obtain ⟨f71, hL⟩ := hJ
   refine CW.ret ?_
   obtain rfl := Option.some.inj hm
   exact RR1 rfl f71 ⟨rfl, hL.fresh 1 rfl [] (by decide) (by decide) rfl⟩
 intro s_l1 F84 wd85 t47 hJ hm hr48
 unfold M.impl_IsSeries_l1 at hm
 obtain ⟨f86, f87, f88, f89, hL⟩ := hJ
 refine CSR ?_
 refine OV (.bool (decide (s_l1 < (a0.Races.length : Int)))) rfl (x_lss f89 f88) ?_
 refine ONS ?_
 refine CW.condM (t := decide (s_l1 < (a0.Races.length : Int))) rfl hm (fun hb90 hm => ?_) (fun hb90 hm => ?_)
 · refine CW.skip ?_
   refine CW.seq ?_
   refine CW.block ?_
   refine CSR ?_
   obtain ⟨x91, ha92, hm⟩ := bndE hm
   obtain ⟨hz93, ha101⟩ := idxE ha92
   obtain ⟨b94, q95, v96, hix97, hs98, hc99, hr100⟩ := rdN_at h2 hz93 ha101
   refine OV (.pointer (some ⟨b94, q95, none⟩)) rfl (x_ix U31 Tryz_T75 f87 f89 hix97) ?_
   refine OV (.agg #[v96]) rfl (x_loadN (cs := [v96]) U75 Tryz_T75 rfl rfl (by intro j u hj; match j, hj with | 0, hj => (simp at hj; subst hj; exact (hL.cellS 1 rfl hs98 hc99)))) ?_
   refine OW.cons (S_alloc (cs := #[(.slice none 0 0)]) hL Tryz_T75 rfl rfl ?_)
   intro wd102 b103 hL
   refine OW.cons (S_storeN (l := [v96]) (cs' := #[v96]) hL 0 rfl Tryz_T75 rfl rfl (List.forall_mem_cons.2 ⟨rdL_one (hL.rdS 2 rfl hr100), (fun _ h => by cases h)⟩) rfl (Nat.le_of_ble_eq_true rfl) rfl ?_)
   intro wd104 hL
   refine ONR ?_
   refine OV (.pointer (some ⟨b4, 0, none⟩)) rfl (x_fieldAddr (fsz := 1) 0 0 0 U33 rfl Tryz_T2 rfl f86 rfl) ?_
   refine OV (.int .i64 a0.Boats) rfl (x_load1 U2 rfl rfl (hL.cellB 1 rfl rfl)) ?_
   refine OV (.agg #[v96]) rfl (x_loadN (cs := [v96]) U75 Tryz_T75 rfl rfl (hL.cellsB 0 rfl (o := 0) (l := [v96]) (by intro j u hj; exact (by simpa using hj)))) ?_
   obtain ⟨x105, hx106, hm⟩ := bndE hm
   refine OW.cons (OP.call rfl (x_call (vs := [(.int .i64 a0.Boats), (.agg #[v96])]) Tryz_C57 ⟨rfl, rfl, trivial⟩) (M.impl_IsRace_ok _ a0.Boats x91 (hL.rdS 2 rfl hr100) hx106) ?_)
   rintro e107 wd108 ⟨rfl, hF109⟩
   refine ⟨_, rfl, ?_⟩
   have hL := hL.pushAll hF109
   simp only [lA, lB, lC, lD] at hL
   refine OV (.bool (!x105)) rfl (x_not rfl) ?_
   refine OW.nil ?_
   refine CW.condM (t := !x105) rfl hm (fun hb110 hm => ?_) (fun hb110 hm => ?_)
   · refine CSR ?_
     refine OV (.bool false) rfl (x_assign) ?_
     refine OW.nil ?_
     refine CW.ret ?_
     obtain rfl := Option.some.inj hm
     have hm := hr48 _ rfl
     obtain rfl := Option.some.inj hm
     exact RR1 rfl rfl ⟨rfl, hL.fresh 2 rfl [] (by decide) (by decide) rfl⟩
   refine CW.skip ?_
   refine CW.regionL ?_
   refine OV (.int .i64 (w64 (s_l1 + 1))) rfl (x_add f89 rfl) ?_
   refine OV (.int .i64 (w64 (s_l1 + 1))) rfl (x_move) ?_
   refine OW.nil ?_
   have hL := hL.sel [1, 2] (by decide) rfl
   obtain rfl := Option.some.inj hm
   exact ⟨_, rfl, ⟨f86, f87, f88, rfl, hL⟩⟩
 refine CW.exit ?_
 refine XJ.hit ?_
 obtain rfl := Option.some.inj hm
 exact ⟨_, rfl, ⟨f86, f87, f88, f89, hL⟩⟩

theorem M.impl_isPenaltyCode_ok (w0 : World) (a0 : Int) {r : Bool} (hm : M.impl_isPenaltyCode a0 = some r) :
    Calls Tryz.prog 72 #[(.int .i64 a0)] w0 fun e w' => e = .returned (.bool r) ∧ Fresh w0 w' [] := by
 unfold M.impl_isPenaltyCode at hm
 refine calls_CW (args := [(.int .i64 a0)]) Tryz.func72 rfl rfl rfl ?_
 have hL := Hp.start w0
 refine CSR ?_
 refine OV (.bool false) rfl (x_assign) ?_
 refine OW.nil ?_
 refine CW.seqJ (fun (s_j1 : Bool) (F : Fr) (w : World) => F 2 = (.bool s_j1) ∧ Hp w0 [Ent.snap w0 w0.heap.size] w) (fun s_j1 => M.impl_isPenaltyCode_j1 s_j1 = some r) ?_ ?_
 · refine CW.regionL ?_
   refine OV (.int .i64 a0) rfl (x_move) ?_
   refine OV (.bool (a0 == 6)) rfl (x_eql rfl rfl) ?_
   refine OV (.bool (a0 == 6)) rfl (x_move) ?_
   refine ifB_elim hm (fun hb6 hm => ?_) (fun hb6 hm => ?_)
   · refine OW.cons (OP.no' rfl rfl hb6 rfl ?_)
     refine OW.cons (OP.no' rfl rfl hb6 rfl ?_)
     refine OV (.bool true) rfl (x_pickT' rfl hb6 rfl) ?_
     refine OV (.bool true) rfl (x_move) ?_
     refine OW.cons (OP.no' rfl rfl rfl rfl ?_)
     refine OW.cons (OP.no' rfl rfl rfl rfl ?_)
     refine OV (.bool true) rfl (x_pickT' rfl rfl rfl) ?_
     refine OV (.bool true) rfl (x_assign) ?_
     refine OW.nil ?_
     exact ⟨true, hm, ⟨rfl, hL⟩⟩
   refine OW.cons (OP.yes' rfl rfl hb6 (OP.val (v := (.int .i64 a0)) rfl (x_move) ?_))
   refine OW.cons (OP.yes' rfl rfl hb6 (OP.val (v := (.bool (a0 == 7))) rfl (x_eql rfl rfl) ?_))
   refine OV (.bool (a0 == 7)) rfl (x_pickF' rfl hb6 rfl) ?_
   refine OV (.bool (a0 == 7)) rfl (x_move) ?_
   refine ifB_elim hm (fun hb7 hm => ?_) (fun hb7 hm => ?_)
   · refine OW.cons (OP.no' rfl rfl hb7 rfl ?_)
     refine OW.cons (OP.no' rfl rfl hb7 rfl ?_)
     refine OV (.bool true) rfl (x_pickT' rfl hb7 rfl) ?_
     refine OV (.bool true) rfl (x_assign) ?_
     refine OW.nil ?_
     exact ⟨true, hm, ⟨rfl, hL⟩⟩
   refine OW.cons (OP.yes' rfl rfl hb7 (OP.val (v := (.int .i64 a0)) rfl (x_move) ?_))
   refine OW.cons (OP.yes' rfl rfl hb7 (OP.val (v := (.bool (a0 == 5))) rfl (x_eql rfl rfl) ?_))
   refine OV (.bool (a0 == 5)) rfl (x_pickF' rfl hb7 rfl) ?_
   refine OV (.bool (a0 == 5)) rfl (x_assign) ?_
   refine OW.nil ?_
   exact ⟨a0 == 5, hm, ⟨rfl, hL⟩⟩
 intro s_j1 F3 wd4 hJ hm
 unfold M.impl_isPenaltyCode_j1 at hm
 obtain ⟨f5, hL⟩ := hJ
 refine CW.ret ?_
 obtain rfl := Option.some.inj hm
 exact RR1 rfl f5 ⟨rfl, hL.fresh 0 rfl [] (by decide) (by decide) rfl⟩

theorem M.impl_isElapsed_ok (w0 : World) (a0 : Int) {r : Bool} (hm : M.impl_isElapsed a0 = some r) :
    Calls Tryz.prog 73 #[(.int .i64 a0)] w0 fun e w' => e = .returned (.bool r) ∧ Fresh w0 w' [] := by
 unfold M.impl_isElapsed at hm
 refine calls_CW (args := [(.int .i64 a0)]) Tryz.func73 rfl rfl rfl ?_
 have hL := Hp.start w0
 refine CSR ?_
 refine OV (.bool false) rfl (x_assign) ?_
 refine ONR ?_
 refine OV (.int .i64 a0) rfl (x_move) ?_
 obtain ⟨x1, hx2, hm⟩ := bndE hm
 refine OW.cons (OP.call rfl (x_call (vs := [(.int .i64 a0), (.int .i64 1), (.int .i64 1000000000)]) Tryz_C24 ⟨rfl, rfl, rfl, trivial⟩) (M.impl_within_ok _ a0 1 1000000000 hx2) ?_)
 rintro e3 wd4 ⟨rfl, hF5⟩
 refine ⟨_, rfl, ?_⟩
 have hL := hL.pushAll hF5
 simp only [lA, lB, lC, lD] at hL
 refine OV (.bool x1) rfl (x_assign) ?_
 refine OW.nil ?_
 refine CW.ret ?_
 obtain rfl := Option.some.inj hm
 exact RR1 rfl rfl ⟨rfl, hL.fresh 0 rfl [] (by decide) (by decide) rfl⟩

theorem M.impl_isPenalty_ok (w0 : World) (a0 : Penalty) {r : Bool} (hm : M.impl_isPenalty a0 = some r) :
    Calls Tryz.prog 59 #[(.agg #[(.int .i64 a0.Race), (.int .i64 a0.Boat), (.int .i64 a0.Kind), (.int .i64 a0.Value)])] w0 fun e w' => e = .returned (.bool r) ∧ Fresh w0 w' [] := by
 unfold M.impl_isPenalty at hm
 refine calls_CW (args := [(.agg #[(.int .i64 a0.Race), (.int .i64 a0.Boat), (.int .i64 a0.Kind), (.int .i64 a0.Value)])]) Tryz.func59 rfl rfl rfl ?_
 have hL := Hp.start w0
 refine CSR ?_
 refine OW.cons (S_box (cs := #[(.int .i64 a0.Race), (.int .i64 a0.Boat), (.int .i64 a0.Kind), (.int .i64 a0.Value)]) hL rfl rfl rfl ?_)
 intro wd1 b2 hL
 refine OV (.bool false) rfl (x_assign) ?_
 refine ONS ?_
 refine CSR ?_
 refine OV (.pointer (some ⟨b2, 2, none⟩)) rfl (x_fieldAddr (fsz := 1) 0 2 2 U53 rfl Tryz_T2 rfl rfl rfl) ?_
 refine OV (.int .i64 a0.Kind) rfl (x_load1 U2 rfl rfl (hL.cellB 0 rfl rfl)) ?_
 refine OW.nil ?_
 refine CW.block ?_
 refine CSR ?_
 refine OV (.bool (a0.Kind == 1)) rfl (x_eql rfl rfl) ?_
 refine OV (.bool (a0.Kind == 1)) rfl (x_assign) ?_
 refine OW.nil ?_
 refine CW.condM (t := a0.Kind == 1) rfl hm (fun hb3 hm => ?_) (fun hb3 hm => ?_)
 · refine CSR ?_
   refine OV (.pointer (some ⟨b2, 3, none⟩)) rfl (x_fieldAddr (fsz := 1) 0 3 3 U53 rfl Tryz_T2 rfl rfl rfl) ?_
   refine OV (.int .i64 a0.Value) rfl (x_load1 U2 rfl rfl (hL.cellB 0 rfl rfl)) ?_
   obtain ⟨x4, hx5, hm⟩ := bndE hm
   refine OW.cons (OP.call rfl (x_call (vs := [(.int .i64 a0.Value)]) Tryz_C72 ⟨rfl, trivial⟩) (M.impl_isPenaltyCode_ok _ a0.Value hx5) ?_)
   rintro e6 wd7 ⟨rfl, hF8⟩
   refine ⟨_, rfl, ?_⟩
   have hL := hL.pushAll hF8
   simp only [lA, lB, lC, lD] at hL
   refine OV (.bool x4) rfl (x_assign) ?_
   refine OW.nil ?_
   refine CW.ret ?_
   obtain rfl := Option.some.inj hm
   exact RR1 rfl rfl ⟨rfl, hL.fresh 1 rfl [] (by decide) (by decide) rfl⟩
 refine CSR ?_
 refine OV (.bool (a0.Kind == 2)) rfl (x_eql rfl rfl) ?_
 refine OV (.bool (a0.Kind == 2)) rfl (x_assign) ?_
 refine OW.nil ?_
 refine CW.condM (t := a0.Kind == 2) rfl hm (fun hb9 hm => ?_) (fun hb9 hm => ?_)
 · refine CSR ?_
   refine OV (.pointer (some ⟨b2, 3, none⟩)) rfl (x_fieldAddr (fsz := 1) 0 3 3 U53 rfl Tryz_T2 rfl rfl rfl) ?_
   refine OV (.int .i64 a0.Value) rfl (x_load1 U2 rfl rfl (hL.cellB 0 rfl rfl)) ?_
   obtain ⟨x10, hx11, hm⟩ := bndE hm
   refine OW.cons (OP.call rfl (x_call (vs := [(.int .i64 a0.Value)]) Tryz_C73 ⟨rfl, trivial⟩) (M.impl_isElapsed_ok _ a0.Value hx11) ?_)
   rintro e12 wd13 ⟨rfl, hF14⟩
   refine ⟨_, rfl, ?_⟩
   have hL := hL.pushAll hF14
   simp only [lA, lB, lC, lD] at hL
   refine OV (.bool x10) rfl (x_assign) ?_
   refine OW.nil ?_
   refine CW.ret ?_
   obtain rfl := Option.some.inj hm
   exact RR1 rfl rfl ⟨rfl, hL.fresh 1 rfl [] (by decide) (by decide) rfl⟩
 refine CW.skip ?_
 refine CW.seqJ (fun (s_j1 : Bool) (F : Fr) (w : World) => F 2 = (.bool s_j1) ∧ Hp w0 [Ent.blk b2 53 #[(.int .i64 a0.Race), (.int .i64 a0.Boat), (.int .i64 a0.Kind), (.int .i64 a0.Value)], Ent.snap w0 w0.heap.size] w) (fun s_j1 => M.impl_isPenalty_j1 s_j1 = some r) ?_ ?_
 · refine CW.regionL ?_
   refine OV (.pointer (some ⟨b2, 2, none⟩)) rfl (x_fieldAddr (fsz := 1) 0 2 2 U53 rfl Tryz_T2 rfl rfl rfl) ?_
   refine OV (.int .i64 a0.Kind) rfl (x_load1 U2 rfl rfl (hL.cellB 0 rfl rfl)) ?_
   refine OV (.bool (a0.Kind == 3)) rfl (x_eql rfl rfl) ?_
   refine OV (.bool (a0.Kind == 3)) rfl (x_move) ?_
   refine ifB_elim hm (fun hb24 hm => ?_) (fun hb24 hm => ?_)
   · refine OW.cons (OP.yes' rfl rfl hb24 (OP.val (v := (.pointer (some ⟨b2, 3, none⟩))) rfl (x_fieldAddr (fsz := 1) 0 3 3 U53 rfl Tryz_T2 rfl rfl rfl) ?_))
     refine OW.cons (OP.yes' rfl rfl hb24 (OP.val (v := (.int .i64 a0.Value)) rfl (x_load1 U2 rfl rfl (hL.cellB 0 rfl rfl)) ?_))
     obtain ⟨x25, hx26, hm⟩ := bndE hm
     refine OW.cons (OP.yes' rfl rfl hb24 (OP.call rfl (x_call (vs := [(.int .i64 a0.Value), (.int .i64 1), (.int .i64 100)]) Tryz_C24 ⟨rfl, rfl, rfl, trivial⟩) (M.impl_within_ok _ a0.Value 1 100 hx26) ?_))
     rintro e27 wd28 ⟨rfl, hF29⟩
     refine ⟨_, rfl, ?_⟩
     have hL := hL.pushAll hF29
     simp only [lA, lB, lC, lD] at hL
     refine OV (.bool x25) rfl (x_pickT' rfl hb24 rfl) ?_
     refine OV (.bool x25) rfl (x_assign) ?_
     refine OW.nil ?_
     exact ⟨x25, hm, ⟨rfl, hL⟩⟩
   refine OW.cons (OP.no' rfl rfl hb24 rfl ?_)
   refine OW.cons (OP.no' rfl rfl hb24 rfl ?_)
   refine OW.cons (OP.no' rfl rfl hb24 rfl ?_)
   refine OV (.bool false) rfl (x_pickF' rfl hb24 rfl) ?_
   refine OV (.bool false) rfl (x_assign) ?_
   refine OW.nil ?_
   exact ⟨false, hm, ⟨rfl, hL⟩⟩
 intro s_j1 F21 wd22 hJ hm
 unfold M.impl_isPenalty_j1 at hm
 obtain ⟨f23, hL⟩ := hJ
 refine CW.ret ?_
 obtain rfl := Option.some.inj hm
 exact RR1 rfl f23 ⟨rfl, hL.fresh 1 rfl [] (by decide) (by decide) rfl⟩

theorem M.impl_arePenalties_ok (w0 : World) (a0 : Series) {v1 : Value} (h2 : rdL (· < w0.heap.size) w0 v1 a0.Races) (a1 : List Penalty) {v3 : Value} (h4 : rdL (· < w0.heap.size) w0 v3 a1) {r : Bool} (hm : M.impl_arePenalties a0 a1 = some r) :
    Calls Tryz.prog 40 #[(.agg #[(.int .i64 a0.Boats), (.int .i64 a0.Scheme), v1]), v3] w0 fun e w' => e = .returned (.bool r) ∧ Fresh w0 w' [] := by
 unfold M.impl_arePenalties at hm
 refine calls_CW (args := [(.agg #[(.int .i64 a0.Boats), (.int .i64 a0.Scheme), v1]), v3]) Tryz.func40 rfl rfl rfl ?_
 have hL := Hp.start w0
 refine CSR ?_
 refine OW.cons (S_box (cs := #[(.int .i64 a0.Boats), (.int .i64 a0.Scheme), v1]) hL rfl rfl rfl ?_)
 intro wd5 b6 hL
 refine OV (.bool false) rfl (x_assign) ?_
 refine ONS ?_
 refine CSR ?_
 refine OV v3 rfl (x_move) ?_
 refine OV (.int .i64 (a1.length : Int)) rfl (x_lenR U35 rfl (hL.rdS 1 rfl h4)) ?_
 refine OV (.int .i64 0) rfl (x_move) ?_
 refine OW.nil ?_
 obtain ⟨o117, ho118, hm⟩ := bndE hm
 refine CW.loopB (fun (s_l1 : Int) (F : Fr) (w : World) => F 1 = v3 ∧ F 2 = (.pointer (some ⟨b6, 0, none⟩)) ∧ F 7 = v3 ∧ F 8 = (.int .i64 (a1.length : Int)) ∧ F 9 = (.int .i64 s_l1) ∧ Hp w0 [Ent.blk b6 33 #[(.int .i64 a0.Boats), (.int .i64 a0.Scheme), v1], Ent.snap w0 w0.heap.size] w) (fun o => outc o (fun x => some x) (fun s => M.impl_arePenalties_a1 a1 s) = some r) ho118 hm ⟨rfl, rfl, rfl, rfl, rfl, hL⟩ ?_ ?_
 · intro s_l1 F119 wd120 hJ hm
   have hm := outcE hm
   have hm : M.impl_arePenalties_a1 a1 s_l1 = some r := hm
   unfold M.impl_arePenalties_a1 at hm
   obtain ⟨f121, f122, f123, f124, f125, hL⟩ := hJ
   refine CSR ?_
   refine OV v3 rfl (x_mv f121) ?_
   refine OV (.int .i64 (a1.length : Int)) rfl (x_lenR U35 rfl (hL.rdS 1 rfl h4)) ?_
   refine OV (.bool (decide ((a1.length : Int) ≤ 60))) rfl (x_leq rfl rfl) ?_
   refine OV (.bool (decide ((a1.length : Int) ≤ 60))) rfl (x_assign) ?_
   refine OW.nil ?_
   refine CW.ret ?_
   obtain rfl := Option.some.inj hm
   exact RR1 rfl rfl ⟨rfl, hL.fresh 1 rfl [] (by decide) (by decide) rfl⟩
 intro s_l1 F126 wd127 t115 hJ hm hr116
 unfold M.impl_arePenalties_l1 at hm
 obtain ⟨f128, f129, f130, f131, f132, hL⟩ := hJ
 refine CSR ?_
 refine OV (.bool (decide (s_l1 < (a1.length : Int)))) rfl (x_lss f132 f131) ?_
 refine ONS ?_
 refine CW.condM (t := decide (s_l1 < (a1.length : Int))) rfl hm (fun hb133 hm => ?_) (fun hb133 hm => ?_)
 · refine CW.skip ?_
   refine CW.seq ?_
   refine CW.block ?_
   refine CSR ?_
   obtain ⟨x134, ha135, hm⟩ := bndE hm
   obtain ⟨hz136, ha140⟩ := idxE ha135
   obtain ⟨b137, q138, hix139⟩ := rdL_ix (hL.rdS 1 rfl h4) hz136 ha140
   refine OV (.pointer (some ⟨b137, q138, none⟩)) rfl (x_ix U35 Tryz_T53 f130 f132 hix139) ?_
   refine OV (.agg #[(.int .i64 x134.Race), (.int .i64 x134.Boat), (.int .i64 x134.Kind), (.int .i64 x134.Value)]) rfl (x_loadN (cs := [(.int .i64 x134.Race), (.int .i64 x134.Boat), (.int .i64 x134.Kind), (.int .i64 x134.Value)]) U53 Tryz_T53 rfl rfl (rdF_cells (hL.rdS 1 rfl h4) hix139 ha140)) ?_
   refine OW.cons (S_alloc (cs := #[(.int .i64 0), (.int .i64 0), (.int .i64 0), (.int .i64 0)]) hL Tryz_T53 rfl rfl ?_)
   intro wd141 b142 hL
   refine OW.cons (S_storeN (l := [(.int .i64 x134.Race), (.int .i64 x134.Boat), (.int .i64 x134.Kind), (.int .i64 x134.Value)]) (cs' := #[(.int .i64 x134.Race), (.int .i64 x134.Boat), (.int .i64 x134.Kind), (.int .i64 x134.Value)]) hL 0 rfl Tryz_T53 rfl rfl (List.forall_mem_cons.2 ⟨rfl, (List.forall_mem_cons.2 ⟨rfl, (List.forall_mem_cons.2 ⟨rfl, (List.forall_mem_cons.2 ⟨rfl, (fun _ h => by cases h)⟩)⟩)⟩)⟩) rfl (Nat.le_of_ble_eq_true rfl) rfl ?_)
   intro wd143 hL
   refine OW.nil ?_
   refine CW.seqJ (fun (s_j1 : Bool) (F : Fr) (w : World) => F 1 = v3 ∧ F 2 = (.pointer (some ⟨b6, 0, none⟩)) ∧ F 7 = v3 ∧ F 8 = (.int .i64 (a1.length : Int)) ∧ F 9 = (.int .i64 s_l1) ∧ F 34 = (.bool s_j1) ∧ Hp w0 [Ent.blk b142 53 #[(.int .i64 x134.Race), (.int .i64 x134.Boat), (.int .i64 x134.Kind), (.int .i64 x134.Value)], Ent.blk b6 33 #[(.int .i64 a0.Boats), (.int .i64 a0.Scheme), v1], Ent.snap w0 w0.heap.size] w) (fun s_j1 => M.impl_arePenalties_j1 s_l1 s_j1 = some t115) ?_ ?_
   · refine CW.regionL ?_
     refine OV (.pointer (some ⟨b142, 0, none⟩)) rfl (x_fieldAddr (fsz := 1) 0 0 0 U53 rfl Tryz_T2 rfl rfl rfl) ?_
     refine OV (.int .i64 x134.Race) rfl (x_load1 U2 rfl rfl (hL.cellB 0 rfl rfl)) ?_
     refine OV (.pointer (some ⟨b6, 2, none⟩)) rfl (x_fieldAddr (fsz := 1) 0 2 2 U33 rfl Tryz_T31 rfl f129 rfl) ?_
     refine OV v1 rfl (x_load1 U31 rfl rfl (hL.cellB 1 rfl rfl)) ?_
     refine OV (.int .i64 (a0.Races.length : Int)) rfl (x_lenR U31 rfl (hL.rdS 2 rfl h2)) ?_
     refine OV (.int .i64 (w64 ((a0.Races.length : Int) - 1))) rfl (x_sub rfl rfl) ?_
     obtain ⟨x170, hx171, hm⟩ := bndE hm
     refine OW.cons (OP.call rfl (x_call (vs := [(.int .i64 x134.Race), (.int .i64 0), (.int .i64 (w64 ((a0.Races.length : Int) - 1)))]) Tryz_C24 ⟨rfl, rfl, rfl, trivial⟩) (M.impl_within_ok _ x134.Race 0 (w64 ((a0.Races.length : Int) - 1)) hx171) ?_)
     rintro e172 wd173 ⟨rfl, hF174⟩
     refine ⟨_, rfl, ?_⟩
     have hL := hL.pushAll hF174
     simp only [lA, lB, lC, lD] at hL
     refine OV (.bool (!x170)) rfl (x_not rfl) ?_
     refine OV (.bool (!x170)) rfl (x_move) ?_
     refine ifB_elim hm (fun hb175 hm => ?_) (fun hb175 hm => ?_)
     · refine OW.cons (OP.no' rfl rfl hb175 rfl ?_)
       refine OW.cons (OP.no' rfl rfl hb175 rfl ?_)
       refine OW.cons (OP.no' rfl rfl hb175 rfl ?_)
       refine OW.cons (OP.no' rfl rfl hb175 rfl ?_)
       refine OW.cons (OP.no' rfl rfl hb175 rfl ?_)
       refine OW.cons (OP.no' rfl rfl hb175 rfl ?_)
       refine OW.cons (OP.no' rfl rfl hb175 rfl ?_)
       refine OV (.bool true) rfl (x_pickT' rfl hb175 rfl) ?_
       refine OV (.bool true) rfl (x_move) ?_
       refine OW.cons (OP.no' rfl rfl rfl rfl ?_)
       refine OW.cons (OP.no' rfl rfl rfl rfl ?_)
       refine OW.cons (OP.no' rfl rfl rfl rfl ?_)
       refine OV (.bool true) rfl (x_pickT' rfl rfl rfl) ?_
       refine OW.nil ?_
       exact ⟨true, hm, ⟨f128, f129, f130, f131, f132, rfl, hL⟩⟩
     refine OW.cons (OP.yes' rfl rfl hb175 (OP.val (v := (.pointer (some ⟨b142, 1, none⟩))) rfl (x_fieldAddr (fsz := 1) 0 1 1 U53 rfl Tryz_T2 rfl rfl rfl) ?_))
     refine OW.cons (OP.yes' rfl rfl hb175 (OP.val (v := (.int .i64 x134.Boat)) rfl (x_load1 U2 rfl rfl (hL.cellB 0 rfl rfl)) ?_))
     refine OW.cons (OP.yes' rfl rfl hb175 (OP.val (v := (.pointer (some ⟨b6, 0, none⟩))) rfl (x_fieldAddr (fsz := 1) 0 0 0 U33 rfl Tryz_T2 rfl f129 rfl) ?_))
     refine OW.cons (OP.yes' rfl rfl hb175 (OP.val (v := (.int .i64 a0.Boats)) rfl (x_load1 U2 rfl rfl (hL.cellB 1 rfl rfl)) ?_))
     refine OW.cons (OP.yes' rfl rfl hb175 (OP.val (v := (.int .i64 (w64 (a0.Boats - 1)))) rfl (x_sub rfl rfl) ?_))
     obtain ⟨x176, hx177, hm⟩ := bndE hm
     refine OW.cons (OP.yes' rfl rfl hb175 (OP.call rfl (x_call (vs := [(.int .i64 x134.Boat), (.int .i64 0), (.int .i64 (w64 (a0.Boats - 1)))]) Tryz_C24 ⟨rfl, rfl, rfl, trivial⟩) (M.impl_within_ok _ x134.Boat 0 (w64 (a0.Boats - 1)) hx177) ?_))
     rintro e178 wd179 ⟨rfl, hF180⟩
     refine ⟨_, rfl, ?_⟩
     have hL := hL.pushAll hF180
     simp only [lA, lB, lC, lD] at hL
     refine OW.cons (OP.yes' rfl rfl hb175 (OP.val (v := (.bool (!x176))) rfl (x_not rfl) ?_))
     refine OV (.bool (!x176)) rfl (x_pickF' rfl hb175 rfl) ?_
     refine OV (.bool (!x176)) rfl (x_move) ?_
     refine ifB_elim hm (fun hb181 hm => ?_) (fun hb181 hm => ?_)
     · refine OW.cons (OP.no' rfl rfl hb181 rfl ?_)
       refine OW.cons (OP.no' rfl rfl hb181 rfl ?_)
       refine OW.cons (OP.no' rfl rfl hb181 rfl ?_)
       refine OV (.bool true) rfl (x_pickT' rfl hb181 rfl) ?_
       refine OW.nil ?_
       exact ⟨true, hm, ⟨f128, f129, f130, f131, f132, rfl, hL⟩⟩
     refine OW.cons (OP.yes' rfl rfl hb181 (OP.val (v := (.agg #[(.int .i64 x134.Race), (.int .i64 x134.Boat), (.int .i64 x134.Kind), (.int .i64 x134.Value)])) rfl (x_loadN (cs := [(.int .i64 x134.Race), (.int .i64 x134.Boat), (.int .i64 x134.Kind), (.int .i64 x134.Value)]) U53 Tryz_T53 rfl rfl (hL.cellsB 0 rfl (o := 0) (l := [(.int .i64 x134.Race), (.int .i64 x134.Boat), (.int .i64 x134.Kind), (.int .i64 x134.Value)]) (by intro j u hj; exact (by simpa using hj)))) ?_))
     obtain ⟨x182, hx183, hm⟩ := bndE hm
     refine OW.cons (OP.yes' rfl rfl hb181 (OP.call rfl (x_call (vs := [(.agg #[(.int .i64 x134.Race), (.int .i64 x134.Boat), (.int .i64 x134.Kind), (.int .i64 x134.Value)])]) Tryz_C59 ⟨rfl, trivial⟩) (M.impl_isPenalty_ok _ x134 hx183) ?_))
     rintro e184 wd185 ⟨rfl, hF186⟩
     refine ⟨_, rfl, ?_⟩
     have hL := hL.pushAll hF186
     simp only [lA, lB, lC, lD] at hL
     refine OW.cons (OP.yes' rfl rfl hb181 (OP.val (v := (.bool (!x182))) rfl (x_not rfl) ?_))
     refine OV (.bool (!x182)) rfl (x_pickF' rfl hb181 rfl) ?_
     refine OW.nil ?_
     exact ⟨!x182, hm, ⟨f128, f129, f130, f131, f132, rfl, hL⟩⟩
   intro s_j1 F161 wd162 hJ hm
   unfold M.impl_arePenalties_j1 at hm
   obtain ⟨f163, f164, f165, f166, f167, f168, hL⟩ := hJ
   refine CW.condM (t := s_j1) f168 hm (fun hb169 hm => ?_) (fun hb169 hm => ?_)
   · refine CSR ?_
     refine OV (.bool false) rfl (x_assign) ?_
     refine OW.nil ?_
     refine CW.ret ?_
     obtain rfl := Option.some.inj hm
     have hm := hr116 _ rfl
     obtain rfl := Option.some.inj hm
     exact RR1 rfl rfl ⟨rfl, hL.fresh 2 rfl [] (by decide) (by decide) rfl⟩
   refine CW.skip ?_
   refine CW.regionL ?_
   refine OV (.int .i64 (w64 (s_l1 + 1))) rfl (x_add f167 rfl) ?_
   refine OV (.int .i64 (w64 (s_l1 + 1))) rfl (x_move) ?_
   refine OW.nil ?_
   have hL := hL.sel [1, 2] (by decide) rfl
   obtain rfl := Option.some.inj hm
   exact ⟨_, rfl, ⟨f163, f164, f165, f166, rfl, hL⟩⟩
 refine CW.exit ?_
 refine XJ.hit ?_
 obtain rfl := Option.some.inj hm
 exact ⟨_, rfl, ⟨f128, f129, f130, f131, f132, hL⟩⟩

theorem M.impl_penaltyCode_ok (w0 : World) (a0 : Series) {v1 : Value} (h2 : rdL (· < w0.heap.size) w0 v1 a0.Races) (a1 : List Penalty) {v3 : Value} (h4 : rdL (· < w0.heap.size) w0 v3 a1) {r : Int} (hm : M.impl_penaltyCode a0 a1 = some r) :
    Calls Tryz.prog 22 #[(.agg #[(.int .i64 a0.Boats), (.int .i64 a0.Scheme), v1]), v3] w0 fun e w' => e = .returned (.int .i64 r) ∧ Fresh w0 w' [] := by
 unfold M.impl_penaltyCode at hm
 refine calls_CW (args := [(.agg #[(.int .i64 a0.Boats), (.int .i64 a0.Scheme), v1]), v3]) Tryz.func22 rfl rfl rfl ?_
 have hL := Hp.start w0
 refine CSR ?_
 refine OW.cons (S_box (cs := #[(.int .i64 a0.Boats), (.int .i64 a0.Scheme), v1]) hL rfl rfl rfl ?_)
 intro wd5 b6 hL
 refine OV (.int .i64 0) rfl (x_assign) ?_
 refine ONS ?_
 refine CSR ?_
 refine OV (.agg #[(.int .i64 a0.Boats), (.int .i64 a0.Scheme), v1]) rfl (x_loadN (cs := [(.int .i64 a0.Boats), (.int .i64 a0.Scheme), v1]) U33 Tryz_T33 rfl rfl (hL.cellsB 0 rfl (o := 0) (l := [(.int .i64 a0.Boats), (.int .i64 a0.Scheme), v1]) (by intro j u hj; exact (by simpa using hj)))) ?_
 obtain ⟨x7, hx8, hm⟩ := bndE hm
 refine OW.cons (OP.call rfl (x_call (vs := [(.agg #[(.int .i64 a0.Boats), (.int .i64 a0.Scheme), v1])]) Tryz_C39 ⟨rfl, trivial⟩) (M.impl_IsSeries_ok _ a0 (hL.rdS 1 rfl h2) hx8) ?_)
 rintro e9 wd10 ⟨rfl, hF11⟩
 refine ⟨_, rfl, ?_⟩
 have hL := hL.pushAll hF11
 simp only [lA, lB, lC, lD] at hL
 refine OV (.bool (!x7)) rfl (x_not rfl) ?_
 refine OW.nil ?_
 refine CW.condM (t := !x7) rfl hm (fun hb12 hm => ?_) (fun hb12 hm => ?_)
 · refine CSR ?_
   refine OV (.int .i64 1) rfl (x_assign) ?_
   refine OW.nil ?_
   refine CW.ret ?_
   obtain rfl := Option.some.inj hm
   exact RR1 rfl rfl ⟨rfl, hL.fresh 1 rfl [] (by decide) (by decide) rfl⟩
 refine CW.skip ?_
 refine CW.seq ?_
 refine CSR ?_
 refine OV (.agg #[(.int .i64 a0.Boats), (.int .i64 a0.Scheme), v1]) rfl (x_loadN (cs := [(.int .i64 a0.Boats), (.int .i64 a0.Scheme), v1]) U33 Tryz_T33 rfl rfl (hL.cellsB 0 rfl (o := 0) (l := [(.int .i64 a0.Boats), (.int .i64 a0.Scheme), v1]) (by intro j u hj; exact (by simpa using hj)))) ?_
 refine OV v3 rfl (x_move) ?_
 obtain ⟨x13, hx14, hm⟩ := bndE hm
 refine OW.cons (OP.call rfl (x_call (vs := [(.agg #[(.int .i64 a0.Boats), (.int .i64 a0.Scheme), v1]), v3]) Tryz_C40 ⟨rfl, rfl, trivial⟩) (M.impl_arePenalties_ok _ a0 (hL.rdS 1 rfl h2) a1 (hL.rdS 1 rfl h4) hx14) ?_)
 rintro e15 wd16 ⟨rfl, hF17⟩
 refine ⟨_, rfl, ?_⟩
 have hL := hL.pushAll hF17
 simp only [lA, lB, lC, lD] at hL
 refine OV (.bool (!x13)) rfl (x_not rfl) ?_
 refine OW.nil ?_
 refine CW.condM (t := !x13) rfl hm (fun hb18 hm => ?_) (fun hb18 hm => ?_)
 · refine CSR ?_
   refine OV (.int .i64 2) rfl (x_assign) ?_
   refine OW.nil ?_
   refine CW.ret ?_
   obtain rfl := Option.some.inj hm
   exact RR1 rfl rfl ⟨rfl, hL.fresh 1 rfl [] (by decide) (by decide) rfl⟩
 refine CW.skip ?_
 refine CSR ?_
 refine OV (.int .i64 0) rfl (x_assign) ?_
 refine OW.nil ?_
 refine CW.ret ?_
 obtain rfl := Option.some.inj hm
 exact RR1 rfl rfl ⟨rfl, hL.fresh 1 rfl [] (by decide) (by decide) rfl⟩

theorem M.impl_IsDiscardRule_ok (w0 : World) (a0 : List Int) {v1 : Value} (h2 : rdL (· < w0.heap.size) w0 v1 a0) {r : Bool} (hm : M.impl_IsDiscardRule a0 = some r) :
    Calls Tryz.prog 23 #[v1] w0 fun e w' => e = .returned (.bool r) ∧ Fresh w0 w' [] := by
 unfold M.impl_IsDiscardRule at hm
 refine calls_CW (args := [v1]) Tryz.func23 rfl rfl rfl ?_
 have hL := Hp.start w0
 refine CSR ?_
 refine OV (.bool false) rfl (x_assign) ?_
 refine ONS ?_
 refine CSR ?_
 refine OV v1 rfl (x_move) ?_
 refine OV (.int .i64 (a0.length : Int)) rfl (x_lenR U26 rfl (hL.rdS 0 rfl h2)) ?_
 refine OV (.int .i64 0) rfl (x_move) ?_
 refine OW.nil ?_
 obtain ⟨o93, ho94, hm⟩ := bndE hm
 refine CW.loopB (fun (s_l1 : Int) (F : Fr) (w : World) => F 0 = v1 ∧ F 5 = v1 ∧ F 6 = (.int .i64 (a0.length : Int)) ∧ F 7 = (.int .i64 s_l1) ∧ Hp w0 [Ent.snap w0 w0.heap.size] w) (fun o => outc o (fun x => some x) (fun s => M.impl_IsDiscardRule_a1 a0 s) = some r) ho94 hm ⟨rfl, rfl, rfl, rfl, hL⟩ ?_ ?_
 · intro s_l1 F95 wd96 hJ hm
   have hm := outcE hm
   have hm : M.impl_IsDiscardRule_a1 a0 s_l1 = some r := hm
   unfold M.impl_IsDiscardRule_a1 at hm
   obtain ⟨f97, f98, f99, f100, hL⟩ := hJ
   refine CSR ?_
   refine OV v1 rfl (x_mv f97) ?_
   refine OV (.int .i64 (a0.length : Int)) rfl (x_lenR U26 rfl (hL.rdS 0 rfl h2)) ?_
   refine OV (.bool (decide ((a0.length : Int) ≤ 3))) rfl (x_leq rfl rfl) ?_
   refine OV (.bool (decide ((a0.length : Int) ≤ 3))) rfl (x_assign) ?_
   refine OW.nil ?_
   refine CW.ret ?_
   obtain rfl := Option.some.inj hm
   exact RR1 rfl rfl ⟨rfl, hL.fresh 0 rfl [] (by decide) (by decide) rfl⟩
 intro s_l1 F101 wd102 t91 hJ hm hr92
 unfold M.impl_IsDiscardRule_l1 at hm
 obtain ⟨f103, f104, f105, f106, hL⟩ := hJ
 refine CSR ?_
 refine OV (.bool (decide (s_l1 < (a0.length : Int)))) rfl (x_lss f106 f105) ?_
 refine ONS ?_
 refine CW.condM (t := decide (s_l1 < (a0.length : Int))) rfl hm (fun hb107 hm => ?_) (fun hb107 hm => ?_)
 · refine CW.skip ?_
   refine CW.seq ?_
   refine CW.block ?_
   refine CSR ?_
   refine OV (.int .i64 s_l1) rfl (x_mv f106) ?_
   obtain ⟨x108, ha109, hm⟩ := bndE hm
   obtain ⟨hz110, ha114⟩ := idxE ha109
   obtain ⟨b111, q112, hix113⟩ := rdL_ix (hL.rdS 0 rfl h2) hz110 ha114
   refine OV (.pointer (some ⟨b111, q112, none⟩)) rfl (x_ix U26 Tryz_T2 f104 f106 hix113) ?_
   refine OV (.int .i64 x108) rfl (x_load1 U2 rfl rfl (rdF_cells (hL.rdS 0 rfl h2) hix113 ha114 0 _ rfl)) ?_
   refine OV (.int .i64 s_l1) rfl (x_assign) ?_
   refine OV (.int .i64 x108) rfl (x_assign) ?_
   refine OW.nil ?_
   refine CW.seqJ (fun (s_j1 : Bool) (F : Fr) (w : World) => F 0 = v1 ∧ F 5 = v1 ∧ F 6 = (.int .i64 (a0.length : Int)) ∧ F 7 = (.int .i64 s_l1) ∧ F 27 = (.bool s_j1) ∧ Hp w0 [Ent.snap w0 w0.heap.size] w) (fun s_j1 => M.impl_IsDiscardRule_j1 s_l1 s_j1 = some t91) ?_ ?_
   · refine CW.regionL ?_
     refine OV (.int .i64 x108) rfl (x_move) ?_
     obtain ⟨x137, hx138, hm⟩ := bndE hm
     refine OW.cons (OP.call rfl (x_call (vs := [(.int .i64 x108), (.int .i64 1), (.int .i64 12)]) Tryz_C24 ⟨rfl, rfl, rfl, trivial⟩) (M.impl_within_ok _ x108 1 12 hx138) ?_)
     rintro e139 wd140 ⟨rfl, hF141⟩
     refine ⟨_, rfl, ?_⟩
     have hL := hL.pushAll hF141
     simp only [lA, lB, lC, lD] at hL
     refine OV (.bool (!x137)) rfl (x_not rfl) ?_
     refine OV (.bool (!x137)) rfl (x_move) ?_
     refine ifB_elim hm (fun hb142 hm => ?_) (fun hb142 hm => ?_)
     · refine OW.cons (OP.no' rfl rfl hb142 rfl ?_)
       refine OW.cons (OP.no' rfl rfl hb142 rfl ?_)
       refine OW.cons (OP.no' rfl rfl hb142 rfl ?_)
       refine OW.cons (OP.noU rfl rfl rfl ?_)
       refine OW.cons (OP.noU rfl rfl rfl ?_)
       refine OW.cons (OP.noU rfl rfl rfl ?_)
       refine OW.cons (OP.noU rfl rfl rfl ?_)
       refine OW.cons (OP.noU rfl rfl rfl ?_)
       refine OW.cons (OP.noU rfl rfl rfl ?_)
       refine OW.cons (OP.noU rfl rfl rfl ?_)
       refine OW.cons (OP.no' rfl rfl hb142 rfl ?_)
       refine OV (.bool true) rfl (x_pickT' rfl hb142 rfl) ?_
       refine OW.nil ?_
       exact ⟨true, hm, ⟨f103, f104, f105, f106, rfl, hL⟩⟩
     refine OW.cons (OP.yes' rfl rfl hb142 (OP.val (v := (.int .i64 s_l1)) rfl (x_move) ?_))
     refine OW.cons (OP.yes' rfl rfl hb142 (OP.val (v := (.bool (decide (0 < s_l1)))) rfl (x_gtr rfl rfl) ?_))
     refine OW.cons (OP.yes' rfl rfl hb142 (OP.val (v := (.bool (decide (0 < s_l1)))) rfl (x_move) ?_))
     refine ifB_elim hm (fun hb143 hm => ?_) (fun hb143 hm => ?_)
     · refine OW.cons (OP.yes' rfl rfl hb143 (OP.val (v := v1) rfl (x_mv f103) ?_))
       refine OW.cons (OP.yes' rfl rfl hb143 (OP.val (v := (.int .i64 s_l1)) rfl (x_move) ?_))
       refine OW.cons (OP.yes' rfl rfl hb143 (OP.val (v := (.int .i64 (w64 (s_l1 - 1)))) rfl (x_sub rfl rfl) ?_))
       obtain ⟨x144, ha145, hm⟩ := bndE hm
       obtain ⟨hz146, ha150⟩ := idxE ha145
       obtain ⟨b147, q148, hix149⟩ := rdL_ix (hL.rdS 0 rfl h2) hz146 ha150
       refine OW.cons (OP.yes' rfl rfl hb143 (OP.val (v := (.pointer (some ⟨b147, q148, none⟩))) rfl (x_ix U26 Tryz_T2 rfl rfl hix149) ?_))
       refine OW.cons (OP.yes' rfl rfl hb143 (OP.val (v := (.int .i64 x144)) rfl (x_load1 U2 rfl rfl (rdF_cells (hL.rdS 0 rfl h2) hix149 ha150 0 _ rfl)) ?_))
       refine OW.cons (OP.yes' rfl rfl hb143 (OP.val (v := (.int .i64 x108)) rfl (x_move) ?_))
       refine OW.cons (OP.yes' rfl rfl hb143 (OP.val (v := (.bool (decide (x108 ≤ x144)))) rfl (x_geq rfl rfl) ?_))
       refine OW.cons (OP.yes' rfl rfl hb142 (OP.val (v := (.bool (decide (x108 ≤ x144)))) rfl (x_pickT' rfl hb143 rfl) ?_))
       refine OV (.bool (decide (x108 ≤ x144))) rfl (x_pickF' rfl hb142 rfl) ?_
       refine OW.nil ?_
       exact ⟨decide (x108 ≤ x144), hm, ⟨f103, f104, f105, f106, rfl, hL⟩⟩
     refine OW.cons (OP.no' rfl rfl hb143 rfl ?_)
     refine OW.cons (OP.no' rfl rfl hb143 rfl ?_)
     refine OW.cons (OP.no' rfl rfl hb143 rfl ?_)
     refine OW.cons (OP.no' rfl rfl hb143 rfl ?_)
     refine OW.cons (OP.no' rfl rfl hb143 rfl ?_)
     refine OW.cons (OP.no' rfl rfl hb143 rfl ?_)
     refine OW.cons (OP.no' rfl rfl hb143 rfl ?_)
     refine OW.cons (OP.yes' rfl rfl hb142 (OP.val (v := (.bool false)) rfl (x_pickF' rfl hb143 rfl) ?_))
     refine OV (.bool false) rfl (x_pickF' rfl hb142 rfl) ?_
     refine OW.nil ?_
     exact ⟨false, hm, ⟨f103, f104, f105, f106, rfl, hL⟩⟩
   intro s_j1 F129 wd130 hJ hm
   unfold M.impl_IsDiscardRule_j1 at hm
   obtain ⟨f131, f132, f133, f134, f135, hL⟩ := hJ
   refine CW.condM (t := s_j1) f135 hm (fun hb136 hm => ?_) (fun hb136 hm => ?_)
   · refine CSR ?_
     refine OV (.bool false) rfl (x_assign) ?_
     refine OW.nil ?_
     refine CW.ret ?_
     obtain rfl := Option.some.inj hm
     have hm := hr92 _ rfl
     obtain rfl := Option.some.inj hm
     exact RR1 rfl rfl ⟨rfl, hL.fresh 0 rfl [] (by decide) (by decide) rfl⟩
   refine CW.skip ?_
   refine CW.regionL ?_
   refine OV (.int .i64 (w64 (s_l1 + 1))) rfl (x_add f134 rfl) ?_
   refine OV (.int .i64 (w64 (s_l1 + 1))) rfl (x_move) ?_
   refine OW.nil ?_
   obtain rfl := Option.some.inj hm
   exact ⟨_, rfl, ⟨f131, f132, f133, rfl, hL⟩⟩
 refine CW.exit ?_
 refine XJ.hit ?_
 obtain rfl := Option.some.inj hm
 exact ⟨_, rfl, ⟨f103, f104, f105, f106, hL⟩⟩

theorem M.impl_penalizedSeries_ok (w0 : World) (a0 : Series) {v1 : Value} (h2 : rdL (· < w0.heap.size) w0 v1 a0.Races) (a1 : List Penalty) {v3 : Value} (h4 : rdL (· < w0.heap.size) w0 v3 a1) {r : Series} (hm : M.impl_penalizedSeries a0 a1 = some r) :
    Calls Tryz.prog 42 #[(.agg #[(.int .i64 a0.Boats), (.int .i64 a0.Scheme), v1]), v3] w0 fun e w' => ∃ (rv0 : Value) (rS0 : Nat → Prop), e = .returned (.agg #[(.int .i64 r.Boats), (.int .i64 r.Scheme), rv0]) ∧ Fresh w0 w' [Ent.own 75 rS0 rv0 r.Races] := by
 unfold M.impl_penalizedSeries at hm
 refine calls_CW (args := [(.agg #[(.int .i64 a0.Boats), (.int .i64 a0.Scheme), v1]), v3]) Tryz.func42 rfl rfl rfl ?_
 have hL := Hp.start w0
 refine CSR ?_
 refine OW.cons (S_box (cs := #[(.int .i64 a0.Boats), (.int .i64 a0.Scheme), v1]) hL rfl rfl rfl ?_)
 intro wd5 b6 hL
 refine OW.cons (S_alloc (cs := #[(.int .i64 0), (.int .i64 0), (.slice none 0 0)]) hL Tryz_T33 rfl rfl ?_)
 intro wd7 b8 hL
 refine ONR ?_
 refine OV (.pointer (some ⟨b6, 0, none⟩)) rfl (x_fieldAddr (fsz := 1) 0 0 0 U33 rfl Tryz_T2 rfl rfl rfl) ?_
 refine OV (.int .i64 a0.Boats) rfl (x_load1 U2 rfl rfl (hL.cellB 1 rfl rfl)) ?_
 refine OV (.pointer (some ⟨b6, 1, none⟩)) rfl (x_fieldAddr (fsz := 1) 0 1 1 U33 rfl Tryz_T2 rfl rfl rfl) ?_
 refine OV (.int .i64 a0.Scheme) rfl (x_load1 U2 rfl rfl (hL.cellB 1 rfl rfl)) ?_
 refine OV (.agg #[(.int .i64 a0.Boats), (.int .i64 a0.Scheme), (.slice none 0 0)]) rfl (x_build Tryz_B33 (ps := [(0, (.int .i64 a0.Boats)), (1, (.int .i64 a0.Scheme))]) ⟨⟨rfl, rfl⟩, ⟨rfl, rfl⟩, trivial⟩ (by simp [Instr.fill, cells_int, cells_bool, cells_string, cells_agg, cells_slice, cells_pointer])) ?_
 refine OW.cons (S_alloc (cs := #[(.int .i64 0), (.int .i64 0), (.slice none 0 0)]) hL Tryz_T33 rfl rfl ?_)
 intro wd9 b10 hL
 refine OW.cons (S_storeN (l := [(.int .i64 a0.Boats), (.int .i64 a0.Scheme), (.slice none 0 0)]) (cs' := #[(.int .i64 a0.Boats), (.int .i64 a0.Scheme), (.slice none 0 0)]) hL 0 rfl Tryz_T33 rfl rfl (List.forall_mem_cons.2 ⟨rfl, (List.forall_mem_cons.2 ⟨rfl, (List.forall_mem_cons.2 ⟨rfl, (fun _ h => by cases h)⟩)⟩)⟩) rfl (Nat.le_of_ble_eq_true rfl) rfl ?_)
 intro wd11 hL
 refine ONS ?_
 refine CSR ?_
 refine OV (.pointer (some ⟨b6, 2, none⟩)) rfl (x_fieldAddr (fsz := 1) 0 2 2 U33 rfl Tryz_T31 rfl rfl rfl) ?_
 refine OV v1 rfl (x_load1 U31 rfl rfl (hL.cellB 2 rfl rfl)) ?_
 refine OV (.int .i64 (a0.Races.length : Int)) rfl (x_lenR U31 rfl (hL.rdS 3 rfl h2)) ?_
 refine OV (.int .i64 0) rfl (x_move) ?_
 refine OW.nil ?_
 obtain ⟨o108, ho109, hm⟩ := bndE hm
 have hL := hL.pushNil Race 75
 refine CW.loopB (fun (s_l1 : (List Race) × Int) (F : Fr) (w : World) => ∃ (v104 : Value) (S105 : Nat → Prop), F 1 = v3 ∧ F 4 = (.pointer (some ⟨b8, 0, none⟩)) ∧ F 5 = (.pointer (some ⟨b10, 0, none⟩)) ∧ F 19 = v1 ∧ F 20 = (.int .i64 (a0.Races.length : Int)) ∧ F 21 = (.int .i64 s_l1.2) ∧ Hp w0 [Ent.own 75 S105 v104 s_l1.1, Ent.blk b10 33 #[(.int .i64 a0.Boats), (.int .i64 a0.Scheme), v104], Ent.blk b8 33 #[(.int .i64 0), (.int .i64 0), (.slice none 0 0)], Ent.blk b6 33 #[(.int .i64 a0.Boats), (.int .i64 a0.Scheme), v1], Ent.snap w0 w0.heap.size] w) (fun o => outc o (fun x => some x) (fun s => M.impl_penalizedSeries_a1 a0 a1 s) = some r) ho109 hm ⟨(.slice none 0 0), None_, rfl, rfl, rfl, rfl, rfl, rfl, hL⟩ ?_ ?_
 · intro s_l1 F110 wd111 hJ hm
   have hm := outcE hm
   have hm : M.impl_penalizedSeries_a1 a0 a1 s_l1 = some r := hm
   unfold M.impl_penalizedSeries_a1 at hm
   obtain ⟨v104, S105, f112, f113, f114, f115, f116, f117, hL⟩ := hJ
   refine CW.seq ?_
   refine CSR ?_
   refine OV v3 rfl (x_mv f112) ?_
   refine OV (.int .i64 (a1.length : Int)) rfl (x_lenR U35 rfl (hL.rdS 4 rfl h4)) ?_
   refine OV (.int .i64 0) rfl (x_move) ?_
   refine OW.nil ?_
   obtain ⟨o618, ho619, hm⟩ := bndE hm
   refine CW.loopB (fun (s_l2 : (List Race) × Int) (F : Fr) (w : World) => ∃ (S615 : Nat → Prop), F 1 = v3 ∧ F 4 = (.pointer (some ⟨b8, 0, none⟩)) ∧ F 5 = (.pointer (some ⟨b10, 0, none⟩)) ∧ F 36 = v3 ∧ F 37 = (.int .i64 (a1.length : Int)) ∧ F 38 = (.int .i64 s_l2.2) ∧ Hp w0 [Ent.own 75 S615 v104 s_l2.1, Ent.blk b10 33 #[(.int .i64 a0.Boats), (.int .i64 a0.Scheme), v104], Ent.blk b8 33 #[(.int .i64 0), (.int .i64 0), (.slice none 0 0)], Ent.blk b6 33 #[(.int .i64 a0.Boats), (.int .i64 a0.Scheme), v1], Ent.snap w0 w0.heap.size] w) (fun o => outc o (fun x => some x) (fun s => M.impl_penalizedSeries_a2 a0 a1 s) = some r) ho619 hm ⟨S105, f112, f113, f114, rfl, rfl, rfl, hL⟩ ?_ ?_
   · intro s_l2 F620 wd621 hJ hm
     have hm := outcE hm
     have hm : M.impl_penalizedSeries_a2 a0 a1 s_l2 = some r := hm
     unfold M.impl_penalizedSeries_a2 at hm
     obtain ⟨S615, f622, f623, f624, f625, f626, f627, hL⟩ := hJ
     refine CW.seq ?_
     refine CSR ?_
     refine OV v3 rfl (x_mv f622) ?_
     refine OV (.int .i64 (a1.length : Int)) rfl (x_lenR U35 rfl (hL.rdS 4 rfl h4)) ?_
     refine OV (.int .i64 0) rfl (x_move) ?_
     refine OW.nil ?_
     obtain ⟨o1018, ho1019, hm⟩ := bndE hm
     refine CW.loopB (fun (s_l3 : (List Race) × Int) (F : Fr) (w : World) => ∃ (S1015 : Nat → Prop), F 4 = (.pointer (some ⟨b8, 0, none⟩)) ∧ F 5 = (.pointer (some ⟨b10, 0, none⟩)) ∧ F 74 = v3 ∧ F 75 = (.int .i64 (a1.length : Int)) ∧ F 76 = (.int .i64 s_l3.2) ∧ Hp w0 [Ent.own 75 S1015 v104 s_l3.1, Ent.blk b10 33 #[(.int .i64 a0.Boats), (.int .i64 a0.Scheme), v104], Ent.blk b8 33 #[(.int .i64 0), (.int .i64 0), (.slice none 0 0)], Ent.blk b6 33 #[(.int .i64 a0.Boats), (.int .i64 a0.Scheme), v1], Ent.snap w0 w0.heap.size] w) (fun o => outc o (fun x => some x) (fun s => M.impl_penalizedSeries_a3 a0 s) = some r) ho1019 hm ⟨S615, f623, f624, rfl, rfl, rfl, hL⟩ ?_ ?_
     · intro s_l3 F1020 wd1021 hJ hm
       have hm := outcE hm
       have hm : M.impl_penalizedSeries_a3 a0 s_l3 = some r := hm
       unfold M.impl_penalizedSeries_a3 at hm
       obtain ⟨S1015, f1022, f1023, f1024, f1025, f1026, hL⟩ := hJ
       refine CSR ?_
       refine OV (.agg #[(.int .i64 a0.Boats), (.int .i64 a0.Scheme), v104]) rfl (x_loadN (cs := [(.int .i64 a0.Boats), (.int .i64 a0.Scheme), v104]) U33 Tryz_T33 rfl f1023 (hL.cellsB 1 rfl (o := 0) (l := [(.int .i64 a0.Boats), (.int .i64 a0.Scheme), v104]) (by intro j u hj; exact (by simpa using hj)))) ?_
       refine OW.cons (S_storeN (l := [(.int .i64 a0.Boats), (.int .i64 a0.Scheme), v104]) (cs' := #[(.int .i64 a0.Boats), (.int .i64 a0.Scheme), v104]) hL 2 rfl Tryz_T33 f1022 rfl (List.forall_mem_cons.2 ⟨rfl, (List.forall_mem_cons.2 ⟨rfl, (List.forall_mem_cons.2 ⟨rdL_one (hL.rdO 0 rfl), (fun _ h => by cases h)⟩)⟩)⟩) rfl (Nat.le_of_ble_eq_true rfl) rfl ?_)
       intro wd1027 hL
       refine OW.nil ?_
       refine CW.ret ?_
       obtain rfl := Option.some.inj hm
       exact RRc rfl f1022 (run_loadBlk U33 Tryz_T33 (hL.get 2 rfl) rfl) ⟨v104, S1015, rfl, hL.fresh 4 rfl [0] (by decide) (by decide) rfl⟩
     intro s_l3 F1028 wd1029 t1016 hJ hm hr1017
     unfold M.impl_penalizedSeries_l3 at hm
     obtain ⟨S1015, f1030, f1031, f1032, f1033, f1034, hL⟩ := hJ
     refine CSR ?_
     refine OV (.bool (decide (s_l3.2 < (a1.length : Int)))) rfl (x_lss f1034 f1033) ?_
     refine ONS ?_
     refine CW.condM (t := decide (s_l3.2 < (a1.length : Int))) rfl hm (fun hb1035 hm => ?_) (fun hb1035 hm => ?_)
     · refine CW.skip ?_
       refine CW.seqJ (fun (s_j1 : (List Race)) (F : Fr) (w : World) => ∃ (S1128 : Nat → Prop), F 4 = (.pointer (some ⟨b8, 0, none⟩)) ∧ F 5 = (.pointer (some ⟨b10, 0, none⟩)) ∧ F 74 = v3 ∧ F 75 = (.int .i64 (a1.length : Int)) ∧ F 76 = (.int .i64 s_l3.2) ∧ Hp w0 [Ent.own 75 S1128 v104 s_j1, Ent.blk b10 33 #[(.int .i64 a0.Boats), (.int .i64 a0.Scheme), v104], Ent.blk b8 33 #[(.int .i64 0), (.int .i64 0), (.slice none 0 0)], Ent.blk b6 33 #[(.int .i64 a0.Boats), (.int .i64 a0.Scheme), v1], Ent.snap w0 w0.heap.size] w) (fun s_j1 => M.impl_penalizedSeries_j1 s_l3 s_j1 = some t1016) ?_ ?_
       · refine CW.blockJ (fun (s_j2 : (List Race)) (F : Fr) (w : World) => ∃ (S1178 : Nat → Prop), F 4 = (.pointer (some ⟨b8, 0, none⟩)) ∧ F 5 = (.pointer (some ⟨b10, 0, none⟩)) ∧ F 74 = v3 ∧ F 75 = (.int .i64 (a1.length : Int)) ∧ F 76 = (.int .i64 s_l3.2) ∧ Hp w0 [Ent.own 75 S1178 v104 s_j2, Ent.blk b10 33 #[(.int .i64 a0.Boats), (.int .i64 a0.Scheme), v104], Ent.blk b8 33 #[(.int .i64 0), (.int .i64 0), (.slice none 0 0)], Ent.blk b6 33 #[(.int .i64 a0.Boats), (.int .i64 a0.Scheme), v1], Ent.snap w0 w0.heap.size] w) (fun s_j2 => M.impl_penalizedSeries_j2 s_l3 s_j2 = some t1016) ?_ ?_
         · refine CSR ?_
           obtain ⟨x1186, ha1187, hm⟩ := bndE hm
           obtain ⟨hz1188, ha1192⟩ := idxE ha1187
           obtain ⟨b1189, q1190, hix1191⟩ := rdL_ix (hL.rdS 4 rfl h4) hz1188 ha1192
           refine OV (.pointer (some ⟨b1189, q1190, none⟩)) rfl (x_ix U35 Tryz_T53 f1032 f1034 hix1191) ?_
           refine OV (.agg #[(.int .i64 x1186.Race), (.int .i64 x1186.Boat), (.int .i64 x1186.Kind), (.int .i64 x1186.Value)]) rfl (x_loadN (cs := [(.int .i64 x1186.Race), (.int .i64 x1186.Boat), (.int .i64 x1186.Kind), (.int .i64 x1186.Value)]) U53 Tryz_T53 rfl rfl (rdF_cells (hL.rdS 4 rfl h4) hix1191 ha1192)) ?_
           refine OW.cons (S_alloc (cs := #[(.int .i64 0), (.int .i64 0), (.int .i64 0), (.int .i64 0)]) hL Tryz_T53 rfl rfl ?_)
           intro wd1193 b1194 hL
           refine OW.cons (S_storeN (l := [(.int .i64 x1186.Race), (.int .i64 x1186.Boat), (.int .i64 x1186.Kind), (.int .i64 x1186.Value)]) (cs' := #[(.int .i64 x1186.Race), (.int .i64 x1186.Boat), (.int .i64 x1186.Kind), (.int .i64 x1186.Value)]) hL 0 rfl Tryz_T53 rfl rfl (List.forall_mem_cons.2 ⟨rfl, (List.forall_mem_cons.2 ⟨rfl, (List.forall_mem_cons.2 ⟨rfl, (List.forall_mem_cons.2 ⟨rfl, (fun _ h => by cases h)⟩)⟩)⟩)⟩) rfl (Nat.le_of_ble_eq_true rfl) rfl ?_)
           intro wd1195 hL
           refine ONR ?_
           refine OV (.pointer (some ⟨b1194, 2, none⟩)) rfl (x_fieldAddr (fsz := 1) 0 2 2 U53 rfl Tryz_T2 rfl rfl rfl) ?_
           refine OV (.int .i64 x1186.Kind) rfl (x_load1 U2 rfl rfl (hL.cellB 0 rfl rfl)) ?_
           refine OV (.bool (x1186.Kind == 1)) rfl (x_eql rfl rfl) ?_
           refine OW.nil ?_
           refine CW.condM (t := x1186.Kind == 1) rfl hm (fun hb1196 hm => ?_) (fun hb1196 hm => ?_)
           · obtain ⟨wz1197, hL, ho1198⟩ := hL.freeze 1 rfl
             simp only [lC, lD] at hL
             refine CW.draw Tryz_mixed ?_
             have hL := hL.call (Mod.drew _)
             refine DW.pre (fuel := 1) (fin := bma 16 32767) (C := fun w' => Mod None_ _ w') [0, 1, 2, 3, 4, 5, 6, 7, 8, 9, 10, 11, 12, 13, 14] (Mod.refl _ _) (by kernel_rfl) (by kernel_rfl) ?_
             refine QW.cons rfl (QP.val (v := (.pointer (some ⟨b10, 2, none⟩))) rfl (fun w' hm' => x_fieldAddr (fsz := 1) 0 2 2 U33 rfl Tryz_T31 rfl f1031 rfl) ?_)
             refine QW.cons rfl (QP.val (v := v104) rfl (fun w' hm' => x_load1 U31 rfl rfl ((hL.call hm').cellB 2 rfl rfl)) ?_)
             refine QW.cons rfl (QP.val (v := (.pointer (some ⟨b1194, 0, none⟩))) rfl (fun w' hm' => x_fieldAddr (fsz := 1) 0 0 0 U53 rfl Tryz_T2 rfl rfl rfl) ?_)
             refine QW.cons rfl (QP.val (v := (.int .i64 x1186.Race)) rfl (fun w' hm' => x_load1 U2 rfl rfl ((hL.call hm').cellB 0 rfl rfl)) ?_)
             obtain ⟨x1199, ha1200, hm⟩ := bndE hm
             obtain ⟨hz1201, ha1209⟩ := idxE ha1200
             obtain ⟨b1202, q1203, v1204, hix1205, hs1206, hc1207, hr1208⟩ := rdN_at ho1198.1.rdL hz1201 ha1209
             refine QW.cons rfl (QP.val (v := (.pointer (some ⟨b1202, q1203, none⟩))) rfl (fun w' hm' => x_ix U31 Tryz_T75 rfl rfl hix1205) ?_)
             refine QW.cons rfl (QP.val (v := (.pointer (some ⟨b1202, q1203, none⟩))) rfl (fun w' hm' => x_fieldAddr (fsz := 1) q1203 0 q1203 U75 rfl Tryz_T73 rfl rfl rfl) ?_)
             refine QW.cons rfl (QP.val (v := v1204) rfl (fun w' hm' => x_load1 U73 rfl rfl ((hL.call hm').cellF 1 rfl hs1206 hc1207)) ?_)
             refine QW.cons rfl (QP.val (v := (.pointer (some ⟨b1194, 1, none⟩))) rfl (fun w' hm' => x_fieldAddr (fsz := 1) 0 1 1 U53 rfl Tryz_T2 rfl rfl rfl) ?_)
             refine QW.cons rfl (QP.val (v := (.int .i64 x1186.Boat)) rfl (fun w' hm' => x_load1 U2 rfl rfl ((hL.call hm').cellB 0 rfl rfl)) ?_)
             refine QW.cons rfl (QP.val (v := (.pointer (some ⟨b1194, 1, none⟩))) rfl (fun w' hm' => x_fieldAddr (fsz := 1) 0 1 1 U53 rfl Tryz_T2 rfl rfl rfl) ?_)
             refine QW.cons rfl (QP.val (v := (.int .i64 x1186.Boat)) rfl (fun w' hm' => x_load1 U2 rfl rfl ((hL.call hm').cellB 0 rfl rfl)) ?_)
             refine QW.cons rfl (QP.val (v := (.pointer (some ⟨b1194, 3, none⟩))) rfl (fun w' hm' => x_fieldAddr (fsz := 1) 0 3 3 U53 rfl Tryz_T2 rfl rfl rfl) ?_)
             refine QW.cons rfl (QP.val (v := (.int .i64 x1186.Value)) rfl (fun w' hm' => x_load1 U2 rfl rfl ((hL.call hm').cellB 0 rfl rfl)) ?_)
             refine QW.cons rfl (QP.val (v := (.agg #[(.int .i64 x1186.Boat), (.int .i64 x1186.Value), (.int .i64 0)])) rfl (fun w' hm' => x_build Tryz_B79 (ps := [(0, (.int .i64 x1186.Boat)), (1, (.int .i64 x1186.Value)), (2, (.int .i64 0))]) ⟨⟨rfl, rfl⟩, ⟨rfl, rfl⟩, ⟨rfl, rfl⟩, trivial⟩ (by simp [Instr.fill, cells_int, cells_bool, cells_string, cells_agg, cells_slice, cells_pointer])) ?_)
             obtain ⟨x1210, ha1211, hm⟩ := bndE hm
             obtain ⟨hz1212, ha1216⟩ := idxE ha1211
             obtain ⟨b1213, q1214, hix1215⟩ := rdL_ix (hL.rdF 1 rfl hr1208) hz1212 ha1216
             refine QW.cons rfl (QP.val (v := (.pointer (some ⟨b1213, q1214, none⟩))) rfl (fun w' hm' => x_ix U73 Tryz_T79 rfl rfl hix1215) ?_)
             refine QW.nil ?_
             intro wd1217 hmod
             have hL := hL.call hmod
             have hc1219 := hL.cellF 1 rfl hs1206 hc1207
             have hL := hL.thaw 1 rfl ho1198
             simp only [lC, lD] at hL
             refine DW.only 15 rfl (by kernel_rfl) (S_inRowC (α := Finish) (x1199.Finishes.set (x1186.Boat : Int).toNat (Finish.mk x1186.Boat x1186.Value 0)) (Race.mk (x1199.Finishes.set (x1186.Boat : Int).toNat (Finish.mk x1186.Boat x1186.Value 0))) rfl hL 1 rfl hix1205 ha1209 hc1219 (fun E2 S1 hL hK => S_storeXN (l := [(.int .i64 x1186.Boat), (.int .i64 x1186.Value), (.int .i64 0)]) (Finish.mk x1186.Boat x1186.Value 0) hL 0 rfl Tryz_T79 hix1215 ha1216 rfl rfl rfl hK) ?_)
             intro wd1218 S1220 hL hc1221 ha1222
             simp only [lC, lD] at hL
             obtain ⟨wz1223, hL, ho1224, hs1225, hc1226, hr1227⟩ := hL.freezeAt (α := Finish) 1 rfl hix1205 ha1222 hc1221
             simp only [lC, lD] at hL
             refine DW.done (by kernel_rfl) ?_
             have hL := hL.thaw 1 rfl ho1224
             have hL := hL.sel [1, 2, 3, 4, 5] (by decide) rfl
             exact ⟨s_l3.1.set (x1186.Race : Int).toNat (Race.mk (x1199.Finishes.set (x1186.Boat : Int).toNat (Finish.mk x1186.Boat x1186.Value 0))), hm, ⟨S1220, f1030, f1031, f1032, f1033, f1034, hL⟩⟩
           refine CW.skip ?_
           have hL := hL.sel [1, 2, 3, 4, 5] (by decide) rfl
           exact ⟨s_l3.1, hm, ⟨S1015, f1030, f1031, f1032, f1033, f1034, hL⟩⟩
         intro s_j2 F1179 wd1180 hJ hm
         unfold M.impl_penalizedSeries_j2 at hm
         obtain ⟨S1178, f1181, f1182, f1183, f1184, f1185, hL⟩ := hJ
         exact ⟨s_j2, hm, ⟨S1178, f1181, f1182, f1183, f1184, f1185, hL⟩⟩
       intro s_j1 F1129 wd1130 hJ hm
       unfold M.impl_penalizedSeries_j1 at hm
       obtain ⟨S1128, f1131, f1132, f1133, f1134, f1135, hL⟩ := hJ
       refine CW.regionL ?_
       refine OV (.int .i64 (w64 (s_l3.2 + 1))) rfl (x_add f1135 rfl) ?_
       refine OV (.int .i64 (w64 (s_l3.2 + 1))) rfl (x_move) ?_
       refine OW.nil ?_
       obtain rfl := Option.some.inj hm
       exact ⟨_, rfl, ⟨S1128, f1131, f1132, f1133, f1134, rfl, hL⟩⟩
     refine CW.exit ?_
     refine XJ.hit ?_
     obtain rfl := Option.some.inj hm
     exact ⟨_, rfl, ⟨S1015, f1030, f1031, f1032, f1033, f1034, hL⟩⟩
   intro s_l2 F1228 wd1229 t616 hJ hm hr617
   unfold M.impl_penalizedSeries_l2 at hm
   obtain ⟨S615, f1230, f1231, f1232, f1233, f1234, f1235, hL⟩ := hJ
   refine CSR ?_
   refine OV (.bool (decide (s_l2.2 < (a1.length : Int)))) rfl (x_lss f1235 f1234) ?_
   refine ONS ?_
   refine CW.condM (t := decide (s_l2.2 < (a1.length : Int))) rfl hm (fun hb1236 hm => ?_) (fun hb1236 hm => ?_)
   · refine CW.skip ?_
     refine CW.seqJ (fun (s_j3 : (List Race)) (F : Fr) (w : World) => ∃ (S1356 : Nat → Prop), F 1 = v3 ∧ F 4 = (.pointer (some ⟨b8, 0, none⟩)) ∧ F 5 = (.pointer (some ⟨b10, 0, none⟩)) ∧ F 36 = v3 ∧ F 37 = (.int .i64 (a1.length : Int)) ∧ F 38 = (.int .i64 s_l2.2) ∧ Hp w0 [Ent.own 75 S1356 v104 s_j3, Ent.blk b10 33 #[(.int .i64 a0.Boats), (.int .i64 a0.Scheme), v104], Ent.blk b8 33 #[(.int .i64 0), (.int .i64 0), (.slice none 0 0)], Ent.blk b6 33 #[(.int .i64 a0.Boats), (.int .i64 a0.Scheme), v1], Ent.snap w0 w0.heap.size] w) (fun s_j3 => M.impl_penalizedSeries_j3 s_l2 s_j3 = some t616) ?_ ?_
     · refine CW.blockJ (fun (s_j4 : (List Race)) (F : Fr) (w : World) => ∃ (S1420 : Nat → Prop), F 1 = v3 ∧ F 4 = (.pointer (some ⟨b8, 0, none⟩)) ∧ F 5 = (.pointer (some ⟨b10, 0, none⟩)) ∧ F 36 = v3 ∧ F 37 = (.int .i64 (a1.length : Int)) ∧ F 38 = (.int .i64 s_l2.2) ∧ Hp w0 [Ent.own 75 S1420 v104 s_j4, Ent.blk b10 33 #[(.int .i64 a0.Boats), (.int .i64 a0.Scheme), v104], Ent.blk b8 33 #[(.int .i64 0), (.int .i64 0), (.slice none 0 0)], Ent.blk b6 33 #[(.int .i64 a0.Boats), (.int .i64 a0.Scheme), v1], Ent.snap w0 w0.heap.size] w) (fun s_j4 => M.impl_penalizedSeries_j4 s_l2 s_j4 = some t616) ?_ ?_
       · refine CSR ?_
         obtain ⟨x1429, ha1430, hm⟩ := bndE hm
         obtain ⟨hz1431, ha1435⟩ := idxE ha1430
         obtain ⟨b1432, q1433, hix1434⟩ := rdL_ix (hL.rdS 4 rfl h4) hz1431 ha1435
         refine OV (.pointer (some ⟨b1432, q1433, none⟩)) rfl (x_ix U35 Tryz_T53 f1233 f1235 hix1434) ?_
         refine OV (.agg #[(.int .i64 x1429.Race), (.int .i64 x1429.Boat), (.int .i64 x1429.Kind), (.int .i64 x1429.Value)]) rfl (x_loadN (cs := [(.int .i64 x1429.Race), (.int .i64 x1429.Boat), (.int .i64 x1429.Kind), (.int .i64 x1429.Value)]) U53 Tryz_T53 rfl rfl (rdF_cells (hL.rdS 4 rfl h4) hix1434 ha1435)) ?_
         refine OW.cons (S_alloc (cs := #[(.int .i64 0), (.int .i64 0), (.int .i64 0), (.int .i64 0)]) hL Tryz_T53 rfl rfl ?_)
         intro wd1436 b1437 hL
         refine OW.cons (S_storeN (l := [(.int .i64 x1429.Race), (.int .i64 x1429.Boat), (.int .i64 x1429.Kind), (.int .i64 x1429.Value)]) (cs' := #[(.int .i64 x1429.Race), (.int .i64 x1429.Boat), (.int .i64 x1429.Kind), (.int .i64 x1429.Value)]) hL 0 rfl Tryz_T53 rfl rfl (List.forall_mem_cons.2 ⟨rfl, (List.forall_mem_cons.2 ⟨rfl, (List.forall_mem_cons.2 ⟨rfl, (List.forall_mem_cons.2 ⟨rfl, (fun _ h => by cases h)⟩)⟩)⟩)⟩) rfl (Nat.le_of_ble_eq_true rfl) rfl ?_)
         intro wd1438 hL
         refine ONS ?_
         obtain ⟨wz1439, hL, ho1440⟩ := hL.freeze 1 rfl
         simp only [lC, lD] at hL
         refine CW.draw Tryz_mixed ?_
         have hL := hL.call (Mod.drew _)
         refine DW.pre (fuel := 0) (fin := bma 11 2047) (C := fun w' => Mod None_ _ w') [0, 1, 2, 3, 4, 5, 6, 7, 8, 9, 10] (Mod.refl _ _) (by kernel_rfl) (by kernel_rfl) ?_
         refine QW.cons rfl (QP.val (v := (.pointer (some ⟨b10, 2, none⟩))) rfl (fun w' hm' => x_fieldAddr (fsz := 1) 0 2 2 U33 rfl Tryz_T31 rfl f1232 rfl) ?_)
         refine QW.cons rfl (QP.val (v := v104) rfl (fun w' hm' => x_load1 U31 rfl rfl ((hL.call hm').cellB 2 rfl rfl)) ?_)
         refine QW.cons rfl (QP.val (v := (.pointer (some ⟨b1437, 0, none⟩))) rfl (fun w' hm' => x_fieldAddr (fsz := 1) 0 0 0 U53 rfl Tryz_T2 rfl rfl rfl) ?_)
         refine QW.cons rfl (QP.val (v := (.int .i64 x1429.Race)) rfl (fun w' hm' => x_load1 U2 rfl rfl ((hL.call hm').cellB 0 rfl rfl)) ?_)
         obtain ⟨x1441, ha1442, hm⟩ := bndE hm
         obtain ⟨hz1443, ha1451⟩ := idxE ha1442
         obtain ⟨b1444, q1445, v1446, hix1447, hs1448, hc1449, hr1450⟩ := rdN_at ho1440.1.rdL hz1443 ha1451
         refine QW.cons rfl (QP.val (v := (.pointer (some ⟨b1444, q1445, none⟩))) rfl (fun w' hm' => x_ix U31 Tryz_T75 rfl rfl hix1447) ?_)
         refine QW.cons rfl (QP.val (v := (.pointer (some ⟨b1444, q1445, none⟩))) rfl (fun w' hm' => x_fieldAddr (fsz := 1) q1445 0 q1445 U75 rfl Tryz_T73 rfl rfl rfl) ?_)
         refine QW.cons rfl (QP.val (v := v1446) rfl (fun w' hm' => x_load1 U73 rfl rfl ((hL.call hm').cellF 1 rfl hs1448 hc1449)) ?_)
         refine QW.cons rfl (QP.val (v := (.pointer (some ⟨b1437, 1, none⟩))) rfl (fun w' hm' => x_fieldAddr (fsz := 1) 0 1 1 U53 rfl Tryz_T2 rfl rfl rfl) ?_)
         refine QW.cons rfl (QP.val (v := (.int .i64 x1429.Boat)) rfl (fun w' hm' => x_load1 U2 rfl rfl ((hL.call hm').cellB 0 rfl rfl)) ?_)
         obtain ⟨x1452, ha1453, hm⟩ := bndE hm
         obtain ⟨hz1454, ha1458⟩ := idxE ha1453
         obtain ⟨b1455, q1456, hix1457⟩ := rdL_ix (hL.rdF 1 rfl hr1450) hz1454 ha1458
         refine QW.cons rfl (QP.val (v := (.pointer (some ⟨b1455, q1456, none⟩))) rfl (fun w' hm' => x_ix U73 Tryz_T79 rfl rfl hix1457) ?_)
         refine QW.cons rfl (QP.val (v := (.pointer (some ⟨b1455, q1456, none⟩))) rfl (fun w' hm' => x_assign) ?_)
         refine QW.nil ?_
         intro wd1459 hmod
         have hL := hL.call hmod
         refine DW.done (by kernel_rfl) ?_
         refine CW.seqJ (fun (s_j5 : Bool) (F : Fr) (w : World) => F 1 = v3 ∧ F 4 = (.pointer (some ⟨b8, 0, none⟩)) ∧ F 5 = (.pointer (some ⟨b10, 0, none⟩)) ∧ F 9 = (.pointer (some ⟨b1437, 0, none⟩)) ∧ F 10 = (.pointer (some ⟨b1455, q1456, none⟩)) ∧ F 36 = v3 ∧ F 37 = (.int .i64 (a1.length : Int)) ∧ F 38 = (.int .i64 s_l2.2) ∧ F 61 = (.bool s_j5) ∧ Hp w0 [Ent.blk b1437 53 #[(.int .i64 x1429.Race), (.int .i64 x1429.Boat), (.int .i64 x1429.Kind), (.int .i64 x1429.Value)], Ent.frzS wz1439 S615, Ent.blk b10 33 #[(.int .i64 a0.Boats), (.int .i64 a0.Scheme), v104], Ent.blk b8 33 #[(.int .i64 0), (.int .i64 0), (.slice none 0 0)], Ent.blk b6 33 #[(.int .i64 a0.Boats), (.int .i64 a0.Scheme), v1], Ent.snap w0 w0.heap.size] w) (fun s_j5 => M.impl_penalizedSeries_j5 s_l2 x1429 x1441 x1452 s_j5 = some t616) ?_ ?_
         · refine CW.regionL ?_
           refine OV (.pointer (some ⟨b1437, 2, none⟩)) rfl (x_fieldAddr (fsz := 1) 0 2 2 U53 rfl Tryz_T2 rfl rfl rfl) ?_
           refine OV (.int .i64 x1429.Kind) rfl (x_load1 U2 rfl rfl (hL.cellB 0 rfl rfl)) ?_
           refine OV (.bool (x1429.Kind == 2)) rfl (x_eql rfl rfl) ?_
           refine OV (.bool (x1429.Kind == 2)) rfl (x_move) ?_
           refine ifB_elim hm (fun hb1483 hm => ?_) (fun hb1483 hm => ?_)
           · refine OW.cons (OP.yes' rfl rfl hb1483 (OP.val (v := (.pointer (some ⟨b1455, q1456, none⟩))) rfl (x_move) ?_))
             refine OW.cons (OP.yes' rfl rfl hb1483 (OP.val (v := (.pointer (some ⟨b1455, q1456, none⟩))) rfl (x_nilCheck rfl) ?_))
             refine OW.cons (OP.yes' rfl rfl hb1483 (OP.val (v := (.pointer (some ⟨b1455, q1456 + 1, none⟩))) rfl (x_fieldAddr (fsz := 1) q1456 1 (q1456 + 1) U79 rfl Tryz_T2 rfl rfl rfl) ?_))
             refine OW.cons (OP.yes' rfl rfl hb1483 (OP.val (v := (.int .i64 x1452.Code)) rfl (x_load1 U2 rfl rfl (rdF_cells (hL.rdF 1 rfl hr1450) hix1457 ha1458 1 _ rfl)) ?_))
             refine OW.cons (OP.yes' rfl rfl hb1483 (OP.val (v := (.bool (x1452.Code == 0))) rfl (x_eql rfl rfl) ?_))
             refine OV (.bool (x1452.Code == 0)) rfl (x_pickT' rfl hb1483 rfl) ?_
             refine OW.nil ?_
             exact ⟨x1452.Code == 0, hm, ⟨f1230, f1231, f1232, rfl, rfl, f1233, f1234, f1235, rfl, hL⟩⟩
           refine OW.cons (OP.no' rfl rfl hb1483 rfl ?_)
           refine OW.cons (OP.no' rfl rfl hb1483 rfl ?_)
           refine OW.cons (OP.no' rfl rfl hb1483 rfl ?_)
           refine OW.cons (OP.no' rfl rfl hb1483 rfl ?_)
           refine OW.cons (OP.no' rfl rfl hb1483 rfl ?_)
           refine OV (.bool false) rfl (x_pickF' rfl hb1483 rfl) ?_
           refine OW.nil ?_
           exact ⟨false, hm, ⟨f1230, f1231, f1232, rfl, rfl, f1233, f1234, f1235, rfl, hL⟩⟩
         intro s_j5 F1461 wd1462 hJ hm
         unfold M.impl_penalizedSeries_j5 at hm
         obtain ⟨f1463, f1464, f1465, f1466, f1467, f1468, f1469, f1470, f1471, hL⟩ := hJ
         refine CW.condM (t := s_j5) f1471 hm (fun hb1472 hm => ?_) (fun hb1472 hm => ?_)
         · refine CW.drawH (fun w' => Hp w0 [Ent.blk b1437 53 #[(.int .i64 x1429.Race), (.int .i64 x1429.Boat), (.int .i64 x1429.Kind), (.int .i64 x1429.Value)], Ent.blk b10 33 #[(.int .i64 a0.Boats), (.int .i64 a0.Scheme), v104], Ent.blk b8 33 #[(.int .i64 0), (.int .i64 0), (.slice none 0 0)], Ent.blk b6 33 #[(.int .i64 a0.Boats), (.int .i64 a0.Scheme), v1], Ent.snap w0 w0.heap.size] w') Tryz_mixed ?_
           have hL := hL.call (Mod.drew _)
           have hS := (hL.sel [0, 2, 3, 4, 5] (by decide) rfl)
           refine DH.take 0 rfl (by kernel_rfl) (by kernel_rfl) (by kernel_rfl) rfl rfl hS (YH.val (v := (.pointer (some ⟨b1455, q1456, none⟩))) (fun w' hS' => x_mv f1467)) ?_
           have hS := (hL.sel [0, 2, 3, 4, 5] (by decide) rfl)
           refine DH.take 1 rfl (by kernel_rfl) (by kernel_rfl) (by kernel_rfl) rfl rfl hS (YH.val (v := (.pointer (some ⟨b1455, q1456, none⟩))) (fun w' hS' => x_mv f1467)) ?_
           have hS := (hL.sel [0, 2, 3, 4, 5] (by decide) rfl)
           refine DH.take 2 rfl (by kernel_rfl) (by kernel_rfl) (by kernel_rfl) rfl rfl hS (YH.val (v := (.pointer (some ⟨b1455, q1456, none⟩))) (fun w' hS' => x_nilCheck rfl)) ?_
           have hS := (hL.sel [0, 2, 3, 4, 5] (by decide) rfl)
           refine DH.take 3 rfl (by kernel_rfl) (by kernel_rfl) (by kernel_rfl) rfl rfl hS (YH.val (v := (.pointer (some ⟨b1455, q1456 + 2, none⟩))) (fun w' hS' => x_fieldAddr (fsz := 1) q1456 2 (q1456 + 2) U79 rfl Tryz_T2 rfl rfl rfl)) ?_
           have hS := (hL.sel [0, 2, 3, 4, 5] (by decide) rfl)
           refine DH.take 5 rfl (by kernel_rfl) (by kernel_rfl) (by kernel_rfl) rfl rfl hS (YH.val (v := (.pointer (some ⟨b1437, 3, none⟩))) (fun w' hS' => x_fieldAddr (fsz := 1) 0 3 3 U53 rfl Tryz_T2 rfl f1466 rfl)) ?_
           have hS := (hL.sel [0, 2, 3, 4, 5] (by decide) rfl)
           refine DH.take 6 rfl (by kernel_rfl) (by kernel_rfl) (by kernel_rfl) rfl rfl hS (YH.val (v := (.int .i64 x1429.Value)) (fun w' hS' => x_load1 U2 rfl rfl (hS'.cellB 0 rfl rfl))) ?_
           refine DH.only 4 rfl (by kernel_rfl) (OP.val (v := (.int .i64 x1452.Time)) rfl (x_load1 U2 rfl rfl (rdF_cells (hL.rdF 1 rfl hr1450) hix1457 ha1458 2 _ rfl)) ?_)
           refine ⟨(hL.sel [0, 2, 3, 4, 5] (by decide) rfl), ?_⟩
           have hS := (hL.sel [0, 2, 3, 4, 5] (by decide) rfl)
           refine DH.take 7 rfl (by kernel_rfl) (by kernel_rfl) (by kernel_rfl) rfl rfl hS (YH.val (v := (.int .i64 (w64 (x1452.Time + x1429.Value)))) (fun w' hS' => x_add rfl rfl)) ?_
           have hS := (hL.sel [0, 2, 3, 4, 5] (by decide) rfl)
           refine DH.take 8 rfl (by kernel_rfl) (by kernel_rfl) (by kernel_rfl) rfl rfl hS (YH.val (v := (.int .i64 (min 1000000000 (w64 (x1452.Time + x1429.Value))))) (fun w' hS' => x_min2 rfl rfl)) ?_
           have hS := (hL.sel [0, 2, 3, 4, 5] (by decide) rfl)
           refine DH.take 9 rfl (by kernel_rfl) (by kernel_rfl) (by kernel_rfl) rfl rfl hS (YH.val (v := (.pointer (some ⟨b1455, q1456, none⟩))) (fun w' hS' => x_nilCheck rfl)) ?_
           have hS := (hL.sel [0, 2, 3, 4, 5] (by decide) rfl)
           refine DH.take 10 rfl (by kernel_rfl) (by kernel_rfl) (by kernel_rfl) rfl rfl hS (YH.val (v := (.pointer (some ⟨b1455, q1456 + 2, none⟩))) (fun w' hS' => x_fieldAddr (fsz := 1) q1456 2 (q1456 + 2) U79 rfl Tryz_T2 rfl rfl rfl)) ?_
           have hc1479 := hL.cellF 1 rfl hs1448 hc1449
           have hL := hL.thaw 1 rfl ho1440
           simp only [lC, lD] at hL
           refine DH.only 11 rfl (by kernel_rfl) (S_inRow (α := Finish) (x1441.Finishes.set (x1429.Boat : Int).toNat (Finish.mk x1452.Boat x1452.Code (min 1000000000 (w64 (x1452.Time + x1429.Value))))) (Race.mk (x1441.Finishes.set (x1429.Boat : Int).toNat (Finish.mk x1452.Boat x1452.Code (min 1000000000 (w64 (x1452.Time + x1429.Value)))))) rfl hL 1 rfl hix1447 ha1451 hc1479 (fun E2 S1 hL hK => S_storeX (j := 2) (Finish.mk x1452.Boat x1452.Code (min 1000000000 (w64 (x1452.Time + x1429.Value)))) hL 0 rfl Tryz_T2 hix1457 ha1458 rfl rfl rfl rfl rfl rfl hK) ?_)
           intro wd1478 S1480 hL
           simp only [lC, lD] at hL
           refine ⟨(hL.sel [0, 2, 3, 4, 5] (by decide) rfl), ?_⟩
           refine DH.done (by kernel_rfl) ?_
           have hL := hL.sel [1, 2, 3, 4, 5] (by decide) rfl
           exact ⟨s_l2.1.set (x1429.Race : Int).toNat (Race.mk (x1441.Finishes.set (x1429.Boat : Int).toNat (Finish.mk x1452.Boat x1452.Code (min 1000000000 (w64 (x1452.Time + x1429.Value)))))), hm, ⟨S1480, f1463, f1464, f1465, f1468, f1469, f1470, hL⟩⟩
         refine CW.skip ?_
         have hL := hL.thaw 1 rfl ho1440
         have hL := hL.sel [1, 2, 3, 4, 5] (by decide) rfl
         exact ⟨s_l2.1, hm, ⟨S615, f1463, f1464, f1465, f1468, f1469, f1470, hL⟩⟩
       intro s_j4 F1421 wd1422 hJ hm
       unfold M.impl_penalizedSeries_j4 at hm
       obtain ⟨S1420, f1423, f1424, f1425, f1426, f1427, f1428, hL⟩ := hJ
       exact ⟨s_j4, hm, ⟨S1420, f1423, f1424, f1425, f1426, f1427, f1428, hL⟩⟩
     intro s_j3 F1357 wd1358 hJ hm
     unfold M.impl_penalizedSeries_j3 at hm
     obtain ⟨S1356, f1359, f1360, f1361, f1362, f1363, f1364, hL⟩ := hJ
     refine CW.regionL ?_
     refine OV (.int .i64 (w64 (s_l2.2 + 1))) rfl (x_add f1364 rfl) ?_
     refine OV (.int .i64 (w64 (s_l2.2 + 1))) rfl (x_move) ?_
     refine OW.nil ?_
     obtain rfl := Option.some.inj hm
     exact ⟨_, rfl, ⟨S1356, f1359, f1360, f1361, f1362, f1363, rfl, hL⟩⟩
   refine CW.exit ?_
   refine XJ.hit ?_
   obtain rfl := Option.some.inj hm
   exact ⟨_, rfl, ⟨S615, f1230, f1231, f1232, f1233, f1234, f1235, hL⟩⟩
 intro s_l1 F1484 wd1485 t106 hJ hm hr107
 unfold M.impl_penalizedSeries_l1 at hm
 obtain ⟨v104, S105, f1486, f1487, f1488, f1489, f1490, f1491, hL⟩ := hJ
 refine CSR ?_
 refine OV (.bool (decide (s_l1.2 < (a0.Races.length : Int)))) rfl (x_lss f1491 f1490) ?_
 refine ONS ?_
 refine CW.condM (t := decide (s_l1.2 < (a0.Races.length : Int))) rfl hm (fun hb1492 hm => ?_) (fun hb1492 hm => ?_)
 · refine CW.skip ?_
   refine CW.seq ?_
   refine CW.block ?_
   refine CSR ?_
   obtain ⟨x1493, ha1494, hm⟩ := bndE hm
   obtain ⟨hz1495, ha1503⟩ := idxE ha1494
   obtain ⟨b1496, q1497, v1498, hix1499, hs1500, hc1501, hr1502⟩ := rdN_at h2 hz1495 ha1503
   refine OV (.pointer (some ⟨b1496, q1497, none⟩)) rfl (x_ix U31 Tryz_T75 f1489 f1491 hix1499) ?_
   refine OV (.agg #[v1498]) rfl (x_loadN (cs := [v1498]) U75 Tryz_T75 rfl rfl (by intro j u hj; match j, hj with | 0, hj => (simp at hj; subst hj; exact (hL.cellS 4 rfl hs1500 hc1501)))) ?_
   refine OW.cons (S_alloc (cs := #[(.slice none 0 0)]) hL Tryz_T75 rfl rfl ?_)
   intro wd1504 b1505 hL
   refine OW.cons (S_storeN (l := [v1498]) (cs' := #[v1498]) hL 0 rfl Tryz_T75 rfl rfl (List.forall_mem_cons.2 ⟨rdL_one (hL.rdS 5 rfl hr1502), (fun _ h => by cases h)⟩) rfl (Nat.le_of_ble_eq_true rfl) rfl ?_)
   intro wd1506 hL
   refine OW.nil ?_
   refine CW.drawH (fun w' => Hp w0 [Ent.blk b1505 75 #[v1498], Ent.blk b8 33 #[(.int .i64 0), (.int .i64 0), (.slice none 0 0)], Ent.blk b6 33 #[(.int .i64 a0.Boats), (.int .i64 a0.Scheme), v1], Ent.snap w0 w0.heap.size] w') Tryz_mixed ?_
   have hL := hL.call (Mod.drew _)
   have hS := (hL.sel [0, 3, 4, 5] (by decide) rfl)
   refine DH.take 0 rfl (by kernel_rfl) (by kernel_rfl) (by kernel_rfl) rfl rfl hS (YH.val (v := (.pointer (some ⟨b10, 2, none⟩))) (fun w' hS' => x_fieldAddr (fsz := 1) 0 2 2 U33 rfl Tryz_T31 rfl f1488 rfl)) ?_
   have hS := (hL.sel [0, 3, 4, 5] (by decide) rfl)
   refine DH.take 3 rfl (by kernel_rfl) (by kernel_rfl) (by kernel_rfl) rfl rfl hS (YH.val (v := (.pointer (some ⟨b1505, 0, none⟩))) (fun w' hS' => x_fieldAddr (fsz := 1) 0 0 0 U75 rfl Tryz_T73 rfl rfl rfl)) ?_
   have hS := (hL.sel [0, 3, 4, 5] (by decide) rfl)
   refine DH.take 4 rfl (by kernel_rfl) (by kernel_rfl) (by kernel_rfl) rfl rfl hS (YH.val (v := v1498) (fun w' hS' => x_load1 U73 rfl rfl (hS'.cellB 0 rfl rfl))) ?_
   obtain ⟨hc1528, hm⟩ := chkE hm
   obtain ⟨hc1535, hm⟩ := chkE hm
   refine DH.node (listed' := (bma 11 2047)) (fuel' := 0) (fun (F : Fr) (w : World) => ∃ (v1568 : Value) (S1569 : Nat → Prop), F 1 = v3 ∧ F 4 = (.pointer (some ⟨b8, 0, none⟩)) ∧ F 5 = (.pointer (some ⟨b10, 0, none⟩)) ∧ F 19 = v1 ∧ F 20 = (.int .i64 (a0.Races.length : Int)) ∧ F 21 = (.int .i64 s_l1.2) ∧ Hp w0 [Ent.own 75 S1569 v1568 (s_l1.1 ++ ([(Race.mk (([] : List Finish) ++ x1493.Finishes))] : List Race)), Ent.blk b1505 75 #[v1498], Ent.blk b10 33 #[(.int .i64 a0.Boats), (.int .i64 a0.Scheme), v1568], Ent.blk b8 33 #[(.int .i64 0), (.int .i64 0), (.slice none 0 0)], Ent.blk b6 33 #[(.int .i64 a0.Boats), (.int .i64 a0.Scheme), v1], Ent.snap w0 w0.heap.size] w) ?_ (fun hN1559 => ?_)
   · intro F1584 wd1585 hJ
     obtain ⟨v1568, S1569, f1586, f1587, f1588, f1589, f1590, f1591, hL⟩ := hJ
     refine DH.done (by kernel_rfl) ?_
     refine CW.regionL ?_
     refine OV (.int .i64 (w64 (s_l1.2 + 1))) rfl (x_add f1591 rfl) ?_
     refine OV (.int .i64 (w64 (s_l1.2 + 1))) rfl (x_move) ?_
     refine OW.nil ?_
     have hL := hL.sel [0, 2, 3, 4, 5] (by decide) rfl
     obtain rfl := Option.some.inj hm
     exact ⟨_, rfl, ⟨v1568, S1569, f1586, f1587, f1588, f1589, f1590, rfl, hL⟩⟩
   refine DH.node (listed' := (bma 11 1023)) (fuel' := 1) (fun (F : Fr) (w : World) => ∃ (v1570 : Value) (S1571 : Nat → Prop), F 1 = v3 ∧ F 4 = (.pointer (some ⟨b8, 0, none⟩)) ∧ F 5 = (.pointer (some ⟨b10, 0, none⟩)) ∧ F 19 = v1 ∧ F 20 = (.int .i64 (a0.Races.length : Int)) ∧ F 21 = (.int .i64 s_l1.2) ∧ F 33 = v1570 ∧ F 34 = (.pointer (some ⟨b10, 2, none⟩)) ∧ Hp w0 [Ent.own 75 S1571 v1570 (s_l1.1 ++ ([(Race.mk (([] : List Finish) ++ x1493.Finishes))] : List Race)), Ent.blk b1505 75 #[v1498], Ent.blk b10 33 #[(.int .i64 a0.Boats), (.int .i64 a0.Scheme), v104], Ent.blk b8 33 #[(.int .i64 0), (.int .i64 0), (.slice none 0 0)], Ent.blk b6 33 #[(.int .i64 a0.Boats), (.int .i64 a0.Scheme), v1], Ent.snap w0 w0.heap.size] w) ?_ (fun hN1560 => ?_)
   · intro F1592 wd1593 hJ
     obtain ⟨v1570, S1571, f1594, f1595, f1596, f1597, f1598, f1599, f1600, f1601, hL⟩ := hJ
     refine DH.only 10 rfl (by kernel_rfl) (S_store (cs' := #[(.int .i64 a0.Boats), (.int .i64 a0.Scheme), v1570]) hL 2 rfl Tryz_T31 f1601 (rdL_one (hL.rdO 0 rfl)) f1600 rfl rfl ?_)
     intro wd1602 hL
     refine ⟨(hL.sel [1, 3, 4, 5] (by decide) rfl), ?_⟩
     exact DH.relist (listed' := (bma 11 2047)) (by kernel_rfl) (hN1559 _ _ ⟨v1570, S1571, f1594, f1595, f1596, f1597, f1598, f1599, hL⟩)
   refine DH.node (listed' := (bma 11 255)) (fuel' := 3) (fun (F : Fr) (w : World) => ∃ (v1572 : Value) (S1573 : Nat → Prop), F 1 = v3 ∧ F 4 = (.pointer (some ⟨b8, 0, none⟩)) ∧ F 5 = (.pointer (some ⟨b10, 0, none⟩)) ∧ F 19 = v1 ∧ F 20 = (.int .i64 (a0.Races.length : Int)) ∧ F 21 = (.int .i64 s_l1.2) ∧ F 26 = v104 ∧ F 32 = v1572 ∧ Hp w0 [Ent.own 75 S1573 v1572 ([(Race.mk (([] : List Finish) ++ x1493.Finishes))] : List Race), Ent.blk b1505 75 #[v1498], Ent.own 75 S105 v104 s_l1.1, Ent.blk b10 33 #[(.int .i64 a0.Boats), (.int .i64 a0.Scheme), v104], Ent.blk b8 33 #[(.int .i64 0), (.int .i64 0), (.slice none 0 0)], Ent.blk b6 33 #[(.int .i64 a0.Boats), (.int .i64 a0.Scheme), v1], Ent.snap w0 w0.heap.size] w) ?_ (fun hN1561 => ?_)
   · intro F1603 wd1604 hJ
     obtain ⟨v1572, S1573, f1605, f1606, f1607, f1608, f1609, f1610, f1611, f1612, hL⟩ := hJ
     have hL := hL.sel [2, 0, 1, 3, 4, 5, 6] (by decide) rfl
     refine DH.only 8 rfl (by kernel_rfl) (S_appendN Finish hL U31 Tryz_T75 rfl f1611 f1612 hc1535 (by decide) rfl ?_)
     intro wd1613 v1614 S1615 hL
     refine ⟨(hL.sel [1, 3, 4, 5] (by decide) rfl), ?_⟩
     have hS := (hL.sel [1, 3, 4, 5] (by decide) rfl)
     refine DH.take 9 rfl (by kernel_rfl) (by kernel_rfl) (by kernel_rfl) rfl rfl hS (YH.val (v := (.pointer (some ⟨b10, 2, none⟩))) (fun w' hS' => x_fieldAddr (fsz := 1) 0 2 2 U33 rfl Tryz_T31 rfl f1607 rfl)) ?_
     exact DH.relist (listed' := (bma 11 1023)) (by kernel_rfl) (hN1560 _ _ ⟨v1614, S1615, f1605, f1606, f1607, f1608, f1609, f1610, rfl, rfl, hL⟩)
   refine DH.node (listed' := (bma 11 127)) (fuel' := 4) (fun (F : Fr) (w : World) => ∃ (v1574 : Value) (S1575 : Nat → Prop), F 1 = v3 ∧ F 4 = (.pointer (some ⟨b8, 0, none⟩)) ∧ F 5 = (.pointer (some ⟨b10, 0, none⟩)) ∧ F 19 = v1 ∧ F 20 = (.int .i64 (a0.Races.length : Int)) ∧ F 21 = (.int .i64 s_l1.2) ∧ F 26 = v104 ∧ F 31 = (.agg #[v1574]) ∧ Hp w0 [Ent.own 79 S1575 v1574 (([] : List Finish) ++ x1493.Finishes), Ent.blk b1505 75 #[v1498], Ent.own 75 S105 v104 s_l1.1, Ent.blk b10 33 #[(.int .i64 a0.Boats), (.int .i64 a0.Scheme), v104], Ent.blk b8 33 #[(.int .i64 0), (.int .i64 0), (.slice none 0 0)], Ent.blk b6 33 #[(.int .i64 a0.Boats), (.int .i64 a0.Scheme), v1], Ent.snap w0 w0.heap.size] w) ?_ (fun hN1562 => ?_)
   · intro F1616 wd1617 hJ
     obtain ⟨v1574, S1575, f1618, f1619, f1620, f1621, f1622, f1623, f1624, f1625, hL⟩ := hJ
     refine DH.only 7 rfl (by kernel_rfl) (S_lit1 (Race.mk (([] : List Finish) ++ x1493.Finishes)) rfl hL U31 Tryz_T75 ((congrArg Value.cells f1625).trans rfl) rfl ?_)
     intro wd1626 v1627 S1628 hL
     refine ⟨(hL.sel [1, 4, 5, 6] (by decide) rfl), ?_⟩
     exact DH.relist (listed' := (bma 11 255)) (by kernel_rfl) (hN1561 _ _ ⟨v1627, S1628, f1618, f1619, f1620, f1621, f1622, f1623, f1624, rfl, hL⟩)
   refine DH.node (listed' := (bma 11 253)) (fuel' := 4) (fun (F : Fr) (w : World) => ∃ (v1576 : Value) (S1577 : Nat → Prop), F 1 = v3 ∧ F 4 = (.pointer (some ⟨b8, 0, none⟩)) ∧ F 5 = (.pointer (some ⟨b10, 0, none⟩)) ∧ F 19 = v1 ∧ F 20 = (.int .i64 (a0.Races.length : Int)) ∧ F 21 = (.int .i64 s_l1.2) ∧ F 25 = (.pointer (some ⟨b10, 2, none⟩)) ∧ F 32 = v1576 ∧ Hp w0 [Ent.own 75 S1577 v1576 ([(Race.mk (([] : List Finish) ++ x1493.Finishes))] : List Race), Ent.blk b1505 75 #[v1498], Ent.own 75 S105 v104 s_l1.1, Ent.blk b10 33 #[(.int .i64 a0.Boats), (.int .i64 a0.Scheme), v104], Ent.blk b8 33 #[(.int .i64 0), (.int .i64 0), (.slice none 0 0)], Ent.blk b6 33 #[(.int .i64 a0.Boats), (.int .i64 a0.Scheme), v1], Ent.snap w0 w0.heap.size] w) ?_ (fun hN1563 => ?_)
   · intro F1629 wd1630 hJ
     obtain ⟨v1576, S1577, f1631, f1632, f1633, f1634, f1635, f1636, f1637, f1638, hL⟩ := hJ
     refine DH.only 1 rfl (by kernel_rfl) (OP.val (v := v104) rfl (x_load1 U31 rfl f1637 (hL.cellB 3 rfl rfl)) ?_)
     refine ⟨(hL.sel [1, 4, 5, 6] (by decide) rfl), ?_⟩
     exact DH.relist (listed' := (bma 11 255)) (by kernel_rfl) (hN1561 _ _ ⟨v1576, S1577, f1631, f1632, f1633, f1634, f1635, f1636, rfl, f1638, hL⟩)
   refine DH.node (listed' := (bma 11 125)) (fuel' := 5) (fun (F : Fr) (w : World) => ∃ (v1578 : Value) (S1579 : Nat → Prop), F 1 = v3 ∧ F 4 = (.pointer (some ⟨b8, 0, none⟩)) ∧ F 5 = (.pointer (some ⟨b10, 0, none⟩)) ∧ F 19 = v1 ∧ F 20 = (.int .i64 (a0.Races.length : Int)) ∧ F 21 = (.int .i64 s_l1.2) ∧ F 25 = (.pointer (some ⟨b10, 2, none⟩)) ∧ F 31 = (.agg #[v1578]) ∧ Hp w0 [Ent.own 79 S1579 v1578 (([] : List Finish) ++ x1493.Finishes), Ent.blk b1505 75 #[v1498], Ent.own 75 S105 v104 s_l1.1, Ent.blk b10 33 #[(.int .i64 a0.Boats), (.int .i64 a0.Scheme), v104], Ent.blk b8 33 #[(.int .i64 0), (.int .i64 0), (.slice none 0 0)], Ent.blk b6 33 #[(.int .i64 a0.Boats), (.int .i64 a0.Scheme), v1], Ent.snap w0 w0.heap.size] w) ?_ (fun hN1564 => ?_)
   · intro F1639 wd1640 hJ
     obtain ⟨v1578, S1579, f1641, f1642, f1643, f1644, f1645, f1646, f1647, f1648, hL⟩ := hJ
     refine DH.all (rs := [1, 7]) (by kernel_rfl) (by simp) ?_
     intro i1649 hi1650
     simp only [List.mem_cons, List.not_mem_nil, or_false] at hi1650
     rcases hi1650 with rfl | rfl
     · refine ⟨_, rfl, ?_⟩
       refine OP.val (v := v104) rfl (x_load1 U31 rfl f1647 (hL.cellB 3 rfl rfl)) ?_
       refine ⟨(hL.sel [1, 4, 5, 6] (by decide) rfl), ?_⟩
       exact DH.relist (listed' := (bma 11 127)) (by kernel_rfl) (hN1562 _ _ ⟨v1578, S1579, f1641, f1642, f1643, f1644, f1645, f1646, rfl, f1648, hL⟩)
     refine ⟨_, rfl, ?_⟩
     refine S_lit1 (Race.mk (([] : List Finish) ++ x1493.Finishes)) rfl hL U31 Tryz_T75 ((congrArg Value.cells f1648).trans rfl) rfl ?_
     intro wd1651 v1652 S1653 hL
     refine ⟨(hL.sel [1, 4, 5, 6] (by decide) rfl), ?_⟩
     exact DH.relist (listed' := (bma 11 253)) (by kernel_rfl) (hN1563 _ _ ⟨v1652, S1653, f1641, f1642, f1643, f1644, f1645, f1646, f1647, rfl, hL⟩)
   refine DH.node (listed' := (bma 11 31)) (fuel' := 6) (fun (F : Fr) (w : World) => ∃ (v1580 : Value) (S1581 : Nat → Prop), F 1 = v3 ∧ F 4 = (.pointer (some ⟨b8, 0, none⟩)) ∧ F 5 = (.pointer (some ⟨b10, 0, none⟩)) ∧ F 19 = v1 ∧ F 20 = (.int .i64 (a0.Races.length : Int)) ∧ F 21 = (.int .i64 s_l1.2) ∧ F 26 = v104 ∧ F 27 = v1580 ∧ F 29 = v1498 ∧ Hp w0 [Ent.own 79 S1581 v1580 ([] : List Finish), Ent.blk b1505 75 #[v1498], Ent.own 75 S105 v104 s_l1.1, Ent.blk b10 33 #[(.int .i64 a0.Boats), (.int .i64 a0.Scheme), v104], Ent.blk b8 33 #[(.int .i64 0), (.int .i64 0), (.slice none 0 0)], Ent.blk b6 33 #[(.int .i64 a0.Boats), (.int .i64 a0.Scheme), v1], Ent.snap w0 w0.heap.size] w) ?_ (fun hN1565 => ?_)
   · intro F1654 wd1655 hJ
     obtain ⟨v1580, S1581, f1656, f1657, f1658, f1659, f1660, f1661, f1662, f1663, f1664, hL⟩ := hJ
     refine DH.only 5 rfl (by kernel_rfl) (S_append (ys := x1493.Finishes) hL 0 rfl U73 Tryz_T79 rfl f1663 f1664 (hL.rdS 6 rfl hr1502) hc1528 (by decide) rfl ?_)
     intro wd1665 v1666 S1667 hL
     refine ⟨(hL.sel [1, 4, 5, 6] (by decide) rfl), ?_⟩
     have hS := (hL.sel [1, 4, 5, 6] (by decide) rfl)
     refine DH.take 6 rfl (by kernel_rfl) (by kernel_rfl) (by kernel_rfl) rfl rfl hS (YH.val (v := (.agg #[v1666])) (fun w' hS' => x_build Tryz_B75 (ps := [(0, v1666)]) ⟨⟨rfl, rfl⟩, trivial⟩ (by simp [Instr.fill, cells_int, cells_bool, cells_string, cells_agg, cells_slice, cells_pointer, (rdL_cells (hL.rdO 0 rfl))]))) ?_
     exact DH.relist (listed' := (bma 11 127)) (by kernel_rfl) (hN1562 _ _ ⟨v1666, S1667, f1656, f1657, f1658, f1659, f1660, f1661, f1662, rfl, hL⟩)
   refine DH.node (listed' := (bma 11 27)) (fuel' := 7) (fun (F : Fr) (w : World) => F 1 = v3 ∧ F 4 = (.pointer (some ⟨b8, 0, none⟩)) ∧ F 5 = (.pointer (some ⟨b10, 0, none⟩)) ∧ F 19 = v1 ∧ F 20 = (.int .i64 (a0.Races.length : Int)) ∧ F 21 = (.int .i64 s_l1.2) ∧ F 26 = v104 ∧ F 29 = v1498 ∧ Hp w0 [Ent.blk b1505 75 #[v1498], Ent.own 75 S105 v104 s_l1.1, Ent.blk b10 33 #[(.int .i64 a0.Boats), (.int .i64 a0.Scheme), v104], Ent.blk b8 33 #[(.int .i64 0), (.int .i64 0), (.slice none 0 0)], Ent.blk b6 33 #[(.int .i64 a0.Boats), (.int .i64 a0.Scheme), v1], Ent.snap w0 w0.heap.size] w) ?_ (fun hN1566 => ?_)
   · intro F1668 wd1669 hJ
     obtain ⟨f1670, f1671, f1672, f1673, f1674, f1675, f1676, f1677, hL⟩ := hJ
     refine DH.only 2 rfl (by kernel_rfl) (S_lit ([] : List Finish) hL U73 Tryz_T79 rfl (by decide) (by first | (simp [Instr.fill, madeCells, Value.cells, ev, upd, Flat.enc, Flat.sz]; done) | rfl | kernel_rfl) rfl rfl ?_)
     intro wd1678 v1679 S1680 hL
     refine ⟨(hL.sel [1, 4, 5, 6] (by decide) rfl), ?_⟩
     exact DH.relist (listed' := (bma 11 31)) (by kernel_rfl) (hN1565 _ _ ⟨v1679, S1680, f1670, f1671, f1672, f1673, f1674, f1675, f1676, rfl, f1677, hL⟩)
   refine DH.node (listed' := (bma 11 29)) (fuel' := 7) (fun (F : Fr) (w : World) => ∃ (v1582 : Value) (S1583 : Nat → Prop), F 1 = v3 ∧ F 4 = (.pointer (some ⟨b8, 0, none⟩)) ∧ F 5 = (.pointer (some ⟨b10, 0, none⟩)) ∧ F 19 = v1 ∧ F 20 = (.int .i64 (a0.Races.length : Int)) ∧ F 21 = (.int .i64 s_l1.2) ∧ F 25 = (.pointer (some ⟨b10, 2, none⟩)) ∧ F 27 = v1582 ∧ F 29 = v1498 ∧ Hp w0 [Ent.own 79 S1583 v1582 ([] : List Finish), Ent.blk b1505 75 #[v1498], Ent.own 75 S105 v104 s_l1.1, Ent.blk b10 33 #[(.int .i64 a0.Boats), (.int .i64 a0.Scheme), v104], Ent.blk b8 33 #[(.int .i64 0), (.int .i64 0), (.slice none 0 0)], Ent.blk b6 33 #[(.int .i64 a0.Boats), (.int .i64 a0.Scheme), v1], Ent.snap w0 w0.heap.size] w) ?_ (fun hN1567 => ?_)
   · intro F1681 wd1682 hJ
     obtain ⟨v1582, S1583, f1683, f1684, f1685, f1686, f1687, f1688, f1689, f1690, f1691, hL⟩ := hJ
     refine DH.all (rs := [1, 5]) (by kernel_rfl) (by simp) ?_
     intro i1692 hi1693
     simp only [List.mem_cons, List.not_mem_nil, or_false] at hi1693
     rcases hi1693 with rfl | rfl
     · refine ⟨_, rfl, ?_⟩
       refine OP.val (v := v104) rfl (x_load1 U31 rfl f1689 (hL.cellB 3 rfl rfl)) ?_
       refine ⟨(hL.sel [1, 4, 5, 6] (by decide) rfl), ?_⟩
       exact DH.relist (listed' := (bma 11 31)) (by kernel_rfl) (hN1565 _ _ ⟨v1582, S1583, f1683, f1684, f1685, f1686, f1687, f1688, rfl, f1690, f1691, hL⟩)
     refine ⟨_, rfl, ?_⟩
     refine S_append (ys := x1493.Finishes) hL 0 rfl U73 Tryz_T79 rfl f1690 f1691 (hL.rdS 6 rfl hr1502) hc1528 (by decide) rfl ?_
     intro wd1694 v1695 S1696 hL
     refine ⟨(hL.sel [1, 4, 5, 6] (by decide) rfl), ?_⟩
     have hS := (hL.sel [1, 4, 5, 6] (by decide) rfl)
     refine DH.take 6 rfl (by kernel_rfl) (by kernel_rfl) (by kernel_rfl) rfl rfl hS (YH.val (v := (.agg #[v1695])) (fun w' hS' => x_build Tryz_B75 (ps := [(0, v1695)]) ⟨⟨rfl, rfl⟩, trivial⟩ (by simp [Instr.fill, cells_int, cells_bool, cells_string, cells_agg, cells_slice, cells_pointer, (rdL_cells (hL.rdO 0 rfl))]))) ?_
     exact DH.relist (listed' := (bma 11 125)) (by kernel_rfl) (hN1564 _ _ ⟨v1695, S1696, f1683, f1684, f1685, f1686, f1687, f1688, f1689, rfl, hL⟩)
   refine DH.all (rs := [1, 2]) (by kernel_rfl) (by simp) ?_
   intro i1697 hi1698
   simp only [List.mem_cons, List.not_mem_nil, or_false] at hi1698
   rcases hi1698 with rfl | rfl
   · refine ⟨_, rfl, ?_⟩
     refine OP.val (v := v104) rfl (x_load1 U31 rfl rfl (hL.cellB 2 rfl rfl)) ?_
     refine ⟨(hL.sel [0, 3, 4, 5] (by decide) rfl), ?_⟩
     exact DH.relist (listed' := (bma 11 27)) (by kernel_rfl) (hN1566 _ _ ⟨f1486, f1487, f1488, f1489, f1490, f1491, rfl, rfl, hL⟩)
   refine ⟨_, rfl, ?_⟩
   refine S_lit ([] : List Finish) hL U73 Tryz_T79 rfl (by decide) (by first | (simp [Instr.fill, madeCells, Value.cells, ev, upd, Flat.enc, Flat.sz]; done) | rfl | kernel_rfl) rfl rfl ?_
   intro wd1699 v1700 S1701 hL
   refine ⟨(hL.sel [1, 4, 5, 6] (by decide) rfl), ?_⟩
   exact DH.relist (listed' := (bma 11 29)) (by kernel_rfl) (hN1567 _ _ ⟨v1700, S1701, f1486, f1487, f1488, f1489, f1490, f1491, rfl, rfl, rfl, hL⟩)
 refine CW.exit ?_
 refine XJ.hit ?_
 obtain rfl := Option.some.inj hm
 exact ⟨_, rfl, ⟨v104, S105, f1486, f1487, f1488, f1489, f1490, f1491, hL⟩⟩

theorem M.impl_placesOf_ok (w0 : World) (a0 : List Finish) {v1 : Value} (h2 : rdL (· < w0.heap.size) w0 v1 a0) {r : (List Int) × (List Int)} (hm : M.impl_placesOf a0 = some r) :
    Calls Tryz.prog 64 #[v1] w0 fun e w' => ∃ (rv0 : Value) (rS0 : Nat → Prop), ∃ (rv1 : Value) (rS1 : Nat → Prop), e = .returned (.tuple #[rv0, rv1]) ∧ Fresh w0 w' [Ent.own 2 rS0 rv0 r.1, Ent.own 2 rS1 rv1 r.2] := by
 unfold M.impl_placesOf at hm
 refine calls_CW (args := [v1]) Tryz.func64 rfl rfl rfl ?_
 have hL := Hp.start w0
 refine CSR ?_
 refine OV (.slice none 0 0) rfl (x_assign) ?_
 refine OV (.slice none 0 0) rfl (x_assign) ?_
 refine ONS ?_
 refine CW.drawH (fun w' => Hp w0 [Ent.snap w0 w0.heap.size] w') Tryz_mixed ?_
 have hL := hL.call (Mod.drew _)
 have hS := (hL.sel [0] (by decide) rfl)
 refine DH.take 0 rfl (by kernel_rfl) (by kernel_rfl) (by kernel_rfl) rfl rfl hS (YH.val (v := v1) (fun w' hS' => x_move)) ?_
 have hS := (hL.sel [0] (by decide) rfl)
 refine DH.take 1 rfl (by kernel_rfl) (by kernel_rfl) (by kernel_rfl) rfl rfl hS (YH.val (v := (.int .i64 (a0.length : Int))) (fun w' hS' => x_lenW U73 rfl (subV_len (hL.rdS 0 rfl h2)))) ?_
 have hS := (hL.sel [0] (by decide) rfl)
 refine DH.take 3 rfl (by kernel_rfl) (by kernel_rfl) (by kernel_rfl) rfl rfl hS (YH.val (v := v1) (fun w' hS' => x_move)) ?_
 have hS := (hL.sel [0] (by decide) rfl)
 refine DH.take 4 rfl (by kernel_rfl) (by kernel_rfl) (by kernel_rfl) rfl rfl hS (YH.val (v := (.int .i64 (a0.length : Int))) (fun w' hS' => x_lenW U73 rfl (subV_len (hL.rdS 0 rfl h2)))) ?_
 obtain ⟨hc14, hm⟩ := chkE hm
 obtain ⟨hc18, hm⟩ := chkE hm
 refine DH.node (listed' := (bma 8 255)) (fuel' := 0) (fun (F : Fr) (w : World) => ∃ (v34 : Value) (S35 : Nat → Prop) (v36 : Value) (S37 : Nat → Prop), F 0 = v1 ∧ F 2 = (.slice none 0 0) ∧ F 3 = (.slice none 0 0) ∧ F 4 = v36 ∧ F 5 = v34 ∧ Hp w0 [Ent.own 2 S35 v34 (List.replicate ((a0.length : Int)).toNat (0 : Int)), Ent.own 2 S37 v36 (List.replicate ((a0.length : Int)).toNat (0 : Int)), Ent.snap w0 w0.heap.size] w) ?_ (fun hN31 => ?_)
 · intro F42 wd43 hJ
   obtain ⟨v34, S35, v36, S37, f44, f45, f46, f47, f48, hL⟩ := hJ
   refine DH.done (by kernel_rfl) ?_
   refine CW.seq ?_
   refine CSR ?_
   refine OV v1 rfl (x_mv f44) ?_
   refine OV (.int .i64 (a0.length : Int)) rfl (x_lenR U73 rfl (hL.rdS 2 rfl h2)) ?_
   refine OV (.int .i64 0) rfl (x_move) ?_
   refine OW.nil ?_
   obtain ⟨o8841, ho8842, hm⟩ := bndE hm
   refine CW.loopB (fun (s_l1 : (List Int) × (List Int) × Int) (F : Fr) (w : World) => ∃ (S8837 : Nat → Prop) (S8838 : Nat → Prop), F 0 = v1 ∧ F 4 = v36 ∧ F 5 = v34 ∧ F 16 = v1 ∧ F 17 = (.int .i64 (a0.length : Int)) ∧ F 18 = (.int .i64 s_l1.2.2) ∧ Hp w0 [Ent.own 2 S8838 v34 s_l1.2.1, Ent.own 2 S8837 v36 s_l1.1, Ent.snap w0 w0.heap.size] w) (fun o => outc o (fun x => some x) (fun s => M.impl_placesOf_a1 s) = some r) ho8842 hm ⟨S37, S35, f44, f47, f48, rfl, rfl, rfl, hL⟩ ?_ ?_
   · intro s_l1 F8843 wd8844 hJ hm
     have hm := outcE hm
     have hm : M.impl_placesOf_a1 s_l1 = some r := hm
     unfold M.impl_placesOf_a1 at hm
     obtain ⟨S8837, S8838, f8845, f8846, f8847, f8848, f8849, f8850, hL⟩ := hJ
     refine CSR ?_
     refine OV v36 rfl (x_mv f8846) ?_
     refine OV v34 rfl (x_mv f8847) ?_
     refine OV v36 rfl (x_assign) ?_
     refine OV v34 rfl (x_assign) ?_
     refine OW.nil ?_
     refine CW.ret ?_
     obtain rfl := Option.some.inj hm
     exact RR2 rfl rfl rfl ⟨v36, S8837, v34, S8838, rfl, hL.fresh 2 rfl [1, 0] (by decide) (by decide) rfl⟩
   intro s_l1 F8851 wd8852 t8839 hJ hm hr8840
   unfold M.impl_placesOf_l1 at hm
   obtain ⟨S8837, S8838, f8853, f8854, f8855, f8856, f8857, f8858, hL⟩ := hJ
   refine CSR ?_
   refine OV (.bool (decide (s_l1.2.2 < (a0.length : Int)))) rfl (x_lss f8858 f8857) ?_
   refine ONS ?_
   refine CW.condM (t := decide (s_l1.2.2 < (a0.length : Int))) rfl hm (fun hb8859 hm => ?_) (fun hb8859 hm => ?_)
   · refine CW.skip ?_
     refine CW.seqJ (fun (s_j1 : (List Int) × (List Int)) (F : Fr) (w : World) => ∃ (S11052 : Nat → Prop) (S11053 : Nat → Prop), F 0 = v1 ∧ F 4 = v36 ∧ F 5 = v34 ∧ F 16 = v1 ∧ F 17 = (.int .i64 (a0.length : Int)) ∧ F 18 = (.int .i64 s_l1.2.2) ∧ Hp w0 [Ent.own 2 S11053 v34 s_j1.2, Ent.own 2 S11052 v36 s_j1.1, Ent.snap w0 w0.heap.size] w) (fun s_j1 => M.impl_placesOf_j1 s_l1 s_j1 = some t8839) ?_ ?_
     · refine CW.blockJ (fun (s_j2 : (List Int) × (List Int)) (F : Fr) (w : World) => ∃ (S12153 : Nat → Prop) (S12154 : Nat → Prop), F 0 = v1 ∧ F 4 = v36 ∧ F 5 = v34 ∧ F 16 = v1 ∧ F 17 = (.int .i64 (a0.length : Int)) ∧ F 18 = (.int .i64 s_l1.2.2) ∧ Hp w0 [Ent.own 2 S12154 v34 s_j2.2, Ent.own 2 S12153 v36 s_j2.1, Ent.snap w0 w0.heap.size] w) (fun s_j2 => M.impl_placesOf_j2 s_l1 s_j2 = some t8839) ?_ ?_
       · refine CSR ?_
         refine OV (.int .i64 s_l1.2.2) rfl (x_mv f8858) ?_
         obtain ⟨x12163, ha12164, hm⟩ := bndE hm
         obtain ⟨hz12165, ha12169⟩ := idxE ha12164
         obtain ⟨b12166, q12167, hix12168⟩ := rdL_ix (hL.rdS 2 rfl h2) hz12165 ha12169
         refine OV (.pointer (some ⟨b12166, q12167, none⟩)) rfl (x_ix U73 Tryz_T79 f8856 f8858 hix12168) ?_
         refine OV (.agg #[(.int .i64 x12163.Boat), (.int .i64 x12163.Code), (.int .i64 x12163.Time)]) rfl (x_loadN (cs := [(.int .i64 x12163.Boat), (.int .i64 x12163.Code), (.int .i64 x12163.Time)]) U79 Tryz_T79 rfl rfl (rdF_cells (hL.rdS 2 rfl h2) hix12168 ha12169)) ?_
         refine OW.cons (S_alloc (cs := #[(.int .i64 0), (.int .i64 0), (.int .i64 0)]) hL Tryz_T79 rfl rfl ?_)
         intro wd12170 b12171 hL
         refine OV (.int .i64 s_l1.2.2) rfl (x_assign) ?_
         refine OW.cons (S_storeN (l := [(.int .i64 x12163.Boat), (.int .i64 x12163.Code), (.int .i64 x12163.Time)]) (cs' := #[(.int .i64 x12163.Boat), (.int .i64 x12163.Code), (.int .i64 x12163.Time)]) hL 0 rfl Tryz_T79 rfl rfl (List.forall_mem_cons.2 ⟨rfl, (List.forall_mem_cons.2 ⟨rfl, (List.forall_mem_cons.2 ⟨rfl, (fun _ h => by cases h)⟩)⟩)⟩) rfl (Nat.le_of_ble_eq_true rfl) rfl ?_)
         intro wd12172 hL
         refine ONS ?_
         refine CSR ?_
         refine OV (.pointer (some ⟨b12171, 1, none⟩)) rfl (x_fieldAddr (fsz := 1) 0 1 1 U79 rfl Tryz_T2 rfl rfl rfl) ?_
         refine OV (.int .i64 x12163.Code) rfl (x_load1 U2 rfl rfl (hL.cellB 0 rfl rfl)) ?_
         refine OV (.bool (x12163.Code != 0)) rfl (x_neq rfl rfl) ?_
         refine OW.nil ?_
         refine CW.condM (t := x12163.Code != 0) rfl hm (fun hb12173 hm => ?_) (fun hb12173 hm => ?_)
         · refine CW.exit ?_
           refine XJ.hit ?_
           have hL := hL.sel [1, 2, 3] (by decide) rfl
           exact ⟨(s_l1.1, s_l1.2.1), hm, ⟨S8837, S8838, f8853, f8854, f8855, f8856, f8857, f8858, hL⟩⟩
         refine CW.skip ?_
         refine CSR ?_
         refine OV v36 rfl (x_mv f8854) ?_
         refine OV (.int .i64 s_l1.2.2) rfl (x_move) ?_
         obtain ⟨x12174, ha12175, hm⟩ := bndE hm
         obtain ⟨hz12176, ha12180⟩ := idxE ha12175
         obtain ⟨b12177, q12178, hix12179⟩ := rdL_ix (hL.rdO 2 rfl) hz12176 ha12180
         refine OV (.pointer (some ⟨b12177, q12178, none⟩)) rfl (x_ix U26 Tryz_T2 rfl rfl hix12179) ?_
         refine OW.cons (S_storeX (j := 0) 1 hL 2 rfl Tryz_T2 hix12179 ha12180 rfl rfl rfl rfl rfl rfl ?_)
         intro wd12181 hL
         refine ONR ?_
         refine OV v1 rfl (x_mv f8853) ?_
         refine OV (.int .i64 (a0.length : Int)) rfl (x_lenR U73 rfl (hL.rdS 3 rfl h2)) ?_
         refine OV (.int .i64 0) rfl (x_move) ?_
         refine OW.nil ?_
         obtain ⟨o12880, ho12881, hm⟩ := bndE hm
         refine CW.loopB (fun (s_l2 : (List Int) × (List Int) × Int) (F : Fr) (w : World) => ∃ (S12876 : Nat → Prop) (S12877 : Nat → Prop), F 0 = v1 ∧ F 4 = v36 ∧ F 5 = v34 ∧ F 6 = (.int .i64 s_l1.2.2) ∧ F 7 = (.pointer (some ⟨b12171, 0, none⟩)) ∧ F 16 = v1 ∧ F 17 = (.int .i64 (a0.length : Int)) ∧ F 18 = (.int .i64 s_l1.2.2) ∧ F 29 = v1 ∧ F 30 = (.int .i64 (a0.length : Int)) ∧ F 31 = (.int .i64 s_l2.2.2) ∧ Hp w0 [Ent.blk b12171 79 #[(.int .i64 x12163.Boat), (.int .i64 x12163.Code), (.int .i64 x12163.Time)], Ent.own 2 S12877 v34 s_l2.2.1, Ent.own 2 S12876 v36 s_l2.1, Ent.snap w0 w0.heap.size] w) (fun o => outc o (fun x => some (.ret x)) (fun s => M.impl_placesOf_a2 s_l1 s) = some t8839) ho12881 hm ⟨S8837, S8838, f8853, f8854, f8855, rfl, rfl, f8856, f8857, f8858, rfl, rfl, rfl, hL⟩ ?_ ?_
         · intro s_l2 F12882 wd12883 hJ hm
           have hm := outcE hm
           have hm : M.impl_placesOf_a2 s_l1 s_l2 = some t8839 := hm
           unfold M.impl_placesOf_a2 at hm
           obtain ⟨S12876, S12877, f12884, f12885, f12886, f12887, f12888, f12889, f12890, f12891, f12892, f12893, f12894, hL⟩ := hJ
           have hL := hL.sel [1, 2, 3] (by decide) rfl
           exact ⟨(s_l2.1, s_l2.2.1), hm, ⟨S12876, S12877, f12884, f12885, f12886, f12889, f12890, f12891, hL⟩⟩
         intro s_l2 F12895 wd12896 t12878 hJ hm hr12879
         unfold M.impl_placesOf_l2 at hm
         obtain ⟨S12876, S12877, f12897, f12898, f12899, f12900, f12901, f12902, f12903, f12904, f12905, f12906, f12907, hL⟩ := hJ
         refine CSR ?_
         refine OV (.bool (decide (s_l2.2.2 < (a0.length : Int)))) rfl (x_lss f12907 f12906) ?_
         refine ONS ?_
         refine CW.condM (t := decide (s_l2.2.2 < (a0.length : Int))) rfl hm (fun hb12908 hm => ?_) (fun hb12908 hm => ?_)
         · refine CW.skip ?_
           refine CW.seqJ (fun (s_j3 : (List Int) × (List Int)) (F : Fr) (w : World) => ∃ (S13074 : Nat → Prop) (S13075 : Nat → Prop), F 0 = v1 ∧ F 4 = v36 ∧ F 5 = v34 ∧ F 6 = (.int .i64 s_l1.2.2) ∧ F 7 = (.pointer (some ⟨b12171, 0, none⟩)) ∧ F 16 = v1 ∧ F 17 = (.int .i64 (a0.length : Int)) ∧ F 18 = (.int .i64 s_l1.2.2) ∧ F 29 = v1 ∧ F 30 = (.int .i64 (a0.length : Int)) ∧ F 31 = (.int .i64 s_l2.2.2) ∧ Hp w0 [Ent.blk b12171 79 #[(.int .i64 x12163.Boat), (.int .i64 x12163.Code), (.int .i64 x12163.Time)], Ent.own 2 S13075 v34 s_j3.2, Ent.own 2 S13074 v36 s_j3.1, Ent.snap w0 w0.heap.size] w) (fun s_j3 => M.impl_placesOf_j3 s_l2 s_j3 = some t12878) ?_ ?_
           · refine CW.blockJ (fun (s_j4 : (List Int) × (List Int)) (F : Fr) (w : World) => ∃ (S13164 : Nat → Prop) (S13165 : Nat → Prop), F 0 = v1 ∧ F 4 = v36 ∧ F 5 = v34 ∧ F 6 = (.int .i64 s_l1.2.2) ∧ F 7 = (.pointer (some ⟨b12171, 0, none⟩)) ∧ F 16 = v1 ∧ F 17 = (.int .i64 (a0.length : Int)) ∧ F 18 = (.int .i64 s_l1.2.2) ∧ F 29 = v1 ∧ F 30 = (.int .i64 (a0.length : Int)) ∧ F 31 = (.int .i64 s_l2.2.2) ∧ Hp w0 [Ent.blk b12171 79 #[(.int .i64 x12163.Boat), (.int .i64 x12163.Code), (.int .i64 x12163.Time)], Ent.own 2 S13165 v34 s_j4.2, Ent.own 2 S13164 v36 s_j4.1, Ent.snap w0 w0.heap.size] w) (fun s_j4 => M.impl_placesOf_j4 s_l2 s_j4 = some t12878) ?_ ?_
             · refine CSR ?_
               obtain ⟨x13179, ha13180, hm⟩ := bndE hm
               obtain ⟨hz13181, ha13185⟩ := idxE ha13180
               obtain ⟨b13182, q13183, hix13184⟩ := rdL_ix (hL.rdS 3 rfl h2) hz13181 ha13185
               refine OV (.pointer (some ⟨b13182, q13183, none⟩)) rfl (x_ix U73 Tryz_T79 f12905 f12907 hix13184) ?_
               refine OV (.agg #[(.int .i64 x13179.Boat), (.int .i64 x13179.Code), (.int .i64 x13179.Time)]) rfl (x_loadN (cs := [(.int .i64 x13179.Boat), (.int .i64 x13179.Code), (.int .i64 x13179.Time)]) U79 Tryz_T79 rfl rfl (rdF_cells (hL.rdS 3 rfl h2) hix13184 ha13185)) ?_
               refine OW.cons (S_alloc (cs := #[(.int .i64 0), (.int .i64 0), (.int .i64 0)]) hL Tryz_T79 rfl rfl ?_)
               intro wd13186 b13187 hL
               refine OW.cons (S_storeN (l := [(.int .i64 x13179.Boat), (.int .i64 x13179.Code), (.int .i64 x13179.Time)]) (cs' := #[(.int .i64 x13179.Boat), (.int .i64 x13179.Code), (.int .i64 x13179.Time)]) hL 0 rfl Tryz_T79 rfl rfl (List.forall_mem_cons.2 ⟨rfl, (List.forall_mem_cons.2 ⟨rfl, (List.forall_mem_cons.2 ⟨rfl, (fun _ h => by cases h)⟩)⟩)⟩) rfl (Nat.le_of_ble_eq_true rfl) rfl ?_)
               intro wd13188 hL
               refine OW.nil ?_
               refine CW.seqJ (fun (s_j5 : Bool) (F : Fr) (w : World) => F 0 = v1 ∧ F 4 = v36 ∧ F 5 = v34 ∧ F 6 = (.int .i64 s_l1.2.2) ∧ F 7 = (.pointer (some ⟨b12171, 0, none⟩)) ∧ F 9 = (.pointer (some ⟨b13187, 0, none⟩)) ∧ F 16 = v1 ∧ F 17 = (.int .i64 (a0.length : Int)) ∧ F 18 = (.int .i64 s_l1.2.2) ∧ F 29 = v1 ∧ F 30 = (.int .i64 (a0.length : Int)) ∧ F 31 = (.int .i64 s_l2.2.2) ∧ F 44 = (.bool s_j5) ∧ Hp w0 [Ent.blk b13187 79 #[(.int .i64 x13179.Boat), (.int .i64 x13179.Code), (.int .i64 x13179.Time)], Ent.blk b12171 79 #[(.int .i64 x12163.Boat), (.int .i64 x12163.Code), (.int .i64 x12163.Time)], Ent.own 2 S12877 v34 s_l2.2.1, Ent.own 2 S12876 v36 s_l2.1, Ent.snap w0 w0.heap.size] w) (fun s_j5 => M.impl_placesOf_j5 s_l1 x12163 s_l2 x13179 s_j5 = some t12878) ?_ ?_
               · refine CW.regionL ?_
                 refine OV (.pointer (some ⟨b13187, 1, none⟩)) rfl (x_fieldAddr (fsz := 1) 0 1 1 U79 rfl Tryz_T2 rfl rfl rfl) ?_
                 refine OV (.int .i64 x13179.Code) rfl (x_load1 U2 rfl rfl (hL.cellB 0 rfl rfl)) ?_
                 refine OV (.bool (x13179.Code == 0)) rfl (x_eql rfl rfl) ?_
                 refine OV (.bool (x13179.Code == 0)) rfl (x_move) ?_
                 refine ifB_elim hm (fun hb13253 hm => ?_) (fun hb13253 hm => ?_)
                 · refine OW.cons (OP.yes' rfl rfl hb13253 (OP.val (v := (.pointer (some ⟨b13187, 2, none⟩))) rfl (x_fieldAddr (fsz := 1) 0 2 2 U79 rfl Tryz_T2 rfl rfl rfl) ?_))
                   refine OW.cons (OP.yes' rfl rfl hb13253 (OP.val (v := (.int .i64 x13179.Time)) rfl (x_load1 U2 rfl rfl (hL.cellB 0 rfl rfl)) ?_))
                   refine OW.cons (OP.yes' rfl rfl hb13253 (OP.val (v := (.pointer (some ⟨b12171, 2, none⟩))) rfl (x_fieldAddr (fsz := 1) 0 2 2 U79 rfl Tryz_T2 rfl f12901 rfl) ?_))
                   refine OW.cons (OP.yes' rfl rfl hb13253 (OP.val (v := (.int .i64 x12163.Time)) rfl (x_load1 U2 rfl rfl (hL.cellB 1 rfl rfl)) ?_))
                   refine OW.cons (OP.yes' rfl rfl hb13253 (OP.val (v := (.bool (decide (x13179.Time < x12163.Time)))) rfl (x_lss rfl rfl) ?_))
                   refine OV (.bool (decide (x13179.Time < x12163.Time))) rfl (x_pickT' rfl hb13253 rfl) ?_
                   refine OW.nil ?_
                   exact ⟨decide (x13179.Time < x12163.Time), hm, ⟨f12897, f12898, f12899, f12900, f12901, rfl, f12902, f12903, f12904, f12905, f12906, f12907, rfl, hL⟩⟩
                 refine OW.cons (OP.no' rfl rfl hb13253 rfl ?_)
                 refine OW.cons (OP.no' rfl rfl hb13253 rfl ?_)
                 refine OW.cons (OP.no' rfl rfl hb13253 rfl ?_)
                 refine OW.cons (OP.no' rfl rfl hb13253 rfl ?_)
                 refine OW.cons (OP.no' rfl rfl hb13253 rfl ?_)
                 refine OV (.bool false) rfl (x_pickF' rfl hb13253 rfl) ?_
                 refine OW.nil ?_
                 exact ⟨false, hm, ⟨f12897, f12898, f12899, f12900, f12901, rfl, f12902, f12903, f12904, f12905, f12906, f12907, rfl, hL⟩⟩
               intro s_j5 F13190 wd13191 hJ hm
               unfold M.impl_placesOf_j5 at hm
               obtain ⟨f13192, f13193, f13194, f13195, f13196, f13197, f13198, f13199, f13200, f13201, f13202, f13203, f13204, hL⟩ := hJ
               refine CW.condM (t := s_j5) f13204 hm (fun hb13205 hm => ?_) (fun hb13205 hm => ?_)
               · refine CW.regionL ?_
                 refine OV v36 rfl (x_mv f13193) ?_
                 refine OV (.int .i64 s_l1.2.2) rfl (x_mv f13195) ?_
                 obtain ⟨x13206, ha13207, hm⟩ := bndE hm
                 obtain ⟨hz13208, ha13212⟩ := idxE ha13207
                 obtain ⟨b13209, q13210, hix13211⟩ := rdL_ix (hL.rdO 3 rfl) hz13208 ha13212
                 refine OV (.pointer (some ⟨b13209, q13210, none⟩)) rfl (x_ix U26 Tryz_T2 rfl rfl hix13211) ?_
                 refine OV (.int .i64 x13206) rfl (x_load1 U2 rfl rfl (rdF_cells (hL.rdO 3 rfl) hix13211 ha13212 0 _ rfl)) ?_
                 refine OV (.int .i64 (w64 (x13206 + 1))) rfl (x_add rfl rfl) ?_
                 obtain ⟨x13213, ha13214, hm⟩ := bndE hm
                 obtain ⟨hz13215, ha13219⟩ := idxE ha13214
                 obtain ⟨b13216, q13217, hix13218⟩ := rdL_ix (hL.rdO 3 rfl) hz13215 ha13219
                 refine OV (.pointer (some ⟨b13216, q13217, none⟩)) rfl (x_ix U26 Tryz_T2 rfl rfl hix13218) ?_
                 refine OW.cons (S_storeX (j := 0) (w64 (x13206 + 1)) hL 3 rfl Tryz_T2 hix13218 ha13219 rfl rfl rfl rfl rfl rfl ?_)
                 intro wd13220 hL
                 refine OW.nil ?_
                 have hL := hL.sel [1, 2, 3, 4] (by decide) rfl
                 exact ⟨(s_l2.1.set (s_l1.2.2 : Int).toNat (w64 (x13206 + 1)), s_l2.2.1), hm, ⟨S12876, S12877, f13192, f13193, f13194, f13195, f13196, f13198, f13199, f13200, f13201, f13202, f13203, hL⟩⟩
               refine CW.seqJ (fun (s_j6 : Bool) (F : Fr) (w : World) => F 0 = v1 ∧ F 4 = v36 ∧ F 5 = v34 ∧ F 6 = (.int .i64 s_l1.2.2) ∧ F 7 = (.pointer (some ⟨b12171, 0, none⟩)) ∧ F 16 = v1 ∧ F 17 = (.int .i64 (a0.length : Int)) ∧ F 18 = (.int .i64 s_l1.2.2) ∧ F 29 = v1 ∧ F 30 = (.int .i64 (a0.length : Int)) ∧ F 31 = (.int .i64 s_l2.2.2) ∧ F 60 = (.bool s_j6) ∧ Hp w0 [Ent.blk b13187 79 #[(.int .i64 x13179.Boat), (.int .i64 x13179.Code), (.int .i64 x13179.Time)], Ent.blk b12171 79 #[(.int .i64 x12163.Boat), (.int .i64 x12163.Code), (.int .i64 x12163.Time)], Ent.own 2 S12877 v34 s_l2.2.1, Ent.own 2 S12876 v36 s_l2.1, Ent.snap w0 w0.heap.size] w) (fun s_j6 => M.impl_placesOf_j6 s_l1 s_l2 s_j6 = some t12878) ?_ ?_
               · refine CW.regionL ?_
                 refine OV (.pointer (some ⟨b13187, 1, none⟩)) rfl (x_fieldAddr (fsz := 1) 0 1 1 U79 rfl Tryz_T2 rfl f13197 rfl) ?_
                 refine OV (.int .i64 x13179.Code) rfl (x_load1 U2 rfl rfl (hL.cellB 0 rfl rfl)) ?_
                 refine OV (.bool (x13179.Code == 0)) rfl (x_eql rfl rfl) ?_
                 refine OV (.bool (x13179.Code == 0)) rfl (x_move) ?_
                 refine ifB_elim hm (fun hb13252 hm => ?_) (fun hb13252 hm => ?_)
                 · refine OW.cons (OP.yes' rfl rfl hb13252 (OP.val (v := (.pointer (some ⟨b13187, 2, none⟩))) rfl (x_fieldAddr (fsz := 1) 0 2 2 U79 rfl Tryz_T2 rfl f13197 rfl) ?_))
                   refine OW.cons (OP.yes' rfl rfl hb13252 (OP.val (v := (.int .i64 x13179.Time)) rfl (x_load1 U2 rfl rfl (hL.cellB 0 rfl rfl)) ?_))
                   refine OW.cons (OP.yes' rfl rfl hb13252 (OP.val (v := (.pointer (some ⟨b12171, 2, none⟩))) rfl (x_fieldAddr (fsz := 1) 0 2 2 U79 rfl Tryz_T2 rfl f13196 rfl) ?_))
                   refine OW.cons (OP.yes' rfl rfl hb13252 (OP.val (v := (.int .i64 x12163.Time)) rfl (x_load1 U2 rfl rfl (hL.cellB 1 rfl rfl)) ?_))
                   refine OW.cons (OP.yes' rfl rfl hb13252 (OP.val (v := (.bool (x13179.Time == x12163.Time))) rfl (x_eql rfl rfl) ?_))
                   refine OV (.bool (x13179.Time == x12163.Time)) rfl (x_pickT' rfl hb13252 rfl) ?_
                   refine OW.nil ?_
                   exact ⟨x13179.Time == x12163.Time, hm, ⟨f13192, f13193, f13194, f13195, f13196, f13198, f13199, f13200, f13201, f13202, f13203, rfl, hL⟩⟩
                 refine OW.cons (OP.no' rfl rfl hb13252 rfl ?_)
                 refine OW.cons (OP.no' rfl rfl hb13252 rfl ?_)
                 refine OW.cons (OP.no' rfl rfl hb13252 rfl ?_)
                 refine OW.cons (OP.no' rfl rfl hb13252 rfl ?_)
                 refine OW.cons (OP.no' rfl rfl hb13252 rfl ?_)
                 refine OV (.bool false) rfl (x_pickF' rfl hb13252 rfl) ?_
                 refine OW.nil ?_
                 exact ⟨false, hm, ⟨f13192, f13193, f13194, f13195, f13196, f13198, f13199, f13200, f13201, f13202, f13203, rfl, hL⟩⟩
               intro s_j6 F13222 wd13223 hJ hm
               unfold M.impl_placesOf_j6 at hm
               obtain ⟨f13224, f13225, f13226, f13227, f13228, f13229, f13230, f13231, f13232, f13233, f13234, f13235, hL⟩ := hJ
               refine CW.condM (t := s_j6) f13235 hm (fun hb13236 hm => ?_) (fun hb13236 hm => ?_)
               · refine CW.regionL ?_
                 refine OV v34 rfl (x_mv f13226) ?_
                 refine OV (.int .i64 s_l1.2.2) rfl (x_mv f13227) ?_
                 obtain ⟨x13237, ha13238, hm⟩ := bndE hm
                 obtain ⟨hz13239, ha13243⟩ := idxE ha13238
                 obtain ⟨b13240, q13241, hix13242⟩ := rdL_ix (hL.rdO 2 rfl) hz13239 ha13243
                 refine OV (.pointer (some ⟨b13240, q13241, none⟩)) rfl (x_ix U26 Tryz_T2 rfl rfl hix13242) ?_
                 refine OV (.int .i64 x13237) rfl (x_load1 U2 rfl rfl (rdF_cells (hL.rdO 2 rfl) hix13242 ha13243 0 _ rfl)) ?_
                 refine OV (.int .i64 (w64 (x13237 + 1))) rfl (x_add rfl rfl) ?_
                 obtain ⟨x13244, ha13245, hm⟩ := bndE hm
                 obtain ⟨hz13246, ha13250⟩ := idxE ha13245
                 obtain ⟨b13247, q13248, hix13249⟩ := rdL_ix (hL.rdO 2 rfl) hz13246 ha13250
                 refine OV (.pointer (some ⟨b13247, q13248, none⟩)) rfl (x_ix U26 Tryz_T2 rfl rfl hix13249) ?_
                 refine OW.cons (S_storeX (j := 0) (w64 (x13237 + 1)) hL 2 rfl Tryz_T2 hix13249 ha13250 rfl rfl rfl rfl rfl rfl ?_)
                 intro wd13251 hL
                 refine OW.nil ?_
                 have hL := hL.sel [1, 2, 3, 4] (by decide) rfl
                 exact ⟨(s_l2.1, s_l2.2.1.set (s_l1.2.2 : Int).toNat (w64 (x13237 + 1))), hm, ⟨S12876, S12877, f13224, f13225, f13226, f13227, f13228, f13229, f13230, f13231, f13232, f13233, f13234, hL⟩⟩
               refine CW.skip ?_
               have hL := hL.sel [1, 2, 3, 4] (by decide) rfl
               exact ⟨(s_l2.1, s_l2.2.1), hm, ⟨S12876, S12877, f13224, f13225, f13226, f13227, f13228, f13229, f13230, f13231, f13232, f13233, f13234, hL⟩⟩
             intro s_j4 F13166 wd13167 hJ hm
             unfold M.impl_placesOf_j4 at hm
             obtain ⟨S13164, S13165, f13168, f13169, f13170, f13171, f13172, f13173, f13174, f13175, f13176, f13177, f13178, hL⟩ := hJ
             exact ⟨(s_j4.1, s_j4.2), hm, ⟨S13164, S13165, f13168, f13169, f13170, f13171, f13172, f13173, f13174, f13175, f13176, f13177, f13178, hL⟩⟩
           intro s_j3 F13076 wd13077 hJ hm
           unfold M.impl_placesOf_j3 at hm
           obtain ⟨S13074, S13075, f13078, f13079, f13080, f13081, f13082, f13083, f13084, f13085, f13086, f13087, f13088, hL⟩ := hJ
           refine CW.regionL ?_
           refine OV (.int .i64 (w64 (s_l2.2.2 + 1))) rfl (x_add f13088 rfl) ?_
           refine OV (.int .i64 (w64 (s_l2.2.2 + 1))) rfl (x_move) ?_
           refine OW.nil ?_
           obtain rfl := Option.some.inj hm
           exact ⟨_, rfl, ⟨S13074, S13075, f13078, f13079, f13080, f13081, f13082, f13083, f13084, f13085, f13086, f13087, rfl, hL⟩⟩
         refine CW.exit ?_
         refine XJ.hit ?_
         obtain rfl := Option.some.inj hm
         exact ⟨_, rfl, ⟨S12876, S12877, f12897, f12898, f12899, f12900, f12901, f12902, f12903, f12904, f12905, f12906, f12907, hL⟩⟩
       intro s_j2 F12155 wd12156 hJ hm
       unfold M.impl_placesOf_j2 at hm
       obtain ⟨S12153, S12154, f12157, f12158, f12159, f12160, f12161, f12162, hL⟩ := hJ
       exact ⟨(s_j2.1, s_j2.2), hm, ⟨S12153, S12154, f12157, f12158, f12159, f12160, f12161, f12162, hL⟩⟩
     intro s_j1 F11054 wd11055 hJ hm
     unfold M.impl_placesOf_j1 at hm
     obtain ⟨S11052, S11053, f11056, f11057, f11058, f11059, f11060, f11061, hL⟩ := hJ
     refine CW.regionL ?_
     refine OV (.int .i64 (w64 (s_l1.2.2 + 1))) rfl (x_add f11061 rfl) ?_
     refine OV (.int .i64 (w64 (s_l1.2.2 + 1))) rfl (x_move) ?_
     refine OW.nil ?_
     obtain rfl := Option.some.inj hm
     exact ⟨_, rfl, ⟨S11052, S11053, f11056, f11057, f11058, f11059, f11060, rfl, hL⟩⟩
   refine CW.exit ?_
   refine XJ.hit ?_
   obtain rfl := Option.some.inj hm
   exact ⟨_, rfl, ⟨S8837, S8838, f8853, f8854, f8855, f8856, f8857, f8858, hL⟩⟩
 refine DH.node (listed' := (bma 8 95)) (fuel' := 2) (fun (F : Fr) (w : World) => ∃ (v38 : Value) (S39 : Nat → Prop), F 0 = v1 ∧ F 2 = (.slice none 0 0) ∧ F 3 = (.slice none 0 0) ∧ F 4 = v38 ∧ F 14 = (.int .i64 (a0.length : Int)) ∧ Hp w0 [Ent.own 2 S39 v38 (List.replicate ((a0.length : Int)).toNat (0 : Int)), Ent.snap w0 w0.heap.size] w) ?_ (fun hN32 => ?_)
 · intro F13254 wd13255 hJ
   obtain ⟨v38, S39, f13256, f13257, f13258, f13259, f13260, hL⟩ := hJ
   refine DH.only 5 rfl (by kernel_rfl) (S_make (α := Int) 0 hL U26 Tryz_T2 f13260 f13260 rfl hc18 (by decide) rfl ?_)
   intro wd13261 v13262 S13263 hL
   refine ⟨(hL.sel [2] (by decide) rfl), ?_⟩
   have hS := (hL.sel [2] (by decide) rfl)
   refine DH.take 7 rfl (by kernel_rfl) (by kernel_rfl) (by kernel_rfl) rfl rfl hS (YH.val (v := v13262) (fun w' hS' => x_assign)) ?_
   exact DH.relist (listed' := (bma 8 255)) (by kernel_rfl) (hN31 _ _ ⟨v13262, S13263, v38, S39, f13256, f13257, f13258, f13259, rfl, hL⟩)
 refine DH.node (listed' := (bma 8 59)) (fuel' := 3) (fun (F : Fr) (w : World) => ∃ (v40 : Value) (S41 : Nat → Prop), F 0 = v1 ∧ F 2 = (.slice none 0 0) ∧ F 3 = (.slice none 0 0) ∧ F 11 = (.int .i64 (a0.length : Int)) ∧ F 15 = v40 ∧ Hp w0 [Ent.own 2 S41 v40 (List.replicate ((a0.length : Int)).toNat (0 : Int)), Ent.snap w0 w0.heap.size] w) ?_ (fun hN33 => ?_)
 · intro F13264 wd13265 hJ
   obtain ⟨v40, S41, f13266, f13267, f13268, f13269, f13270, hL⟩ := hJ
   refine DH.only 2 rfl (by kernel_rfl) (S_make (α := Int) 0 hL U26 Tryz_T2 f13269 f13269 rfl hc14 (by decide) rfl ?_)
   intro wd13271 v13272 S13273 hL
   refine ⟨(hL.sel [2] (by decide) rfl), ?_⟩
   have hS := (hL.sel [2] (by decide) rfl)
   refine DH.take 6 rfl (by kernel_rfl) (by kernel_rfl) (by kernel_rfl) rfl rfl hS (YH.val (v := v13272) (fun w' hS' => x_assign)) ?_
   have hS := (hL.sel [2] (by decide) rfl)
   refine DH.take 7 rfl (by kernel_rfl) (by kernel_rfl) (by kernel_rfl) rfl rfl hS (YH.val (v := v40) (fun w' hS' => x_mva f13270)) ?_
   have hL := hL.sel [1, 0, 2] (by decide) rfl
   exact DH.relist (listed' := (bma 8 255)) (by kernel_rfl) (hN31 _ _ ⟨v40, S41, v13272, S13273, f13266, f13267, f13268, rfl, rfl, hL⟩)
 refine DH.all (rs := [2, 5]) (by kernel_rfl) (by simp) ?_
 intro i13274 hi13275
 simp only [List.mem_cons, List.not_mem_nil, or_false] at hi13275
 rcases hi13275 with rfl | rfl
 · refine ⟨_, rfl, ?_⟩
   refine S_make (α := Int) 0 hL U26 Tryz_T2 rfl rfl rfl hc14 (by decide) rfl ?_
   intro wd13276 v13277 S13278 hL
   refine ⟨(hL.sel [1] (by decide) rfl), ?_⟩
   have hS := (hL.sel [1] (by decide) rfl)
   refine DH.take 6 rfl (by kernel_rfl) (by kernel_rfl) (by kernel_rfl) rfl rfl hS (YH.val (v := v13277) (fun w' hS' => x_assign)) ?_
   exact DH.relist (listed' := (bma 8 95)) (by kernel_rfl) (hN32 _ _ ⟨v13277, S13278, rfl, rfl, rfl, rfl, rfl, hL⟩)
 refine ⟨_, rfl, ?_⟩
 refine S_make (α := Int) 0 hL U26 Tryz_T2 rfl rfl rfl hc18 (by decide) rfl ?_
 intro wd13279 v13280 S13281 hL
 refine ⟨(hL.sel [1] (by decide) rfl), ?_⟩
 exact DH.relist (listed' := (bma 8 59)) (by kernel_rfl) (hN33 _ _ ⟨v13280, S13281, rfl, rfl, rfl, rfl, rfl, hL⟩)

theorem M.impl_codePoints_ok (w0 : World) (a0 : List Finish) {v1 : Value} (h2 : rdL (· < w0.heap.size) w0 v1 a0) (a1 : Int) (a2 : Int) {r : Int} (hm : M.impl_codePoints a0 a1 a2 = some r) :
    Calls Tryz.prog 44 #[v1, (.int .i64 a1), (.int .i64 a2)] w0 fun e w' => e = .returned (.int .i64 r) ∧ Fresh w0 w' [] := by
 unfold M.impl_codePoints at hm
 refine calls_CW (args := [v1, (.int .i64 a1), (.int .i64 a2)]) Tryz.func44 rfl rfl rfl ?_
 have hL := Hp.start w0
 refine CSR ?_
 refine OV (.int .i64 0) rfl (x_assign) ?_
 refine ONS ?_
 refine CSR ?_
 refine OV (.int .i64 a1) rfl (x_move) ?_
 refine OV (.bool (a1 == 9)) rfl (x_eql rfl rfl) ?_
 refine OW.nil ?_
 refine CW.condM (t := a1 == 9) rfl hm (fun hb3 hm => ?_) (fun hb3 hm => ?_)
 · refine CSR ?_
   refine OV (.int .i64 0) rfl (x_assign) ?_
   refine OW.nil ?_
   refine CW.ret ?_
   obtain rfl := Option.some.inj hm
   exact RR1 rfl rfl ⟨rfl, hL.fresh 0 rfl [] (by decide) (by decide) rfl⟩
 refine CW.skip ?_
 refine CSR ?_
 refine OV v1 rfl (x_move) ?_
 refine OV (.int .i64 (a0.length : Int)) rfl (x_lenR U73 rfl (hL.rdS 0 rfl h2)) ?_
 refine OV (.int .i64 (a0.length : Int)) rfl (x_assign) ?_
 refine ONS ?_
 refine CSR ?_
 refine OV v1 rfl (x_move) ?_
 refine OV (.int .i64 (a0.length : Int)) rfl (x_lenR U73 rfl (hL.rdS 0 rfl h2)) ?_
 refine OV (.int .i64 0) rfl (x_move) ?_
 refine OW.nil ?_
 obtain ⟨o248, ho249, hm⟩ := bndE hm
 refine CW.loopB (fun (s_l1 : Int × Int) (F : Fr) (w : World) => F 1 = (.int .i64 a1) ∧ F 2 = (.int .i64 a2) ∧ F 7 = (.int .i64 s_l1.1) ∧ F 14 = v1 ∧ F 15 = (.int .i64 (a0.length : Int)) ∧ F 16 = (.int .i64 s_l1.2) ∧ Hp w0 [Ent.snap w0 w0.heap.size] w) (fun o => outc o (fun x => some x) (fun s => M.impl_codePoints_a1 s) = some r) ho249 hm ⟨rfl, rfl, rfl, rfl, rfl, rfl, hL⟩ ?_ ?_
 · intro s_l1 F250 wd251 hJ hm
   have hm := outcE hm
   have hm : M.impl_codePoints_a1 s_l1 = some r := hm
   unfold M.impl_codePoints_a1 at hm
   obtain ⟨f252, f253, f254, f255, f256, f257, hL⟩ := hJ
   refine CSR ?_
   refine OV (.int .i64 s_l1.1) rfl (x_mv f254) ?_
   refine OV (.int .i64 (w64 (s_l1.1 + 1))) rfl (x_add rfl rfl) ?_
   refine OV (.int .i64 (w64 (10 * (w64 (s_l1.1 + 1))))) rfl (x_mul rfl rfl) ?_
   refine OV (.int .i64 (w64 (10 * (w64 (s_l1.1 + 1))))) rfl (x_assign) ?_
   refine OW.nil ?_
   refine CW.ret ?_
   obtain rfl := Option.some.inj hm
   exact RR1 rfl rfl ⟨rfl, hL.fresh 0 rfl [] (by decide) (by decide) rfl⟩
 intro s_l1 F258 wd259 t246 hJ hm hr247
 unfold M.impl_codePoints_l1 at hm
 obtain ⟨f260, f261, f262, f263, f264, f265, hL⟩ := hJ
 refine CSR ?_
 refine OV (.bool (decide (s_l1.2 < (a0.length : Int)))) rfl (x_lss f265 f264) ?_
 refine ONS ?_
 refine CW.condM (t := decide (s_l1.2 < (a0.length : Int))) rfl hm (fun hb266 hm => ?_) (fun hb266 hm => ?_)
 · refine CW.skip ?_
   refine CW.seqJ (fun (s_j1 : Int) (F : Fr) (w : World) => F 1 = (.int .i64 a1) ∧ F 2 = (.int .i64 a2) ∧ F 7 = (.int .i64 s_j1) ∧ F 14 = v1 ∧ F 15 = (.int .i64 (a0.length : Int)) ∧ F 16 = (.int .i64 s_l1.2) ∧ Hp w0 [Ent.snap w0 w0.heap.size] w) (fun s_j1 => M.impl_codePoints_j1 s_l1 s_j1 = some t246) ?_ ?_
   · refine CW.blockJ (fun (s_j2 : Int) (F : Fr) (w : World) => F 1 = (.int .i64 a1) ∧ F 2 = (.int .i64 a2) ∧ F 7 = (.int .i64 s_j2) ∧ F 14 = v1 ∧ F 15 = (.int .i64 (a0.length : Int)) ∧ F 16 = (.int .i64 s_l1.2) ∧ Hp w0 [Ent.snap w0 w0.heap.size] w) (fun s_j2 => M.impl_codePoints_j2 s_l1 s_j2 = some t246) ?_ ?_
     · refine CSR ?_
       obtain ⟨x363, ha364, hm⟩ := bndE hm
       obtain ⟨hz365, ha369⟩ := idxE ha364
       obtain ⟨b366, q367, hix368⟩ := rdL_ix (hL.rdS 0 rfl h2) hz365 ha369
       refine OV (.pointer (some ⟨b366, q367, none⟩)) rfl (x_ix U73 Tryz_T79 f263 f265 hix368) ?_
       refine OV (.agg #[(.int .i64 x363.Boat), (.int .i64 x363.Code), (.int .i64 x363.Time)]) rfl (x_loadN (cs := [(.int .i64 x363.Boat), (.int .i64 x363.Code), (.int .i64 x363.Time)]) U79 Tryz_T79 rfl rfl (rdF_cells (hL.rdS 0 rfl h2) hix368 ha369)) ?_
       refine OW.cons (S_alloc (cs := #[(.int .i64 0), (.int .i64 0), (.int .i64 0)]) hL Tryz_T79 rfl rfl ?_)
       intro wd370 b371 hL
       refine OW.cons (S_storeN (l := [(.int .i64 x363.Boat), (.int .i64 x363.Code), (.int .i64 x363.Time)]) (cs' := #[(.int .i64 x363.Boat), (.int .i64 x363.Code), (.int .i64 x363.Time)]) hL 0 rfl Tryz_T79 rfl rfl (List.forall_mem_cons.2 ⟨rfl, (List.forall_mem_cons.2 ⟨rfl, (List.forall_mem_cons.2 ⟨rfl, (fun _ h => by cases h)⟩)⟩)⟩) rfl (Nat.le_of_ble_eq_true rfl) rfl ?_)
       intro wd372 hL
       refine OW.nil ?_
       refine CW.seqJ (fun (s_j3 : Bool) (F : Fr) (w : World) => F 1 = (.int .i64 a1) ∧ F 2 = (.int .i64 a2) ∧ F 7 = (.int .i64 s_l1.1) ∧ F 14 = v1 ∧ F 15 = (.int .i64 (a0.length : Int)) ∧ F 16 = (.int .i64 s_l1.2) ∧ F 30 = (.bool s_j3) ∧ Hp w0 [Ent.blk b371 79 #[(.int .i64 x363.Boat), (.int .i64 x363.Code), (.int .i64 x363.Time)], Ent.snap w0 w0.heap.size] w) (fun s_j3 => M.impl_codePoints_j3 s_l1 s_j3 = some t246) ?_ ?_
       · refine CW.regionL ?_
         refine OV (.pointer (some ⟨b371, 1, none⟩)) rfl (x_fieldAddr (fsz := 1) 0 1 1 U79 rfl Tryz_T2 rfl rfl rfl) ?_
         refine OV (.int .i64 x363.Code) rfl (x_load1 U2 rfl rfl (hL.cellB 0 rfl rfl)) ?_
         refine OV (.bool (x363.Code == 1)) rfl (x_eql rfl rfl) ?_
         refine OV (.bool (x363.Code == 1)) rfl (x_move) ?_
         refine ifB_elim hm (fun hb385 hm => ?_) (fun hb385 hm => ?_)
         · refine OW.cons (OP.yes' rfl rfl hb385 (OP.val (v := (.int .i64 a1)) rfl (x_mv f260) ?_))
           refine OW.cons (OP.yes' rfl rfl hb385 (OP.val (v := (.bool (a1 != 1))) rfl (x_neq rfl rfl) ?_))
           refine OV (.bool (a1 != 1)) rfl (x_pickT' rfl hb385 rfl) ?_
           refine OV (.bool (a1 != 1)) rfl (x_move) ?_
           refine ifB_elim hm (fun hb386 hm => ?_) (fun hb386 hm => ?_)
           · refine OW.cons (OP.yes' rfl rfl hb386 (OP.val (v := (.int .i64 a2)) rfl (x_mv f261) ?_))
             refine OW.cons (OP.yes' rfl rfl hb386 (OP.val (v := (.bool (a2 == 1))) rfl (x_eql rfl rfl) ?_))
             refine OV (.bool (a2 == 1)) rfl (x_pickT' rfl hb386 rfl) ?_
             refine OW.nil ?_
             exact ⟨a2 == 1, hm, ⟨f260, f261, f262, f263, f264, f265, rfl, hL⟩⟩
           refine OW.cons (OP.no' rfl rfl hb386 rfl ?_)
           refine OW.cons (OP.no' rfl rfl hb386 rfl ?_)
           refine OV (.bool false) rfl (x_pickF' rfl hb386 rfl) ?_
           refine OW.nil ?_
           exact ⟨false, hm, ⟨f260, f261, f262, f263, f264, f265, rfl, hL⟩⟩
         refine OW.cons (OP.no' rfl rfl hb385 rfl ?_)
         refine OW.cons (OP.no' rfl rfl hb385 rfl ?_)
         refine OV (.bool false) rfl (x_pickF' rfl hb385 rfl) ?_
         refine OV (.bool false) rfl (x_move) ?_
         refine OW.cons (OP.no' rfl rfl rfl rfl ?_)
         refine OW.cons (OP.no' rfl rfl rfl rfl ?_)
         refine OV (.bool false) rfl (x_pickF' rfl rfl rfl) ?_
         refine OW.nil ?_
         exact ⟨false, hm, ⟨f260, f261, f262, f263, f264, f265, rfl, hL⟩⟩
       intro s_j3 F375 wd376 hJ hm
       unfold M.impl_codePoints_j3 at hm
       obtain ⟨f377, f378, f379, f380, f381, f382, f383, hL⟩ := hJ
       refine CW.condM (t := s_j3) f383 hm (fun hb384 hm => ?_) (fun hb384 hm => ?_)
       · refine CW.regionL ?_
         refine OV (.int .i64 s_l1.1) rfl (x_mv f379) ?_
         refine OV (.int .i64 (w64 (s_l1.1 - 1))) rfl (x_sub rfl rfl) ?_
         refine OV (.int .i64 (w64 (s_l1.1 - 1))) rfl (x_assign) ?_
         refine OW.nil ?_
         have hL := hL.sel [1] (by decide) rfl
         exact ⟨w64 (s_l1.1 - 1), hm, ⟨f377, f378, rfl, f380, f381, f382, hL⟩⟩
       refine CW.skip ?_
       have hL := hL.sel [1] (by decide) rfl
       exact ⟨s_l1.1, hm, ⟨f377, f378, f379, f380, f381, f382, hL⟩⟩
     intro s_j2 F355 wd356 hJ hm
     unfold M.impl_codePoints_j2 at hm
     obtain ⟨f357, f358, f359, f360, f361, f362, hL⟩ := hJ
     exact ⟨s_j2, hm, ⟨f357, f358, f359, f360, f361, f362, hL⟩⟩
   intro s_j1 F323 wd324 hJ hm
   unfold M.impl_codePoints_j1 at hm
   obtain ⟨f325, f326, f327, f328, f329, f330, hL⟩ := hJ
   refine CW.regionL ?_
   refine OV (.int .i64 (w64 (s_l1.2 + 1))) rfl (x_add f330 rfl) ?_
   refine OV (.int .i64 (w64 (s_l1.2 + 1))) rfl (x_move) ?_
   refine OW.nil ?_
   obtain rfl := Option.some.inj hm
   exact ⟨_, rfl, ⟨f325, f326, f327, f328, f329, rfl, hL⟩⟩
 refine CW.exit ?_
 refine XJ.hit ?_
 obtain rfl := Option.some.inj hm
 exact ⟨_, rfl, ⟨f260, f261, f262, f263, f264, f265, hL⟩⟩

theorem M.impl_racePoints_ok (w0 : World) (a0 : List Finish) {v1 : Value} (h2 : rdL (· < w0.heap.size) w0 v1 a0) (a1 : Int) {r : (List Int)} (hm : M.impl_racePoints a0 a1 = some r) :
    Calls Tryz.prog 45 #[v1, (.int .i64 a1)] w0 fun e w' => ∃ (rv0 : Value) (rS0 : Nat → Prop), e = .returned rv0 ∧ Fresh w0 w' [Ent.own 2 rS0 rv0 r] := by
 unfold M.impl_racePoints at hm
 refine calls_CW (args := [v1, (.int .i64 a1)]) Tryz.func45 rfl rfl rfl ?_
 have hL := Hp.start w0
 refine CSR ?_
 refine OV (.slice none 0 0) rfl (x_assign) ?_
 refine ONR ?_
 refine OV v1 rfl (x_move) ?_
 obtain ⟨x3, hx4, hm⟩ := bndE hm
 refine OW.cons (OP.call rfl (x_call (vs := [v1]) Tryz_C64 ⟨rfl, trivial⟩) (M.impl_placesOf_ok _ a0 (hL.rdS 0 rfl h2) hx4) ?_)
 rintro e9 wd10 ⟨v6, S5, v8, S7, rfl, hF11⟩
 refine ⟨_, rfl, ?_⟩
 have hL := hL.pushAll hF11
 simp only [lA, lB, lC, lD] at hL
 refine OV (.tuple #[v6, v8]) rfl (x_move) ?_
 refine OV v6 rfl (x_extract rfl rfl) ?_
 refine OV v8 rfl (x_extract rfl rfl) ?_
 refine OV v6 rfl (x_assign) ?_
 refine OV v8 rfl (x_assign) ?_
 refine ONR ?_
 refine OW.cons (S_lit ([] : List Int) hL U26 Tryz_T2 rfl (by decide) (by first | (simp [Instr.fill, madeCells, Value.cells, ev, upd, Flat.enc, Flat.sz]; done) | rfl | kernel_rfl) rfl rfl ?_)
 intro wd12 v13 S14 hL
 refine OV v13 rfl (x_assign) ?_
 refine ONS ?_
 refine CSR ?_
 refine OV v1 rfl (x_move) ?_
 refine OV (.int .i64 (a0.length : Int)) rfl (x_lenR U73 rfl (hL.rdS 3 rfl h2)) ?_
 refine OV (.int .i64 0) rfl (x_move) ?_
 refine OW.nil ?_
 obtain ⟨o615, ho616, hm⟩ := bndE hm
 refine CW.loopB (fun (s_l1 : (List Int) × Int) (F : Fr) (w : World) => ∃ (v611 : Value) (S612 : Nat → Prop), F 0 = v1 ∧ F 1 = (.int .i64 a1) ∧ F 5 = v6 ∧ F 6 = v8 ∧ F 7 = v611 ∧ F 16 = v1 ∧ F 17 = (.int .i64 (a0.length : Int)) ∧ F 18 = (.int .i64 s_l1.2) ∧ Hp w0 [Ent.own 2 S612 v611 s_l1.1, Ent.own 2 S5 v6 x3.1, Ent.own 2 S7 v8 x3.2, Ent.snap w0 w0.heap.size] w) (fun o => outc o (fun x => some x) (fun s => M.impl_racePoints_a1 s) = some r) ho616 hm ⟨v13, S14, rfl, rfl, rfl, rfl, rfl, rfl, rfl, rfl, hL⟩ ?_ ?_
 · intro s_l1 F617 wd618 hJ hm
   have hm := outcE hm
   have hm : M.impl_racePoints_a1 s_l1 = some r := hm
   unfold M.impl_racePoints_a1 at hm
   obtain ⟨v611, S612, f619, f620, f621, f622, f623, f624, f625, f626, hL⟩ := hJ
   refine CSR ?_
   refine OV v611 rfl (x_mv f623) ?_
   refine OV v611 rfl (x_assign) ?_
   refine OW.nil ?_
   refine CW.ret ?_
   obtain rfl := Option.some.inj hm
   exact RR1 rfl rfl ⟨v611, S612, rfl, hL.fresh 3 rfl [0] (by decide) (by decide) rfl⟩
 intro s_l1 F627 wd628 t613 hJ hm hr614
 unfold M.impl_racePoints_l1 at hm
 obtain ⟨v611, S612, f629, f630, f631, f632, f633, f634, f635, f636, hL⟩ := hJ
 refine CSR ?_
 refine OV (.bool (decide (s_l1.2 < (a0.length : Int)))) rfl (x_lss f636 f635) ?_
 refine ONS ?_
 refine CW.condM (t := decide (s_l1.2 < (a0.length : Int))) rfl hm (fun hb637 hm => ?_) (fun hb637 hm => ?_)
 · refine CW.skip ?_
   refine CW.seqJ (fun (s_j1 : (List Int)) (F : Fr) (w : World) => ∃ (v780 : Value) (S781 : Nat → Prop), F 0 = v1 ∧ F 1 = (.int .i64 a1) ∧ F 5 = v6 ∧ F 6 = v8 ∧ F 7 = v780 ∧ F 16 = v1 ∧ F 17 = (.int .i64 (a0.length : Int)) ∧ F 18 = (.int .i64 s_l1.2) ∧ Hp w0 [Ent.own 2 S781 v780 s_j1, Ent.own 2 S5 v6 x3.1, Ent.own 2 S7 v8 x3.2, Ent.snap w0 w0.heap.size] w) (fun s_j1 => M.impl_racePoints_j1 s_l1 s_j1 = some t613) ?_ ?_
   · refine CW.blockJ (fun (s_j2 : (List Int)) (F : Fr) (w : World) => ∃ (v857 : Value) (S858 : Nat → Prop), F 0 = v1 ∧ F 1 = (.int .i64 a1) ∧ F 5 = v6 ∧ F 6 = v8 ∧ F 7 = v857 ∧ F 16 = v1 ∧ F 17 = (.int .i64 (a0.length : Int)) ∧ F 18 = (.int .i64 s_l1.2) ∧ Hp w0 [Ent.own 2 S858 v857 s_j2, Ent.own 2 S5 v6 x3.1, Ent.own 2 S7 v8 x3.2, Ent.snap w0 w0.heap.size] w) (fun s_j2 => M.impl_racePoints_j2 s_l1 s_j2 = some t613) ?_ ?_
     · refine CSR ?_
       refine OV (.int .i64 s_l1.2) rfl (x_mv f636) ?_
       obtain ⟨x869, ha870, hm⟩ := bndE hm
       obtain ⟨hz871, ha875⟩ := idxE ha870
       obtain ⟨b872, q873, hix874⟩ := rdL_ix (hL.rdS 3 rfl h2) hz871 ha875
       refine OV (.pointer (some ⟨b872, q873, none⟩)) rfl (x_ix U73 Tryz_T79 f634 f636 hix874) ?_
       refine OV (.agg #[(.int .i64 x869.Boat), (.int .i64 x869.Code), (.int .i64 x869.Time)]) rfl (x_loadN (cs := [(.int .i64 x869.Boat), (.int .i64 x869.Code), (.int .i64 x869.Time)]) U79 Tryz_T79 rfl rfl (rdF_cells (hL.rdS 3 rfl h2) hix874 ha875)) ?_
       refine OW.cons (S_alloc (cs := #[(.int .i64 0), (.int .i64 0), (.int .i64 0)]) hL Tryz_T79 rfl rfl ?_)
       intro wd876 b877 hL
       refine OV (.int .i64 s_l1.2) rfl (x_assign) ?_
       refine OW.cons (S_storeN (l := [(.int .i64 x869.Boat), (.int .i64 x869.Code), (.int .i64 x869.Time)]) (cs' := #[(.int .i64 x869.Boat), (.int .i64 x869.Code), (.int .i64 x869.Time)]) hL 0 rfl Tryz_T79 rfl rfl (List.forall_mem_cons.2 ⟨rfl, (List.forall_mem_cons.2 ⟨rfl, (List.forall_mem_cons.2 ⟨rfl, (fun _ h => by cases h)⟩)⟩)⟩) rfl (Nat.le_of_ble_eq_true rfl) rfl ?_)
       intro wd878 hL
       refine ONR ?_
       refine OV (.pointer (some ⟨b877, 1, none⟩)) rfl (x_fieldAddr (fsz := 1) 0 1 1 U79 rfl Tryz_T2 rfl rfl rfl) ?_
       refine OV (.int .i64 x869.Code) rfl (x_load1 U2 rfl rfl (hL.cellB 0 rfl rfl)) ?_
       refine OV (.bool (x869.Code == 0)) rfl (x_eql rfl rfl) ?_
       refine OW.nil ?_
       refine CW.condM (t := x869.Code == 0) rfl hm (fun hb879 hm => ?_) (fun hb879 hm => ?_)
       · refine CW.drawH (fun w' => Hp w0 [Ent.blk b877 79 #[(.int .i64 x869.Boat), (.int .i64 x869.Code), (.int .i64 x869.Time)], Ent.own 2 S5 v6 x3.1, Ent.own 2 S7 v8 x3.2, Ent.snap w0 w0.heap.size] w') Tryz_mixed ?_
         have hL := hL.call (Mod.drew _)
         have hS := (hL.sel [0, 2, 3, 4] (by decide) rfl)
         refine DH.take 0 rfl (by kernel_rfl) (by kernel_rfl) (by kernel_rfl) rfl rfl hS (YH.val (v := v611) (fun w' hS' => x_mv f633)) ?_
         have hS := (hL.sel [0, 2, 3, 4] (by decide) rfl)
         refine DH.take 1 rfl (by kernel_rfl) (by kernel_rfl) (by kernel_rfl) rfl rfl hS (YH.val (v := v6) (fun w' hS' => x_mv f631)) ?_
         have hS := (hL.sel [0, 2, 3, 4] (by decide) rfl)
         refine DH.take 2 rfl (by kernel_rfl) (by kernel_rfl) (by kernel_rfl) rfl rfl hS (YH.val (v := (.int .i64 s_l1.2)) (fun w' hS' => x_move)) ?_
         have hS := (hL.sel [0, 2, 3, 4] (by decide) rfl)
         obtain ⟨x901, ha902, hm⟩ := bndE hm
         obtain ⟨hz903, ha907⟩ := idxE ha902
         obtain ⟨b904, q905, hix906⟩ := rdL_ix (hL.rdO 2 rfl) hz903 ha907
         refine DH.take 3 rfl (by kernel_rfl) (by kernel_rfl) (by kernel_rfl) rfl rfl hS (YH.val (v := (.pointer (some ⟨b904, q905, none⟩))) (fun w' hS' => x_ix U26 Tryz_T2 rfl rfl hix906)) ?_
         have hS := (hL.sel [0, 2, 3, 4] (by decide) rfl)
         refine DH.take 4 rfl (by kernel_rfl) (by kernel_rfl) (by kernel_rfl) rfl rfl hS (YH.val (v := (.int .i64 x901)) (fun w' hS' => x_load1 U2 rfl rfl (rdF_cells (hS'.rdO 1 rfl) hix906 ha907 0 _ rfl))) ?_
         have hS := (hL.sel [0, 2, 3, 4] (by decide) rfl)
         refine DH.take 5 rfl (by kernel_rfl) (by kernel_rfl) (by kernel_rfl) rfl rfl hS (YH.val (v := (.int .i64 (w64 (2 * x901)))) (fun w' hS' => x_mul rfl rfl)) ?_
         have hS := (hL.sel [0, 2, 3, 4] (by decide) rfl)
         refine DH.take 6 rfl (by kernel_rfl) (by kernel_rfl) (by kernel_rfl) rfl rfl hS (YH.val (v := v8) (fun w' hS' => x_mv f632)) ?_
         have hS := (hL.sel [0, 2, 3, 4] (by decide) rfl)
         refine DH.take 7 rfl (by kernel_rfl) (by kernel_rfl) (by kernel_rfl) rfl rfl hS (YH.val (v := (.int .i64 s_l1.2)) (fun w' hS' => x_move)) ?_
         have hS := (hL.sel [0, 2, 3, 4] (by decide) rfl)
         obtain ⟨x908, ha909, hm⟩ := bndE hm
         obtain ⟨hz910, ha914⟩ := idxE ha909
         obtain ⟨b911, q912, hix913⟩ := rdL_ix (hL.rdO 3 rfl) hz910 ha914
         refine DH.take 8 rfl (by kernel_rfl) (by kernel_rfl) (by kernel_rfl) rfl rfl hS (YH.val (v := (.pointer (some ⟨b911, q912, none⟩))) (fun w' hS' => x_ix U26 Tryz_T2 rfl rfl hix913)) ?_
         have hS := (hL.sel [0, 2, 3, 4] (by decide) rfl)
         refine DH.take 9 rfl (by kernel_rfl) (by kernel_rfl) (by kernel_rfl) rfl rfl hS (YH.val (v := (.int .i64 x908)) (fun w' hS' => x_load1 U2 rfl rfl (rdF_cells (hS'.rdO 2 rfl) hix913 ha914 0 _ rfl))) ?_
         have hS := (hL.sel [0, 2, 3, 4] (by decide) rfl)
         refine DH.take 10 rfl (by kernel_rfl) (by kernel_rfl) (by kernel_rfl) rfl rfl hS (YH.val (v := (.int .i64 (w64 ((w64 (2 * x901)) + x908)))) (fun w' hS' => x_add rfl rfl)) ?_
         have hS := (hL.sel [0, 2, 3, 4] (by decide) rfl)
         refine DH.take 11 rfl (by kernel_rfl) (by kernel_rfl) (by kernel_rfl) rfl rfl hS (YH.val (v := (.int .i64 (w64 ((w64 ((w64 (2 * x901)) + x908)) - 1)))) (fun w' hS' => x_sub rfl rfl)) ?_
         have hS := (hL.sel [0, 2, 3, 4] (by decide) rfl)
         refine DH.take 12 rfl (by kernel_rfl) (by kernel_rfl) (by kernel_rfl) rfl rfl hS (YH.val (v := (.int .i64 (w64 (5 * (w64 ((w64 ((w64 (2 * x901)) + x908)) - 1)))))) (fun w' hS' => x_mul rfl rfl)) ?_
         refine DH.only 13 rfl (by kernel_rfl) (S_lit ([w64 (5 * (w64 ((w64 ((w64 (2 * x901)) + x908)) - 1)))] : List Int) hL U26 Tryz_T2 rfl (by decide) (by first | (simp [Instr.fill, madeCells, Value.cells, ev, upd, Flat.enc, Flat.sz]; done) | rfl | kernel_rfl) rfl rfl ?_)
         intro wd915 v916 S917 hL
         refine ⟨(hL.sel [1, 3, 4, 5] (by decide) rfl), ?_⟩
         obtain ⟨hc921, hm⟩ := chkE hm
         refine DH.only 14 rfl (by kernel_rfl) (S_append (ys := ([w64 (5 * (w64 ((w64 ((w64 (2 * x901)) + x908)) - 1)))] : List Int)) hL 2 rfl U26 Tryz_T2 rfl rfl rfl (hL.rdO 0 rfl) hc921 (by decide) rfl ?_)
         intro wd918 v919 S920 hL
         refine ⟨(hL.sel [1, 3, 4, 5] (by decide) rfl), ?_⟩
         have hS := (hL.sel [1, 3, 4, 5] (by decide) rfl)
         refine DH.take 15 rfl (by kernel_rfl) (by kernel_rfl) (by kernel_rfl) rfl rfl hS (YH.val (v := v919) (fun w' hS' => x_assign)) ?_
         refine DH.done (by kernel_rfl) ?_
         have hL := hL.sel [2, 3, 4, 5] (by decide) rfl
         exact ⟨s_l1.1 ++ ([w64 (5 * (w64 ((w64 ((w64 (2 * x901)) + x908)) - 1)))] : List Int), hm, ⟨v919, S920, f629, f630, f631, f632, rfl, f634, f635, f636, hL⟩⟩
       refine CW.regionL ?_
       refine OV v611 rfl (x_mv f633) ?_
       refine OV v1 rfl (x_mv f629) ?_
       refine OV (.pointer (some ⟨b877, 1, none⟩)) rfl (x_fieldAddr (fsz := 1) 0 1 1 U79 rfl Tryz_T2 rfl rfl rfl) ?_
       refine OV (.int .i64 x869.Code) rfl (x_load1 U2 rfl rfl (hL.cellB 0 rfl rfl)) ?_
       refine OV (.int .i64 a1) rfl (x_mv f630) ?_
       obtain ⟨x922, hx923, hm⟩ := bndE hm
       refine OW.cons (OP.call rfl (x_call (vs := [v1, (.int .i64 x869.Code), (.int .i64 a1)]) Tryz_C44 ⟨rfl, rfl, rfl, trivial⟩) (M.impl_codePoints_ok _ a0 (hL.rdS 4 rfl h2) x869.Code a1 hx923) ?_)
       rintro e924 wd925 ⟨rfl, hF926⟩
       refine ⟨_, rfl, ?_⟩
       have hL := hL.pushAll hF926
       simp only [lA, lB, lC, lD] at hL
       refine OW.cons (S_lit ([x922] : List Int) hL U26 Tryz_T2 rfl (by decide) (by first | (simp [Instr.fill, madeCells, Value.cells, ev, upd, Flat.enc, Flat.sz]; done) | rfl | kernel_rfl) rfl rfl ?_)
       intro wd927 v928 S929 hL
       obtain ⟨hc933, hm⟩ := chkE hm
       refine OW.cons (S_append (ys := ([x922] : List Int)) hL 2 rfl U26 Tryz_T2 rfl rfl rfl (hL.rdO 0 rfl) hc933 (by decide) rfl ?_)
       intro wd930 v931 S932 hL
       refine OV v931 rfl (x_assign) ?_
       refine OW.nil ?_
       have hL := hL.sel [2, 3, 4, 5] (by decide) rfl
       exact ⟨s_l1.1 ++ ([x922] : List Int), hm, ⟨v931, S932, f629, f630, f631, f632, rfl, f634, f635, f636, hL⟩⟩
     intro s_j2 F859 wd860 hJ hm
     unfold M.impl_racePoints_j2 at hm
     obtain ⟨v857, S858, f861, f862, f863, f864, f865, f866, f867, f868, hL⟩ := hJ
     exact ⟨s_j2, hm, ⟨v857, S858, f861, f862, f863, f864, f865, f866, f867, f868, hL⟩⟩
   intro s_j1 F782 wd783 hJ hm
   unfold M.impl_racePoints_j1 at hm
   obtain ⟨v780, S781, f784, f785, f786, f787, f788, f789, f790, f791, hL⟩ := hJ
   refine CW.regionL ?_
   refine OV (.int .i64 (w64 (s_l1.2 + 1))) rfl (x_add f791 rfl) ?_
   refine OV (.int .i64 (w64 (s_l1.2 + 1))) rfl (x_move) ?_
   refine OW.nil ?_
   obtain rfl := Option.some.inj hm
   exact ⟨_, rfl, ⟨v780, S781, f784, f785, f786, f787, f788, f789, f790, rfl, hL⟩⟩
 refine CW.exit ?_
 refine XJ.hit ?_
 obtain rfl := Option.some.inj hm
 exact ⟨_, rfl, ⟨v611, S612, f629, f630, f631, f632, f633, f634, f635, f636, hL⟩⟩

theorem M.impl_tableOf_ok (w0 : World) (a0 : Series) {v1 : Value} (h2 : rdL (· < w0.heap.size) w0 v1 a0.Races) {r : Table} (hm : M.impl_tableOf a0 = some r) :
    Calls Tryz.prog 27 #[(.agg #[(.int .i64 a0.Boats), (.int .i64 a0.Scheme), v1])] w0 fun e w' => ∃ (rv0 : Value) (rS0 : Nat → Prop), ∃ (rv1 : Value) (rS1 : Nat → Prop), e = .returned (.agg #[(.int .i64 r.Boats), rv0, rv1]) ∧ Fresh w0 w' [Ent.own 26 rS0 rv0 r.Points, Ent.own 26 rS1 rv1 r.Codes] := by
 unfold M.impl_tableOf at hm
 refine calls_CW (args := [(.agg #[(.int .i64 a0.Boats), (.int .i64 a0.Scheme), v1])]) Tryz.func27 rfl rfl rfl ?_
 have hL := Hp.start w0
 refine CSR ?_
 refine OW.cons (S_box (cs := #[(.int .i64 a0.Boats), (.int .i64 a0.Scheme), v1]) hL rfl rfl rfl ?_)
 intro wd3 b4 hL
 refine OW.cons (S_alloc (cs := #[(.int .i64 0), (.slice none 0 0), (.slice none 0 0)]) hL Tryz_T49 rfl rfl ?_)
 intro wd5 b6 hL
 refine ONR ?_
 refine OV (.pointer (some ⟨b4, 0, none⟩)) rfl (x_fieldAddr (fsz := 1) 0 0 0 U33 rfl Tryz_T2 rfl rfl rfl) ?_
 refine OV (.int .i64 a0.Boats) rfl (x_load1 U2 rfl rfl (hL.cellB 1 rfl rfl)) ?_
 refine OV (.agg #[(.int .i64 a0.Boats), (.slice none 0 0), (.slice none 0 0)]) rfl (x_build Tryz_B49 (ps := [(0, (.int .i64 a0.Boats))]) ⟨⟨rfl, rfl⟩, trivial⟩ (by simp [Instr.fill, cells_int, cells_bool, cells_string, cells_agg, cells_slice, cells_pointer])) ?_
 refine OW.cons (S_alloc (cs := #[(.int .i64 0), (.slice none 0 0), (.slice none 0 0)]) hL Tryz_T49 rfl rfl ?_)
 intro wd7 b8 hL
 refine OW.cons (S_storeN (l := [(.int .i64 a0.Boats), (.slice none 0 0), (.slice none 0 0)]) (cs' := #[(.int .i64 a0.Boats), (.slice none 0 0), (.slice none 0 0)]) hL 0 rfl Tryz_T49 rfl rfl (List.forall_mem_cons.2 ⟨rfl, (List.forall_mem_cons.2 ⟨rfl, (List.forall_mem_cons.2 ⟨rfl, (fun _ h => by cases h)⟩)⟩)⟩) rfl (Nat.le_of_ble_eq_true rfl) rfl ?_)
 intro wd9 hL
 refine ONS ?_
 refine CSR ?_
 refine OV (.pointer (some ⟨b4, 2, none⟩)) rfl (x_fieldAddr (fsz := 1) 0 2 2 U33 rfl Tryz_T31 rfl rfl rfl) ?_
 refine OV v1 rfl (x_load1 U31 rfl rfl (hL.cellB 2 rfl rfl)) ?_
 refine OV (.int .i64 (a0.Races.length : Int)) rfl (x_lenR U31 rfl (hL.rdS 3 rfl h2)) ?_
 refine OV (.int .i64 0) rfl (x_move) ?_
 refine OW.nil ?_
 obtain ⟨o324, ho325, hm⟩ := bndE hm
 have hL := hL.pushNil (List Int) 26
 have hL := hL.pushNil (List Int) 26
 have hL := hL.sel [1, 0, 2, 3, 4, 5] (by decide) rfl
 refine CW.loopB (fun (s_l1 : (List (List Int)) × (List (List Int)) × Int) (F : Fr) (w : World) => ∃ (v318 : Value) (S319 : Nat → Prop) (v320 : Value) (S321 : Nat → Prop), F 1 = (.pointer (some ⟨b4, 0, none⟩)) ∧ F 2 = (.pointer (some ⟨b6, 0, none⟩)) ∧ F 3 = (.pointer (some ⟨b8, 0, none⟩)) ∧ F 13 = v1 ∧ F 14 = (.int .i64 (a0.Races.length : Int)) ∧ F 15 = (.int .i64 s_l1.2.2) ∧ Hp w0 [Ent.own 26 S319 v318 s_l1.1, Ent.own 26 S321 v320 s_l1.2.1, Ent.blk b8 49 #[(.int .i64 a0.Boats), v318, v320], Ent.blk b6 49 #[(.int .i64 0), (.slice none 0 0), (.slice none 0 0)], Ent.blk b4 33 #[(.int .i64 a0.Boats), (.int .i64 a0.Scheme), v1], Ent.snap w0 w0.heap.size] w) (fun o => outc o (fun x => some x) (fun s => M.impl_tableOf_a1 a0 s) = some r) ho325 hm ⟨(.slice none 0 0), None_, (.slice none 0 0), None_, rfl, rfl, rfl, rfl, rfl, rfl, hL⟩ ?_ ?_
 · intro s_l1 F326 wd327 hJ hm
   have hm := outcE hm
   have hm : M.impl_tableOf_a1 a0 s_l1 = some r := hm
   unfold M.impl_tableOf_a1 at hm
   obtain ⟨v318, S319, v320, S321, f328, f329, f330, f331, f332, f333, hL⟩ := hJ
   refine CSR ?_
   refine OV (.agg #[(.int .i64 a0.Boats), v318, v320]) rfl (x_loadN (cs := [(.int .i64 a0.Boats), v318, v320]) U49 Tryz_T49 rfl f330 (hL.cellsB 2 rfl (o := 0) (l := [(.int .i64 a0.Boats), v318, v320]) (by intro j u hj; exact (by simpa using hj)))) ?_
   refine OW.cons (S_storeN (l := [(.int .i64 a0.Boats), v318, v320]) (cs' := #[(.int .i64 a0.Boats), v318, v320]) hL 3 rfl Tryz_T49 f329 rfl (List.forall_mem_cons.2 ⟨rfl, (List.forall_mem_cons.2 ⟨rdL_one (hL.rdO 0 rfl), (List.forall_mem_cons.2 ⟨rdL_one (hL.rdO 1 rfl), (fun _ h => by cases h)⟩)⟩)⟩) rfl (Nat.le_of_ble_eq_true rfl) rfl ?_)
   intro wd334 hL
   refine OW.nil ?_
   refine CW.ret ?_
   obtain rfl := Option.some.inj hm
   exact RRc rfl f329 (run_loadBlk U49 Tryz_T49 (hL.get 3 rfl) rfl) ⟨v318, S319, v320, S321, rfl, hL.fresh 5 rfl [0, 1] (by decide) (by decide) rfl⟩
 intro s_l1 F335 wd336 t322 hJ hm hr323
 unfold M.impl_tableOf_l1 at hm
 obtain ⟨v318, S319, v320, S321, f337, f338, f339, f340, f341, f342, hL⟩ := hJ
 refine CSR ?_
 refine OV (.bool (decide (s_l1.2.2 < (a0.Races.length : Int)))) rfl (x_lss f342 f341) ?_
 refine ONS ?_
 refine CW.condM (t := decide (s_l1.2.2 < (a0.Races.length : Int))) rfl hm (fun hb343 hm => ?_) (fun hb343 hm => ?_)
 · refine CW.skip ?_
   refine CW.seq ?_
   refine CW.block ?_
   refine CSR ?_
   obtain ⟨x344, ha345, hm⟩ := bndE hm
   obtain ⟨hz346, ha354⟩ := idxE ha345
   obtain ⟨b347, q348, v349, hix350, hs351, hc352, hr353⟩ := rdN_at h2 hz346 ha354
   refine OV (.pointer (some ⟨b347, q348, none⟩)) rfl (x_ix U31 Tryz_T75 f340 f342 hix350) ?_
   refine OV (.agg #[v349]) rfl (x_loadN (cs := [v349]) U75 Tryz_T75 rfl rfl (by intro j u hj; match j, hj with | 0, hj => (simp at hj; subst hj; exact (hL.cellS 5 rfl hs351 hc352)))) ?_
   refine OW.cons (S_alloc (cs := #[(.slice none 0 0)]) hL Tryz_T75 rfl rfl ?_)
   intro wd355 b356 hL
   refine OW.cons (S_storeN (l := [v349]) (cs' := #[v349]) hL 0 rfl Tryz_T75 rfl rfl (List.forall_mem_cons.2 ⟨rdL_one (hL.rdS 6 rfl hr353), (fun _ h => by cases h)⟩) rfl (Nat.le_of_ble_eq_true rfl) rfl ?_)
   intro wd357 hL
   refine ONR ?_
   refine OW.cons (S_lit ([] : List Int) hL U26 Tryz_T2 rfl (by decide) (by first | (simp [Instr.fill, madeCells, Value.cells, ev, upd, Flat.enc, Flat.sz]; done) | rfl | kernel_rfl) rfl rfl ?_)
   intro wd358 v359 S360 hL
   refine OV v359 rfl (x_assign) ?_
   refine ONS ?_
   refine CSR ?_
   refine OV (.pointer (some ⟨b356, 0, none⟩)) rfl (x_fieldAddr (fsz := 1) 0 0 0 U75 rfl Tryz_T73 rfl rfl rfl) ?_
   refine OV v349 rfl (x_load1 U73 rfl rfl (hL.cellB 1 rfl rfl)) ?_
   refine OV (.int .i64 (x344.Finishes.length : Int)) rfl (x_lenR U73 rfl (hL.rdS 7 rfl hr353)) ?_
   refine OV (.int .i64 0) rfl (x_move) ?_
   refine OW.nil ?_
   obtain ⟨o403, ho404, hm⟩ := bndE hm
   refine CW.loopB (fun (s_l2 : (List Int) × Int) (F : Fr) (w : World) => ∃ (v399 : Value) (S400 : Nat → Prop), F 1 = (.pointer (some ⟨b4, 0, none⟩)) ∧ F 2 = (.pointer (some ⟨b6, 0, none⟩)) ∧ F 3 = (.pointer (some ⟨b8, 0, none⟩)) ∧ F 5 = (.pointer (some ⟨b356, 0, none⟩)) ∧ F 6 = v399 ∧ F 13 = v1 ∧ F 14 = (.int .i64 (a0.Races.length : Int)) ∧ F 15 = (.int .i64 s_l1.2.2) ∧ F 21 = v349 ∧ F 22 = (.int .i64 (x344.Finishes.length : Int)) ∧ F 23 = (.int .i64 s_l2.2) ∧ Hp w0 [Ent.own 2 S400 v399 s_l2.1, Ent.blk b356 75 #[v349], Ent.own 26 S319 v318 s_l1.1, Ent.own 26 S321 v320 s_l1.2.1, Ent.blk b8 49 #[(.int .i64 a0.Boats), v318, v320], Ent.blk b6 49 #[(.int .i64 0), (.slice none 0 0), (.slice none 0 0)], Ent.blk b4 33 #[(.int .i64 a0.Boats), (.int .i64 a0.Scheme), v1], Ent.snap w0 w0.heap.size] w) (fun o => outc o (fun x => some (.ret x)) (fun s => M.impl_tableOf_a2 a0 s_l1 x344 s) = some t322) ho404 hm ⟨v359, S360, f337, f338, f339, rfl, rfl, f340, f341, f342, rfl, rfl, rfl, hL⟩ ?_ ?_
   · intro s_l2 F405 wd406 hJ hm
     have hm := outcE hm
     have hm : M.impl_tableOf_a2 a0 s_l1 x344 s_l2 = some t322 := hm
     unfold M.impl_tableOf_a2 at hm
     obtain ⟨v399, S400, f407, f408, f409, f410, f411, f412, f413, f414, f415, f416, f417, hL⟩ := hJ
     refine CW.drawH (fun w' => Hp w0 [Ent.blk b356 75 #[v349], Ent.blk b6 49 #[(.int .i64 0), (.slice none 0 0), (.slice none 0 0)], Ent.blk b4 33 #[(.int .i64 a0.Boats), (.int .i64 a0.Scheme), v1], Ent.snap w0 w0.heap.size] w') Tryz_mixed ?_
     have hL := hL.call (Mod.drew _)
     have hS := (hL.sel [1, 5, 6, 7] (by decide) rfl)
     refine DH.take 0 rfl (by kernel_rfl) (by kernel_rfl) (by kernel_rfl) rfl rfl hS (YH.val (v := (.pointer (some ⟨b8, 1, none⟩))) (fun w' hS' => x_fieldAddr (fsz := 1) 0 1 1 U49 rfl Tryz_T47 rfl f409 rfl)) ?_
     have hS := (hL.sel [1, 5, 6, 7] (by decide) rfl)
     refine DH.take 2 rfl (by kernel_rfl) (by kernel_rfl) (by kernel_rfl) rfl rfl hS (YH.val (v := (.pointer (some ⟨b356, 0, none⟩))) (fun w' hS' => x_fieldAddr (fsz := 1) 0 0 0 U75 rfl Tryz_T73 rfl f410 rfl)) ?_
     have hS := (hL.sel [1, 5, 6, 7] (by decide) rfl)
     refine DH.take 3 rfl (by kernel_rfl) (by kernel_rfl) (by kernel_rfl) rfl rfl hS (YH.val (v := v349) (fun w' hS' => x_load1 U73 rfl rfl (hS'.cellB 0 rfl rfl))) ?_
     have hS := (hL.sel [1, 5, 6, 7] (by decide) rfl)
     refine DH.take 4 rfl (by kernel_rfl) (by kernel_rfl) (by kernel_rfl) rfl rfl hS (YH.val (v := (.pointer (some ⟨b4, 1, none⟩))) (fun w' hS' => x_fieldAddr (fsz := 1) 0 1 1 U33 rfl Tryz_T2 rfl f407 rfl)) ?_
     have hS := (hL.sel [1, 5, 6, 7] (by decide) rfl)
     refine DH.take 5 rfl (by kernel_rfl) (by kernel_rfl) (by kernel_rfl) rfl rfl hS (YH.val (v := (.int .i64 a0.Scheme)) (fun w' hS' => x_load1 U2 rfl rfl (hS'.cellB 2 rfl rfl))) ?_
     have hS := (hL.sel [1, 5, 6, 7] (by decide) rfl)
     refine DH.take 9 rfl (by kernel_rfl) (by kernel_rfl) (by kernel_rfl) rfl rfl hS (YH.val (v := (.pointer (some ⟨b8, 2, none⟩))) (fun w' hS' => x_fieldAddr (fsz := 1) 0 2 2 U49 rfl Tryz_T47 rfl f409 rfl)) ?_
     have hS := (hL.sel [1, 5, 6, 7] (by decide) rfl)
     refine DH.take 11 rfl (by kernel_rfl) (by kernel_rfl) (by kernel_rfl) rfl rfl hS (YH.val (v := v399) (fun w' hS' => x_mv f411)) ?_
     obtain ⟨x441, hx442, hm⟩ := bndE hm
     obtain ⟨hc454, hm⟩ := chkE hm
     obtain ⟨hc461, hm⟩ := chkE hm
     refine DH.node (listed' := (bma 18 262143)) (fuel' := 0) (fun (F : Fr) (w : World) => ∃ (v617 : Value) (S618 : Nat → Prop) (v619 : Value) (S620 : Nat → Prop), F 1 = (.pointer (some ⟨b4, 0, none⟩)) ∧ F 2 = (.pointer (some ⟨b6, 0, none⟩)) ∧ F 3 = (.pointer (some ⟨b8, 0, none⟩)) ∧ F 13 = v1 ∧ F 14 = (.int .i64 (a0.Races.length : Int)) ∧ F 15 = (.int .i64 s_l1.2.2) ∧ Hp w0 [Ent.own 26 S618 v617 (s_l1.2.1 ++ ([s_l2.1] : List (List Int))), Ent.own 26 S620 v619 (s_l1.1 ++ ([x441] : List (List Int))), Ent.blk b356 75 #[v349], Ent.blk b8 49 #[(.int .i64 a0.Boats), v619, v617], Ent.blk b6 49 #[(.int .i64 0), (.slice none 0 0), (.slice none 0 0)], Ent.blk b4 33 #[(.int .i64 a0.Boats), (.int .i64 a0.Scheme), v1], Ent.snap w0 w0.heap.size] w) ?_ (fun hN587 => ?_)
     · intro F697 wd698 hJ
       obtain ⟨v617, S618, v619, S620, f699, f700, f701, f702, f703, f704, hL⟩ := hJ
       refine DH.done (by kernel_rfl) ?_
       refine CW.regionL ?_
       refine OV (.int .i64 (w64 (s_l1.2.2 + 1))) rfl (x_add f704 rfl) ?_
       refine OV (.int .i64 (w64 (s_l1.2.2 + 1))) rfl (x_move) ?_
       refine OW.nil ?_
       have hL := hL.sel [1, 0, 3, 4, 5, 6] (by decide) rfl
       obtain rfl := Option.some.inj hm
       exact ⟨_, rfl, ⟨v619, S620, v617, S618, f699, f700, f701, f702, f703, rfl, hL⟩⟩
     refine DH.node (listed' := (bma 18 131071)) (fuel' := 1) (fun (F : Fr) (w : World) => ∃ (v621 : Value) (S622 : Nat → Prop) (v623 : Value) (S624 : Nat → Prop), F 1 = (.pointer (some ⟨b4, 0, none⟩)) ∧ F 2 = (.pointer (some ⟨b6, 0, none⟩)) ∧ F 3 = (.pointer (some ⟨b8, 0, none⟩)) ∧ F 13 = v1 ∧ F 14 = (.int .i64 (a0.Races.length : Int)) ∧ F 15 = (.int .i64 s_l1.2.2) ∧ F 46 = v621 ∧ F 48 = (.pointer (some ⟨b8, 2, none⟩)) ∧ Hp w0 [Ent.own 26 S622 v621 (s_l1.2.1 ++ ([s_l2.1] : List (List Int))), Ent.own 26 S624 v623 (s_l1.1 ++ ([x441] : List (List Int))), Ent.blk b356 75 #[v349], Ent.blk b8 49 #[(.int .i64 a0.Boats), v623, v320], Ent.blk b6 49 #[(.int .i64 0), (.slice none 0 0), (.slice none 0 0)], Ent.blk b4 33 #[(.int .i64 a0.Boats), (.int .i64 a0.Scheme), v1], Ent.snap w0 w0.heap.size] w) ?_ (fun hN588 => ?_)
     · intro F705 wd706 hJ
       obtain ⟨v621, S622, v623, S624, f707, f708, f709, f710, f711, f712, f713, f714, hL⟩ := hJ
       refine DH.only 17 rfl (by kernel_rfl) (S_store (cs' := #[(.int .i64 a0.Boats), v623, v621]) hL 3 rfl Tryz_T47 f714 (rdL_one (hL.rdO 0 rfl)) f713 rfl rfl ?_)
       intro wd715 hL
       refine ⟨(hL.sel [2, 4, 5, 6] (by decide) rfl), ?_⟩
       exact DH.relist (listed' := (bma 18 262143)) (by kernel_rfl) (hN587 _ _ ⟨v621, S622, v623, S624, f707, f708, f709, f710, f711, f712, hL⟩)
     refine DH.node (listed' := (bma 18 32767)) (fuel' := 3) (fun (F : Fr) (w : World) => ∃ (v625 : Value) (S626 : Nat → Prop) (v627 : Value) (S628 : Nat → Prop), F 1 = (.pointer (some ⟨b4, 0, none⟩)) ∧ F 2 = (.pointer (some ⟨b6, 0, none⟩)) ∧ F 3 = (.pointer (some ⟨b8, 0, none⟩)) ∧ F 13 = v1 ∧ F 14 = (.int .i64 (a0.Races.length : Int)) ∧ F 15 = (.int .i64 s_l1.2.2) ∧ F 41 = v627 ∧ F 46 = v625 ∧ F 47 = (.pointer (some ⟨b8, 1, none⟩)) ∧ Hp w0 [Ent.own 26 S626 v625 (s_l1.2.1 ++ ([s_l2.1] : List (List Int))), Ent.own 26 S628 v627 (s_l1.1 ++ ([x441] : List (List Int))), Ent.blk b356 75 #[v349], Ent.blk b8 49 #[(.int .i64 a0.Boats), v318, v320], Ent.blk b6 49 #[(.int .i64 0), (.slice none 0 0), (.slice none 0 0)], Ent.blk b4 33 #[(.int .i64 a0.Boats), (.int .i64 a0.Scheme), v1], Ent.snap w0 w0.heap.size] w) ?_ (fun hN589 => ?_)
     · intro F716 wd717 hJ
       obtain ⟨v625, S626, v627, S628, f718, f719, f720, f721, f722, f723, f724, f725, f726, hL⟩ := hJ
       refine DH.only 15 rfl (by kernel_rfl) (S_store (cs' := #[(.int .i64 a0.Boats), v627, v320]) hL 3 rfl Tryz_T47 f726 (rdL_one (hL.rdO 1 rfl)) f724 rfl rfl ?_)
       intro wd727 hL
       refine ⟨(hL.sel [2, 4, 5, 6] (by decide) rfl), ?_⟩
       have hS := (hL.sel [2, 4, 5, 6] (by decide) rfl)
       refine DH.take 16 rfl (by kernel_rfl) (by kernel_rfl) (by kernel_rfl) rfl rfl hS (YH.val (v := (.pointer (some ⟨b8, 2, none⟩))) (fun w' hS' => x_fieldAddr (fsz := 1) 0 2 2 U49 rfl Tryz_T47 rfl f720 rfl)) ?_
       exact DH.relist (listed' := (bma 18 131071)) (by kernel_rfl) (hN588 _ _ ⟨v625, S626, v627, S628, f718, f719, f720, f721, f722, f723, f725, rfl, hL⟩)
     refine DH.node (listed' := (bma 18 24575)) (fuel' := 4) (fun (F : Fr) (w : World) => ∃ (v629 : Value) (S630 : Nat → Prop) (v631 : Value) (S632 : Nat → Prop), F 1 = (.pointer (some ⟨b4, 0, none⟩)) ∧ F 2 = (.pointer (some ⟨b6, 0, none⟩)) ∧ F 3 = (.pointer (some ⟨b8, 0, none⟩)) ∧ F 13 = v1 ∧ F 14 = (.int .i64 (a0.Races.length : Int)) ∧ F 15 = (.int .i64 s_l1.2.2) ∧ F 41 = v631 ∧ F 43 = v320 ∧ F 45 = v629 ∧ F 47 = (.pointer (some ⟨b8, 1, none⟩)) ∧ Hp w0 [Ent.own 26 S630 v629 ([s_l2.1] : List (List Int)), Ent.own 26 S632 v631 (s_l1.1 ++ ([x441] : List (List Int))), Ent.blk b356 75 #[v349], Ent.own 26 S321 v320 s_l1.2.1, Ent.blk b8 49 #[(.int .i64 a0.Boats), v318, v320], Ent.blk b6 49 #[(.int .i64 0), (.slice none 0 0), (.slice none 0 0)], Ent.blk b4 33 #[(.int .i64 a0.Boats), (.int .i64 a0.Scheme), v1], Ent.snap w0 w0.heap.size] w) ?_ (fun hN590 => ?_)
     · intro F728 wd729 hJ
       obtain ⟨v629, S630, v631, S632, f730, f731, f732, f733, f734, f735, f736, f737, f738, f739, hL⟩ := hJ
       have hL := hL.sel [3, 0, 1, 2, 4, 5, 6, 7] (by decide) rfl
       refine DH.only 13 rfl (by kernel_rfl) (S_appendN Int hL U47 Tryz_T26 rfl f737 f738 hc461 (by decide) rfl ?_)
       intro wd740 v741 S742 hL
       refine ⟨(hL.sel [2, 4, 5, 6] (by decide) rfl), ?_⟩
       exact DH.relist (listed' := (bma 18 32767)) (by kernel_rfl) (hN589 _ _ ⟨v741, S742, v631, S632, f730, f731, f732, f733, f734, f735, f736, rfl, f739, hL⟩)
     refine DH.node (listed' := (bma 18 20479)) (fuel' := 5) (fun (F : Fr) (w : World) => ∃ (v633 : Value) (S634 : Nat → Prop), F 1 = (.pointer (some ⟨b4, 0, none⟩)) ∧ F 2 = (.pointer (some ⟨b6, 0, none⟩)) ∧ F 3 = (.pointer (some ⟨b8, 0, none⟩)) ∧ F 13 = v1 ∧ F 14 = (.int .i64 (a0.Races.length : Int)) ∧ F 15 = (.int .i64 s_l1.2.2) ∧ F 41 = v633 ∧ F 43 = v320 ∧ F 44 = v399 ∧ F 47 = (.pointer (some ⟨b8, 1, none⟩)) ∧ Hp w0 [Ent.own 26 S634 v633 (s_l1.1 ++ ([x441] : List (List Int))), Ent.own 2 S400 v399 s_l2.1, Ent.blk b356 75 #[v349], Ent.own 26 S321 v320 s_l1.2.1, Ent.blk b8 49 #[(.int .i64 a0.Boats), v318, v320], Ent.blk b6 49 #[(.int .i64 0), (.slice none 0 0), (.slice none 0 0)], Ent.blk b4 33 #[(.int .i64 a0.Boats), (.int .i64 a0.Scheme), v1], Ent.snap w0 w0.heap.size] w) ?_ (fun hN591 => ?_)
     · intro F743 wd744 hJ
       obtain ⟨v633, S634, f745, f746, f747, f748, f749, f750, f751, f752, f753, f754, hL⟩ := hJ
       have hL := hL.sel [1, 0, 2, 3, 4, 5, 6, 7] (by decide) rfl
       refine DH.only 12 rfl (by kernel_rfl) (S_lit1 s_l2.1 rfl hL U47 Tryz_T26 ((congrArg Value.cells f753).trans (rdL_cells (hL.rdO 0 rfl))) rfl ?_)
       intro wd755 v756 S757 hL
       refine ⟨(hL.sel [2, 5, 6, 7] (by decide) rfl), ?_⟩
       exact DH.relist (listed' := (bma 18 24575)) (by kernel_rfl) (hN590 _ _ ⟨v756, S757, v633, S634, f745, f746, f747, f748, f749, f750, f751, f752, rfl, f754, hL⟩)
     refine DH.node (listed' := (bma 18 7167)) (fuel' := 6) (fun (F : Fr) (w : World) => ∃ (v635 : Value) (S636 : Nat → Prop) (v637 : Value) (S638 : Nat → Prop), F 1 = (.pointer (some ⟨b4, 0, none⟩)) ∧ F 2 = (.pointer (some ⟨b6, 0, none⟩)) ∧ F 3 = (.pointer (some ⟨b8, 0, none⟩)) ∧ F 13 = v1 ∧ F 14 = (.int .i64 (a0.Races.length : Int)) ∧ F 15 = (.int .i64 s_l1.2.2) ∧ F 41 = v637 ∧ F 42 = (.pointer (some ⟨b8, 2, none⟩)) ∧ F 45 = v635 ∧ Hp w0 [Ent.own 26 S636 v635 ([s_l2.1] : List (List Int)), Ent.own 26 S638 v637 (s_l1.1 ++ ([x441] : List (List Int))), Ent.blk b356 75 #[v349], Ent.own 26 S321 v320 s_l1.2.1, Ent.blk b8 49 #[(.int .i64 a0.Boats), v318, v320], Ent.blk b6 49 #[(.int .i64 0), (.slice none 0 0), (.slice none 0 0)], Ent.blk b4 33 #[(.int .i64 a0.Boats), (.int .i64 a0.Scheme), v1], Ent.snap w0 w0.heap.size] w) ?_ (fun hN592 => ?_)
     · intro F758 wd759 hJ
       obtain ⟨v635, S636, v637, S638, f760, f761, f762, f763, f764, f765, f766, f767, f768, hL⟩ := hJ
       refine DH.only 10 rfl (by kernel_rfl) (OP.val (v := v320) rfl (x_load1 U47 rfl f767 (hL.cellB 4 rfl rfl)) ?_)
       refine ⟨(hL.sel [2, 5, 6, 7] (by decide) rfl), ?_⟩
       have hS := (hL.sel [2, 5, 6, 7] (by decide) rfl)
       refine DH.take 14 rfl (by kernel_rfl) (by kernel_rfl) (by kernel_rfl) rfl rfl hS (YH.val (v := (.pointer (some ⟨b8, 1, none⟩))) (fun w' hS' => x_fieldAddr (fsz := 1) 0 1 1 U49 rfl Tryz_T47 rfl f762 rfl)) ?_
       exact DH.relist (listed' := (bma 18 24575)) (by kernel_rfl) (hN590 _ _ ⟨v635, S636, v637, S638, f760, f761, f762, f763, f764, f765, f766, rfl, f768, rfl, hL⟩)
     refine DH.node (listed' := (bma 18 7935)) (fuel' := 6) (fun (F : Fr) (w : World) => ∃ (v639 : Value) (S640 : Nat → Prop) (v641 : Value) (S642 : Nat → Prop), F 1 = (.pointer (some ⟨b4, 0, none⟩)) ∧ F 2 = (.pointer (some ⟨b6, 0, none⟩)) ∧ F 3 = (.pointer (some ⟨b8, 0, none⟩)) ∧ F 13 = v1 ∧ F 14 = (.int .i64 (a0.Races.length : Int)) ∧ F 15 = (.int .i64 s_l1.2.2) ∧ F 34 = v318 ∧ F 40 = v641 ∧ F 43 = v320 ∧ F 45 = v639 ∧ Hp w0 [Ent.own 26 S640 v639 ([s_l2.1] : List (List Int)), Ent.own 26 S642 v641 ([x441] : List (List Int)), Ent.blk b356 75 #[v349], Ent.own 26 S319 v318 s_l1.1, Ent.own 26 S321 v320 s_l1.2.1, Ent.blk b8 49 #[(.int .i64 a0.Boats), v318, v320], Ent.blk b6 49 #[(.int .i64 0), (.slice none 0 0), (.slice none 0 0)], Ent.blk b4 33 #[(.int .i64 a0.Boats), (.int .i64 a0.Scheme), v1], Ent.snap w0 w0.heap.size] w) ?_ (fun hN593 => ?_)
     · intro F769 wd770 hJ
       obtain ⟨v639, S640, v641, S642, f771, f772, f773, f774, f775, f776, f777, f778, f779, f780, hL⟩ := hJ
       have hL := hL.sel [3, 1, 0, 2, 4, 5, 6, 7, 8] (by decide) rfl
       refine DH.only 8 rfl (by kernel_rfl) (S_appendN Int hL U47 Tryz_T26 rfl f777 f778 hc454 (by decide) rfl ?_)
       intro wd781 v782 S783 hL
       refine ⟨(hL.sel [2, 5, 6, 7] (by decide) rfl), ?_⟩
       have hS := (hL.sel [2, 5, 6, 7] (by decide) rfl)
       refine DH.take 14 rfl (by kernel_rfl) (by kernel_rfl) (by kernel_rfl) rfl rfl hS (YH.val (v := (.pointer (some ⟨b8, 1, none⟩))) (fun w' hS' => x_fieldAddr (fsz := 1) 0 1 1 U49 rfl Tryz_T47 rfl f773 rfl)) ?_
       have hL := hL.sel [1, 0, 2, 3, 4, 5, 6, 7] (by decide) rfl
       exact DH.relist (listed' := (bma 18 24575)) (by kernel_rfl) (hN590 _ _ ⟨v639, S640, v782, S783, f771, f772, f773, f774, f775, f776, rfl, f779, f780, rfl, hL⟩)
     refine DH.node (listed' := (bma 18 3071)) (fuel' := 7) (fun (F : Fr) (w : World) => ∃ (v643 : Value) (S644 : Nat → Prop), F 1 = (.pointer (some ⟨b4, 0, none⟩)) ∧ F 2 = (.pointer (some ⟨b6, 0, none⟩)) ∧ F 3 = (.pointer (some ⟨b8, 0, none⟩)) ∧ F 13 = v1 ∧ F 14 = (.int .i64 (a0.Races.length : Int)) ∧ F 15 = (.int .i64 s_l1.2.2) ∧ F 41 = v643 ∧ F 42 = (.pointer (some ⟨b8, 2, none⟩)) ∧ F 44 = v399 ∧ Hp w0 [Ent.own 26 S644 v643 (s_l1.1 ++ ([x441] : List (List Int))), Ent.own 2 S400 v399 s_l2.1, Ent.blk b356 75 #[v349], Ent.own 26 S321 v320 s_l1.2.1, Ent.blk b8 49 #[(.int .i64 a0.Boats), v318, v320], Ent.blk b6 49 #[(.int .i64 0), (.slice none 0 0), (.slice none 0 0)], Ent.blk b4 33 #[(.int .i64 a0.Boats), (.int .i64 a0.Scheme), v1], Ent.snap w0 w0.heap.size] w) ?_ (fun hN594 => ?_)
     · intro F784 wd785 hJ
       obtain ⟨v643, S644, f786, f787, f788, f789, f790, f791, f792, f793, f794, hL⟩ := hJ
       refine DH.all (rs := [10, 12]) (by kernel_rfl) (by simp) ?_
       intro i795 hi796
       simp only [List.mem_cons, List.not_mem_nil, or_false] at hi796
       rcases hi796 with rfl | rfl
       · refine ⟨_, rfl, ?_⟩
         refine OP.val (v := v320) rfl (x_load1 U47 rfl f793 (hL.cellB 4 rfl rfl)) ?_
         refine ⟨(hL.sel [2, 5, 6, 7] (by decide) rfl), ?_⟩
         have hS := (hL.sel [2, 5, 6, 7] (by decide) rfl)
         refine DH.take 14 rfl (by kernel_rfl) (by kernel_rfl) (by kernel_rfl) rfl rfl hS (YH.val (v := (.pointer (some ⟨b8, 1, none⟩))) (fun w' hS' => x_fieldAddr (fsz := 1) 0 1 1 U49 rfl Tryz_T47 rfl f788 rfl)) ?_
         exact DH.relist (listed' := (bma 18 20479)) (by kernel_rfl) (hN591 _ _ ⟨v643, S644, f786, f787, f788, f789, f790, f791, f792, rfl, f794, rfl, hL⟩)
       refine ⟨_, rfl, ?_⟩
       have hL := hL.sel [1, 0, 2, 3, 4, 5, 6, 7] (by decide) rfl
       refine S_lit1 s_l2.1 rfl hL U47 Tryz_T26 ((congrArg Value.cells f794).trans (rdL_cells (hL.rdO 0 rfl))) rfl ?_
       intro wd797 v798 S799 hL
       refine ⟨(hL.sel [2, 5, 6, 7] (by decide) rfl), ?_⟩
       exact DH.relist (listed' := (bma 18 7167)) (by kernel_rfl) (hN592 _ _ ⟨v798, S799, v643, S644, f786, f787, f788, f789, f790, f791, f792, f793, rfl, hL⟩)
     refine DH.node (listed' := (bma 18 3839)) (fuel' := 7) (fun (F : Fr) (w : World) => ∃ (v645 : Value) (S646 : Nat → Prop), F 1 = (.pointer (some ⟨b4, 0, none⟩)) ∧ F 2 = (.pointer (some ⟨b6, 0, none⟩)) ∧ F 3 = (.pointer (some ⟨b8, 0, none⟩)) ∧ F 13 = v1 ∧ F 14 = (.int .i64 (a0.Races.length : Int)) ∧ F 15 = (.int .i64 s_l1.2.2) ∧ F 34 = v318 ∧ F 40 = v645 ∧ F 43 = v320 ∧ F 44 = v399 ∧ Hp w0 [Ent.own 26 S646 v645 ([x441] : List (List Int)), Ent.own 2 S400 v399 s_l2.1, Ent.blk b356 75 #[v349], Ent.own 26 S319 v318 s_l1.1, Ent.own 26 S321 v320 s_l1.2.1, Ent.blk b8 49 #[(.int .i64 a0.Boats), v318, v320], Ent.blk b6 49 #[(.int .i64 0), (.slice none 0 0), (.slice none 0 0)], Ent.blk b4 33 #[(.int .i64 a0.Boats), (.int .i64 a0.Scheme), v1], Ent.snap w0 w0.heap.size] w) ?_ (fun hN595 => ?_)
     · intro F800 wd801 hJ
       obtain ⟨v645, S646, f802, f803, f804, f805, f806, f807, f808, f809, f810, f811, hL⟩ := hJ
       refine DH.all (rs := [8, 12]) (by kernel_rfl) (by simp) ?_
       intro i812 hi813
       simp only [List.mem_cons, List.not_mem_nil, or_false] at hi813
       rcases hi813 with rfl | rfl
       · refine ⟨_, rfl, ?_⟩
         have hL := hL.sel [3, 0, 1, 2, 4, 5, 6, 7, 8] (by decide) rfl
         refine S_appendN Int hL U47 Tryz_T26 rfl f808 f809 hc454 (by decide) rfl ?_
         intro wd814 v815 S816 hL
         refine ⟨(hL.sel [2, 5, 6, 7] (by decide) rfl), ?_⟩
         have hS := (hL.sel [2, 5, 6, 7] (by decide) rfl)
         refine DH.take 14 rfl (by kernel_rfl) (by kernel_rfl) (by kernel_rfl) rfl rfl hS (YH.val (v := (.pointer (some ⟨b8, 1, none⟩))) (fun w' hS' => x_fieldAddr (fsz := 1) 0 1 1 U49 rfl Tryz_T47 rfl f804 rfl)) ?_
         exact DH.relist (listed' := (bma 18 20479)) (by kernel_rfl) (hN591 _ _ ⟨v815, S816, f802, f803, f804, f805, f806, f807, rfl, f810, f811, rfl, hL⟩)
       refine ⟨_, rfl, ?_⟩
       have hL := hL.sel [1, 0, 2, 3, 4, 5, 6, 7, 8] (by decide) rfl
       refine S_lit1 s_l2.1 rfl hL U47 Tryz_T26 ((congrArg Value.cells f811).trans (rdL_cells (hL.rdO 0 rfl))) rfl ?_
       intro wd817 v818 S819 hL
       refine ⟨(hL.sel [2, 6, 7, 8] (by decide) rfl), ?_⟩
       exact DH.relist (listed' := (bma 18 7935)) (by kernel_rfl) (hN593 _ _ ⟨v818, S819, v645, S646, f802, f803, f804, f805, f806, f807, f808, f809, f810, rfl, hL⟩)
     refine DH.node (listed' := (bma 18 6911)) (fuel' := 7) (fun (F : Fr) (w : World) => ∃ (v647 : Value) (S648 : Nat → Prop) (v649 : Value) (S650 : Nat → Prop), F 1 = (.pointer (some ⟨b4, 0, none⟩)) ∧ F 2 = (.pointer (some ⟨b6, 0, none⟩)) ∧ F 3 = (.pointer (some ⟨b8, 0, none⟩)) ∧ F 13 = v1 ∧ F 14 = (.int .i64 (a0.Races.length : Int)) ∧ F 15 = (.int .i64 s_l1.2.2) ∧ F 34 = v318 ∧ F 40 = v649 ∧ F 42 = (.pointer (some ⟨b8, 2, none⟩)) ∧ F 45 = v647 ∧ Hp w0 [Ent.own 26 S648 v647 ([s_l2.1] : List (List Int)), Ent.own 26 S650 v649 ([x441] : List (List Int)), Ent.blk b356 75 #[v349], Ent.own 26 S319 v318 s_l1.1, Ent.own 26 S321 v320 s_l1.2.1, Ent.blk b8 49 #[(.int .i64 a0.Boats), v318, v320], Ent.blk b6 49 #[(.int .i64 0), (.slice none 0 0), (.slice none 0 0)], Ent.blk b4 33 #[(.int .i64 a0.Boats), (.int .i64 a0.Scheme), v1], Ent.snap w0 w0.heap.size] w) ?_ (fun hN596 => ?_)
     · intro F820 wd821 hJ
       obtain ⟨v647, S648, v649, S650, f822, f823, f824, f825, f826, f827, f828, f829, f830, f831, hL⟩ := hJ
       refine DH.all (rs := [8, 10]) (by kernel_rfl) (by simp) ?_
       intro i832 hi833
       simp only [List.mem_cons, List.not_mem_nil, or_false] at hi833
       rcases hi833 with rfl | rfl
       · refine ⟨_, rfl, ?_⟩
         have hL := hL.sel [3, 1, 0, 2, 4, 5, 6, 7, 8] (by decide) rfl
         refine S_appendN Int hL U47 Tryz_T26 rfl f828 f829 hc454 (by decide) rfl ?_
         intro wd834 v835 S836 hL
         refine ⟨(hL.sel [2, 5, 6, 7] (by decide) rfl), ?_⟩
         have hL := hL.sel [1, 0, 2, 3, 4, 5, 6, 7] (by decide) rfl
         exact DH.relist (listed' := (bma 18 7167)) (by kernel_rfl) (hN592 _ _ ⟨v647, S648, v835, S836, f822, f823, f824, f825, f826, f827, rfl, f830, f831, hL⟩)
       refine ⟨_, rfl, ?_⟩
       refine OP.val (v := v320) rfl (x_load1 U47 rfl f830 (hL.cellB 5 rfl rfl)) ?_
       refine ⟨(hL.sel [2, 6, 7, 8] (by decide) rfl), ?_⟩
       exact DH.relist (listed' := (bma 18 7935)) (by kernel_rfl) (hN593 _ _ ⟨v647, S648, v649, S650, f822, f823, f824, f825, f826, f827, f828, f829, rfl, f831, hL⟩)
     refine DH.node (listed' := (bma 18 7807)) (fuel' := 7) (fun (F : Fr) (w : World) => ∃ (v651 : Value) (S652 : Nat → Prop) (v653 : Value) (S654 : Nat → Prop), F 1 = (.pointer (some ⟨b4, 0, none⟩)) ∧ F 2 = (.pointer (some ⟨b6, 0, none⟩)) ∧ F 3 = (.pointer (some ⟨b8, 0, none⟩)) ∧ F 13 = v1 ∧ F 14 = (.int .i64 (a0.Races.length : Int)) ∧ F 15 = (.int .i64 s_l1.2.2) ∧ F 34 = v318 ∧ F 39 = v653 ∧ F 43 = v320 ∧ F 45 = v651 ∧ Hp w0 [Ent.own 26 S652 v651 ([s_l2.1] : List (List Int)), Ent.own 2 S654 v653 x441, Ent.blk b356 75 #[v349], Ent.own 26 S319 v318 s_l1.1, Ent.own 26 S321 v320 s_l1.2.1, Ent.blk b8 49 #[(.int .i64 a0.Boats), v318, v320], Ent.blk b6 49 #[(.int .i64 0), (.slice none 0 0), (.slice none 0 0)], Ent.blk b4 33 #[(.int .i64 a0.Boats), (.int .i64 a0.Scheme), v1], Ent.snap w0 w0.heap.size] w) ?_ (fun hN597 => ?_)
     · intro F837 wd838 hJ
       obtain ⟨v651, S652, v653, S654, f839, f840, f841, f842, f843, f844, f845, f846, f847, f848, hL⟩ := hJ
       have hL := hL.sel [1, 0, 2, 3, 4, 5, 6, 7, 8] (by decide) rfl
       refine DH.only 7 rfl (by kernel_rfl) (S_lit1 x441 rfl hL U47 Tryz_T26 ((congrArg Value.cells f846).trans (rdL_cells (hL.rdO 0 rfl))) rfl ?_)
       intro wd849 v850 S851 hL
       refine ⟨(hL.sel [2, 6, 7, 8] (by decide) rfl), ?_⟩
       have hL := hL.sel [1, 0, 2, 3, 4, 5, 6, 7, 8] (by decide) rfl
       exact DH.relist (listed' := (bma 18 7935)) (by kernel_rfl) (hN593 _ _ ⟨v651, S652, v850, S851, f839, f840, f841, f842, f843, f844, f845, rfl, f847, f848, hL⟩)
     refine DH.node (listed' := (bma 18 7933)) (fuel' := 7) (fun (F : Fr) (w : World) => ∃ (v655 : Value) (S656 : Nat → Prop) (v657 : Value) (S658 : Nat → Prop), F 1 = (.pointer (some ⟨b4, 0, none⟩)) ∧ F 2 = (.pointer (some ⟨b6, 0, none⟩)) ∧ F 3 = (.pointer (some ⟨b8, 0, none⟩)) ∧ F 13 = v1 ∧ F 14 = (.int .i64 (a0.Races.length : Int)) ∧ F 15 = (.int .i64 s_l1.2.2) ∧ F 33 = (.pointer (some ⟨b8, 1, none⟩)) ∧ F 40 = v657 ∧ F 43 = v320 ∧ F 45 = v655 ∧ Hp w0 [Ent.own 26 S656 v655 ([s_l2.1] : List (List Int)), Ent.own 26 S658 v657 ([x441] : List (List Int)), Ent.blk b356 75 #[v349], Ent.own 26 S319 v318 s_l1.1, Ent.own 26 S321 v320 s_l1.2.1, Ent.blk b8 49 #[(.int .i64 a0.Boats), v318, v320], Ent.blk b6 49 #[(.int .i64 0), (.slice none 0 0), (.slice none 0 0)], Ent.blk b4 33 #[(.int .i64 a0.Boats), (.int .i64 a0.Scheme), v1], Ent.snap w0 w0.heap.size] w) ?_ (fun hN598 => ?_)
     · intro F852 wd853 hJ
       obtain ⟨v655, S656, v657, S658, f854, f855, f856, f857, f858, f859, f860, f861, f862, f863, hL⟩ := hJ
       refine DH.only 1 rfl (by kernel_rfl) (OP.val (v := v318) rfl (x_load1 U47 rfl f860 (hL.cellB 5 rfl rfl)) ?_)
       refine ⟨(hL.sel [2, 6, 7, 8] (by decide) rfl), ?_⟩
       exact DH.relist (listed' := (bma 18 7935)) (by kernel_rfl) (hN593 _ _ ⟨v655, S656, v657, S658, f854, f855, f856, f857, f858, f859, rfl, f861, f862, f863, hL⟩)
     refine DH.node (listed' := (bma 18 2815)) (fuel' := 8) (fun (F : Fr) (w : World) => ∃ (v659 : Value) (S660 : Nat → Prop), F 1 = (.pointer (some ⟨b4, 0, none⟩)) ∧ F 2 = (.pointer (some ⟨b6, 0, none⟩)) ∧ F 3 = (.pointer (some ⟨b8, 0, none⟩)) ∧ F 13 = v1 ∧ F 14 = (.int .i64 (a0.Races.length : Int)) ∧ F 15 = (.int .i64 s_l1.2.2) ∧ F 34 = v318 ∧ F 40 = v659 ∧ F 42 = (.pointer (some ⟨b8, 2, none⟩)) ∧ F 44 = v399 ∧ Hp w0 [Ent.own 26 S660 v659 ([x441] : List (List Int)), Ent.own 2 S400 v399 s_l2.1, Ent.blk b356 75 #[v349], Ent.own 26 S319 v318 s_l1.1, Ent.own 26 S321 v320 s_l1.2.1, Ent.blk b8 49 #[(.int .i64 a0.Boats), v318, v320], Ent.blk b6 49 #[(.int .i64 0), (.slice none 0 0), (.slice none 0 0)], Ent.blk b4 33 #[(.int .i64 a0.Boats), (.int .i64 a0.Scheme), v1], Ent.snap w0 w0.heap.size] w) ?_ (fun hN599 => ?_)
     · intro F864 wd865 hJ
       obtain ⟨v659, S660, f866, f867, f868, f869, f870, f871, f872, f873, f874, f875, hL⟩ := hJ
       refine DH.all (rs := [8, 10, 12]) (by kernel_rfl) (by simp) ?_
       intro i876 hi877
       simp only [List.mem_cons, List.not_mem_nil, or_false] at hi877
       rcases hi877 with rfl | rfl | rfl
       · refine ⟨_, rfl, ?_⟩
         have hL := hL.sel [3, 0, 1, 2, 4, 5, 6, 7, 8] (by decide) rfl
         refine S_appendN Int hL U47 Tryz_T26 rfl f872 f873 hc454 (by decide) rfl ?_
         intro wd878 v879 S880 hL
         refine ⟨(hL.sel [2, 5, 6, 7] (by decide) rfl), ?_⟩
         exact DH.relist (listed' := (bma 18 3071)) (by kernel_rfl) (hN594 _ _ ⟨v879, S880, f866, f867, f868, f869, f870, f871, rfl, f874, f875, hL⟩)
       · refine ⟨_, rfl, ?_⟩
         refine OP.val (v := v320) rfl (x_load1 U47 rfl f874 (hL.cellB 5 rfl rfl)) ?_
         refine ⟨(hL.sel [2, 6, 7, 8] (by decide) rfl), ?_⟩
         exact DH.relist (listed' := (bma 18 3839)) (by kernel_rfl) (hN595 _ _ ⟨v659, S660, f866, f867, f868, f869, f870, f871, f872, f873, rfl, f875, hL⟩)
       refine ⟨_, rfl, ?_⟩
       have hL := hL.sel [1, 0, 2, 3, 4, 5, 6, 7, 8] (by decide) rfl
       refine S_lit1 s_l2.1 rfl hL U47 Tryz_T26 ((congrArg Value.cells f875).trans (rdL_cells (hL.rdO 0 rfl))) rfl ?_
       intro wd881 v882 S883 hL
       refine ⟨(hL.sel [2, 6, 7, 8] (by decide) rfl), ?_⟩
       exact DH.relist (listed' := (bma 18 6911)) (by kernel_rfl) (hN596 _ _ ⟨v882, S883, v659, S660, f866, f867, f868, f869, f870, f871, f872, f873, f874, rfl, hL⟩)
     refine DH.node (listed' := (bma 18 3711)) (fuel' := 8) (fun (F : Fr) (w : World) => ∃ (v661 : Value) (S662 : Nat → Prop), F 1 = (.pointer (some ⟨b4, 0, none⟩)) ∧ F 2 = (.pointer (some ⟨b6, 0, none⟩)) ∧ F 3 = (.pointer (some ⟨b8, 0, none⟩)) ∧ F 13 = v1 ∧ F 14 = (.int .i64 (a0.Races.length : Int)) ∧ F 15 = (.int .i64 s_l1.2.2) ∧ F 34 = v318 ∧ F 39 = v661 ∧ F 43 = v320 ∧ F 44 = v399 ∧ Hp w0 [Ent.own 2 S662 v661 x441, Ent.own 2 S400 v399 s_l2.1, Ent.blk b356 75 #[v349], Ent.own 26 S319 v318 s_l1.1, Ent.own 26 S321 v320 s_l1.2.1, Ent.blk b8 49 #[(.int .i64 a0.Boats), v318, v320], Ent.blk b6 49 #[(.int .i64 0), (.slice none 0 0), (.slice none 0 0)], Ent.blk b4 33 #[(.int .i64 a0.Boats), (.int .i64 a0.Scheme), v1], Ent.snap w0 w0.heap.size] w) ?_ (fun hN600 => ?_)
     · intro F884 wd885 hJ
       obtain ⟨v661, S662, f886, f887, f888, f889, f890, f891, f892, f893, f894, f895, hL⟩ := hJ
       refine DH.all (rs := [7, 12]) (by kernel_rfl) (by simp) ?_
       intro i896 hi897
       simp only [List.mem_cons, List.not_mem_nil, or_false] at hi897
       rcases hi897 with rfl | rfl
       · refine ⟨_, rfl, ?_⟩
         refine S_lit1 x441 rfl hL U47 Tryz_T26 ((congrArg Value.cells f893).trans (rdL_cells (hL.rdO 0 rfl))) rfl ?_
         intro wd898 v899 S900 hL
         refine ⟨(hL.sel [2, 6, 7, 8] (by decide) rfl), ?_⟩
         exact DH.relist (listed' := (bma 18 3839)) (by kernel_rfl) (hN595 _ _ ⟨v899, S900, f886, f887, f888, f889, f890, f891, f892, rfl, f894, f895, hL⟩)
       refine ⟨_, rfl, ?_⟩
       have hL := hL.sel [1, 0, 2, 3, 4, 5, 6, 7, 8] (by decide) rfl
       refine S_lit1 s_l2.1 rfl hL U47 Tryz_T26 ((congrArg Value.cells f895).trans (rdL_cells (hL.rdO 0 rfl))) rfl ?_
       intro wd901 v902 S903 hL
       refine ⟨(hL.sel [2, 6, 7, 8] (by decide) rfl), ?_⟩
       exact DH.relist (listed' := (bma 18 7807)) (by kernel_rfl) (hN597 _ _ ⟨v902, S903, v661, S662, f886, f887, f888, f889, f890, f891, f892, f893, f894, rfl, hL⟩)
     refine DH.node (listed' := (bma 18 6783)) (fuel' := 8) (fun (F : Fr) (w : World) => ∃ (v663 : Value) (S664 : Nat → Prop) (v665 : Value) (S666 : Nat → Prop), F 1 = (.pointer (some ⟨b4, 0, none⟩)) ∧ F 2 = (.pointer (some ⟨b6, 0, none⟩)) ∧ F 3 = (.pointer (some ⟨b8, 0, none⟩)) ∧ F 13 = v1 ∧ F 14 = (.int .i64 (a0.Races.length : Int)) ∧ F 15 = (.int .i64 s_l1.2.2) ∧ F 34 = v318 ∧ F 39 = v665 ∧ F 42 = (.pointer (some ⟨b8, 2, none⟩)) ∧ F 45 = v663 ∧ Hp w0 [Ent.own 26 S664 v663 ([s_l2.1] : List (List Int)), Ent.own 2 S666 v665 x441, Ent.blk b356 75 #[v349], Ent.own 26 S319 v318 s_l1.1, Ent.own 26 S321 v320 s_l1.2.1, Ent.blk b8 49 #[(.int .i64 a0.Boats), v318, v320], Ent.blk b6 49 #[(.int .i64 0), (.slice none 0 0), (.slice none 0 0)], Ent.blk b4 33 #[(.int .i64 a0.Boats), (.int .i64 a0.Scheme), v1], Ent.snap w0 w0.heap.size] w) ?_ (fun hN601 => ?_)
     · intro F904 wd905 hJ
       obtain ⟨v663, S664, v665, S666, f906, f907, f908, f909, f910, f911, f912, f913, f914, f915, hL⟩ := hJ
       refine DH.all (rs := [7, 10]) (by kernel_rfl) (by simp) ?_
       intro i916 hi917
       simp only [List.mem_cons, List.not_mem_nil, or_false] at hi917
       rcases hi917 with rfl | rfl
       · refine ⟨_, rfl, ?_⟩
         have hL := hL.sel [1, 0, 2, 3, 4, 5, 6, 7, 8] (by decide) rfl
         refine S_lit1 x441 rfl hL U47 Tryz_T26 ((congrArg Value.cells f913).trans (rdL_cells (hL.rdO 0 rfl))) rfl ?_
         intro wd918 v919 S920 hL
         refine ⟨(hL.sel [2, 6, 7, 8] (by decide) rfl), ?_⟩
         have hL := hL.sel [1, 0, 2, 3, 4, 5, 6, 7, 8] (by decide) rfl
         exact DH.relist (listed' := (bma 18 6911)) (by kernel_rfl) (hN596 _ _ ⟨v663, S664, v919, S920, f906, f907, f908, f909, f910, f911, f912, rfl, f914, f915, hL⟩)
       refine ⟨_, rfl, ?_⟩
       refine OP.val (v := v320) rfl (x_load1 U47 rfl f914 (hL.cellB 5 rfl rfl)) ?_
       refine ⟨(hL.sel [2, 6, 7, 8] (by decide) rfl), ?_⟩
       exact DH.relist (listed' := (bma 18 7807)) (by kernel_rfl) (hN597 _ _ ⟨v663, S664, v665, S666, f906, f907, f908, f909, f910, f911, f912, f913, rfl, f915, hL⟩)
     refine DH.node (listed' := (bma 18 7743)) (fuel' := 8) (fun (F : Fr) (w : World) => ∃ (v667 : Value) (S668 : Nat → Prop), F 1 = (.pointer (some ⟨b4, 0, none⟩)) ∧ F 2 = (.pointer (some ⟨b6, 0, none⟩)) ∧ F 3 = (.pointer (some ⟨b8, 0, none⟩)) ∧ F 13 = v1 ∧ F 14 = (.int .i64 (a0.Races.length : Int)) ∧ F 15 = (.int .i64 s_l1.2.2) ∧ F 34 = v318 ∧ F 36 = v349 ∧ F 38 = (.int .i64 a0.Scheme) ∧ F 43 = v320 ∧ F 45 = v667 ∧ Hp w0 [Ent.own 26 S668 v667 ([s_l2.1] : List (List Int)), Ent.blk b356 75 #[v349], Ent.own 26 S319 v318 s_l1.1, Ent.own 26 S321 v320 s_l1.2.1, Ent.blk b8 49 #[(.int .i64 a0.Boats), v318, v320], Ent.blk b6 49 #[(.int .i64 0), (.slice none 0 0), (.slice none 0 0)], Ent.blk b4 33 #[(.int .i64 a0.Boats), (.int .i64 a0.Scheme), v1], Ent.snap w0 w0.heap.size] w) ?_ (fun hN602 => ?_)
     · intro F921 wd922 hJ
       obtain ⟨v667, S668, f923, f924, f925, f926, f927, f928, f929, f930, f931, f932, f933, hL⟩ := hJ
       refine DH.only 6 rfl (by kernel_rfl) (OP.call rfl (x_call (vs := [v349, (.int .i64 a0.Scheme)]) Tryz_C45 ⟨f930, f931, trivial⟩) (M.impl_racePoints_ok _ x344.Finishes (hL.rdS 7 rfl hr353) a0.Scheme hx442) ?_)
       rintro e936 wd937 ⟨v935, S934, rfl, hF938⟩
       refine ⟨_, rfl, ?_⟩
       have hL := hL.pushAll hF938
       simp only [lA, lB, lC, lD] at hL
       refine ⟨(hL.sel [2, 6, 7, 8] (by decide) rfl), ?_⟩
       have hL := hL.sel [1, 0, 2, 3, 4, 5, 6, 7, 8] (by decide) rfl
       exact DH.relist (listed' := (bma 18 7807)) (by kernel_rfl) (hN597 _ _ ⟨v667, S668, v935, S934, f923, f924, f925, f926, f927, f928, f929, rfl, f932, f933, hL⟩)
     refine DH.node (listed' := (bma 18 3837)) (fuel' := 8) (fun (F : Fr) (w : World) => ∃ (v669 : Value) (S670 : Nat → Prop), F 1 = (.pointer (some ⟨b4, 0, none⟩)) ∧ F 2 = (.pointer (some ⟨b6, 0, none⟩)) ∧ F 3 = (.pointer (some ⟨b8, 0, none⟩)) ∧ F 13 = v1 ∧ F 14 = (.int .i64 (a0.Races.length : Int)) ∧ F 15 = (.int .i64 s_l1.2.2) ∧ F 33 = (.pointer (some ⟨b8, 1, none⟩)) ∧ F 40 = v669 ∧ F 43 = v320 ∧ F 44 = v399 ∧ Hp w0 [Ent.own 26 S670 v669 ([x441] : List (List Int)), Ent.own 2 S400 v399 s_l2.1, Ent.blk b356 75 #[v349], Ent.own 26 S319 v318 s_l1.1, Ent.own 26 S321 v320 s_l1.2.1, Ent.blk b8 49 #[(.int .i64 a0.Boats), v318, v320], Ent.blk b6 49 #[(.int .i64 0), (.slice none 0 0), (.slice none 0 0)], Ent.blk b4 33 #[(.int .i64 a0.Boats), (.int .i64 a0.Scheme), v1], Ent.snap w0 w0.heap.size] w) ?_ (fun hN603 => ?_)
     · intro F939 wd940 hJ
       obtain ⟨v669, S670, f941, f942, f943, f944, f945, f946, f947, f948, f949, f950, hL⟩ := hJ
       refine DH.all (rs := [1, 12]) (by kernel_rfl) (by simp) ?_
       intro i951 hi952
       simp only [List.mem_cons, List.not_mem_nil, or_false] at hi952
       rcases hi952 with rfl | rfl
       · refine ⟨_, rfl, ?_⟩
         refine OP.val (v := v318) rfl (x_load1 U47 rfl f947 (hL.cellB 5 rfl rfl)) ?_
         refine ⟨(hL.sel [2, 6, 7, 8] (by decide) rfl), ?_⟩
         exact DH.relist (listed' := (bma 18 3839)) (by kernel_rfl) (hN595 _ _ ⟨v669, S670, f941, f942, f943, f944, f945, f946, rfl, f948, f949, f950, hL⟩)
       refine ⟨_, rfl, ?_⟩
       have hL := hL.sel [1, 0, 2, 3, 4, 5, 6, 7, 8] (by decide) rfl
       refine S_lit1 s_l2.1 rfl hL U47 Tryz_T26 ((congrArg Value.cells f950).trans (rdL_cells (hL.rdO 0 rfl))) rfl ?_
       intro wd953 v954 S955 hL
       refine ⟨(hL.sel [2, 6, 7, 8] (by decide) rfl), ?_⟩
       exact DH.relist (listed' := (bma 18 7933)) (by kernel_rfl) (hN598 _ _ ⟨v954, S955, v669, S670, f941, f942, f943, f944, f945, f946, f947, f948, f949, rfl, hL⟩)
     refine DH.node (listed' := (bma 18 6909)) (fuel' := 8) (fun (F : Fr) (w : World) => ∃ (v671 : Value) (S672 : Nat → Prop) (v673 : Value) (S674 : Nat → Prop), F 1 = (.pointer (some ⟨b4, 0, none⟩)) ∧ F 2 = (.pointer (some ⟨b6, 0, none⟩)) ∧ F 3 = (.pointer (some ⟨b8, 0, none⟩)) ∧ F 13 = v1 ∧ F 14 = (.int .i64 (a0.Races.length : Int)) ∧ F 15 = (.int .i64 s_l1.2.2) ∧ F 33 = (.pointer (some ⟨b8, 1, none⟩)) ∧ F 40 = v673 ∧ F 42 = (.pointer (some ⟨b8, 2, none⟩)) ∧ F 45 = v671 ∧ Hp w0 [Ent.own 26 S672 v671 ([s_l2.1] : List (List Int)), Ent.own 26 S674 v673 ([x441] : List (List Int)), Ent.blk b356 75 #[v349], Ent.own 26 S319 v318 s_l1.1, Ent.own 26 S321 v320 s_l1.2.1, Ent.blk b8 49 #[(.int .i64 a0.Boats), v318, v320], Ent.blk b6 49 #[(.int .i64 0), (.slice none 0 0), (.slice none 0 0)], Ent.blk b4 33 #[(.int .i64 a0.Boats), (.int .i64 a0.Scheme), v1], Ent.snap w0 w0.heap.size] w) ?_ (fun hN604 => ?_)
     · intro F956 wd957 hJ
       obtain ⟨v671, S672, v673, S674, f958, f959, f960, f961, f962, f963, f964, f965, f966, f967, hL⟩ := hJ
       refine DH.all (rs := [1, 10]) (by kernel_rfl) (by simp) ?_
       intro i968 hi969
       simp only [List.mem_cons, List.not_mem_nil, or_false] at hi969
       rcases hi969 with rfl | rfl
       · refine ⟨_, rfl, ?_⟩
         refine OP.val (v := v318) rfl (x_load1 U47 rfl f964 (hL.cellB 5 rfl rfl)) ?_
         refine ⟨(hL.sel [2, 6, 7, 8] (by decide) rfl), ?_⟩
         exact DH.relist (listed' := (bma 18 6911)) (by kernel_rfl) (hN596 _ _ ⟨v671, S672, v673, S674, f958, f959, f960, f961, f962, f963, rfl, f965, f966, f967, hL⟩)
       refine ⟨_, rfl, ?_⟩
       refine OP.val (v := v320) rfl (x_load1 U47 rfl f966 (hL.cellB 5 rfl rfl)) ?_
       refine ⟨(hL.sel [2, 6, 7, 8] (by decide) rfl), ?_⟩
       exact DH.relist (listed' := (bma 18 7933)) (by kernel_rfl) (hN598 _ _ ⟨v671, S672, v673, S674, f958, f959, f960, f961, f962, f963, f964, f965, rfl, f967, hL⟩)
     refine DH.node (listed' := (bma 18 7805)) (fuel' := 8) (fun (F : Fr) (w : World) => ∃ (v675 : Value) (S676 : Nat → Prop) (v677 : Value) (S678 : Nat → Prop), F 1 = (.pointer (some ⟨b4, 0, none⟩)) ∧ F 2 = (.pointer (some ⟨b6, 0, none⟩)) ∧ F 3 = (.pointer (some ⟨b8, 0, none⟩)) ∧ F 13 = v1 ∧ F 14 = (.int .i64 (a0.Races.length : Int)) ∧ F 15 = (.int .i64 s_l1.2.2) ∧ F 33 = (.pointer (some ⟨b8, 1, none⟩)) ∧ F 39 = v677 ∧ F 43 = v320 ∧ F 45 = v675 ∧ Hp w0 [Ent.own 26 S676 v675 ([s_l2.1] : List (List Int)), Ent.own 2 S678 v677 x441, Ent.blk b356 75 #[v349], Ent.own 26 S319 v318 s_l1.1, Ent.own 26 S321 v320 s_l1.2.1, Ent.blk b8 49 #[(.int .i64 a0.Boats), v318, v320], Ent.blk b6 49 #[(.int .i64 0), (.slice none 0 0), (.slice none 0 0)], Ent.blk b4 33 #[(.int .i64 a0.Boats), (.int .i64 a0.Scheme), v1], Ent.snap w0 w0.heap.size] w) ?_ (fun hN605 => ?_)
     · intro F970 wd971 hJ
       obtain ⟨v675, S676, v677, S678, f972, f973, f974, f975, f976, f977, f978, f979, f980, f981, hL⟩ := hJ
       refine DH.all (rs := [1, 7]) (by kernel_rfl) (by simp) ?_
       intro i982 hi983
       simp only [List.mem_cons, List.not_mem_nil, or_false] at hi983
       rcases hi983 with rfl | rfl
       · refine ⟨_, rfl, ?_⟩
         refine OP.val (v := v318) rfl (x_load1 U47 rfl f978 (hL.cellB 5 rfl rfl)) ?_
         refine ⟨(hL.sel [2, 6, 7, 8] (by decide) rfl), ?_⟩
         exact DH.relist (listed' := (bma 18 7807)) (by kernel_rfl) (hN597 _ _ ⟨v675, S676, v677, S678, f972, f973, f974, f975, f976, f977, rfl, f979, f980, f981, hL⟩)
       refine ⟨_, rfl, ?_⟩
       have hL := hL.sel [1, 0, 2, 3, 4, 5, 6, 7, 8] (by decide) rfl
       refine S_lit1 x441 rfl hL U47 Tryz_T26 ((congrArg Value.cells f979).trans (rdL_cells (hL.rdO 0 rfl))) rfl ?_
       intro wd984 v985 S986 hL
       refine ⟨(hL.sel [2, 6, 7, 8] (by decide) rfl), ?_⟩
       have hL := hL.sel [1, 0, 2, 3, 4, 5, 6, 7, 8] (by decide) rfl
       exact DH.relist (listed' := (bma 18 7933)) (by kernel_rfl) (hN598 _ _ ⟨v675, S676, v985, S986, f972, f973, f974, f975, f976, f977, f978, rfl, f980, f981, hL⟩)
     refine DH.node (listed' := (bma 18 2687)) (fuel' := 9) (fun (F : Fr) (w : World) => ∃ (v679 : Value) (S680 : Nat → Prop), F 1 = (.pointer (some ⟨b4, 0, none⟩)) ∧ F 2 = (.pointer (some ⟨b6, 0, none⟩)) ∧ F 3 = (.pointer (some ⟨b8, 0, none⟩)) ∧ F 13 = v1 ∧ F 14 = (.int .i64 (a0.Races.length : Int)) ∧ F 15 = (.int .i64 s_l1.2.2) ∧ F 34 = v318 ∧ F 39 = v679 ∧ F 42 = (.pointer (some ⟨b8, 2, none⟩)) ∧ F 44 = v399 ∧ Hp w0 [Ent.own 2 S680 v679 x441, Ent.own 2 S400 v399 s_l2.1, Ent.blk b356 75 #[v349], Ent.own 26 S319 v318 s_l1.1, Ent.own 26 S321 v320 s_l1.2.1, Ent.blk b8 49 #[(.int .i64 a0.Boats), v318, v320], Ent.blk b6 49 #[(.int .i64 0), (.slice none 0 0), (.slice none 0 0)], Ent.blk b4 33 #[(.int .i64 a0.Boats), (.int .i64 a0.Scheme), v1], Ent.snap w0 w0.heap.size] w) ?_ (fun hN606 => ?_)
     · intro F987 wd988 hJ
       obtain ⟨v679, S680, f989, f990, f991, f992, f993, f994, f995, f996, f997, f998, hL⟩ := hJ
       refine DH.all (rs := [7, 10, 12]) (by kernel_rfl) (by simp) ?_
       intro i999 hi1000
       simp only [List.mem_cons, List.not_mem_nil, or_false] at hi1000
       rcases hi1000 with rfl | rfl | rfl
       · refine ⟨_, rfl, ?_⟩
         refine S_lit1 x441 rfl hL U47 Tryz_T26 ((congrArg Value.cells f996).trans (rdL_cells (hL.rdO 0 rfl))) rfl ?_
         intro wd1001 v1002 S1003 hL
         refine ⟨(hL.sel [2, 6, 7, 8] (by decide) rfl), ?_⟩
         exact DH.relist (listed' := (bma 18 2815)) (by kernel_rfl) (hN599 _ _ ⟨v1002, S1003, f989, f990, f991, f992, f993, f994, f995, rfl, f997, f998, hL⟩)
       · refine ⟨_, rfl, ?_⟩
         refine OP.val (v := v320) rfl (x_load1 U47 rfl f997 (hL.cellB 5 rfl rfl)) ?_
         refine ⟨(hL.sel [2, 6, 7, 8] (by decide) rfl), ?_⟩
         exact DH.relist (listed' := (bma 18 3711)) (by kernel_rfl) (hN600 _ _ ⟨v679, S680, f989, f990, f991, f992, f993, f994, f995, f996, rfl, f998, hL⟩)
       refine ⟨_, rfl, ?_⟩
       have hL := hL.sel [1, 0, 2, 3, 4, 5, 6, 7, 8] (by decide) rfl
       refine S_lit1 s_l2.1 rfl hL U47 Tryz_T26 ((congrArg Value.cells f998).trans (rdL_cells (hL.rdO 0 rfl))) rfl ?_
       intro wd1004 v1005 S1006 hL
       refine ⟨(hL.sel [2, 6, 7, 8] (by decide) rfl), ?_⟩
       exact DH.relist (listed' := (bma 18 6783)) (by kernel_rfl) (hN601 _ _ ⟨v1005, S1006, v679, S680, f989, f990, f991, f992, f993, f994, f995, f996, f997, rfl, hL⟩)
     refine DH.node (listed' := (bma 18 3647)) (fuel' := 9) (fun (F : Fr) (w : World) => F 1 = (.pointer (some ⟨b4, 0, none⟩)) ∧ F 2 = (.pointer (some ⟨b6, 0, none⟩)) ∧ F 3 = (.pointer (some ⟨b8, 0, none⟩)) ∧ F 13 = v1 ∧ F 14 = (.int .i64 (a0.Races.length : Int)) ∧ F 15 = (.int .i64 s_l1.2.2) ∧ F 34 = v318 ∧ F 36 = v349 ∧ F 38 = (.int .i64 a0.Scheme) ∧ F 43 = v320 ∧ F 44 = v399 ∧ Hp w0 [Ent.own 2 S400 v399 s_l2.1, Ent.blk b356 75 #[v349], Ent.own 26 S319 v318 s_l1.1, Ent.own 26 S321 v320 s_l1.2.1, Ent.blk b8 49 #[(.int .i64 a0.Boats), v318, v320], Ent.blk b6 49 #[(.int .i64 0), (.slice none 0 0), (.slice none 0 0)], Ent.blk b4 33 #[(.int .i64 a0.Boats), (.int .i64 a0.Scheme), v1], Ent.snap w0 w0.heap.size] w) ?_ (fun hN607 => ?_)
     · intro F1007 wd1008 hJ
       obtain ⟨f1009, f1010, f1011, f1012, f1013, f1014, f1015, f1016, f1017, f1018, f1019, hL⟩ := hJ
       refine DH.all (rs := [6, 12]) (by kernel_rfl) (by simp) ?_
       intro i1020 hi1021
       simp only [List.mem_cons, List.not_mem_nil, or_false] at hi1021
       rcases hi1021 with rfl | rfl
       · refine ⟨_, rfl, ?_⟩
         refine OP.call rfl (x_call (vs := [v349, (.int .i64 a0.Scheme)]) Tryz_C45 ⟨f1016, f1017, trivial⟩) (M.impl_racePoints_ok _ x344.Finishes (hL.rdS 7 rfl hr353) a0.Scheme hx442) ?_
         rintro e1024 wd1025 ⟨v1023, S1022, rfl, hF1026⟩
         refine ⟨_, rfl, ?_⟩
         have hL := hL.pushAll hF1026
         simp only [lA, lB, lC, lD] at hL
         refine ⟨(hL.sel [2, 6, 7, 8] (by decide) rfl), ?_⟩
         exact DH.relist (listed' := (bma 18 3711)) (by kernel_rfl) (hN600 _ _ ⟨v1023, S1022, f1009, f1010, f1011, f1012, f1013, f1014, f1015, rfl, f1018, f1019, hL⟩)
       refine ⟨_, rfl, ?_⟩
       refine S_lit1 s_l2.1 rfl hL U47 Tryz_T26 ((congrArg Value.cells f1019).trans (rdL_cells (hL.rdO 0 rfl))) rfl ?_
       intro wd1027 v1028 S1029 hL
       refine ⟨(hL.sel [1, 5, 6, 7] (by decide) rfl), ?_⟩
       exact DH.relist (listed' := (bma 18 7743)) (by kernel_rfl) (hN602 _ _ ⟨v1028, S1029, f1009, f1010, f1011, f1012, f1013, f1014, f1015, f1016, f1017, f1018, rfl, hL⟩)
     refine DH.node (listed' := (bma 18 6719)) (fuel' := 9) (fun (F : Fr) (w : World) => ∃ (v681 : Value) (S682 : Nat → Prop), F 1 = (.pointer (some ⟨b4, 0, none⟩)) ∧ F 2 = (.pointer (some ⟨b6, 0, none⟩)) ∧ F 3 = (.pointer (some ⟨b8, 0, none⟩)) ∧ F 13 = v1 ∧ F 14 = (.int .i64 (a0.Races.length : Int)) ∧ F 15 = (.int .i64 s_l1.2.2) ∧ F 34 = v318 ∧ F 36 = v349 ∧ F 38 = (.int .i64 a0.Scheme) ∧ F 42 = (.pointer (some ⟨b8, 2, none⟩)) ∧ F 45 = v681 ∧ Hp w0 [Ent.own 26 S682 v681 ([s_l2.1] : List (List Int)), Ent.blk b356 75 #[v349], Ent.own 26 S319 v318 s_l1.1, Ent.own 26 S321 v320 s_l1.2.1, Ent.blk b8 49 #[(.int .i64 a0.Boats), v318, v320], Ent.blk b6 49 #[(.int .i64 0), (.slice none 0 0), (.slice none 0 0)], Ent.blk b4 33 #[(.int .i64 a0.Boats), (.int .i64 a0.Scheme), v1], Ent.snap w0 w0.heap.size] w) ?_ (fun hN608 => ?_)
     · intro F1030 wd1031 hJ
       obtain ⟨v681, S682, f1032, f1033, f1034, f1035, f1036, f1037, f1038, f1039, f1040, f1041, f1042, hL⟩ := hJ
       refine DH.all (rs := [6, 10]) (by kernel_rfl) (by simp) ?_
       intro i1043 hi1044
       simp only [List.mem_cons, List.not_mem_nil, or_false] at hi1044
       rcases hi1044 with rfl | rfl
       · refine ⟨_, rfl, ?_⟩
         refine OP.call rfl (x_call (vs := [v349, (.int .i64 a0.Scheme)]) Tryz_C45 ⟨f1039, f1040, trivial⟩) (M.impl_racePoints_ok _ x344.Finishes (hL.rdS 7 rfl hr353) a0.Scheme hx442) ?_
         rintro e1047 wd1048 ⟨v1046, S1045, rfl, hF1049⟩
         refine ⟨_, rfl, ?_⟩
         have hL := hL.pushAll hF1049
         simp only [lA, lB, lC, lD] at hL
         refine ⟨(hL.sel [2, 6, 7, 8] (by decide) rfl), ?_⟩
         have hL := hL.sel [1, 0, 2, 3, 4, 5, 6, 7, 8] (by decide) rfl
         exact DH.relist (listed' := (bma 18 6783)) (by kernel_rfl) (hN601 _ _ ⟨v681, S682, v1046, S1045, f1032, f1033, f1034, f1035, f1036, f1037, f1038, rfl, f1041, f1042, hL⟩)
       refine ⟨_, rfl, ?_⟩
       refine OP.val (v := v320) rfl (x_load1 U47 rfl f1041 (hL.cellB 4 rfl rfl)) ?_
       refine ⟨(hL.sel [1, 5, 6, 7] (by decide) rfl), ?_⟩
       exact DH.relist (listed' := (bma 18 7743)) (by kernel_rfl) (hN602 _ _ ⟨v681, S682, f1032, f1033, f1034, f1035, f1036, f1037, f1038, f1039, f1040, rfl, f1042, hL⟩)
     refine DH.node (listed' := (bma 18 2813)) (fuel' := 9) (fun (F : Fr) (w : World) => ∃ (v683 : Value) (S684 : Nat → Prop), F 1 = (.pointer (some ⟨b4, 0, none⟩)) ∧ F 2 = (.pointer (some ⟨b6, 0, none⟩)) ∧ F 3 = (.pointer (some ⟨b8, 0, none⟩)) ∧ F 13 = v1 ∧ F 14 = (.int .i64 (a0.Races.length : Int)) ∧ F 15 = (.int .i64 s_l1.2.2) ∧ F 33 = (.pointer (some ⟨b8, 1, none⟩)) ∧ F 40 = v683 ∧ F 42 = (.pointer (some ⟨b8, 2, none⟩)) ∧ F 44 = v399 ∧ Hp w0 [Ent.own 26 S684 v683 ([x441] : List (List Int)), Ent.own 2 S400 v399 s_l2.1, Ent.blk b356 75 #[v349], Ent.own 26 S319 v318 s_l1.1, Ent.own 26 S321 v320 s_l1.2.1, Ent.blk b8 49 #[(.int .i64 a0.Boats), v318, v320], Ent.blk b6 49 #[(.int .i64 0), (.slice none 0 0), (.slice none 0 0)], Ent.blk b4 33 #[(.int .i64 a0.Boats), (.int .i64 a0.Scheme), v1], Ent.snap w0 w0.heap.size] w) ?_ (fun hN609 => ?_)
     · intro F1050 wd1051 hJ
       obtain ⟨v683, S684, f1052, f1053, f1054, f1055, f1056, f1057, f1058, f1059, f1060, f1061, hL⟩ := hJ
       refine DH.all (rs := [1, 10, 12]) (by kernel_rfl) (by simp) ?_
       intro i1062 hi1063
       simp only [List.mem_cons, List.not_mem_nil, or_false] at hi1063
       rcases hi1063 with rfl | rfl | rfl
       · refine ⟨_, rfl, ?_⟩
         refine OP.val (v := v318) rfl (x_load1 U47 rfl f1058 (hL.cellB 5 rfl rfl)) ?_
         refine ⟨(hL.sel [2, 6, 7, 8] (by decide) rfl), ?_⟩
         exact DH.relist (listed' := (bma 18 2815)) (by kernel_rfl) (hN599 _ _ ⟨v683, S684, f1052, f1053, f1054, f1055, f1056, f1057, rfl, f1059, f1060, f1061, hL⟩)
       · refine ⟨_, rfl, ?_⟩
         refine OP.val (v := v320) rfl (x_load1 U47 rfl f1060 (hL.cellB 5 rfl rfl)) ?_
         refine ⟨(hL.sel [2, 6, 7, 8] (by decide) rfl), ?_⟩
         exact DH.relist (listed' := (bma 18 3837)) (by kernel_rfl) (hN603 _ _ ⟨v683, S684, f1052, f1053, f1054, f1055, f1056, f1057, f1058, f1059, rfl, f1061, hL⟩)
       refine ⟨_, rfl, ?_⟩
       have hL := hL.sel [1, 0, 2, 3, 4, 5, 6, 7, 8] (by decide) rfl
       refine S_lit1 s_l2.1 rfl hL U47 Tryz_T26 ((congrArg Value.cells f1061).trans (rdL_cells (hL.rdO 0 rfl))) rfl ?_
       intro wd1064 v1065 S1066 hL
       refine ⟨(hL.sel [2, 6, 7, 8] (by decide) rfl), ?_⟩
       exact DH.relist (listed' := (bma 18 6909)) (by kernel_rfl) (hN604 _ _ ⟨v1065, S1066, v683, S684, f1052, f1053, f1054, f1055, f1056, f1057, f1058, f1059, f1060, rfl, hL⟩)
     refine DH.node (listed' := (bma 18 3709)) (fuel' := 9) (fun (F : Fr) (w : World) => ∃ (v685 : Value) (S686 : Nat → Prop), F 1 = (.pointer (some ⟨b4, 0, none⟩)) ∧ F 2 = (.pointer (some ⟨b6, 0, none⟩)) ∧ F 3 = (.pointer (some ⟨b8, 0, none⟩)) ∧ F 13 = v1 ∧ F 14 = (.int .i64 (a0.Races.length : Int)) ∧ F 15 = (.int .i64 s_l1.2.2) ∧ F 33 = (.pointer (some ⟨b8, 1, none⟩)) ∧ F 39 = v685 ∧ F 43 = v320 ∧ F 44 = v399 ∧ Hp w0 [Ent.own 2 S686 v685 x441, Ent.own 2 S400 v399 s_l2.1, Ent.blk b356 75 #[v349], Ent.own 26 S319 v318 s_l1.1, Ent.own 26 S321 v320 s_l1.2.1, Ent.blk b8 49 #[(.int .i64 a0.Boats), v318, v320], Ent.blk b6 49 #[(.int .i64 0), (.slice none 0 0), (.slice none 0 0)], Ent.blk b4 33 #[(.int .i64 a0.Boats), (.int .i64 a0.Scheme), v1], Ent.snap w0 w0.heap.size] w) ?_ (fun hN610 => ?_)
     · intro F1067 wd1068 hJ
       obtain ⟨v685, S686, f1069, f1070, f1071, f1072, f1073, f1074, f1075, f1076, f1077, f1078, hL⟩ := hJ
       refine DH.all (rs := [1, 7, 12]) (by kernel_rfl) (by simp) ?_
       intro i1079 hi1080
       simp only [List.mem_cons, List.not_mem_nil, or_false] at hi1080
       rcases hi1080 with rfl | rfl | rfl
       · refine ⟨_, rfl, ?_⟩
         refine OP.val (v := v318) rfl (x_load1 U47 rfl f1075 (hL.cellB 5 rfl rfl)) ?_
         refine ⟨(hL.sel [2, 6, 7, 8] (by decide) rfl), ?_⟩
         exact DH.relist (listed' := (bma 18 3711)) (by kernel_rfl) (hN600 _ _ ⟨v685, S686, f1069, f1070, f1071, f1072, f1073, f1074, rfl, f1076, f1077, f1078, hL⟩)
       · refine ⟨_, rfl, ?_⟩
         refine S_lit1 x441 rfl hL U47 Tryz_T26 ((congrArg Value.cells f1076).trans (rdL_cells (hL.rdO 0 rfl))) rfl ?_
         intro wd1081 v1082 S1083 hL
         refine ⟨(hL.sel [2, 6, 7, 8] (by decide) rfl), ?_⟩
         exact DH.relist (listed' := (bma 18 3837)) (by kernel_rfl) (hN603 _ _ ⟨v1082, S1083, f1069, f1070, f1071, f1072, f1073, f1074, f1075, rfl, f1077, f1078, hL⟩)
       refine ⟨_, rfl, ?_⟩
       have hL := hL.sel [1, 0, 2, 3, 4, 5, 6, 7, 8] (by decide) rfl
       refine S_lit1 s_l2.1 rfl hL U47 Tryz_T26 ((congrArg Value.cells f1078).trans (rdL_cells (hL.rdO 0 rfl))) rfl ?_
       intro wd1084 v1085 S1086 hL
       refine ⟨(hL.sel [2, 6, 7, 8] (by decide) rfl), ?_⟩
       exact DH.relist (listed' := (bma 18 7805)) (by kernel_rfl) (hN605 _ _ ⟨v1085, S1086, v685, S686, f1069, f1070, f1071, f1072, f1073, f1074, f1075, f1076, f1077, rfl, hL⟩)
     refine DH.node (listed' := (bma 18 6781)) (fuel' := 9) (fun (F : Fr) (w : World) => ∃ (v687 : Value) (S688 : Nat → Prop) (v689 : Value) (S690 : Nat → Prop), F 1 = (.pointer (some ⟨b4, 0, none⟩)) ∧ F 2 = (.pointer (some ⟨b6, 0, none⟩)) ∧ F 3 = (.pointer (some ⟨b8, 0, none⟩)) ∧ F 13 = v1 ∧ F 14 = (.int .i64 (a0.Races.length : Int)) ∧ F 15 = (.int .i64 s_l1.2.2) ∧ F 33 = (.pointer (some ⟨b8, 1, none⟩)) ∧ F 39 = v689 ∧ F 42 = (.pointer (some ⟨b8, 2, none⟩)) ∧ F 45 = v687 ∧ Hp w0 [Ent.own 26 S688 v687 ([s_l2.1] : List (List Int)), Ent.own 2 S690 v689 x441, Ent.blk b356 75 #[v349], Ent.own 26 S319 v318 s_l1.1, Ent.own 26 S321 v320 s_l1.2.1, Ent.blk b8 49 #[(.int .i64 a0.Boats), v318, v320], Ent.blk b6 49 #[(.int .i64 0), (.slice none 0 0), (.slice none 0 0)], Ent.blk b4 33 #[(.int .i64 a0.Boats), (.int .i64 a0.Scheme), v1], Ent.snap w0 w0.heap.size] w) ?_ (fun hN611 => ?_)
     · intro F1087 wd1088 hJ
       obtain ⟨v687, S688, v689, S690, f1089, f1090, f1091, f1092, f1093, f1094, f1095, f1096, f1097, f1098, hL⟩ := hJ
       refine DH.all (rs := [1, 7, 10]) (by kernel_rfl) (by simp) ?_
       intro i1099 hi1100
       simp only [List.mem_cons, List.not_mem_nil, or_false] at hi1100
       rcases hi1100 with rfl | rfl | rfl
       · refine ⟨_, rfl, ?_⟩
         refine OP.val (v := v318) rfl (x_load1 U47 rfl f1095 (hL.cellB 5 rfl rfl)) ?_
         refine ⟨(hL.sel [2, 6, 7, 8] (by decide) rfl), ?_⟩
         exact DH.relist (listed' := (bma 18 6783)) (by kernel_rfl) (hN601 _ _ ⟨v687, S688, v689, S690, f1089, f1090, f1091, f1092, f1093, f1094, rfl, f1096, f1097, f1098, hL⟩)
       · refine ⟨_, rfl, ?_⟩
         have hL := hL.sel [1, 0, 2, 3, 4, 5, 6, 7, 8] (by decide) rfl
         refine S_lit1 x441 rfl hL U47 Tryz_T26 ((congrArg Value.cells f1096).trans (rdL_cells (hL.rdO 0 rfl))) rfl ?_
         intro wd1101 v1102 S1103 hL
         refine ⟨(hL.sel [2, 6, 7, 8] (by decide) rfl), ?_⟩
         have hL := hL.sel [1, 0, 2, 3, 4, 5, 6, 7, 8] (by decide) rfl
         exact DH.relist (listed' := (bma 18 6909)) (by kernel_rfl) (hN604 _ _ ⟨v687, S688, v1102, S1103, f1089, f1090, f1091, f1092, f1093, f1094, f1095, rfl, f1097, f1098, hL⟩)
       refine ⟨_, rfl, ?_⟩
       refine OP.val (v := v320) rfl (x_load1 U47 rfl f1097 (hL.cellB 5 rfl rfl)) ?_
       refine ⟨(hL.sel [2, 6, 7, 8] (by decide) rfl), ?_⟩
       exact DH.relist (listed' := (bma 18 7805)) (by kernel_rfl) (hN605 _ _ ⟨v687, S688, v689, S690, f1089, f1090, f1091, f1092, f1093, f1094, f1095, f1096, rfl, f1098, hL⟩)
     refine DH.node (listed' := (bma 18 7741)) (fuel' := 9) (fun (F : Fr) (w : World) => ∃ (v691 : Value) (S692 : Nat → Prop), F 1 = (.pointer (some ⟨b4, 0, none⟩)) ∧ F 2 = (.pointer (some ⟨b6, 0, none⟩)) ∧ F 3 = (.pointer (some ⟨b8, 0, none⟩)) ∧ F 13 = v1 ∧ F 14 = (.int .i64 (a0.Races.length : Int)) ∧ F 15 = (.int .i64 s_l1.2.2) ∧ F 33 = (.pointer (some ⟨b8, 1, none⟩)) ∧ F 36 = v349 ∧ F 38 = (.int .i64 a0.Scheme) ∧ F 43 = v320 ∧ F 45 = v691 ∧ Hp w0 [Ent.own 26 S692 v691 ([s_l2.1] : List (List Int)), Ent.blk b356 75 #[v349], Ent.own 26 S319 v318 s_l1.1, Ent.own 26 S321 v320 s_l1.2.1, Ent.blk b8 49 #[(.int .i64 a0.Boats), v318, v320], Ent.blk b6 49 #[(.int .i64 0), (.slice none 0 0), (.slice none 0 0)], Ent.blk b4 33 #[(.int .i64 a0.Boats), (.int .i64 a0.Scheme), v1], Ent.snap w0 w0.heap.size] w) ?_ (fun hN612 => ?_)
     · intro F1104 wd1105 hJ
       obtain ⟨v691, S692, f1106, f1107, f1108, f1109, f1110, f1111, f1112, f1113, f1114, f1115, f1116, hL⟩ := hJ
       refine DH.all (rs := [1, 6]) (by kernel_rfl) (by simp) ?_
       intro i1117 hi1118
       simp only [List.mem_cons, List.not_mem_nil, or_false] at hi1118
       rcases hi1118 with rfl | rfl
       · refine ⟨_, rfl, ?_⟩
         refine OP.val (v := v318) rfl (x_load1 U47 rfl f1112 (hL.cellB 4 rfl rfl)) ?_
         refine ⟨(hL.sel [1, 5, 6, 7] (by decide) rfl), ?_⟩
         exact DH.relist (listed' := (bma 18 7743)) (by kernel_rfl) (hN602 _ _ ⟨v691, S692, f1106, f1107, f1108, f1109, f1110, f1111, rfl, f1113, f1114, f1115, f1116, hL⟩)
       refine ⟨_, rfl, ?_⟩
       refine OP.call rfl (x_call (vs := [v349, (.int .i64 a0.Scheme)]) Tryz_C45 ⟨f1113, f1114, trivial⟩) (M.impl_racePoints_ok _ x344.Finishes (hL.rdS 7 rfl hr353) a0.Scheme hx442) ?_
       rintro e1121 wd1122 ⟨v1120, S1119, rfl, hF1123⟩
       refine ⟨_, rfl, ?_⟩
       have hL := hL.pushAll hF1123
       simp only [lA, lB, lC, lD] at hL
       refine ⟨(hL.sel [2, 6, 7, 8] (by decide) rfl), ?_⟩
       have hL := hL.sel [1, 0, 2, 3, 4, 5, 6, 7, 8] (by decide) rfl
       exact DH.relist (listed' := (bma 18 7805)) (by kernel_rfl) (hN605 _ _ ⟨v691, S692, v1120, S1119, f1106, f1107, f1108, f1109, f1110, f1111, f1112, rfl, f1115, f1116, hL⟩)
     refine DH.node (listed' := (bma 18 2623)) (fuel' := 10) (fun (F : Fr) (w : World) => F 1 = (.pointer (some ⟨b4, 0, none⟩)) ∧ F 2 = (.pointer (some ⟨b6, 0, none⟩)) ∧ F 3 = (.pointer (some ⟨b8, 0, none⟩)) ∧ F 13 = v1 ∧ F 14 = (.int .i64 (a0.Races.length : Int)) ∧ F 15 = (.int .i64 s_l1.2.2) ∧ F 34 = v318 ∧ F 36 = v349 ∧ F 38 = (.int .i64 a0.Scheme) ∧ F 42 = (.pointer (some ⟨b8, 2, none⟩)) ∧ F 44 = v399 ∧ Hp w0 [Ent.own 2 S400 v399 s_l2.1, Ent.blk b356 75 #[v349], Ent.own 26 S319 v318 s_l1.1, Ent.own 26 S321 v320 s_l1.2.1, Ent.blk b8 49 #[(.int .i64 a0.Boats), v318, v320], Ent.blk b6 49 #[(.int .i64 0), (.slice none 0 0), (.slice none 0 0)], Ent.blk b4 33 #[(.int .i64 a0.Boats), (.int .i64 a0.Scheme), v1], Ent.snap w0 w0.heap.size] w) ?_ (fun hN613 => ?_)
     · intro F1124 wd1125 hJ
       obtain ⟨f1126, f1127, f1128, f1129, f1130, f1131, f1132, f1133, f1134, f1135, f1136, hL⟩ := hJ
       refine DH.all (rs := [6, 10, 12]) (by kernel_rfl) (by simp) ?_
       intro i1137 hi1138
       simp only [List.mem_cons, List.not_mem_nil, or_false] at hi1138
       rcases hi1138 with rfl | rfl | rfl
       · refine ⟨_, rfl, ?_⟩
         refine OP.call rfl (x_call (vs := [v349, (.int .i64 a0.Scheme)]) Tryz_C45 ⟨f1133, f1134, trivial⟩) (M.impl_racePoints_ok _ x344.Finishes (hL.rdS 7 rfl hr353) a0.Scheme hx442) ?_
         rintro e1141 wd1142 ⟨v1140, S1139, rfl, hF1143⟩
         refine ⟨_, rfl, ?_⟩
         have hL := hL.pushAll hF1143
         simp only [lA, lB, lC, lD] at hL
         refine ⟨(hL.sel [2, 6, 7, 8] (by decide) rfl), ?_⟩
         exact DH.relist (listed' := (bma 18 2687)) (by kernel_rfl) (hN606 _ _ ⟨v1140, S1139, f1126, f1127, f1128, f1129, f1130, f1131, f1132, rfl, f1135, f1136, hL⟩)
       · refine ⟨_, rfl, ?_⟩
         refine OP.val (v := v320) rfl (x_load1 U47 rfl f1135 (hL.cellB 4 rfl rfl)) ?_
         refine ⟨(hL.sel [1, 5, 6, 7] (by decide) rfl), ?_⟩
         exact DH.relist (listed' := (bma 18 3647)) (by kernel_rfl) (hN607 _ _ ⟨f1126, f1127, f1128, f1129, f1130, f1131, f1132, f1133, f1134, rfl, f1136, hL⟩)
       refine ⟨_, rfl, ?_⟩
       refine S_lit1 s_l2.1 rfl hL U47 Tryz_T26 ((congrArg Value.cells f1136).trans (rdL_cells (hL.rdO 0 rfl))) rfl ?_
       intro wd1144 v1145 S1146 hL
       refine ⟨(hL.sel [1, 5, 6, 7] (by decide) rfl), ?_⟩
       exact DH.relist (listed' := (bma 18 6719)) (by kernel_rfl) (hN608 _ _ ⟨v1145, S1146, f1126, f1127, f1128, f1129, f1130, f1131, f1132, f1133, f1134, f1135, rfl, hL⟩)
     refine DH.node (listed' := (bma 18 2685)) (fuel' := 10) (fun (F : Fr) (w : World) => ∃ (v693 : Value) (S694 : Nat → Prop), F 1 = (.pointer (some ⟨b4, 0, none⟩)) ∧ F 2 = (.pointer (some ⟨b6, 0, none⟩)) ∧ F 3 = (.pointer (some ⟨b8, 0, none⟩)) ∧ F 13 = v1 ∧ F 14 = (.int .i64 (a0.Races.length : Int)) ∧ F 15 = (.int .i64 s_l1.2.2) ∧ F 33 = (.pointer (some ⟨b8, 1, none⟩)) ∧ F 39 = v693 ∧ F 42 = (.pointer (some ⟨b8, 2, none⟩)) ∧ F 44 = v399 ∧ Hp w0 [Ent.own 2 S694 v693 x441, Ent.own 2 S400 v399 s_l2.1, Ent.blk b356 75 #[v349], Ent.own 26 S319 v318 s_l1.1, Ent.own 26 S321 v320 s_l1.2.1, Ent.blk b8 49 #[(.int .i64 a0.Boats), v318, v320], Ent.blk b6 49 #[(.int .i64 0), (.slice none 0 0), (.slice none 0 0)], Ent.blk b4 33 #[(.int .i64 a0.Boats), (.int .i64 a0.Scheme), v1], Ent.snap w0 w0.heap.size] w) ?_ (fun hN614 => ?_)
     · intro F1147 wd1148 hJ
       obtain ⟨v693, S694, f1149, f1150, f1151, f1152, f1153, f1154, f1155, f1156, f1157, f1158, hL⟩ := hJ
       refine DH.all (rs := [1, 7, 10, 12]) (by kernel_rfl) (by simp) ?_
       intro i1159 hi1160
       simp only [List.mem_cons, List.not_mem_nil, or_false] at hi1160
       rcases hi1160 with rfl | rfl | rfl | rfl
       · refine ⟨_, rfl, ?_⟩
         refine OP.val (v := v318) rfl (x_load1 U47 rfl f1155 (hL.cellB 5 rfl rfl)) ?_
         refine ⟨(hL.sel [2, 6, 7, 8] (by decide) rfl), ?_⟩
         exact DH.relist (listed' := (bma 18 2687)) (by kernel_rfl) (hN606 _ _ ⟨v693, S694, f1149, f1150, f1151, f1152, f1153, f1154, rfl, f1156, f1157, f1158, hL⟩)
       · refine ⟨_, rfl, ?_⟩
         refine S_lit1 x441 rfl hL U47 Tryz_T26 ((congrArg Value.cells f1156).trans (rdL_cells (hL.rdO 0 rfl))) rfl ?_
         intro wd1161 v1162 S1163 hL
         refine ⟨(hL.sel [2, 6, 7, 8] (by decide) rfl), ?_⟩
         exact DH.relist (listed' := (bma 18 2813)) (by kernel_rfl) (hN609 _ _ ⟨v1162, S1163, f1149, f1150, f1151, f1152, f1153, f1154, f1155, rfl, f1157, f1158, hL⟩)
       · refine ⟨_, rfl, ?_⟩
         refine OP.val (v := v320) rfl (x_load1 U47 rfl f1157 (hL.cellB 5 rfl rfl)) ?_
         refine ⟨(hL.sel [2, 6, 7, 8] (by decide) rfl), ?_⟩
         exact DH.relist (listed' := (bma 18 3709)) (by kernel_rfl) (hN610 _ _ ⟨v693, S694, f1149, f1150, f1151, f1152, f1153, f1154, f1155, f1156, rfl, f1158, hL⟩)
       refine ⟨_, rfl, ?_⟩
       have hL := hL.sel [1, 0, 2, 3, 4, 5, 6, 7, 8] (by decide) rfl
       refine S_lit1 s_l2.1 rfl hL U47 Tryz_T26 ((congrArg Value.cells f1158).trans (rdL_cells (hL.rdO 0 rfl))) rfl ?_
       intro wd1164 v1165 S1166 hL
       refine ⟨(hL.sel [2, 6, 7, 8] (by decide) rfl), ?_⟩
       exact DH.relist (listed' := (bma 18 6781)) (by kernel_rfl) (hN611 _ _ ⟨v1165, S1166, v693, S694, f1149, f1150, f1151, f1152, f1153, f1154, f1155, f1156, f1157, rfl, hL⟩)
     refine DH.node (listed' := (bma 18 3645)) (fuel' := 10) (fun (F : Fr) (w : World) => F 1 = (.pointer (some ⟨b4, 0, none⟩)) ∧ F 2 = (.pointer (some ⟨b6, 0, none⟩)) ∧ F 3 = (.pointer (some ⟨b8, 0, none⟩)) ∧ F 13 = v1 ∧ F 14 = (.int .i64 (a0.Races.length : Int)) ∧ F 15 = (.int .i64 s_l1.2.2) ∧ F 33 = (.pointer (some ⟨b8, 1, none⟩)) ∧ F 36 = v349 ∧ F 38 = (.int .i64 a0.Scheme) ∧ F 43 = v320 ∧ F 44 = v399 ∧ Hp w0 [Ent.own 2 S400 v399 s_l2.1, Ent.blk b356 75 #[v349], Ent.own 26 S319 v318 s_l1.1, Ent.own 26 S321 v320 s_l1.2.1, Ent.blk b8 49 #[(.int .i64 a0.Boats), v318, v320], Ent.blk b6 49 #[(.int .i64 0), (.slice none 0 0), (.slice none 0 0)], Ent.blk b4 33 #[(.int .i64 a0.Boats), (.int .i64 a0.Scheme), v1], Ent.snap w0 w0.heap.size] w) ?_ (fun hN615 => ?_)
     · intro F1167 wd1168 hJ
       obtain ⟨f1169, f1170, f1171, f1172, f1173, f1174, f1175, f1176, f1177, f1178, f1179, hL⟩ := hJ
       refine DH.all (rs := [1, 6, 12]) (by kernel_rfl) (by simp) ?_
       intro i1180 hi1181
       simp only [List.mem_cons, List.not_mem_nil, or_false] at hi1181
       rcases hi1181 with rfl | rfl | rfl
       · refine ⟨_, rfl, ?_⟩
         refine OP.val (v := v318) rfl (x_load1 U47 rfl f1175 (hL.cellB 4 rfl rfl)) ?_
         refine ⟨(hL.sel [1, 5, 6, 7] (by decide) rfl), ?_⟩
         exact DH.relist (listed' := (bma 18 3647)) (by kernel_rfl) (hN607 _ _ ⟨f1169, f1170, f1171, f1172, f1173, f1174, rfl, f1176, f1177, f1178, f1179, hL⟩)
       · refine ⟨_, rfl, ?_⟩
         refine OP.call rfl (x_call (vs := [v349, (.int .i64 a0.Scheme)]) Tryz_C45 ⟨f1176, f1177, trivial⟩) (M.impl_racePoints_ok _ x344.Finishes (hL.rdS 7 rfl hr353) a0.Scheme hx442) ?_
         rintro e1184 wd1185 ⟨v1183, S1182, rfl, hF1186⟩
         refine ⟨_, rfl, ?_⟩
         have hL := hL.pushAll hF1186
         simp only [lA, lB, lC, lD] at hL
         refine ⟨(hL.sel [2, 6, 7, 8] (by decide) rfl), ?_⟩
         exact DH.relist (listed' := (bma 18 3709)) (by kernel_rfl) (hN610 _ _ ⟨v1183, S1182, f1169, f1170, f1171, f1172, f1173, f1174, f1175, rfl, f1178, f1179, hL⟩)
       refine ⟨_, rfl, ?_⟩
       refine S_lit1 s_l2.1 rfl hL U47 Tryz_T26 ((congrArg Value.cells f1179).trans (rdL_cells (hL.rdO 0 rfl))) rfl ?_
       intro wd1187 v1188 S1189 hL
       refine ⟨(hL.sel [1, 5, 6, 7] (by decide) rfl), ?_⟩
       exact DH.relist (listed' := (bma 18 7741)) (by kernel_rfl) (hN612 _ _ ⟨v1188, S1189, f1169, f1170, f1171, f1172, f1173, f1174, f1175, f1176, f1177, f1178, rfl, hL⟩)
     refine DH.node (listed' := (bma 18 6717)) (fuel' := 10) (fun (F : Fr) (w : World) => ∃ (v695 : Value) (S696 : Nat → Prop), F 1 = (.pointer (some ⟨b4, 0, none⟩)) ∧ F 2 = (.pointer (some ⟨b6, 0, none⟩)) ∧ F 3 = (.pointer (some ⟨b8, 0, none⟩)) ∧ F 13 = v1 ∧ F 14 = (.int .i64 (a0.Races.length : Int)) ∧ F 15 = (.int .i64 s_l1.2.2) ∧ F 33 = (.pointer (some ⟨b8, 1, none⟩)) ∧ F 36 = v349 ∧ F 38 = (.int .i64 a0.Scheme) ∧ F 42 = (.pointer (some ⟨b8, 2, none⟩)) ∧ F 45 = v695 ∧ Hp w0 [Ent.own 26 S696 v695 ([s_l2.1] : List (List Int)), Ent.blk b356 75 #[v349], Ent.own 26 S319 v318 s_l1.1, Ent.own 26 S321 v320 s_l1.2.1, Ent.blk b8 49 #[(.int .i64 a0.Boats), v318, v320], Ent.blk b6 49 #[(.int .i64 0), (.slice none 0 0), (.slice none 0 0)], Ent.blk b4 33 #[(.int .i64 a0.Boats), (.int .i64 a0.Scheme), v1], Ent.snap w0 w0.heap.size] w) ?_ (fun hN616 => ?_)
     · intro F1190 wd1191 hJ
       obtain ⟨v695, S696, f1192, f1193, f1194, f1195, f1196, f1197, f1198, f1199, f1200, f1201, f1202, hL⟩ := hJ
       refine DH.all (rs := [1, 6, 10]) (by kernel_rfl) (by simp) ?_
       intro i1203 hi1204
       simp only [List.mem_cons, List.not_mem_nil, or_false] at hi1204
       rcases hi1204 with rfl | rfl | rfl
       · refine ⟨_, rfl, ?_⟩
         refine OP.val (v := v318) rfl (x_load1 U47 rfl f1198 (hL.cellB 4 rfl rfl)) ?_
         refine ⟨(hL.sel [1, 5, 6, 7] (by decide) rfl), ?_⟩
         exact DH.relist (listed' := (bma 18 6719)) (by kernel_rfl) (hN608 _ _ ⟨v695, S696, f1192, f1193, f1194, f1195, f1196, f1197, rfl, f1199, f1200, f1201, f1202, hL⟩)
       · refine ⟨_, rfl, ?_⟩
         refine OP.call rfl (x_call (vs := [v349, (.int .i64 a0.Scheme)]) Tryz_C45 ⟨f1199, f1200, trivial⟩) (M.impl_racePoints_ok _ x344.Finishes (hL.rdS 7 rfl hr353) a0.Scheme hx442) ?_
         rintro e1207 wd1208 ⟨v1206, S1205, rfl, hF1209⟩
         refine ⟨_, rfl, ?_⟩
         have hL := hL.pushAll hF1209
         simp only [lA, lB, lC, lD] at hL
         refine ⟨(hL.sel [2, 6, 7, 8] (by decide) rfl), ?_⟩
         have hL := hL.sel [1, 0, 2, 3, 4, 5, 6, 7, 8] (by decide) rfl
         exact DH.relist (listed' := (bma 18 6781)) (by kernel_rfl) (hN611 _ _ ⟨v695, S696, v1206, S1205, f1192, f1193, f1194, f1195, f1196, f1197, f1198, rfl, f1201, f1202, hL⟩)
       refine ⟨_, rfl, ?_⟩
       refine OP.val (v := v320) rfl (x_load1 U47 rfl f1201 (hL.cellB 4 rfl rfl)) ?_
       refine ⟨(hL.sel [1, 5, 6, 7] (by decide) rfl), ?_⟩
       exact DH.relist (listed' := (bma 18 7741)) (by kernel_rfl) (hN612 _ _ ⟨v695, S696, f1192, f1193, f1194, f1195, f1196, f1197, f1198, f1199, f1200, rfl, f1202, hL⟩)
     refine DH.all (rs := [1, 6, 10, 12]) (by kernel_rfl) (by simp) ?_
     intro i1210 hi1211
     simp only [List.mem_cons, List.not_mem_nil, or_false] at hi1211
     rcases hi1211 with rfl | rfl | rfl | rfl
     · refine ⟨_, rfl, ?_⟩
       refine OP.val (v := v318) rfl (x_load1 U47 rfl rfl (hL.cellB 4 rfl rfl)) ?_
       refine ⟨(hL.sel [1, 5, 6, 7] (by decide) rfl), ?_⟩
       exact DH.relist (listed' := (bma 18 2623)) (by kernel_rfl) (hN613 _ _ ⟨f407, f408, f409, f412, f413, f414, rfl, rfl, rfl, rfl, rfl, hL⟩)
     · refine ⟨_, rfl, ?_⟩
       refine OP.call rfl (x_call (vs := [v349, (.int .i64 a0.Scheme)]) Tryz_C45 ⟨rfl, rfl, trivial⟩) (M.impl_racePoints_ok _ x344.Finishes (hL.rdS 7 rfl hr353) a0.Scheme hx442) ?_
       rintro e1214 wd1215 ⟨v1213, S1212, rfl, hF1216⟩
       refine ⟨_, rfl, ?_⟩
       have hL := hL.pushAll hF1216
       simp only [lA, lB, lC, lD] at hL
       refine ⟨(hL.sel [2, 6, 7, 8] (by decide) rfl), ?_⟩
       exact DH.relist (listed' := (bma 18 2685)) (by kernel_rfl) (hN614 _ _ ⟨v1213, S1212, f407, f408, f409, f412, f413, f414, rfl, rfl, rfl, rfl, hL⟩)
     · refine ⟨_, rfl, ?_⟩
       refine OP.val (v := v320) rfl (x_load1 U47 rfl rfl (hL.cellB 4 rfl rfl)) ?_
       refine ⟨(hL.sel [1, 5, 6, 7] (by decide) rfl), ?_⟩
       exact DH.relist (listed' := (bma 18 3645)) (by kernel_rfl) (hN615 _ _ ⟨f407, f408, f409, f412, f413, f414, rfl, rfl, rfl, rfl, rfl, hL⟩)
     refine ⟨_, rfl, ?_⟩
     refine S_lit1 s_l2.1 rfl hL U47 Tryz_T26 ((congrArg Value.cells (show _ = v399 from rfl)).trans (rdL_cells (hL.rdO 0 rfl))) rfl ?_
     intro wd1217 v1218 S1219 hL
     refine ⟨(hL.sel [1, 5, 6, 7] (by decide) rfl), ?_⟩
     exact DH.relist (listed' := (bma 18 6717)) (by kernel_rfl) (hN616 _ _ ⟨v1218, S1219, f407, f408, f409, f412, f413, f414, rfl, rfl, rfl, rfl, rfl, hL⟩)
   intro s_l2 F1220 wd1221 t401 hJ hm hr402
   unfold M.impl_tableOf_l2 at hm
   obtain ⟨v399, S400, f1222, f1223, f1224, f1225, f1226, f1227, f1228, f1229, f1230, f1231, f1232, hL⟩ := hJ
   refine CSR ?_
   refine OV (.bool (decide (s_l2.2 < (x344.Finishes.length : Int)))) rfl (x_lss f1232 f1231) ?_
   refine ONS ?_
   refine CW.condM (t := decide (s_l2.2 < (x344.Finishes.length : Int))) rfl hm (fun hb1233 hm => ?_) (fun hb1233 hm => ?_)
   · refine CW.skip ?_
     refine CW.seq ?_
     refine CW.block ?_
     refine CSR ?_
     obtain ⟨x1234, ha1235, hm⟩ := bndE hm
     obtain ⟨hz1236, ha1240⟩ := idxE ha1235
     obtain ⟨b1237, q1238, hix1239⟩ := rdL_ix (hL.rdS 7 rfl hr353) hz1236 ha1240
     refine OV (.pointer (some ⟨b1237, q1238, none⟩)) rfl (x_ix U73 Tryz_T79 f1230 f1232 hix1239) ?_
     refine OV (.agg #[(.int .i64 x1234.Boat), (.int .i64 x1234.Code), (.int .i64 x1234.Time)]) rfl (x_loadN (cs := [(.int .i64 x1234.Boat), (.int .i64 x1234.Code), (.int .i64 x1234.Time)]) U79 Tryz_T79 rfl rfl (rdF_cells (hL.rdS 7 rfl hr353) hix1239 ha1240)) ?_
     refine OW.cons (S_alloc (cs := #[(.int .i64 0), (.int .i64 0), (.int .i64 0)]) hL Tryz_T79 rfl rfl ?_)
     intro wd1241 b1242 hL
     refine OW.cons (S_storeN (l := [(.int .i64 x1234.Boat), (.int .i64 x1234.Code), (.int .i64 x1234.Time)]) (cs' := #[(.int .i64 x1234.Boat), (.int .i64 x1234.Code), (.int .i64 x1234.Time)]) hL 0 rfl Tryz_T79 rfl rfl (List.forall_mem_cons.2 ⟨rfl, (List.forall_mem_cons.2 ⟨rfl, (List.forall_mem_cons.2 ⟨rfl, (fun _ h => by cases h)⟩)⟩)⟩) rfl (Nat.le_of_ble_eq_true rfl) rfl ?_)
     intro wd1243 hL
     refine OW.nil ?_
     refine CW.regionL ?_
     refine OV v399 rfl (x_mv f1226) ?_
     refine OV (.pointer (some ⟨b1242, 1, none⟩)) rfl (x_fieldAddr (fsz := 1) 0 1 1 U79 rfl Tryz_T2 rfl rfl rfl) ?_
     refine OV (.int .i64 x1234.Code) rfl (x_load1 U2 rfl rfl (hL.cellB 0 rfl rfl)) ?_
     refine OW.cons (S_lit ([x1234.Code] : List Int) hL U26 Tryz_T2 rfl (by decide) (by first | (simp [Instr.fill, madeCells, Value.cells, ev, upd, Flat.enc, Flat.sz]; done) | rfl | kernel_rfl) rfl rfl ?_)
     intro wd1244 v1245 S1246 hL
     obtain ⟨hc1250, hm⟩ := chkE hm
     refine OW.cons (S_append (ys := ([x1234.Code] : List Int)) hL 2 rfl U26 Tryz_T2 rfl rfl rfl (hL.rdO 0 rfl) hc1250 (by decide) rfl ?_)
     intro wd1247 v1248 S1249 hL
     refine OV v1248 rfl (x_assign) ?_
     refine OW.nil ?_
     refine CW.regionL ?_
     refine OV (.int .i64 (w64 (s_l2.2 + 1))) rfl (x_add f1232 rfl) ?_
     refine OV (.int .i64 (w64 (s_l2.2 + 1))) rfl (x_move) ?_
     refine OW.nil ?_
     have hL := hL.sel [2, 3, 4, 5, 6, 7, 8, 9] (by decide) rfl
     obtain rfl := Option.some.inj hm
     exact ⟨_, rfl, ⟨v1248, S1249, f1222, f1223, f1224, f1225, rfl, f1227, f1228, f1229, f1230, f1231, rfl, hL⟩⟩
   refine CW.exit ?_
   refine XJ.hit ?_
   obtain rfl := Option.some.inj hm
   exact ⟨_, rfl, ⟨v399, S400, f1222, f1223, f1224, f1225, f1226, f1227, f1228, f1229, f1230, f1231, f1232, hL⟩⟩
 refine CW.exit ?_
 refine XJ.hit ?_
 obtain rfl := Option.some.inj hm
 exact ⟨_, rfl, ⟨v318, S319, v320, S321, f337, f338, f339, f340, f341, f342, hL⟩⟩

theorem M.impl_percentPoints_ok (w0 : World) (a0 : Int) (a1 : Int) {r : Int} (hm : M.impl_percentPoints a0 a1 = some r) :
    Calls Tryz.prog 43 #[(.int .i64 a0), (.int .i64 a1)] w0 fun e w' => e = .returned (.int .i64 r) ∧ Fresh w0 w' [] := by
 unfold M.impl_percentPoints at hm
 refine calls_CW (args := [(.int .i64 a0), (.int .i64 a1)]) Tryz.func43 rfl rfl rfl ?_
 have hL := Hp.start w0
 refine CSR ?_
 refine OV (.int .i64 0) rfl (x_assign) ?_
 refine ONR ?_
 refine OV (.int .i64 a0) rfl (x_move) ?_
 refine OV (.int .i64 (w64 (20 * a0))) rfl (x_mul rfl rfl) ?_
 refine OV (.int .i64 a1) rfl (x_move) ?_
 refine OV (.int .i64 (w64 ((w64 (20 * a0)) * a1))) rfl (x_mul rfl rfl) ?_
 refine OV (.int .i64 (w64 ((w64 ((w64 (20 * a0)) * a1)) + 100))) rfl (x_add rfl rfl) ?_
 refine OV (.int .i64 (w64 ((w64 ((w64 ((w64 (20 * a0)) * a1)) + 100)).tdiv 200))) rfl (x_quo rfl rfl (by decide)) ?_
 refine OV (.int .i64 (w64 ((w64 ((w64 ((w64 (20 * a0)) * a1)) + 100)).tdiv 200))) rfl (x_assign) ?_
 refine OW.nil ?_
 refine CW.ret ?_
 obtain rfl := Option.some.inj hm
 exact RR1 rfl rfl ⟨rfl, hL.fresh 0 rfl [] (by decide) (by decide) rfl⟩

end Go.Proofs.YtgelmamcinlahaaGreat
