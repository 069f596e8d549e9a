/- Links: each Go function returns what its model computes and leaves what was there. Printed by my generator. -/
import Derived.Test.YtpobaajdhfoomaaLnkFnExactTiedBoatsA
namespace Go.Proofs.Ytpobaajdhfoomaa
set_option maxRecDepth 10000
open Go Go.RowKit Go.ChangeShapes Go.WideShapes
set_option linter.unusedVariables false
set_option linter.unusedSimpArgs false

theorem M.impl_countedPoints_ok (w0 : World) (a0 : Table) {v1 : Value} {v3 : Value} (h2 : rdL (· < w0.heap.size) w0 v1 a0.Points) (h4 : rdL (· < w0.heap.size) w0 v3 a0.Codes) (a1 : List Int) {v5 : Value} (h6 : rdL (· < w0.heap.size) w0 v5 a1) (a2 : Int) {r : (List Int)} (hm : M.impl_countedPoints a0 a1 a2 = some r) :
    Calls Try.prog 90 #[(.agg #[(.int .i64 a0.Boats), v1, v3]), v5, (.int .i64 a2)] w0 fun e w' => ∃ (rv0 : Value) (rS0 : Nat → Prop), e = .returned rv0 ∧ Fresh w0 w' [Ent.own 2 rS0 rv0 r] := by
 unfold M.impl_countedPoints at hm
 refine calls_CW (args := [(.agg #[(.int .i64 a0.Boats), v1, v3]), v5, (.int .i64 a2)]) Try.func90 rfl rfl rfl ?_
 have hL := Hp.start w0
 refine CSR ?_
 refine OW.cons (S_box (cs := #[(.int .i64 a0.Boats), v1, v3]) hL rfl rfl rfl ?_)
 intro wd7 b8 hL
 refine OV (.slice none 0 0) rfl (x_assign) ?_
 refine ONR ?_
 refine OW.cons (S_lit ([] : List Int) hL U25 Try_T2 rfl (by decide) (by first | (simp [Instr.fill, madeCells, Value.cells, ev, upd, Flat.enc, Flat.sz]; done) | rfl | kernel_rfl) rfl rfl ?_)
 intro wd9 v10 S11 hL
 refine OV (.agg #[(.int .i64 a0.Boats), v1, v3]) rfl (x_loadN (cs := [(.int .i64 a0.Boats), v1, v3]) U29 Try_T29 rfl rfl (hL.cellsB 1 rfl (o := 0) (l := [(.int .i64 a0.Boats), v1, v3]) (by intro j u hj; exact (by simpa using hj)))) ?_
 refine OV v5 rfl (x_move) ?_
 refine OV (.int .i64 a2) rfl (x_move) ?_
 obtain ⟨x12, hx13, hm⟩ := bndE hm
 refine OW.cons (OP.call rfl (x_call (vs := [(.agg #[(.int .i64 a0.Boats), v1, v3]), v5, (.int .i64 a2)]) Try_C78 ⟨rfl, rfl, rfl, trivial⟩) (M.impl_discardsOf_ok _ a0 (hL.rdS 2 rfl h2) (hL.rdS 2 rfl h4) a1 (hL.rdS 2 rfl h6) a2 hx13) ?_)
 rintro e16 wd17 ⟨v15, S14, rfl, hF18⟩
 refine ⟨_, rfl, ?_⟩
 have hL := hL.pushAll hF18
 simp only [lA, lB, lC, lD] at hL
 refine OV v10 rfl (x_assign) ?_
 refine OV v15 rfl (x_assign) ?_
 refine ONS ?_
 refine CSR ?_
 refine OV (.pointer (some ⟨b8, 1, none⟩)) rfl (x_fieldAddr (fsz := 1) 0 1 1 U29 rfl Try_T22 rfl rfl rfl) ?_
 refine OV v1 rfl (x_load1 U22 rfl rfl (hL.cellB 2 rfl rfl)) ?_
 refine OV (.int .i64 (a0.Points.length : Int)) rfl (x_lenR U22 rfl (hL.rdS 3 rfl h2)) ?_
 refine OV (.int .i64 0) rfl (x_move) ?_
 refine OW.nil ?_
 obtain ⟨o335, ho336, hm⟩ := bndE hm
 have hL := hL.sel [1, 0, 2, 3] (by decide) rfl
 refine CW.loopB (fun (s_l1 : (List Int) × Int) (F : Fr) (w : World) => ∃ (v331 : Value) (S332 : Nat → Prop), F 2 = (.int .i64 a2) ∧ F 3 = (.pointer (some ⟨b8, 0, none⟩)) ∧ F 7 = v331 ∧ F 8 = v15 ∧ F 17 = (.int .i64 (a0.Points.length : Int)) ∧ F 18 = (.int .i64 s_l1.2) ∧ Hp w0 [Ent.own 2 S332 v331 s_l1.1, Ent.own 2 S14 v15 x12, Ent.blk b8 29 #[(.int .i64 a0.Boats), v1, v3], Ent.snap w0 w0.heap.size] w) (fun o => outc o (fun x => some x) (fun s => M.impl_countedPoints_a1 s) = some r) ho336 hm ⟨v10, S11, rfl, rfl, rfl, rfl, rfl, rfl, hL⟩ ?_ ?_
 · intro s_l1 F337 wd338 hJ hm
   have hm := outcE hm
   have hm : M.impl_countedPoints_a1 s_l1 = some r := hm
   unfold M.impl_countedPoints_a1 at hm
   obtain ⟨v331, S332, f339, f340, f341, f342, f343, f344, hL⟩ := hJ
   refine CSR ?_
   refine OV v331 rfl (x_mv f341) ?_
   refine OV v331 rfl (x_assign) ?_
   refine OW.nil ?_
   refine CW.ret ?_
   obtain rfl := Option.some.inj hm
   exact RR1 rfl rfl ⟨v331, S332, rfl, hL.fresh 3 rfl [0] (by decide) (by decide) rfl⟩
 intro s_l1 F345 wd346 t333 hJ hm hr334
 unfold M.impl_countedPoints_l1 at hm
 obtain ⟨v331, S332, f347, f348, f349, f350, f351, f352, hL⟩ := hJ
 refine CSR ?_
 refine OV (.bool (decide (s_l1.2 < (a0.Points.length : Int)))) rfl (x_lss f352 f351) ?_
 refine ONS ?_
 refine CW.condM (t := decide (s_l1.2 < (a0.Points.length : Int))) rfl hm (fun hb353 hm => ?_) (fun hb353 hm => ?_)
 · refine CW.skip ?_
   refine CW.seqJ (fun (s_j1 : (List Int)) (F : Fr) (w : World) => ∃ (v426 : Value) (S427 : Nat → Prop), F 2 = (.int .i64 a2) ∧ F 3 = (.pointer (some ⟨b8, 0, none⟩)) ∧ F 7 = v426 ∧ F 8 = v15 ∧ F 17 = (.int .i64 (a0.Points.length : Int)) ∧ F 18 = (.int .i64 s_l1.2) ∧ Hp w0 [Ent.own 2 S427 v426 s_j1, Ent.own 2 S14 v15 x12, Ent.blk b8 29 #[(.int .i64 a0.Boats), v1, v3], Ent.snap w0 w0.heap.size] w) (fun s_j1 => M.impl_countedPoints_j1 s_l1 s_j1 = some t333) ?_ ?_
   · refine CW.blockJ (fun (s_j2 : (List Int)) (F : Fr) (w : World) => ∃ (v467 : Value) (S468 : Nat → Prop), F 2 = (.int .i64 a2) ∧ F 3 = (.pointer (some ⟨b8, 0, none⟩)) ∧ F 7 = v467 ∧ F 8 = v15 ∧ F 17 = (.int .i64 (a0.Points.length : Int)) ∧ F 18 = (.int .i64 s_l1.2) ∧ Hp w0 [Ent.own 2 S468 v467 s_j2, Ent.own 2 S14 v15 x12, Ent.blk b8 29 #[(.int .i64 a0.Boats), v1, v3], Ent.snap w0 w0.heap.size] w) (fun s_j2 => M.impl_countedPoints_j2 s_l1 s_j2 = some t333) ?_ ?_
     · refine CSR ?_
       refine OV (.int .i64 s_l1.2) rfl (x_mv f352) ?_
       refine OV (.int .i64 s_l1.2) rfl (x_assign) ?_
       refine ONR ?_
       refine OV v15 rfl (x_mv f350) ?_
       refine OV (.int .i64 s_l1.2) rfl (x_move) ?_
       obtain ⟨x477, hx478, hm⟩ := bndE hm
       refine OW.cons (OP.call rfl (x_call (vs := [v15, (.int .i64 s_l1.2)]) Try_C108 ⟨rfl, rfl, trivial⟩) (M.slices_Contains___int64_int64__ok _ x12 (hL.rdO 1 rfl) s_l1.2 hx478) ?_)
       rintro e479 wd480 ⟨rfl, hF481⟩
       refine ⟨_, rfl, ?_⟩
       have hL := hL.pushAll hF481
       simp only [lA, lB, lC, lD] at hL
       refine OV (.bool (!x477)) rfl (x_not rfl) ?_
       refine OW.nil ?_
       refine CW.condM (t := !x477) rfl hm (fun hb482 hm => ?_) (fun hb482 hm => ?_)
       · refine CW.regionL ?_
         refine OV v331 rfl (x_mv f349) ?_
         refine OV (.pointer (some ⟨b8, 1, none⟩)) rfl (x_fieldAddr (fsz := 1) 0 1 1 U29 rfl Try_T22 rfl f348 rfl) ?_
         refine OV v1 rfl (x_load1 U22 rfl rfl (hL.cellB 2 rfl rfl)) ?_
         refine OV (.int .i64 s_l1.2) rfl (x_move) ?_
         obtain ⟨x483, ha484, hm⟩ := bndE hm
         obtain ⟨hz485, ha493⟩ := idxE ha484
         obtain ⟨b486, q487, v488, hix489, hs490, hc491, hr492⟩ := rdN_at h2 hz485 ha493
         refine OV (.pointer (some ⟨b486, q487, none⟩)) rfl (x_ix U22 Try_T25 rfl rfl hix489) ?_
         refine OV v488 rfl (x_load1 U25 rfl rfl (hL.cellS 3 rfl hs490 hc491)) ?_
         refine OV (.int .i64 a2) rfl (x_mv f347) ?_
         obtain ⟨x494, ha495, hm⟩ := bndE hm
         obtain ⟨hz496, ha500⟩ := idxE ha495
         obtain ⟨b497, q498, hix499⟩ := rdL_ix (hL.rdS 3 rfl hr492) hz496 ha500
         refine OV (.pointer (some ⟨b497, q498, none⟩)) rfl (x_ix U25 Try_T2 rfl rfl hix499) ?_
         refine OV (.int .i64 x494) rfl (x_load1 U2 rfl rfl (rdF_cells (hL.rdS 3 rfl hr492) hix499 ha500 0 _ rfl)) ?_
         refine OW.cons (S_lit ([x494] : List Int) hL U25 Try_T2 rfl (by decide) (by first | (simp [Instr.fill, madeCells, Value.cells, ev, upd, Flat.enc, Flat.sz]; done) | rfl | kernel_rfl) rfl rfl ?_)
         intro wd501 v502 S503 hL
         obtain ⟨hc507, hm⟩ := chkE hm
         refine OW.cons (S_append (ys := ([x494] : List Int)) hL 1 rfl U25 Try_T2 rfl rfl rfl (hL.rdO 0 rfl) hc507 (by decide) rfl ?_)
         intro wd504 v505 S506 hL
         refine OV v505 rfl (x_assign) ?_
         refine OW.nil ?_
         have hL := hL.sel [1, 2, 3, 4] (by decide) rfl
         exact ⟨s_l1.1 ++ ([x494] : List Int), hm, ⟨v505, S506, f347, f348, rfl, f350, f351, f352, hL⟩⟩
       refine CW.skip ?_
       exact ⟨s_l1.1, hm, ⟨v331, S332, f347, f348, f349, f350, f351, f352, hL⟩⟩
     intro s_j2 F469 wd470 hJ hm
     unfold M.impl_countedPoints_j2 at hm
     obtain ⟨v467, S468, f471, f472, f473, f474, f475, f476, hL⟩ := hJ
     exact ⟨s_j2, hm, ⟨v467, S468, f471, f472, f473, f474, f475, f476, hL⟩⟩
   intro s_j1 F428 wd429 hJ hm
   unfold M.impl_countedPoints_j1 at hm
   obtain ⟨v426, S427, f430, f431, f432, f433, f434, f435, hL⟩ := hJ
   refine CW.regionL ?_
   refine OV (.int .i64 (w64 (s_l1.2 + 1))) rfl (x_add f435 rfl) ?_
   refine OV (.int .i64 (w64 (s_l1.2 + 1))) rfl (x_move) ?_
   refine OW.nil ?_
   obtain rfl := Option.some.inj hm
   exact ⟨_, rfl, ⟨v426, S427, f430, f431, f432, f433, f434, rfl, hL⟩⟩
 refine CW.exit ?_
 refine XJ.hit ?_
 obtain rfl := Option.some.inj hm
 exact ⟨_, rfl, ⟨v331, S332, f347, f348, f349, f350, f351, f352, hL⟩⟩

theorem M.impl_netPoints_ok (w0 : World) (a0 : Table) {v1 : Value} {v3 : Value} (h2 : rdL (· < w0.heap.size) w0 v1 a0.Points) (h4 : rdL (· < w0.heap.size) w0 v3 a0.Codes) (a1 : List Int) {v5 : Value} (h6 : rdL (· < w0.heap.size) w0 v5 a1) (a2 : Int) {r : Int} (hm : M.impl_netPoints a0 a1 a2 = some r) :
    Calls Try.prog 71 #[(.agg #[(.int .i64 a0.Boats), v1, v3]), v5, (.int .i64 a2)] w0 fun e w' => e = .returned (.int .i64 r) ∧ Fresh w0 w' [] := by
 unfold M.impl_netPoints at hm
 refine calls_CW (args := [(.agg #[(.int .i64 a0.Boats), v1, v3]), v5, (.int .i64 a2)]) Try.func71 rfl rfl rfl ?_
 have hL := Hp.start w0
 refine CSR ?_
 refine OW.cons (S_box (cs := #[(.int .i64 a0.Boats), v1, v3]) hL rfl rfl rfl ?_)
 intro wd7 b8 hL
 refine OV (.int .i64 0) rfl (x_assign) ?_
 refine ONR ?_
 refine OV (.int .i64 0) rfl (x_assign) ?_
 refine ONS ?_
 refine CSR ?_
 refine OV (.agg #[(.int .i64 a0.Boats), v1, v3]) rfl (x_loadN (cs := [(.int .i64 a0.Boats), v1, v3]) U29 Try_T29 rfl rfl (hL.cellsB 0 rfl (o := 0) (l := [(.int .i64 a0.Boats), v1, v3]) (by intro j u hj; exact (by simpa using hj)))) ?_
 refine OV v5 rfl (x_move) ?_
 refine OV (.int .i64 a2) rfl (x_move) ?_
 obtain ⟨x9, hx10, hm⟩ := bndE hm
 refine OW.cons (OP.call rfl (x_call (vs := [(.agg #[(.int .i64 a0.Boats), v1, v3]), v5, (.int .i64 a2)]) Try_C90 ⟨rfl, rfl, rfl, trivial⟩) (M.impl_countedPoints_ok _ a0 (hL.rdS 1 rfl h2) (hL.rdS 1 rfl h4) a1 (hL.rdS 1 rfl h6) a2 hx10) ?_)
 rintro e13 wd14 ⟨v12, S11, rfl, hF15⟩
 refine ⟨_, rfl, ?_⟩
 have hL := hL.pushAll hF15
 simp only [lA, lB, lC, lD] at hL
 refine OV (.int .i64 (x9.length : Int)) rfl (x_lenR U25 rfl (hL.rdO 0 rfl)) ?_
 refine OV (.int .i64 0) rfl (x_move) ?_
 refine OW.nil ?_
 obtain ⟨o34, ho35, hm⟩ := bndE hm
 refine CW.loopB (fun (s_l1 : Int × Int) (F : Fr) (w : World) => F 7 = (.int .i64 s_l1.1) ∧ F 13 = v12 ∧ F 14 = (.int .i64 (x9.length : Int)) ∧ F 15 = (.int .i64 s_l1.2) ∧ Hp w0 [Ent.own 2 S11 v12 x9, Ent.blk b8 29 #[(.int .i64 a0.Boats), v1, v3], Ent.snap w0 w0.heap.size] w) (fun o => outc o (fun x => some x) (fun s => M.impl_netPoints_a1 s) = some r) ho35 hm ⟨rfl, rfl, rfl, rfl, hL⟩ ?_ ?_
 · intro s_l1 F36 wd37 hJ hm
   have hm := outcE hm
   have hm : M.impl_netPoints_a1 s_l1 = some r := hm
   unfold M.impl_netPoints_a1 at hm
   obtain ⟨f38, f39, f40, f41, hL⟩ := hJ
   refine CSR ?_
   refine OV (.int .i64 s_l1.1) rfl (x_mv f38) ?_
   refine OV (.int .i64 s_l1.1) rfl (x_assign) ?_
   refine OW.nil ?_
   refine CW.ret ?_
   obtain rfl := Option.some.inj hm
   exact RR1 rfl rfl ⟨rfl, hL.fresh 2 rfl [] (by decide) (by decide) rfl⟩
 intro s_l1 F42 wd43 t32 hJ hm hr33
 unfold M.impl_netPoints_l1 at hm
 obtain ⟨f44, f45, f46, f47, hL⟩ := hJ
 refine CSR ?_
 refine OV (.bool (decide (s_l1.2 < (x9.length : Int)))) rfl (x_lss f47 f46) ?_
 refine ONS ?_
 refine CW.condM (t := decide (s_l1.2 < (x9.length : Int))) rfl hm (fun hb48 hm => ?_) (fun hb48 hm => ?_)
 · refine CW.skip ?_
   refine CW.seq ?_
   refine CW.block ?_
   refine CSR ?_
   obtain ⟨x49, ha50, hm⟩ := bndE hm
   obtain ⟨hz51, ha55⟩ := idxE ha50
   obtain ⟨b52, q53, hix54⟩ := rdL_ix (hL.rdO 0 rfl) hz51 ha55
   refine OV (.pointer (some ⟨b52, q53, none⟩)) rfl (x_ix U25 Try_T2 f45 f47 hix54) ?_
   refine OV (.int .i64 x49) rfl (x_load1 U2 rfl rfl (rdF_cells (hL.rdO 0 rfl) hix54 ha55 0 _ rfl)) ?_
   refine OV (.int .i64 x49) rfl (x_assign) ?_
   refine OW.nil ?_
   refine CW.regionL ?_
   refine OV (.int .i64 s_l1.1) rfl (x_mv f44) ?_
   refine OV (.int .i64 x49) rfl (x_move) ?_
   refine OV (.int .i64 (w64 (s_l1.1 + x49))) rfl (x_add rfl rfl) ?_
   refine OV (.int .i64 (w64 (s_l1.1 + x49))) rfl (x_assign) ?_
   refine OW.nil ?_
   refine CW.regionL ?_
   refine OV (.int .i64 (w64 (s_l1.2 + 1))) rfl (x_add f47 rfl) ?_
   refine OV (.int .i64 (w64 (s_l1.2 + 1))) rfl (x_move) ?_
   refine OW.nil ?_
   obtain rfl := Option.some.inj hm
   exact ⟨_, rfl, ⟨rfl, f45, f46, rfl, hL⟩⟩
 refine CW.exit ?_
 refine XJ.hit ?_
 obtain rfl := Option.some.inj hm
 exact ⟨_, rfl, ⟨f44, f45, f46, f47, hL⟩⟩

theorem M.laws_eqInt64S_ok (w0 : World) (a0 : List Int) {v1 : Value} (h2 : rdL (· < w0.heap.size) w0 v1 a0) (a1 : List Int) {v3 : Value} (h4 : rdL (· < w0.heap.size) w0 v3 a1) {r : Bool} (hm : M.laws_eqInt64S a0 a1 = some r) :
    Calls Try.prog 19 #[v1, v3] w0 fun e w' => e = .returned (.bool r) ∧ Fresh w0 w' [] := by
 unfold M.laws_eqInt64S at hm
 refine calls_CW (args := [v1, v3]) Try.func19 rfl rfl rfl ?_
 have hL := Hp.start w0
 refine CSR ?_
 refine OV (.bool false) rfl (x_assign) ?_
 refine ONS ?_
 refine CSR ?_
 refine OV v1 rfl (x_move) ?_
 refine OV (.int .i64 (a0.length : Int)) rfl (x_lenR U25 rfl (hL.rdS 0 rfl h2)) ?_
 refine OV v3 rfl (x_move) ?_
 refine OV (.int .i64 (a1.length : Int)) rfl (x_lenR U25 rfl (hL.rdS 0 rfl h4)) ?_
 refine OV (.bool ((a0.length : Int) != (a1.length : Int))) rfl (x_neq rfl rfl) ?_
 refine OW.nil ?_
 refine CW.condM (t := (a0.length : Int) != (a1.length : Int)) rfl hm (fun hb5 hm => ?_) (fun hb5 hm => ?_)
 · refine CSR ?_
   refine OV (.bool false) rfl (x_assign) ?_
   refine OW.nil ?_
   refine CW.ret ?_
   obtain rfl := Option.some.inj hm
   exact RR1 rfl rfl ⟨rfl, hL.fresh 0 rfl [] (by decide) (by decide) rfl⟩
 refine CW.skip ?_
 refine CW.seq ?_
 refine CSR ?_
 refine OV (.int .i64 0) rfl (x_assign) ?_
 refine OW.nil ?_
 obtain ⟨o42, ho43, hm⟩ := bndE hm
 refine CW.loopB (fun (s_l1 : Int) (F : Fr) (w : World) => F 0 = v1 ∧ F 1 = v3 ∧ F 5 = (.int .i64 s_l1) ∧ Hp w0 [Ent.snap w0 w0.heap.size] w) (fun o => outc o (fun x => some x) (fun s => M.laws_eqInt64S_a1 s) = some r) ho43 hm ⟨rfl, rfl, rfl, hL⟩ ?_ ?_
 · intro s_l1 F44 wd45 hJ hm
   have hm := outcE hm
   have hm : M.laws_eqInt64S_a1 s_l1 = some r := hm
   unfold M.laws_eqInt64S_a1 at hm
   obtain ⟨f46, f47, f48, hL⟩ := hJ
   refine CSR ?_
   refine OV (.bool true) rfl (x_assign) ?_
   refine OW.nil ?_
   refine CW.ret ?_
   obtain rfl := Option.some.inj hm
   exact RR1 rfl rfl ⟨rfl, hL.fresh 0 rfl [] (by decide) (by decide) rfl⟩
 intro s_l1 F49 wd50 t40 hJ hm hr41
 unfold M.laws_eqInt64S_l1 at hm
 obtain ⟨f51, f52, f53, hL⟩ := hJ
 refine CW.seq ?_
 refine CSR ?_
 refine OV (.int .i64 s_l1) rfl (x_mv f53) ?_
 refine OV v1 rfl (x_mv f51) ?_
 refine OV (.int .i64 (a0.length : Int)) rfl (x_lenR U25 rfl (hL.rdS 0 rfl h2)) ?_
 refine OV (.bool (decide (s_l1 < (a0.length : Int)))) rfl (x_lss rfl rfl) ?_
 refine OW.nil ?_
 refine CW.condM (t := decide (s_l1 < (a0.length : Int))) rfl hm (fun hb54 hm => ?_) (fun hb54 hm => ?_)
 · refine CW.skip ?_
   refine CW.seq ?_
   refine CW.block ?_
   refine CW.seq ?_
   refine CW.draw Try_mixed ?_
   have hL := hL.call (Mod.drew _)
   refine DW.pre (fuel := 0) (fin := bma 9 511) (C := fun w' => Mod None_ _ w') [0, 1, 2, 3, 4, 5, 6, 7, 8] (Mod.refl _ _) (by kernel_rfl) (by kernel_rfl) ?_
   refine QW.cons rfl (QP.val (v := v1) rfl (fun w' hm' => x_mv f51) ?_)
   refine QW.cons rfl (QP.val (v := (.int .i64 s_l1)) rfl (fun w' hm' => x_mv f53) ?_)
   obtain ⟨x55, ha56, hm⟩ := bndE hm
   obtain ⟨hz57, ha61⟩ := idxE ha56
   obtain ⟨b58, q59, hix60⟩ := rdL_ix (hL.rdS 0 rfl h2) hz57 ha61
   refine QW.cons rfl (QP.val (v := (.pointer (some ⟨b58, q59, none⟩))) rfl (fun w' hm' => x_ix U25 Try_T2 rfl rfl hix60) ?_)
   refine QW.cons rfl (QP.val (v := (.int .i64 x55)) rfl (fun w' hm' => x_load1 U2 rfl rfl (rdF_cells ((hL.call hm').rdS 0 rfl h2) hix60 ha61 0 _ rfl)) ?_)
   refine QW.cons rfl (QP.val (v := v3) rfl (fun w' hm' => x_mv f52) ?_)
   refine QW.cons rfl (QP.val (v := (.int .i64 s_l1)) rfl (fun w' hm' => x_mv f53) ?_)
   obtain ⟨x62, ha63, hm⟩ := bndE hm
   obtain ⟨hz64, ha68⟩ := idxE ha63
   obtain ⟨b65, q66, hix67⟩ := rdL_ix (hL.rdS 0 rfl h4) hz64 ha68
   refine QW.cons rfl (QP.val (v := (.pointer (some ⟨b65, q66, none⟩))) rfl (fun w' hm' => x_ix U25 Try_T2 rfl rfl hix67) ?_)
   refine QW.cons rfl (QP.val (v := (.int .i64 x62)) rfl (fun w' hm' => x_load1 U2 rfl rfl (rdF_cells ((hL.call hm').rdS 0 rfl h4) hix67 ha68 0 _ rfl)) ?_)
   refine QW.cons rfl (QP.val (v := (.bool (x55 != x62))) rfl (fun w' hm' => x_neq rfl rfl) ?_)
   refine QW.nil ?_
   intro wd69 hmod
   have hL := hL.call hmod
   refine DW.done (by kernel_rfl) ?_
   refine CW.condM (t := x55 != x62) rfl hm (fun hb70 hm => ?_) (fun hb70 hm => ?_)
   · refine CSR ?_
     refine OV (.bool false) rfl (x_assign) ?_
     refine OW.nil ?_
     refine CW.ret ?_
     obtain rfl := Option.some.inj hm
     have hm := hr41 _ rfl
     obtain rfl := Option.some.inj hm
     exact RR1 rfl rfl ⟨rfl, hL.fresh 0 rfl [] (by decide) (by decide) rfl⟩
   refine CW.skip ?_
   refine CW.regionL ?_
   refine OV (.int .i64 s_l1) rfl (x_mv f53) ?_
   refine OV (.int .i64 (w64 (s_l1 + 1))) rfl (x_add rfl rfl) ?_
   refine OV (.int .i64 (w64 (s_l1 + 1))) rfl (x_assign) ?_
   refine OW.nil ?_
   obtain rfl := Option.some.inj hm
   exact ⟨_, rfl, ⟨f51, f52, rfl, hL⟩⟩
 refine CW.exit ?_
 refine XJ.hit ?_
 obtain rfl := Option.some.inj hm
 exact ⟨_, rfl, ⟨f51, f52, f53, hL⟩⟩

theorem M.laws_eqInt64SS_ok (w0 : World) (a0 : List (List Int)) {v1 : Value} (h2 : rdL (· < w0.heap.size) w0 v1 a0) (a1 : List (List Int)) {v3 : Value} (h4 : rdL (· < w0.heap.size) w0 v3 a1) {r : Bool} (hm : M.laws_eqInt64SS a0 a1 = some r) :
    Calls Try.prog 33 #[v1, v3] w0 fun e w' => e = .returned (.bool r) ∧ Fresh w0 w' [] := by
 unfold M.laws_eqInt64SS at hm
 refine calls_CW (args := [v1, v3]) Try.func33 rfl rfl rfl ?_
 have hL := Hp.start w0
 refine CSR ?_
 refine OV (.bool false) rfl (x_assign) ?_
 refine ONS ?_
 refine CSR ?_
 refine OV v1 rfl (x_move) ?_
 refine OV (.int .i64 (a0.length : Int)) rfl (x_lenR U22 rfl (hL.rdS 0 rfl h2)) ?_
 refine OV v3 rfl (x_move) ?_
 refine OV (.int .i64 (a1.length : Int)) rfl (x_lenR U22 rfl (hL.rdS 0 rfl h4)) ?_
 refine OV (.bool ((a0.length : Int) != (a1.length : Int))) rfl (x_neq rfl rfl) ?_
 refine OW.nil ?_
 refine CW.condM (t := (a0.length : Int) != (a1.length : Int)) rfl hm (fun hb5 hm => ?_) (fun hb5 hm => ?_)
 · refine CSR ?_
   refine OV (.bool false) rfl (x_assign) ?_
   refine OW.nil ?_
   refine CW.ret ?_
   obtain rfl := Option.some.inj hm
   exact RR1 rfl rfl ⟨rfl, hL.fresh 0 rfl [] (by decide) (by decide) rfl⟩
 refine CW.skip ?_
 refine CW.seq ?_
 refine CSR ?_
 refine OV (.int .i64 0) rfl (x_assign) ?_
 refine OW.nil ?_
 obtain ⟨o62, ho63, hm⟩ := bndE hm
 refine CW.loopB (fun (s_l1 : Int) (F : Fr) (w : World) => F 0 = v1 ∧ F 1 = v3 ∧ F 5 = (.int .i64 s_l1) ∧ Hp w0 [Ent.snap w0 w0.heap.size] w) (fun o => outc o (fun x => some x) (fun s => M.laws_eqInt64SS_a1 s) = some r) ho63 hm ⟨rfl, rfl, rfl, hL⟩ ?_ ?_
 · intro s_l1 F64 wd65 hJ hm
   have hm := outcE hm
   have hm : M.laws_eqInt64SS_a1 s_l1 = some r := hm
   unfold M.laws_eqInt64SS_a1 at hm
   obtain ⟨f66, f67, f68, hL⟩ := hJ
   refine CSR ?_
   refine OV (.bool true) rfl (x_assign) ?_
   refine OW.nil ?_
   refine CW.ret ?_
   obtain rfl := Option.some.inj hm
   exact RR1 rfl rfl ⟨rfl, hL.fresh 0 rfl [] (by decide) (by decide) rfl⟩
 intro s_l1 F69 wd70 t60 hJ hm hr61
 unfold M.laws_eqInt64SS_l1 at hm
 obtain ⟨f71, f72, f73, hL⟩ := hJ
 refine CW.seq ?_
 refine CSR ?_
 refine OV (.int .i64 s_l1) rfl (x_mv f73) ?_
 refine OV v1 rfl (x_mv f71) ?_
 refine OV (.int .i64 (a0.length : Int)) rfl (x_lenR U22 rfl (hL.rdS 0 rfl h2)) ?_
 refine OV (.bool (decide (s_l1 < (a0.length : Int)))) rfl (x_lss rfl rfl) ?_
 refine OW.nil ?_
 refine CW.condM (t := decide (s_l1 < (a0.length : Int))) rfl hm (fun hb74 hm => ?_) (fun hb74 hm => ?_)
 · refine CW.skip ?_
   refine CW.seq ?_
   refine CW.block ?_
   refine CW.seq ?_
   refine CW.draw Try_mixed ?_
   have hL := hL.call (Mod.drew _)
   refine DW.pre (fuel := 0) (fin := bma 10 1023) (C := fun w' => Mod None_ _ w') [0, 1, 2, 3, 4, 5, 6, 7, 8, 9] (Mod.refl _ _) (by kernel_rfl) (by kernel_rfl) ?_
   refine QW.cons rfl (QP.val (v := v1) rfl (fun w' hm' => x_mv f71) ?_)
   refine QW.cons rfl (QP.val (v := (.int .i64 s_l1)) rfl (fun w' hm' => x_mv f73) ?_)
   obtain ⟨x75, ha76, hm⟩ := bndE hm
   obtain ⟨hz77, ha85⟩ := idxE ha76
   obtain ⟨b78, q79, v80, hix81, hs82, hc83, hr84⟩ := rdN_at h2 hz77 ha85
   refine QW.cons rfl (QP.val (v := (.pointer (some ⟨b78, q79, none⟩))) rfl (fun w' hm' => x_ix U22 Try_T25 rfl rfl hix81) ?_)
   refine QW.cons rfl (QP.val (v := v80) rfl (fun w' hm' => x_load1 U25 rfl rfl ((hL.call hm').cellS 0 rfl hs82 hc83)) ?_)
   refine QW.cons rfl (QP.val (v := v3) rfl (fun w' hm' => x_mv f72) ?_)
   refine QW.cons rfl (QP.val (v := (.int .i64 s_l1)) rfl (fun w' hm' => x_mv f73) ?_)
   obtain ⟨x86, ha87, hm⟩ := bndE hm
   obtain ⟨hz88, ha96⟩ := idxE ha87
   obtain ⟨b89, q90, v91, hix92, hs93, hc94, hr95⟩ := rdN_at h4 hz88 ha96
   refine QW.cons rfl (QP.val (v := (.pointer (some ⟨b89, q90, none⟩))) rfl (fun w' hm' => x_ix U22 Try_T25 rfl rfl hix92) ?_)
   refine QW.cons rfl (QP.val (v := v91) rfl (fun w' hm' => x_load1 U25 rfl rfl ((hL.call hm').cellS 0 rfl hs93 hc94)) ?_)
   obtain ⟨x97, hx98, hm⟩ := bndE hm
   refine QW.cons rfl (QP.call (v := (.bool x97)) rfl (fun w' hm' => x_call (vs := [v80, v91]) Try_C19 ⟨rfl, rfl, trivial⟩) (fun w' hm' => (M.laws_eqInt64S_ok w' x75 ((hL.call hm').rdS 0 rfl hr84) x86 ((hL.call hm').rdS 0 rfl hr95) hx98).mono (fun e w'' h => ⟨h.1, hm'.trans h.2.mod⟩)) ?_)
   refine QW.cons rfl (QP.val (v := (.bool (!x97))) rfl (fun w' hm' => x_not rfl) ?_)
   refine QW.nil ?_
   intro wd99 hmod
   have hL := hL.call hmod
   refine DW.done (by kernel_rfl) ?_
   refine CW.condM (t := !x97) rfl hm (fun hb100 hm => ?_) (fun hb100 hm => ?_)
   · refine CSR ?_
     refine OV (.bool false) rfl (x_assign) ?_
     refine OW.nil ?_
     refine CW.ret ?_
     obtain rfl := Option.some.inj hm
     have hm := hr61 _ rfl
     obtain rfl := Option.some.inj hm
     exact RR1 rfl rfl ⟨rfl, hL.fresh 0 rfl [] (by decide) (by decide) rfl⟩
   refine CW.skip ?_
   refine CW.regionL ?_
   refine OV (.int .i64 s_l1) rfl (x_mv f73) ?_
   refine OV (.int .i64 (w64 (s_l1 + 1))) rfl (x_add rfl rfl) ?_
   refine OV (.int .i64 (w64 (s_l1 + 1))) rfl (x_assign) ?_
   refine OW.nil ?_
   obtain rfl := Option.some.inj hm
   exact ⟨_, rfl, ⟨f71, f72, rfl, hL⟩⟩
 refine CW.exit ?_
 refine XJ.hit ?_
 obtain rfl := Option.some.inj hm
 exact ⟨_, rfl, ⟨f71, f72, f73, hL⟩⟩

theorem M.laws_eqTable_ok (w0 : World) (a0 : Table) {v1 : Value} {v3 : Value} (h2 : rdL (· < w0.heap.size) w0 v1 a0.Points) (h4 : rdL (· < w0.heap.size) w0 v3 a0.Codes) (a1 : Table) {v5 : Value} {v7 : Value} (h6 : rdL (· < w0.heap.size) w0 v5 a1.Points) (h8 : rdL (· < w0.heap.size) w0 v7 a1.Codes) {r : Bool} (hm : M.laws_eqTable a0 a1 = some r) :
    Calls Try.prog 18 #[(.agg #[(.int .i64 a0.Boats), v1, v3]), (.agg #[(.int .i64 a1.Boats), v5, v7])] w0 fun e w' => e = .returned (.bool r) ∧ Fresh w0 w' [] := by
 unfold M.laws_eqTable at hm
 refine calls_CW (args := [(.agg #[(.int .i64 a0.Boats), v1, v3]), (.agg #[(.int .i64 a1.Boats), v5, v7])]) Try.func18 rfl rfl rfl ?_
 have hL := Hp.start w0
 refine CSR ?_
 refine OW.cons (S_box (cs := #[(.int .i64 a0.Boats), v1, v3]) hL rfl rfl rfl ?_)
 intro wd9 b10 hL
 refine OW.cons (S_box (cs := #[(.int .i64 a1.Boats), v5, v7]) hL rfl rfl rfl ?_)
 intro wd11 b12 hL
 refine OV (.bool false) rfl (x_assign) ?_
 refine ONS ?_
 refine CSR ?_
 refine OV (.pointer (some ⟨b10, 0, none⟩)) rfl (x_fieldAddr (fsz := 1) 0 0 0 U29 rfl Try_T2 rfl rfl rfl) ?_
 refine OV (.int .i64 a0.Boats) rfl (x_load1 U2 rfl rfl (hL.cellB 1 rfl rfl)) ?_
 refine OV (.pointer (some ⟨b12, 0, none⟩)) rfl (x_fieldAddr (fsz := 1) 0 0 0 U29 rfl Try_T2 rfl rfl rfl) ?_
 refine OV (.int .i64 a1.Boats) rfl (x_load1 U2 rfl rfl (hL.cellB 0 rfl rfl)) ?_
 refine OV (.bool (a0.Boats != a1.Boats)) rfl (x_neq rfl rfl) ?_
 refine OW.nil ?_
 refine CW.condM (t := a0.Boats != a1.Boats) rfl hm (fun hb13 hm => ?_) (fun hb13 hm => ?_)
 · refine CSR ?_
   refine OV (.bool false) rfl (x_assign) ?_
   refine OW.nil ?_
   refine CW.ret ?_
   obtain rfl := Option.some.inj hm
   exact RR1 rfl rfl ⟨rfl, hL.fresh 2 rfl [] (by decide) (by decide) rfl⟩
 refine CW.skip ?_
 refine CW.seq ?_
 refine CSR ?_
 refine OV (.pointer (some ⟨b10, 1, none⟩)) rfl (x_fieldAddr (fsz := 1) 0 1 1 U29 rfl Try_T22 rfl rfl rfl) ?_
 refine OV v1 rfl (x_load1 U22 rfl rfl (hL.cellB 1 rfl rfl)) ?_
 refine OV (.pointer (some ⟨b12, 1, none⟩)) rfl (x_fieldAddr (fsz := 1) 0 1 1 U29 rfl Try_T22 rfl rfl rfl) ?_
 refine OV v5 rfl (x_load1 U22 rfl rfl (hL.cellB 0 rfl rfl)) ?_
 obtain ⟨x14, hx15, hm⟩ := bndE hm
 refine OW.cons (OP.call rfl (x_call (vs := [v1, v5]) Try_C33 ⟨rfl, rfl, trivial⟩) (M.laws_eqInt64SS_ok _ a0.Points (hL.rdS 2 rfl h2) a1.Points (hL.rdS 2 rfl h6) hx15) ?_)
 rintro e16 wd17 ⟨rfl, hF18⟩
 refine ⟨_, rfl, ?_⟩
 have hL := hL.pushAll hF18
 simp only [lA, lB, lC, lD] at hL
 refine OV (.bool (!x14)) rfl (x_not rfl) ?_
 refine OW.nil ?_
 refine CW.condM (t := !x14) rfl hm (fun hb19 hm => ?_) (fun hb19 hm => ?_)
 · refine CSR ?_
   refine OV (.bool false) rfl (x_assign) ?_
   refine OW.nil ?_
   refine CW.ret ?_
   obtain rfl := Option.some.inj hm
   exact RR1 rfl rfl ⟨rfl, hL.fresh 2 rfl [] (by decide) (by decide) rfl⟩
 refine CW.skip ?_
 refine CW.seq ?_
 refine CSR ?_
 refine OV (.pointer (some ⟨b10, 2, none⟩)) rfl (x_fieldAddr (fsz := 1) 0 2 2 U29 rfl Try_T22 rfl rfl rfl) ?_
 refine OV v3 rfl (x_load1 U22 rfl rfl (hL.cellB 1 rfl rfl)) ?_
 refine OV (.pointer (some ⟨b12, 2, none⟩)) rfl (x_fieldAddr (fsz := 1) 0 2 2 U29 rfl Try_T22 rfl rfl rfl) ?_
 refine OV v7 rfl (x_load1 U22 rfl rfl (hL.cellB 0 rfl rfl)) ?_
 obtain ⟨x20, hx21, hm⟩ := bndE hm
 refine OW.cons (OP.call rfl (x_call (vs := [v3, v7]) Try_C33 ⟨rfl, rfl, trivial⟩) (M.laws_eqInt64SS_ok _ a0.Codes (hL.rdS 2 rfl h4) a1.Codes (hL.rdS 2 rfl h8) hx21) ?_)
 rintro e22 wd23 ⟨rfl, hF24⟩
 refine ⟨_, rfl, ?_⟩
 have hL := hL.pushAll hF24
 simp only [lA, lB, lC, lD] at hL
 refine OV (.bool (!x20)) rfl (x_not rfl) ?_
 refine OW.nil ?_
 refine CW.condM (t := !x20) rfl hm (fun hb25 hm => ?_) (fun hb25 hm => ?_)
 · refine CSR ?_
   refine OV (.bool false) rfl (x_assign) ?_
   refine OW.nil ?_
   refine CW.ret ?_
   obtain rfl := Option.some.inj hm
   exact RR1 rfl rfl ⟨rfl, hL.fresh 2 rfl [] (by decide) (by decide) rfl⟩
 refine CW.skip ?_
 refine CSR ?_
 refine OV (.bool true) rfl (x_assign) ?_
 refine OW.nil ?_
 refine CW.ret ?_
 obtain rfl := Option.some.inj hm
 exact RR1 rfl rfl ⟨rfl, hL.fresh 2 rfl [] (by decide) (by decide) rfl⟩

theorem M.laws_markInt64S_ok (w0 : World) {E4 : TypeId} {S2 : Nat → Prop} {v1 : Value} (a0 : List Int) (he3 : (Ent.own E4 S2 v1 a0).H w0) (a1 : Int) {r : (Int) × (List Int)} (hm : M.laws_markInt64S a0 a1 = some r) :
    Calls Try.prog 25 #[v1, (.int .i64 a1)] w0 fun e w' => ∃ (ioS : Nat → Prop), e = .returned (.int .i64 r.1) ∧ Mut w0 w' (Ent.own E4 S2 v1 a0).S [Ent.own E4 ioS v1 r.2] := by
 unfold M.laws_markInt64S at hm
 refine calls_CW (args := [v1, (.int .i64 a1)]) Try.func25 rfl rfl rfl ?_
 have hL := Hp.startIO he3
 refine CSR ?_
 refine OV (.int .i64 0) rfl (x_assign) ?_
 refine ONS ?_
 refine CSR ?_
 refine OV (.int .i64 0) rfl (x_assign) ?_
 refine OW.nil ?_
 obtain ⟨o27, ho28, hm⟩ := bndE hm
 refine CW.loopB (fun (s_l1 : (List Int) × Int × Int) (F : Fr) (w : World) => ∃ (S24 : Nat → Prop), F 0 = v1 ∧ F 1 = (.int .i64 s_l1.2.1) ∧ F 5 = (.int .i64 s_l1.2.2) ∧ Hp w0 [Ent.own E4 S24 v1 s_l1.1, Ent.frz w0 (Ent.own E4 S2 v1 a0).S] w) (fun o => outc o (fun x => some x) (fun s => M.laws_markInt64S_a1 s) = some r) ho28 hm ⟨S2, rfl, rfl, rfl, hL⟩ ?_ ?_
 · intro s_l1 F29 wd30 hJ hm
   have hm := outcE hm
   have hm : M.laws_markInt64S_a1 s_l1 = some r := hm
   unfold M.laws_markInt64S_a1 at hm
   obtain ⟨S24, f31, f32, f33, hL⟩ := hJ
   refine CSR ?_
   refine OV (.int .i64 s_l1.2.1) rfl (x_mv f32) ?_
   refine OV (.int .i64 s_l1.2.1) rfl (x_assign) ?_
   refine OW.nil ?_
   refine CW.ret ?_
   obtain rfl := Option.some.inj hm
   exact RR1 rfl rfl ⟨S24, rfl, hL.mutOut 1 rfl [0] (by decide) (by decide) rfl⟩
 intro s_l1 F34 wd35 t25 hJ hm hr26
 unfold M.laws_markInt64S_l1 at hm
 obtain ⟨S24, f36, f37, f38, hL⟩ := hJ
 refine CW.seq ?_
 refine CSR ?_
 refine OV (.int .i64 s_l1.2.2) rfl (x_mv f38) ?_
 refine OV v1 rfl (x_mv f36) ?_
 refine OV (.int .i64 (s_l1.1.length : Int)) rfl (x_lenR U25 rfl (hL.rdO 0 rfl)) ?_
 refine OV (.bool (decide (s_l1.2.2 < (s_l1.1.length : Int)))) rfl (x_lss rfl rfl) ?_
 refine OW.nil ?_
 refine CW.condM (t := decide (s_l1.2.2 < (s_l1.1.length : Int))) rfl hm (fun hb39 hm => ?_) (fun hb39 hm => ?_)
 · refine CW.skip ?_
   refine CW.seq ?_
   refine CW.block ?_
   refine CSR ?_
   refine OV v1 rfl (x_mv f36) ?_
   refine OV (.int .i64 s_l1.2.2) rfl (x_mv f38) ?_
   refine OV (.int .i64 s_l1.2.1) rfl (x_mv f37) ?_
   obtain ⟨x40, ha41, hm⟩ := bndE hm
   obtain ⟨hz42, ha46⟩ := idxE ha41
   obtain ⟨b43, q44, hix45⟩ := rdL_ix (hL.rdO 0 rfl) hz42 ha46
   refine OV (.pointer (some ⟨b43, q44, none⟩)) rfl (x_ix U25 Try_T2 rfl rfl hix45) ?_
   refine OW.cons (S_storeX (j := 0) s_l1.2.1 hL 0 rfl Try_T2 hix45 ha46 rfl rfl rfl rfl rfl rfl ?_)
   intro wd47 hL
   refine OW.nil ?_
   refine CW.regionL ?_
   refine OV (.int .i64 s_l1.2.1) rfl (x_mv f37) ?_
   refine OV (.int .i64 (w64 (s_l1.2.1 + 1))) rfl (x_add rfl rfl) ?_
   refine OV (.int .i64 (w64 (s_l1.2.1 + 1))) rfl (x_assign) ?_
   refine OW.nil ?_
   refine CW.regionL ?_
   refine OV (.int .i64 s_l1.2.2) rfl (x_mv f38) ?_
   refine OV (.int .i64 (w64 (s_l1.2.2 + 1))) rfl (x_add rfl rfl) ?_
   refine OV (.int .i64 (w64 (s_l1.2.2 + 1))) rfl (x_assign) ?_
   refine OW.nil ?_
   obtain rfl := Option.some.inj hm
   exact ⟨_, rfl, ⟨S24, f36, rfl, rfl, hL⟩⟩
 refine CW.exit ?_
 refine XJ.hit ?_
 obtain rfl := Option.some.inj hm
 exact ⟨_, rfl, ⟨S24, f36, f37, f38, hL⟩⟩

theorem M.laws_markInt64SS_ok (w0 : World) {E4 : TypeId} {S2 : Nat → Prop} {v1 : Value} (a0 : List (List Int)) (he3 : (Ent.own E4 S2 v1 a0).H w0) (a1 : Int) {r : (Int) × (List (List Int))} (hm : M.laws_markInt64SS a0 a1 = some r) :
    Calls Try.prog 34 #[v1, (.int .i64 a1)] w0 fun e w' => ∃ (ioS : Nat → Prop), e = .returned (.int .i64 r.1) ∧ Mut w0 w' (Ent.own E4 S2 v1 a0).S [Ent.own E4 ioS v1 r.2] := by
 unfold M.laws_markInt64SS at hm
 refine calls_CW (args := [v1, (.int .i64 a1)]) Try.func34 rfl rfl rfl ?_
 have hL := Hp.startIO he3
 refine CSR ?_
 refine OV (.int .i64 0) rfl (x_assign) ?_
 refine ONS ?_
 refine CSR ?_
 refine OV (.int .i64 0) rfl (x_assign) ?_
 refine OW.nil ?_
 obtain ⟨o61, ho62, hm⟩ := bndE hm
 refine CW.loopB (fun (s_l1 : (List (List Int)) × Int × Int) (F : Fr) (w : World) => ∃ (S58 : Nat → Prop), F 0 = v1 ∧ F 1 = (.int .i64 s_l1.2.1) ∧ F 5 = (.int .i64 s_l1.2.2) ∧ Hp w0 [Ent.own E4 S58 v1 s_l1.1, Ent.frz w0 (Ent.own E4 S2 v1 a0).S] w) (fun o => outc o (fun x => some x) (fun s => M.laws_markInt64SS_a1 s) = some r) ho62 hm ⟨S2, rfl, rfl, rfl, hL⟩ ?_ ?_
 · intro s_l1 F63 wd64 hJ hm
   have hm := outcE hm
   have hm : M.laws_markInt64SS_a1 s_l1 = some r := hm
   unfold M.laws_markInt64SS_a1 at hm
   obtain ⟨S58, f65, f66, f67, hL⟩ := hJ
   refine CSR ?_
   refine OV (.int .i64 s_l1.2.1) rfl (x_mv f66) ?_
   refine OV (.int .i64 s_l1.2.1) rfl (x_assign) ?_
   refine OW.nil ?_
   refine CW.ret ?_
   obtain rfl := Option.some.inj hm
   exact RR1 rfl rfl ⟨S58, rfl, hL.mutOut 1 rfl [0] (by decide) (by decide) rfl⟩
 intro s_l1 F68 wd69 t59 hJ hm hr60
 unfold M.laws_markInt64SS_l1 at hm
 obtain ⟨S58, f70, f71, f72, hL⟩ := hJ
 refine CW.seq ?_
 refine CSR ?_
 refine OV (.int .i64 s_l1.2.2) rfl (x_mv f72) ?_
 refine OV v1 rfl (x_mv f70) ?_
 refine OV (.int .i64 (s_l1.1.length : Int)) rfl (x_lenR U22 rfl (hL.rdO 0 rfl)) ?_
 refine OV (.bool (decide (s_l1.2.2 < (s_l1.1.length : Int)))) rfl (x_lss rfl rfl) ?_
 refine OW.nil ?_
 refine CW.condM (t := decide (s_l1.2.2 < (s_l1.1.length : Int))) rfl hm (fun hb73 hm => ?_) (fun hb73 hm => ?_)
 · refine CW.skip ?_
   refine CW.seq ?_
   refine CW.block ?_
   refine CW.regionL ?_
   refine OV v1 rfl (x_mv f70) ?_
   refine OV (.int .i64 s_l1.2.2) rfl (x_mv f72) ?_
   obtain ⟨wz74, hL, ho75⟩ := hL.freeze 0 rfl
   simp only [lC, lD] at hL
   obtain ⟨x76, ha77, hm⟩ := bndE hm
   obtain ⟨hz78, ha86⟩ := idxE ha77
   obtain ⟨b79, q80, v81, hix82, hs83, hc84, hr85⟩ := rdN_at ho75.1.rdL hz78 ha86
   refine OV (.pointer (some ⟨b79, q80, none⟩)) rfl (x_ix U22 Try_T25 rfl rfl hix82) ?_
   refine OV v81 rfl (x_load1 U25 rfl rfl (hL.cellF 0 rfl hs83 hc84)) ?_
   refine OV (.int .i64 s_l1.2.1) rfl (x_mv f71) ?_
   have hc87 := hL.cellF 0 rfl hs83 hc84
   have hL := hL.thaw 0 rfl ho75
   simp only [lC, lD] at hL
   obtain ⟨E88, S89, hp90, hb91⟩ := hL.partR (α := Int) 0 rfl hix82 ha86 hc87
   obtain ⟨x92, hx93, hm⟩ := bndE hm
   refine OW.cons (OP.call rfl (x_call (vs := [v81, (.int .i64 s_l1.2.1)]) Try_C25 ⟨rfl, rfl, trivial⟩) (M.laws_markInt64S_ok _ x76 hp90 s_l1.2.1 hx93) ?_)
   rintro e94 wd95 ⟨S97, rfl, hF96⟩
   refine ⟨_, rfl, ?_⟩
   obtain ⟨S98, hL⟩ := hb91 _ _ _ _ x92.2 hF96 rfl
   simp only [lB, lC, lD] at hL
   refine OV (.int .i64 x92.1) rfl (x_assign) ?_
   refine OW.nil ?_
   refine CW.regionL ?_
   refine OV (.int .i64 s_l1.2.2) rfl (x_mv f72) ?_
   refine OV (.int .i64 (w64 (s_l1.2.2 + 1))) rfl (x_add rfl rfl) ?_
   refine OV (.int .i64 (w64 (s_l1.2.2 + 1))) rfl (x_assign) ?_
   refine OW.nil ?_
   obtain rfl := Option.some.inj hm
   exact ⟨_, rfl, ⟨S98, f70, rfl, rfl, hL⟩⟩
 refine CW.exit ?_
 refine XJ.hit ?_
 obtain rfl := Option.some.inj hm
 exact ⟨_, rfl, ⟨S58, f70, f71, f72, hL⟩⟩

theorem M.laws_markTable_ok (w0 : World) {E3 : TypeId} {S2 : Nat → Prop} {v1 : Value} {E6 : TypeId} {S5 : Nat → Prop} {v4 : Value} (a0 : Table) (he7 : (Ent.pair (Ent.own E3 S2 v1 a0.Points) (Ent.own E6 S5 v4 a0.Codes)).H w0) (a1 : Int) {r : (Int) × Table} (hm : M.laws_markTable a0 a1 = some r) :
    Calls Try.prog 24 #[(.agg #[(.int .i64 a0.Boats), v1, v4]), (.int .i64 a1)] w0 fun e w' => ∃ (ioS0 : Nat → Prop), ∃ (ioS1 : Nat → Prop), e = .returned (.int .i64 r.1) ∧ Mut w0 w' (Ent.pair (Ent.own E3 S2 v1 a0.Points) (Ent.own E6 S5 v4 a0.Codes)).S [Ent.pair (Ent.own E3 ioS0 v1 r.2.Points) (Ent.own E6 ioS1 v4 r.2.Codes)] := by
 unfold M.laws_markTable at hm
 refine calls_CW (args := [(.agg #[(.int .i64 a0.Boats), v1, v4]), (.int .i64 a1)]) Try.func24 rfl rfl rfl ?_
 have hL := (Hp.startIO he7).split2
 refine CSR ?_
 refine OW.cons (S_box (cs := #[(.int .i64 a0.Boats), v1, v4]) hL rfl rfl rfl ?_)
 intro wd8 b9 hL
 refine OV (.int .i64 0) rfl (x_assign) ?_
 refine ONR ?_
 refine OV (.pointer (some ⟨b9, 1, none⟩)) rfl (x_fieldAddr (fsz := 1) 0 1 1 U29 rfl Try_T22 rfl rfl rfl) ?_
 refine OV v1 rfl (x_load1 U22 rfl rfl (hL.cellB 0 rfl rfl)) ?_
 refine OV (.int .i64 a1) rfl (x_move) ?_
 obtain ⟨x10, hx11, hm⟩ := bndE hm
 refine OW.cons (OP.call rfl (x_call (vs := [v1, (.int .i64 a1)]) Try_C34 ⟨rfl, rfl, trivial⟩) (M.laws_markInt64SS_ok _ a0.Points (hL.get 1 rfl) a1 hx11) ?_)
 rintro e12 wd13 ⟨S15, rfl, hF14⟩
 refine ⟨_, rfl, ?_⟩
 have hL := hL.mut 1 rfl hF14
 simp only [lA, lB, lC, lD] at hL
 refine OV (.int .i64 x10.1) rfl (x_assign) ?_
 refine ONR ?_
 refine OV (.pointer (some ⟨b9, 2, none⟩)) rfl (x_fieldAddr (fsz := 1) 0 2 2 U29 rfl Try_T22 rfl rfl rfl) ?_
 refine OV v4 rfl (x_load1 U22 rfl rfl (hL.cellB 0 rfl rfl)) ?_
 refine OV (.int .i64 x10.1) rfl (x_move) ?_
 obtain ⟨x16, hx17, hm⟩ := bndE hm
 refine OW.cons (OP.call rfl (x_call (vs := [v4, (.int .i64 x10.1)]) Try_C34 ⟨rfl, rfl, trivial⟩) (M.laws_markInt64SS_ok _ a0.Codes (hL.get 2 rfl) x10.1 hx17) ?_)
 rintro e18 wd19 ⟨S21, rfl, hF20⟩
 refine ⟨_, rfl, ?_⟩
 have hL := hL.mut 2 rfl hF20
 simp only [lA, lB, lC, lD] at hL
 refine OV (.int .i64 x16.1) rfl (x_assign) ?_
 refine ONR ?_
 refine OV (.int .i64 x16.1) rfl (x_move) ?_
 refine OV (.int .i64 x16.1) rfl (x_assign) ?_
 refine OW.nil ?_
 refine CW.ret ?_
 have hL := hL.sel [1, 2, 0, 3] (by decide) rfl
 have hL := hL.join2
 obtain rfl := Option.some.inj hm
 exact RR1 rfl rfl ⟨S15, S21, rfl, hL.mutOut 2 rfl [0] (by decide) (by decide) rfl⟩

theorem M.laws_heldInt64S_ok (w0 : World) (a0 : List Int) {v1 : Value} (h2 : rdL (· < w0.heap.size) w0 v1 a0) (a1 : Int) {r : Int} (hm : M.laws_heldInt64S a0 a1 = some r) :
    Calls Try.prog 26 #[v1, (.int .i64 a1)] w0 fun e w' => e = .returned (.int .i64 r) ∧ Fresh w0 w' [] := by
 unfold M.laws_heldInt64S at hm
 refine calls_CW (args := [v1, (.int .i64 a1)]) Try.func26 rfl rfl rfl ?_
 have hL := Hp.start w0
 refine CSR ?_
 refine OV (.int .i64 0) rfl (x_assign) ?_
 refine ONS ?_
 refine CSR ?_
 refine OV (.int .i64 0) rfl (x_assign) ?_
 refine OW.nil ?_
 obtain ⟨o23, ho24, hm⟩ := bndE hm
 refine CW.loopB (fun (s_l1 : Int × Int) (F : Fr) (w : World) => F 0 = v1 ∧ F 1 = (.int .i64 s_l1.1) ∧ F 5 = (.int .i64 s_l1.2) ∧ Hp w0 [Ent.snap w0 w0.heap.size] w) (fun o => outc o (fun x => some x) (fun s => M.laws_heldInt64S_a1 s) = some r) ho24 hm ⟨rfl, rfl, rfl, hL⟩ ?_ ?_
 · intro s_l1 F25 wd26 hJ hm
   have hm := outcE hm
   have hm : M.laws_heldInt64S_a1 s_l1 = some r := hm
   unfold M.laws_heldInt64S_a1 at hm
   obtain ⟨f27, f28, f29, hL⟩ := hJ
   refine CSR ?_
   refine OV (.int .i64 s_l1.1) rfl (x_mv f28) ?_
   refine OV (.int .i64 s_l1.1) rfl (x_assign) ?_
   refine OW.nil ?_
   refine CW.ret ?_
   obtain rfl := Option.some.inj hm
   exact RR1 rfl rfl ⟨rfl, hL.fresh 0 rfl [] (by decide) (by decide) rfl⟩
 intro s_l1 F30 wd31 t21 hJ hm hr22
 unfold M.laws_heldInt64S_l1 at hm
 obtain ⟨f32, f33, f34, hL⟩ := hJ
 refine CW.seq ?_
 refine CSR ?_
 refine OV (.int .i64 s_l1.2) rfl (x_mv f34) ?_
 refine OV v1 rfl (x_mv f32) ?_
 refine OV (.int .i64 (a0.length : Int)) rfl (x_lenR U25 rfl (hL.rdS 0 rfl h2)) ?_
 refine OV (.bool (decide (s_l1.2 < (a0.length : Int)))) rfl (x_lss rfl rfl) ?_
 refine OW.nil ?_
 refine CW.condM (t := decide (s_l1.2 < (a0.length : Int))) rfl hm (fun hb35 hm => ?_) (fun hb35 hm => ?_)
 · refine CW.skip ?_
   refine CW.seq ?_
   refine CW.block ?_
   refine CW.seq ?_
   refine CSR ?_
   refine OV v1 rfl (x_mv f32) ?_
   refine OV (.int .i64 s_l1.2) rfl (x_mv f34) ?_
   obtain ⟨x36, ha37, hm⟩ := bndE hm
   obtain ⟨hz38, ha42⟩ := idxE ha37
   obtain ⟨b39, q40, hix41⟩ := rdL_ix (hL.rdS 0 rfl h2) hz38 ha42
   refine OV (.pointer (some ⟨b39, q40, none⟩)) rfl (x_ix U25 Try_T2 rfl rfl hix41) ?_
   refine OV (.int .i64 x36) rfl (x_load1 U2 rfl rfl (rdF_cells (hL.rdS 0 rfl h2) hix41 ha42 0 _ rfl)) ?_
   refine OV (.int .i64 s_l1.1) rfl (x_mv f33) ?_
   refine OV (.bool (x36 != s_l1.1)) rfl (x_neq rfl rfl) ?_
   refine OW.nil ?_
   refine CW.condM (t := x36 != s_l1.1) rfl hm (fun hb43 hm => ?_) (fun hb43 hm => ?_)
   · refine CSR ?_
     refine OV (.int .i64 (-1)) rfl (x_assign) ?_
     refine OW.nil ?_
     refine CW.ret ?_
     obtain rfl := Option.some.inj hm
     have hm := hr22 _ rfl
     obtain rfl := Option.some.inj hm
     exact RR1 rfl rfl ⟨rfl, hL.fresh 0 rfl [] (by decide) (by decide) rfl⟩
   refine CW.skip ?_
   refine CW.regionL ?_
   refine OV (.int .i64 s_l1.1) rfl (x_mv f33) ?_
   refine OV (.int .i64 (w64 (s_l1.1 + 1))) rfl (x_add rfl rfl) ?_
   refine OV (.int .i64 (w64 (s_l1.1 + 1))) rfl (x_assign) ?_
   refine OW.nil ?_
   refine CW.regionL ?_
   refine OV (.int .i64 s_l1.2) rfl (x_mv f34) ?_
   refine OV (.int .i64 (w64 (s_l1.2 + 1))) rfl (x_add rfl rfl) ?_
   refine OV (.int .i64 (w64 (s_l1.2 + 1))) rfl (x_assign) ?_
   refine OW.nil ?_
   obtain rfl := Option.some.inj hm
   exact ⟨_, rfl, ⟨f32, rfl, rfl, hL⟩⟩
 refine CW.exit ?_
 refine XJ.hit ?_
 obtain rfl := Option.some.inj hm
 exact ⟨_, rfl, ⟨f32, f33, f34, hL⟩⟩

theorem M.spec_NetScores_ok (w0 : World) (a0 : Table) {v1 : Value} {v3 : Value} (h2 : rdL (· < w0.heap.size) w0 v1 a0.Points) (h4 : rdL (· < w0.heap.size) w0 v3 a0.Codes) (a1 : List Int) {v5 : Value} (h6 : rdL (· < w0.heap.size) w0 v5 a1) {r : (List Int) × Int} (hm : M.spec_NetScores a0 a1 = some r) :
    Calls Try.prog 47 #[(.agg #[(.int .i64 a0.Boats), v1, v3]), v5] w0 fun e w' => ∃ (rv0 : Value) (rS0 : Nat → Prop), e = .returned (.tuple #[rv0, (.int .i64 r.2)]) ∧ Fresh w0 w' [Ent.own 2 rS0 rv0 r.1] := by
 unfold M.spec_NetScores at hm
 refine calls_CW (args := [(.agg #[(.int .i64 a0.Boats), v1, v3]), v5]) Try.func47 rfl rfl rfl ?_
 have hL := Hp.start w0
 refine CSR ?_
 refine OW.cons (S_box (cs := #[(.int .i64 a0.Boats), v1, v3]) hL rfl rfl rfl ?_)
 intro wd7 b8 hL
 refine OV (.slice none 0 0) rfl (x_assign) ?_
 refine OV (.int .i64 0) rfl (x_assign) ?_
 refine ONR ?_
 refine OV (.agg #[(.int .i64 a0.Boats), v1, v3]) rfl (x_loadN (cs := [(.int .i64 a0.Boats), v1, v3]) U29 Try_T29 rfl rfl (hL.cellsB 0 rfl (o := 0) (l := [(.int .i64 a0.Boats), v1, v3]) (by intro j u hj; exact (by simpa using hj)))) ?_
 refine OV v5 rfl (x_move) ?_
 obtain ⟨x9, hx10, hm⟩ := bndE hm
 refine OW.cons (OP.call rfl (x_call (vs := [(.agg #[(.int .i64 a0.Boats), v1, v3]), v5, (.int .i64 0)]) Try_C63 ⟨rfl, rfl, rfl, trivial⟩) (M.spec_l27Code_ok _ a0 (hL.rdS 1 rfl h2) (hL.rdS 1 rfl h4) a1 (hL.rdS 1 rfl h6) 0 hx10) ?_)
 rintro e11 wd12 ⟨rfl, hF13⟩
 refine ⟨_, rfl, ?_⟩
 have hL := hL.pushAll hF13
 simp only [lA, lB, lC, lD] at hL
 refine OV (.int .i64 x9) rfl (x_assign) ?_
 refine ONS ?_
 refine CSR ?_
 refine OV (.int .i64 x9) rfl (x_move) ?_
 refine OV (.bool (x9 != 0)) rfl (x_neq rfl rfl) ?_
 refine OW.nil ?_
 refine CW.condM (t := x9 != 0) rfl hm (fun hb14 hm => ?_) (fun hb14 hm => ?_)
 · refine CSR ?_
   refine OV (.int .i64 x9) rfl (x_move) ?_
   refine OV (.slice none 0 0) rfl (x_assign) ?_
   refine OV (.int .i64 x9) rfl (x_assign) ?_
   refine OW.nil ?_
   refine CW.ret ?_
   have hL := hL.pushNil Int 2
   obtain rfl := Option.some.inj hm
   exact RR2 rfl rfl rfl ⟨(.slice none 0 0), None_, rfl, hL.fresh 2 rfl [0] (by decide) (by decide) rfl⟩
 refine CW.skip ?_
 refine CSR ?_
 refine OW.cons (S_lit ([] : List Int) hL U25 Try_T2 rfl (by decide) (by first | (simp [Instr.fill, madeCells, Value.cells, ev, upd, Flat.enc, Flat.sz]; done) | rfl | kernel_rfl) rfl rfl ?_)
 intro wd15 v16 S17 hL
 refine OV v16 rfl (x_assign) ?_
 refine ONS ?_
 refine CSR ?_
 refine OV (.int .i64 0) rfl (x_assign) ?_
 refine OW.nil ?_
 obtain ⟨o64, ho65, hm⟩ := bndE hm
 refine CW.loopB (fun (s_l1 : (List Int) × Int) (F : Fr) (w : World) => ∃ (v60 : Value) (S61 : Nat → Prop), F 1 = v5 ∧ F 2 = (.pointer (some ⟨b8, 0, none⟩)) ∧ F 7 = v60 ∧ F 8 = (.int .i64 s_l1.2) ∧ Hp w0 [Ent.own 2 S61 v60 s_l1.1, Ent.blk b8 29 #[(.int .i64 a0.Boats), v1, v3], Ent.snap w0 w0.heap.size] w) (fun o => outc o (fun x => some x) (fun s => M.spec_NetScores_a1 s) = some r) ho65 hm ⟨v16, S17, rfl, rfl, rfl, rfl, hL⟩ ?_ ?_
 · intro s_l1 F66 wd67 hJ hm
   have hm := outcE hm
   have hm : M.spec_NetScores_a1 s_l1 = some r := hm
   unfold M.spec_NetScores_a1 at hm
   obtain ⟨v60, S61, f68, f69, f70, f71, hL⟩ := hJ
   refine CSR ?_
   refine OV v60 rfl (x_mv f70) ?_
   refine OV v60 rfl (x_assign) ?_
   refine OV (.int .i64 0) rfl (x_assign) ?_
   refine OW.nil ?_
   refine CW.ret ?_
   obtain rfl := Option.some.inj hm
   exact RR2 rfl rfl rfl ⟨v60, S61, rfl, hL.fresh 2 rfl [0] (by decide) (by decide) rfl⟩
 intro s_l1 F72 wd73 t62 hJ hm hr63
 unfold M.spec_NetScores_l1 at hm
 obtain ⟨v60, S61, f74, f75, f76, f77, hL⟩ := hJ
 refine CW.seq ?_
 refine CSR ?_
 refine OV (.int .i64 s_l1.2) rfl (x_mv f77) ?_
 refine OV (.pointer (some ⟨b8, 0, none⟩)) rfl (x_fieldAddr (fsz := 1) 0 0 0 U29 rfl Try_T2 rfl f75 rfl) ?_
 refine OV (.int .i64 a0.Boats) rfl (x_load1 U2 rfl rfl (hL.cellB 1 rfl rfl)) ?_
 refine OV (.bool (decide (s_l1.2 < a0.Boats))) rfl (x_lss rfl rfl) ?_
 refine OW.nil ?_
 refine CW.condM (t := decide (s_l1.2 < a0.Boats)) rfl hm (fun hb78 hm => ?_) (fun hb78 hm => ?_)
 · refine CW.skip ?_
   refine CW.seq ?_
   refine CW.block ?_
   refine CW.regionL ?_
   refine OV v60 rfl (x_mv f76) ?_
   refine OV (.agg #[(.int .i64 a0.Boats), v1, v3]) rfl (x_loadN (cs := [(.int .i64 a0.Boats), v1, v3]) U29 Try_T29 rfl f75 (hL.cellsB 1 rfl (o := 0) (l := [(.int .i64 a0.Boats), v1, v3]) (by intro j u hj; exact (by simpa using hj)))) ?_
   refine OV v5 rfl (x_mv f74) ?_
   refine OV (.int .i64 s_l1.2) rfl (x_mv f77) ?_
   obtain ⟨x79, hx80, hm⟩ := bndE hm
   refine OW.cons (OP.call rfl (x_call (vs := [(.agg #[(.int .i64 a0.Boats), v1, v3]), v5, (.int .i64 s_l1.2)]) Try_C70 ⟨rfl, rfl, rfl, trivial⟩) (M.spec_l27Counted_ok _ a0 (hL.rdS 2 rfl h2) (hL.rdS 2 rfl h4) a1 (hL.rdS 2 rfl h6) s_l1.2 hx80) ?_)
   rintro e83 wd84 ⟨v82, S81, rfl, hF85⟩
   refine ⟨_, rfl, ?_⟩
   have hL := hL.pushAll hF85
   simp only [lA, lB, lC, lD] at hL
   obtain ⟨x86, hx87, hm⟩ := bndE hm
   refine OW.cons (OP.call rfl (x_call (vs := [v82]) Try_C69 ⟨rfl, trivial⟩) (M.spec_l27Sum_ok _ x79 (hL.rdO 0 rfl) hx87) ?_)
   rintro e88 wd89 ⟨rfl, hF90⟩
   refine ⟨_, rfl, ?_⟩
   have hL := hL.pushAll hF90
   simp only [lA, lB, lC, lD] at hL
   refine OW.cons (S_lit ([x86] : List Int) hL U25 Try_T2 rfl (by decide) (by first | (simp [Instr.fill, madeCells, Value.cells, ev, upd, Flat.enc, Flat.sz]; done) | rfl | kernel_rfl) rfl rfl ?_)
   intro wd91 v92 S93 hL
   obtain ⟨hc97, hm⟩ := chkE hm
   refine OW.cons (S_append (ys := ([x86] : List Int)) hL 2 rfl U25 Try_T2 rfl rfl rfl (hL.rdO 0 rfl) hc97 (by decide) rfl ?_)
   intro wd94 v95 S96 hL
   refine OV v95 rfl (x_assign) ?_
   refine OW.nil ?_
   refine CW.regionL ?_
   refine OV (.int .i64 s_l1.2) rfl (x_mv f77) ?_
   refine OV (.int .i64 (w64 (s_l1.2 + 1))) rfl (x_add rfl rfl) ?_
   refine OV (.int .i64 (w64 (s_l1.2 + 1))) rfl (x_assign) ?_
   refine OW.nil ?_
   have hL := hL.sel [2, 3, 4] (by decide) rfl
   obtain rfl := Option.some.inj hm
   exact ⟨_, rfl, ⟨v95, S96, f74, f75, rfl, rfl, hL⟩⟩
 refine CW.exit ?_
 refine XJ.hit ?_
 obtain rfl := Option.some.inj hm
 exact ⟨_, rfl, ⟨v60, S61, f74, f75, f76, f77, hL⟩⟩

theorem M.spec_TiedBoats_ok (w0 : World) (a0 : Table) {v1 : Value} {v3 : Value} (h2 : rdL (· < w0.heap.size) w0 v1 a0.Points) (h4 : rdL (· < w0.heap.size) w0 v3 a0.Codes) (a1 : List Int) {v5 : Value} (h6 : rdL (· < w0.heap.size) w0 v5 a1) {r : (List (List Int)) × Int} (hm : M.spec_TiedBoats a0 a1 = some r) :
    Calls Try.prog 31 #[(.agg #[(.int .i64 a0.Boats), v1, v3]), v5] w0 fun e w' => ∃ (rv0 : Value) (rS0 : Nat → Prop), e = .returned (.tuple #[rv0, (.int .i64 r.2)]) ∧ Fresh w0 w' [Ent.own 25 rS0 rv0 r.1] := by
 unfold M.spec_TiedBoats at hm
 refine calls_CW (args := [(.agg #[(.int .i64 a0.Boats), v1, v3]), v5]) Try.func31 rfl rfl rfl ?_
 have hL := Hp.start w0
 refine CSR ?_
 refine OW.cons (S_box (cs := #[(.int .i64 a0.Boats), v1, v3]) hL rfl rfl rfl ?_)
 intro wd7 b8 hL
 refine OV (.slice none 0 0) rfl (x_assign) ?_
 refine OV (.int .i64 0) rfl (x_assign) ?_
 refine ONR ?_
 refine OV (.agg #[(.int .i64 a0.Boats), v1, v3]) rfl (x_loadN (cs := [(.int .i64 a0.Boats), v1, v3]) U29 Try_T29 rfl rfl (hL.cellsB 0 rfl (o := 0) (l := [(.int .i64 a0.Boats), v1, v3]) (by intro j u hj; exact (by simpa using hj)))) ?_
 refine OV v5 rfl (x_move) ?_
 obtain ⟨x9, hx10, hm⟩ := bndE hm
 refine OW.cons (OP.call rfl (x_call (vs := [(.agg #[(.int .i64 a0.Boats), v1, v3]), v5]) Try_C47 ⟨rfl, rfl, trivial⟩) (M.spec_NetScores_ok _ a0 (hL.rdS 1 rfl h2) (hL.rdS 1 rfl h4) a1 (hL.rdS 1 rfl h6) hx10) ?_)
 rintro e13 wd14 ⟨v12, S11, rfl, hF15⟩
 refine ⟨_, rfl, ?_⟩
 have hL := hL.pushAll hF15
 simp only [lA, lB, lC, lD] at hL
 refine OV (.tuple #[v12, (.int .i64 x9.2)]) rfl (x_move) ?_
 refine OV v12 rfl (x_extract rfl rfl) ?_
 refine OV (.int .i64 x9.2) rfl (x_extract rfl rfl) ?_
 refine OV v12 rfl (x_assign) ?_
 refine OV (.int .i64 x9.2) rfl (x_assign) ?_
 refine ONS ?_
 refine CSR ?_
 refine OV (.int .i64 x9.2) rfl (x_move) ?_
 refine OV (.bool (x9.2 != 0)) rfl (x_neq rfl rfl) ?_
 refine OW.nil ?_
 refine CW.condM (t := x9.2 != 0) rfl hm (fun hb16 hm => ?_) (fun hb16 hm => ?_)
 · refine CSR ?_
   refine OV (.int .i64 x9.2) rfl (x_move) ?_
   refine OV (.slice none 0 0) rfl (x_assign) ?_
   refine OV (.int .i64 x9.2) rfl (x_assign) ?_
   refine OW.nil ?_
   refine CW.ret ?_
   have hL := hL.pushNil (List Int) 25
   obtain rfl := Option.some.inj hm
   exact RR2 rfl rfl rfl ⟨(.slice none 0 0), None_, rfl, hL.fresh 3 rfl [0] (by decide) (by decide) rfl⟩
 refine CW.skip ?_
 refine CSR ?_
 refine OV v12 rfl (x_move) ?_
 obtain ⟨x17, hx18, hm⟩ := bndE hm
 refine OW.cons (OP.call rfl (x_call (vs := [v12]) Try_C72 ⟨rfl, trivial⟩) (M.spec_l28Sorted_ok _ x9.1 (hL.rdO 0 rfl) hx18) ?_)
 rintro e21 wd22 ⟨v20, S19, rfl, hF23⟩
 refine ⟨_, rfl, ?_⟩
 have hL := hL.pushAll hF23
 simp only [lA, lB, lC, lD] at hL
 refine OV v20 rfl (x_assign) ?_
 refine ONR ?_
 refine OW.cons (S_lit0 (α := Int) (List Int) hL U22 Try_T25 rfl ?_)
 intro wd24 v25 S26 hL
 refine OV v25 rfl (x_assign) ?_
 refine ONS ?_
 refine CSR ?_
 refine OV (.int .i64 0) rfl (x_assign) ?_
 refine OW.nil ?_
 obtain ⟨o3753, ho3754, hm⟩ := bndE hm
 refine CW.loopB (fun (s_l1 : (List (List Int)) × Int) (F : Fr) (w : World) => ∃ (v3749 : Value) (S3750 : Nat → Prop), F 2 = (.pointer (some ⟨b8, 0, none⟩)) ∧ F 6 = v12 ∧ F 8 = v20 ∧ F 9 = v3749 ∧ F 10 = (.int .i64 s_l1.2) ∧ Hp w0 [Ent.own 25 S3750 v3749 s_l1.1, Ent.own 2 S19 v20 x17, Ent.own 2 S11 v12 x9.1, Ent.blk b8 29 #[(.int .i64 a0.Boats), v1, v3], Ent.snap w0 w0.heap.size] w) (fun o => outc o (fun x => some x) (fun s => M.spec_TiedBoats_a1 s) = some r) ho3754 hm ⟨v25, S26, rfl, rfl, rfl, rfl, rfl, hL⟩ ?_ ?_
 · intro s_l1 F3755 wd3756 hJ hm
   have hm := outcE hm
   have hm : M.spec_TiedBoats_a1 s_l1 = some r := hm
   unfold M.spec_TiedBoats_a1 at hm
   obtain ⟨v3749, S3750, f3757, f3758, f3759, f3760, f3761, hL⟩ := hJ
   refine CSR ?_
   refine OV v3749 rfl (x_mv f3760) ?_
   refine OV v3749 rfl (x_assign) ?_
   refine OV (.int .i64 0) rfl (x_assign) ?_
   refine OW.nil ?_
   refine CW.ret ?_
   obtain rfl := Option.some.inj hm
   exact RR2 rfl rfl rfl ⟨v3749, S3750, rfl, hL.fresh 4 rfl [0] (by decide) (by decide) rfl⟩
 intro s_l1 F3762 wd3763 t3751 hJ hm hr3752
 unfold M.spec_TiedBoats_l1 at hm
 obtain ⟨v3749, S3750, f3764, f3765, f3766, f3767, f3768, hL⟩ := hJ
 refine CW.seq ?_
 refine CSR ?_
 refine OV (.int .i64 s_l1.2) rfl (x_mv f3768) ?_
 refine OV v20 rfl (x_mv f3766) ?_
 refine OV (.int .i64 (x17.length : Int)) rfl (x_lenR U25 rfl (hL.rdO 1 rfl)) ?_
 refine OV (.bool (decide (s_l1.2 < (x17.length : Int)))) rfl (x_lss rfl rfl) ?_
 refine OW.nil ?_
 refine CW.condM (t := decide (s_l1.2 < (x17.length : Int))) rfl hm (fun hb3769 hm => ?_) (fun hb3769 hm => ?_)
 · refine CW.skip ?_
   refine CW.seqJ (fun (s_j1 : (List (List Int))) (F : Fr) (w : World) => ∃ (v4695 : Value) (S4696 : Nat → Prop), F 2 = (.pointer (some ⟨b8, 0, none⟩)) ∧ F 6 = v12 ∧ F 8 = v20 ∧ F 9 = v4695 ∧ F 10 = (.int .i64 s_l1.2) ∧ Hp w0 [Ent.own 25 S4696 v4695 s_j1, Ent.own 2 S19 v20 x17, Ent.own 2 S11 v12 x9.1, Ent.blk b8 29 #[(.int .i64 a0.Boats), v1, v3], Ent.snap w0 w0.heap.size] w) (fun s_j1 => M.spec_TiedBoats_j1 s_l1 s_j1 = some t3751) ?_ ?_
   · refine CW.blockJ (fun (s_j2 : (List (List Int))) (F : Fr) (w : World) => ∃ (v5162 : Value) (S5163 : Nat → Prop), F 2 = (.pointer (some ⟨b8, 0, none⟩)) ∧ F 6 = v12 ∧ F 8 = v20 ∧ F 9 = v5162 ∧ F 10 = (.int .i64 s_l1.2) ∧ Hp w0 [Ent.own 25 S5163 v5162 s_j2, Ent.own 2 S19 v20 x17, Ent.own 2 S11 v12 x9.1, Ent.blk b8 29 #[(.int .i64 a0.Boats), v1, v3], Ent.snap w0 w0.heap.size] w) (fun s_j2 => M.spec_TiedBoats_j2 s_l1 s_j2 = some t3751) ?_ ?_
     · refine CW.seq ?_
       refine CW.seqJ (fun (s_j3 : Bool) (F : Fr) (w : World) => F 2 = (.pointer (some ⟨b8, 0, none⟩)) ∧ F 6 = v12 ∧ F 8 = v20 ∧ F 9 = v3749 ∧ F 10 = (.int .i64 s_l1.2) ∧ F 44 = (.bool s_j3) ∧ Hp w0 [Ent.own 25 S3750 v3749 s_l1.1, Ent.own 2 S19 v20 x17, Ent.own 2 S11 v12 x9.1, Ent.blk b8 29 #[(.int .i64 a0.Boats), v1, v3], Ent.snap w0 w0.heap.size] w) (fun s_j3 => M.spec_TiedBoats_j3 a0 x9 x17 s_l1 s_j3 = some t3751) ?_ ?_
       · refine CW.draw Try_mixed ?_
         have hL := hL.call (Mod.drew _)
         refine DW.pre (fuel := 0) (fin := bma 14 16383) (C := fun w' => Mod None_ _ w') [0, 1, 2, 3, 4, 5, 6, 7, 8, 9, 10, 11, 12, 13] (Mod.refl _ _) (by kernel_rfl) (by kernel_rfl) ?_
         refine QW.cons rfl (QP.val (v := (.int .i64 s_l1.2)) rfl (fun w' hm' => x_mv f3768) ?_)
         refine QW.cons rfl (QP.val (v := (.bool (decide (0 < s_l1.2)))) rfl (fun w' hm' => x_gtr rfl rfl) ?_)
         refine QW.cons rfl (QP.val (v := (.bool (decide (0 < s_l1.2)))) rfl (fun w' hm' => x_move) ?_)
         refine ifB_elim hm (fun hb5612 hm => ?_) (fun hb5612 hm => ?_)
         · refine QW.cons rfl (QP.yes' rfl rfl hb5612 (QP.val (v := v20) rfl (fun w' hm' => x_mv f3766) ?_))
           refine QW.cons rfl (QP.yes' rfl rfl hb5612 (QP.val (v := (.int .i64 s_l1.2)) rfl (fun w' hm' => x_mv f3768) ?_))
           refine QW.cons rfl (QP.yes' rfl rfl hb5612 (QP.val (v := (.int .i64 (w64 (s_l1.2 - 1)))) rfl (fun w' hm' => x_sub rfl rfl) ?_))
           obtain ⟨x5613, ha5614, hm⟩ := bndE hm
           obtain ⟨hz5615, ha5619⟩ := idxE ha5614
           obtain ⟨b5616, q5617, hix5618⟩ := rdL_ix (hL.rdO 1 rfl) hz5615 ha5619
           refine QW.cons rfl (QP.yes' rfl rfl hb5612 (QP.val (v := (.pointer (some ⟨b5616, q5617, none⟩))) rfl (fun w' hm' => x_ix U25 Try_T2 rfl rfl hix5618) ?_))
           refine QW.cons rfl (QP.yes' rfl rfl hb5612 (QP.val (v := (.int .i64 x5613)) rfl (fun w' hm' => x_load1 U2 rfl rfl (rdF_cells ((hL.call hm').rdO 1 rfl) hix5618 ha5619 0 _ rfl)) ?_))
           refine QW.cons rfl (QP.yes' rfl rfl hb5612 (QP.val (v := v20) rfl (fun w' hm' => x_mv f3766) ?_))
           refine QW.cons rfl (QP.yes' rfl rfl hb5612 (QP.val (v := (.int .i64 s_l1.2)) rfl (fun w' hm' => x_mv f3768) ?_))
           obtain ⟨x5620, ha5621, hm⟩ := bndE hm
           obtain ⟨hz5622, ha5626⟩ := idxE ha5621
           obtain ⟨b5623, q5624, hix5625⟩ := rdL_ix (hL.rdO 1 rfl) hz5622 ha5626
           refine QW.cons rfl (QP.yes' rfl rfl hb5612 (QP.val (v := (.pointer (some ⟨b5623, q5624, none⟩))) rfl (fun w' hm' => x_ix U25 Try_T2 rfl rfl hix5625) ?_))
           refine QW.cons rfl (QP.yes' rfl rfl hb5612 (QP.val (v := (.int .i64 x5620)) rfl (fun w' hm' => x_load1 U2 rfl rfl (rdF_cells ((hL.call hm').rdO 1 rfl) hix5625 ha5626 0 _ rfl)) ?_))
           refine QW.cons rfl (QP.yes' rfl rfl hb5612 (QP.val (v := (.bool (x5613 == x5620))) rfl (fun w' hm' => x_eql rfl rfl) ?_))
           refine QW.cons rfl (QP.val (v := (.bool (x5613 == x5620))) rfl (fun w' hm' => x_pickT' rfl hb5612 rfl) ?_)
           refine QW.nil ?_
           intro wd5627 hmod
           have hL := hL.call hmod
           refine DW.done (by kernel_rfl) ?_
           exact ⟨x5613 == x5620, hm, ⟨f3764, f3765, f3766, f3767, f3768, rfl, hL⟩⟩
         refine QW.cons rfl (QP.no' rfl rfl hb5612 rfl ?_)
         refine QW.cons rfl (QP.no' rfl rfl hb5612 rfl ?_)
         refine QW.cons rfl (QP.no' rfl rfl hb5612 rfl ?_)
         refine QW.cons rfl (QP.no' rfl rfl hb5612 rfl ?_)
         refine QW.cons rfl (QP.no' rfl rfl hb5612 rfl ?_)
         refine QW.cons rfl (QP.no' rfl rfl hb5612 rfl ?_)
         refine QW.cons rfl (QP.no' rfl rfl hb5612 rfl ?_)
         refine QW.cons rfl (QP.no' rfl rfl hb5612 rfl ?_)
         refine QW.cons rfl (QP.no' rfl rfl hb5612 rfl ?_)
         refine QW.cons rfl (QP.no' rfl rfl hb5612 rfl ?_)
         refine QW.cons rfl (QP.val (v := (.bool false)) rfl (fun w' hm' => x_pickF' rfl hb5612 rfl) ?_)
         refine QW.nil ?_
         intro wd5628 hmod
         have hL := hL.call hmod
         refine DW.done (by kernel_rfl) ?_
         exact ⟨false, hm, ⟨f3764, f3765, f3766, f3767, f3768, rfl, hL⟩⟩
       intro s_j3 F5188 wd5189 hJ hm
       unfold M.spec_TiedBoats_j3 at hm
       obtain ⟨f5190, f5191, f5192, f5193, f5194, f5195, hL⟩ := hJ
       refine CW.condM (t := s_j3) f5195 hm (fun hb5196 hm => ?_) (fun hb5196 hm => ?_)
       · refine CW.exit ?_
         refine XJ.hit ?_
         exact ⟨s_l1.1, hm, ⟨v3749, S3750, f5190, f5191, f5192, f5193, f5194, hL⟩⟩
       refine CW.skip ?_
       refine CSR ?_
       refine OW.cons (S_lit ([] : List Int) hL U25 Try_T2 rfl (by decide) (by first | (simp [Instr.fill, madeCells, Value.cells, ev, upd, Flat.enc, Flat.sz]; done) | rfl | kernel_rfl) rfl rfl ?_)
       intro wd5197 v5198 S5199 hL
       refine OV v5198 rfl (x_assign) ?_
       refine ONS ?_
       refine CSR ?_
       refine OV (.int .i64 0) rfl (x_assign) ?_
       refine OW.nil ?_
       obtain ⟨o5458, ho5459, hm⟩ := bndE hm
       refine CW.loopB (fun (s_l2 : (List Int) × Int) (F : Fr) (w : World) => ∃ (v5454 : Value) (S5455 : Nat → Prop), F 2 = (.pointer (some ⟨b8, 0, none⟩)) ∧ F 6 = v12 ∧ F 8 = v20 ∧ F 9 = v3749 ∧ F 10 = (.int .i64 s_l1.2) ∧ F 11 = v5454 ∧ F 12 = (.int .i64 s_l2.2) ∧ Hp w0 [Ent.own 2 S5455 v5454 s_l2.1, Ent.own 25 S3750 v3749 s_l1.1, Ent.own 2 S19 v20 x17, Ent.own 2 S11 v12 x9.1, Ent.blk b8 29 #[(.int .i64 a0.Boats), v1, v3], Ent.snap w0 w0.heap.size] w) (fun o => outc o (fun x => some (.ret x)) (fun s => M.spec_TiedBoats_a2 s_l1 s) = some t3751) ho5459 hm ⟨v5198, S5199, f5190, f5191, f5192, f5193, f5194, rfl, rfl, hL⟩ ?_ ?_
       · intro s_l2 F5460 wd5461 hJ hm
         have hm := outcE hm
         have hm : M.spec_TiedBoats_a2 s_l1 s_l2 = some t3751 := hm
         unfold M.spec_TiedBoats_a2 at hm
         obtain ⟨v5454, S5455, f5462, f5463, f5464, f5465, f5466, f5467, f5468, hL⟩ := hJ
         refine CSR ?_
         refine OV v5454 rfl (x_mv f5467) ?_
         refine OV (.int .i64 (s_l2.1.length : Int)) rfl (x_lenR U25 rfl (hL.rdO 0 rfl)) ?_
         refine OV (.bool (decide (1 < (s_l2.1.length : Int)))) rfl (x_gtr rfl rfl) ?_
         refine OW.nil ?_
         refine CW.condM (t := decide (1 < (s_l2.1.length : Int))) rfl hm (fun hb5469 hm => ?_) (fun hb5469 hm => ?_)
         · refine CW.regionL ?_
           refine OV v3749 rfl (x_mv f5465) ?_
           refine OV v5454 rfl (x_mv f5467) ?_
           refine OW.cons (S_lit1 s_l2.1 rfl hL U22 Try_T25 ((congrArg Value.cells (show _ = v5454 from rfl)).trans (rdL_cells (hL.rdO 0 rfl))) rfl ?_)
           intro wd5470 v5471 S5472 hL
           obtain ⟨hc5476, hm⟩ := chkE hm
           have hL := hL.sel [1, 0, 2, 3, 4, 5] (by decide) rfl
           refine OW.cons (S_appendN Int hL U22 Try_T25 rfl rfl rfl hc5476 (by decide) rfl ?_)
           intro wd5473 v5474 S5475 hL
           refine OV v5474 rfl (x_assign) ?_
           refine OW.nil ?_
           exact ⟨s_l1.1 ++ ([s_l2.1] : List (List Int)), hm, ⟨v5474, S5475, f5462, f5463, f5464, rfl, f5466, hL⟩⟩
         refine CW.skip ?_
         have hL := hL.sel [1, 2, 3, 4, 5] (by decide) rfl
         exact ⟨s_l1.1, hm, ⟨v3749, S3750, f5462, f5463, f5464, f5465, f5466, hL⟩⟩
       intro s_l2 F5477 wd5478 t5456 hJ hm hr5457
       unfold M.spec_TiedBoats_l2 at hm
       obtain ⟨v5454, S5455, f5479, f5480, f5481, f5482, f5483, f5484, f5485, hL⟩ := hJ
       refine CW.seq ?_
       refine CSR ?_
       refine OV (.int .i64 s_l2.2) rfl (x_mv f5485) ?_
       refine OV (.pointer (some ⟨b8, 0, none⟩)) rfl (x_fieldAddr (fsz := 1) 0 0 0 U29 rfl Try_T2 rfl f5479 rfl) ?_
       refine OV (.int .i64 a0.Boats) rfl (x_load1 U2 rfl rfl (hL.cellB 4 rfl rfl)) ?_
       refine OV (.bool (decide (s_l2.2 < a0.Boats))) rfl (x_lss rfl rfl) ?_
       refine OW.nil ?_
       refine CW.condM (t := decide (s_l2.2 < a0.Boats)) rfl hm (fun hb5486 hm => ?_) (fun hb5486 hm => ?_)
       · refine CW.skip ?_
         refine CW.seqJ (fun (s_j4 : (List Int)) (F : Fr) (w : World) => ∃ (v5544 : Value) (S5545 : Nat → Prop), F 2 = (.pointer (some ⟨b8, 0, none⟩)) ∧ F 6 = v12 ∧ F 8 = v20 ∧ F 9 = v3749 ∧ F 10 = (.int .i64 s_l1.2) ∧ F 11 = v5544 ∧ F 12 = (.int .i64 s_l2.2) ∧ Hp w0 [Ent.own 2 S5545 v5544 s_j4, Ent.own 25 S3750 v3749 s_l1.1, Ent.own 2 S19 v20 x17, Ent.own 2 S11 v12 x9.1, Ent.blk b8 29 #[(.int .i64 a0.Boats), v1, v3], Ent.snap w0 w0.heap.size] w) (fun s_j4 => M.spec_TiedBoats_j4 s_l2 s_j4 = some t5456) ?_ ?_
         · refine CW.blockJ (fun (s_j5 : (List Int)) (F : Fr) (w : World) => ∃ (v5578 : Value) (S5579 : Nat → Prop), F 2 = (.pointer (some ⟨b8, 0, none⟩)) ∧ F 6 = v12 ∧ F 8 = v20 ∧ F 9 = v3749 ∧ F 10 = (.int .i64 s_l1.2) ∧ F 11 = v5578 ∧ F 12 = (.int .i64 s_l2.2) ∧ Hp w0 [Ent.own 2 S5579 v5578 s_j5, Ent.own 25 S3750 v3749 s_l1.1, Ent.own 2 S19 v20 x17, Ent.own 2 S11 v12 x9.1, Ent.blk b8 29 #[(.int .i64 a0.Boats), v1, v3], Ent.snap w0 w0.heap.size] w) (fun s_j5 => M.spec_TiedBoats_j5 s_l2 s_j5 = some t5456) ?_ ?_
           · refine CW.seq ?_
             refine CW.draw Try_mixed ?_
             have hL := hL.call (Mod.drew _)
             refine DW.pre (fuel := 0) (fin := bma 9 511) (C := fun w' => Mod None_ _ w') [0, 1, 2, 3, 4, 5, 6, 7, 8] (Mod.refl _ _) (by kernel_rfl) (by kernel_rfl) ?_
             refine QW.cons rfl (QP.val (v := v12) rfl (fun w' hm' => x_mv f5480) ?_)
             refine QW.cons rfl (QP.val (v := (.int .i64 s_l2.2)) rfl (fun w' hm' => x_mv f5485) ?_)
             obtain ⟨x5589, ha5590, hm⟩ := bndE hm
             obtain ⟨hz5591, ha5595⟩ := idxE ha5590
             obtain ⟨b5592, q5593, hix5594⟩ := rdL_ix (hL.rdO 3 rfl) hz5591 ha5595
             refine QW.cons rfl (QP.val (v := (.pointer (some ⟨b5592, q5593, none⟩))) rfl (fun w' hm' => x_ix U25 Try_T2 rfl rfl hix5594) ?_)
             refine QW.cons rfl (QP.val (v := (.int .i64 x5589)) rfl (fun w' hm' => x_load1 U2 rfl rfl (rdF_cells ((hL.call hm').rdO 3 rfl) hix5594 ha5595 0 _ rfl)) ?_)
             refine QW.cons rfl (QP.val (v := v20) rfl (fun w' hm' => x_mv f5481) ?_)
             refine QW.cons rfl (QP.val (v := (.int .i64 s_l1.2)) rfl (fun w' hm' => x_mv f5483) ?_)
             obtain ⟨x5596, ha5597, hm⟩ := bndE hm
             obtain ⟨hz5598, ha5602⟩ := idxE ha5597
             obtain ⟨b5599, q5600, hix5601⟩ := rdL_ix (hL.rdO 2 rfl) hz5598 ha5602
             refine QW.cons rfl (QP.val (v := (.pointer (some ⟨b5599, q5600, none⟩))) rfl (fun w' hm' => x_ix U25 Try_T2 rfl rfl hix5601) ?_)
             refine QW.cons rfl (QP.val (v := (.int .i64 x5596)) rfl (fun w' hm' => x_load1 U2 rfl rfl (rdF_cells ((hL.call hm').rdO 2 rfl) hix5601 ha5602 0 _ rfl)) ?_)
             refine QW.cons rfl (QP.val (v := (.bool (x5589 == x5596))) rfl (fun w' hm' => x_eql rfl rfl) ?_)
             refine QW.nil ?_
             intro wd5603 hmod
             have hL := hL.call hmod
             refine DW.done (by kernel_rfl) ?_
             refine CW.condM (t := x5589 == x5596) rfl hm (fun hb5604 hm => ?_) (fun hb5604 hm => ?_)
             · refine CW.regionL ?_
               refine OV v5454 rfl (x_mv f5484) ?_
               refine OV (.int .i64 s_l2.2) rfl (x_mv f5485) ?_
               refine OW.cons (S_lit ([s_l2.2] : List Int) hL U25 Try_T2 rfl (by decide) (by first | (simp [Instr.fill, madeCells, Value.cells, ev, upd, Flat.enc, Flat.sz]; done) | rfl | kernel_rfl) rfl rfl ?_)
               intro wd5605 v5606 S5607 hL
               obtain ⟨hc5611, hm⟩ := chkE hm
               refine OW.cons (S_append (ys := ([s_l2.2] : List Int)) hL 1 rfl U25 Try_T2 rfl rfl rfl (hL.rdO 0 rfl) hc5611 (by decide) rfl ?_)
               intro wd5608 v5609 S5610 hL
               refine OV v5609 rfl (x_assign) ?_
               refine OW.nil ?_
               have hL := hL.sel [1, 2, 3, 4, 5, 6] (by decide) rfl
               exact ⟨s_l2.1 ++ ([s_l2.2] : List Int), hm, ⟨v5609, S5610, f5479, f5480, f5481, f5482, f5483, rfl, f5485, hL⟩⟩
             refine CW.skip ?_
             exact ⟨s_l2.1, hm, ⟨v5454, S5455, f5479, f5480, f5481, f5482, f5483, f5484, f5485, hL⟩⟩
           intro s_j5 F5580 wd5581 hJ hm
           unfold M.spec_TiedBoats_j5 at hm
           obtain ⟨v5578, S5579, f5582, f5583, f5584, f5585, f5586, f5587, f5588, hL⟩ := hJ
           exact ⟨s_j5, hm, ⟨v5578, S5579, f5582, f5583, f5584, f5585, f5586, f5587, f5588, hL⟩⟩
         intro s_j4 F5546 wd5547 hJ hm
         unfold M.spec_TiedBoats_j4 at hm
         obtain ⟨v5544, S5545, f5548, f5549, f5550, f5551, f5552, f5553, f5554, hL⟩ := hJ
         refine CW.regionL ?_
         refine OV (.int .i64 s_l2.2) rfl (x_mv f5554) ?_
         refine OV (.int .i64 (w64 (s_l2.2 + 1))) rfl (x_add rfl rfl) ?_
         refine OV (.int .i64 (w64 (s_l2.2 + 1))) rfl (x_assign) ?_
         refine OW.nil ?_
         obtain rfl := Option.some.inj hm
         exact ⟨_, rfl, ⟨v5544, S5545, f5548, f5549, f5550, f5551, f5552, f5553, rfl, hL⟩⟩
       refine CW.exit ?_
       refine XJ.hit ?_
       obtain rfl := Option.some.inj hm
       exact ⟨_, rfl, ⟨v5454, S5455, f5479, f5480, f5481, f5482, f5483, f5484, f5485, hL⟩⟩
     intro s_j2 F5164 wd5165 hJ hm
     unfold M.spec_TiedBoats_j2 at hm
     obtain ⟨v5162, S5163, f5166, f5167, f5168, f5169, f5170, hL⟩ := hJ
     exact ⟨s_j2, hm, ⟨v5162, S5163, f5166, f5167, f5168, f5169, f5170, hL⟩⟩
   intro s_j1 F4697 wd4698 hJ hm
   unfold M.spec_TiedBoats_j1 at hm
   obtain ⟨v4695, S4696, f4699, f4700, f4701, f4702, f4703, hL⟩ := hJ
   refine CW.regionL ?_
   refine OV (.int .i64 s_l1.2) rfl (x_mv f4703) ?_
   refine OV (.int .i64 (w64 (s_l1.2 + 1))) rfl (x_add rfl rfl) ?_
   refine OV (.int .i64 (w64 (s_l1.2 + 1))) rfl (x_assign) ?_
   refine OW.nil ?_
   obtain rfl := Option.some.inj hm
   exact ⟨_, rfl, ⟨v4695, S4696, f4699, f4700, f4701, f4702, rfl, hL⟩⟩
 refine CW.exit ?_
 refine XJ.hit ?_
 obtain rfl := Option.some.inj hm
 exact ⟨_, rfl, ⟨v3749, S3750, f3764, f3765, f3766, f3767, f3768, hL⟩⟩

theorem M.impl_netScores_ok (w0 : World) (a0 : Table) {v1 : Value} {v3 : Value} (h2 : rdL (· < w0.heap.size) w0 v1 a0.Points) (h4 : rdL (· < w0.heap.size) w0 v3 a0.Codes) (a1 : List Int) {v5 : Value} (h6 : rdL (· < w0.heap.size) w0 v5 a1) {r : (List Int)} (hm : M.impl_netScores a0 a1 = some r) :
    Calls Try.prog 83 #[(.agg #[(.int .i64 a0.Boats), v1, v3]), v5] w0 fun e w' => ∃ (rv0 : Value) (rS0 : Nat → Prop), e = .returned rv0 ∧ Fresh w0 w' [Ent.own 2 rS0 rv0 r] := by
 unfold M.impl_netScores at hm
 refine calls_CW (args := [(.agg #[(.int .i64 a0.Boats), v1, v3]), v5]) Try.func83 rfl rfl rfl ?_
 have hL := Hp.start w0
 refine CSR ?_
 refine OW.cons (S_box (cs := #[(.int .i64 a0.Boats), v1, v3]) hL rfl rfl rfl ?_)
 intro wd7 b8 hL
 refine OV (.slice none 0 0) rfl (x_assign) ?_
 refine ONR ?_
 refine OW.cons (S_lit ([] : List Int) hL U25 Try_T2 rfl (by decide) (by first | (simp [Instr.fill, madeCells, Value.cells, ev, upd, Flat.enc, Flat.sz]; done) | rfl | kernel_rfl) rfl rfl ?_)
 intro wd9 v10 S11 hL
 refine OV v10 rfl (x_assign) ?_
 refine ONS ?_
 refine CSR ?_
 refine OV (.pointer (some ⟨b8, 0, none⟩)) rfl (x_fieldAddr (fsz := 1) 0 0 0 U29 rfl Try_T2 rfl rfl rfl) ?_
 refine OV (.int .i64 a0.Boats) rfl (x_load1 U2 rfl rfl (hL.cellB 1 rfl rfl)) ?_
 refine OV (.int .i64 0) rfl (x_move) ?_
 refine OW.nil ?_
 obtain ⟨o44, ho45, hm⟩ := bndE hm
 refine CW.loopB (fun (s_l1 : (List Int) × Int) (F : Fr) (w : World) => ∃ (v40 : Value) (S41 : Nat → Prop), F 1 = v5 ∧ F 2 = (.pointer (some ⟨b8, 0, none⟩)) ∧ F 5 = v40 ∧ F 9 = (.int .i64 a0.Boats) ∧ F 10 = (.int .i64 s_l1.2) ∧ Hp w0 [Ent.own 2 S41 v40 s_l1.1, Ent.blk b8 29 #[(.int .i64 a0.Boats), v1, v3], Ent.snap w0 w0.heap.size] w) (fun o => outc o (fun x => some x) (fun s => M.impl_netScores_a1 s) = some r) ho45 hm ⟨v10, S11, rfl, rfl, rfl, rfl, rfl, hL⟩ ?_ ?_
 · intro s_l1 F46 wd47 hJ hm
   have hm := outcE hm
   have hm : M.impl_netScores_a1 s_l1 = some r := hm
   unfold M.impl_netScores_a1 at hm
   obtain ⟨v40, S41, f48, f49, f50, f51, f52, hL⟩ := hJ
   refine CSR ?_
   refine OV v40 rfl (x_mv f50) ?_
   refine OV v40 rfl (x_assign) ?_
   refine OW.nil ?_
   refine CW.ret ?_
   obtain rfl := Option.some.inj hm
   exact RR1 rfl rfl ⟨v40, S41, rfl, hL.fresh 2 rfl [0] (by decide) (by decide) rfl⟩
 intro s_l1 F53 wd54 t42 hJ hm hr43
 unfold M.impl_netScores_l1 at hm
 obtain ⟨v40, S41, f55, f56, f57, f58, f59, hL⟩ := hJ
 refine CSR ?_
 refine OV (.bool (decide (s_l1.2 < a0.Boats))) rfl (x_lss f59 f58) ?_
 refine ONS ?_
 refine CW.condM (t := decide (s_l1.2 < a0.Boats)) rfl hm (fun hb60 hm => ?_) (fun hb60 hm => ?_)
 · refine CW.skip ?_
   refine CW.seq ?_
   refine CW.block ?_
   refine CSR ?_
   refine OV (.int .i64 s_l1.2) rfl (x_mv f59) ?_
   refine OV (.int .i64 s_l1.2) rfl (x_assign) ?_
   refine OW.nil ?_
   refine CW.regionL ?_
   refine OV v40 rfl (x_mv f57) ?_
   refine OV (.agg #[(.int .i64 a0.Boats), v1, v3]) rfl (x_loadN (cs := [(.int .i64 a0.Boats), v1, v3]) U29 Try_T29 rfl f56 (hL.cellsB 1 rfl (o := 0) (l := [(.int .i64 a0.Boats), v1, v3]) (by intro j u hj; exact (by simpa using hj)))) ?_
   refine OV v5 rfl (x_mv f55) ?_
   refine OV (.int .i64 s_l1.2) rfl (x_move) ?_
   obtain ⟨x61, hx62, hm⟩ := bndE hm
   refine OW.cons (OP.call rfl (x_call (vs := [(.agg #[(.int .i64 a0.Boats), v1, v3]), v5, (.int .i64 s_l1.2)]) Try_C71 ⟨rfl, rfl, rfl, trivial⟩) (M.impl_netPoints_ok _ a0 (hL.rdS 2 rfl h2) (hL.rdS 2 rfl h4) a1 (hL.rdS 2 rfl h6) s_l1.2 hx62) ?_)
   rintro e63 wd64 ⟨rfl, hF65⟩
   refine ⟨_, rfl, ?_⟩
   have hL := hL.pushAll hF65
   simp only [lA, lB, lC, lD] at hL
   refine OW.cons (S_lit ([x61] : List Int) hL U25 Try_T2 rfl (by decide) (by first | (simp [Instr.fill, madeCells, Value.cells, ev, upd, Flat.enc, Flat.sz]; done) | rfl | kernel_rfl) rfl rfl ?_)
   intro wd66 v67 S68 hL
   obtain ⟨hc72, hm⟩ := chkE hm
   refine OW.cons (S_append (ys := ([x61] : List Int)) hL 1 rfl U25 Try_T2 rfl rfl rfl (hL.rdO 0 rfl) hc72 (by decide) rfl ?_)
   intro wd69 v70 S71 hL
   refine OV v70 rfl (x_assign) ?_
   refine OW.nil ?_
   refine CW.regionL ?_
   refine OV (.int .i64 (w64 (s_l1.2 + 1))) rfl (x_add f59 rfl) ?_
   refine OV (.int .i64 (w64 (s_l1.2 + 1))) rfl (x_move) ?_
   refine OW.nil ?_
   have hL := hL.sel [1, 2, 3] (by decide) rfl
   obtain rfl := Option.some.inj hm
   exact ⟨_, rfl, ⟨v70, S71, f55, f56, rfl, f58, rfl, hL⟩⟩
 refine CW.exit ?_
 refine XJ.hit ?_
 obtain rfl := Option.some.inj hm
 exact ⟨_, rfl, ⟨v40, S41, f55, f56, f57, f58, f59, hL⟩⟩

theorem M.impl_NetScores_ok (w0 : World) (a0 : Table) {v1 : Value} {v3 : Value} (h2 : rdL (· < w0.heap.size) w0 v1 a0.Points) (h4 : rdL (· < w0.heap.size) w0 v3 a0.Codes) (a1 : List Int) {v5 : Value} (h6 : rdL (· < w0.heap.size) w0 v5 a1) {r : (List Int) × Int} (hm : M.impl_NetScores a0 a1 = some r) :
    Calls Try.prog 46 #[(.agg #[(.int .i64 a0.Boats), v1, v3]), v5] w0 fun e w' => ∃ (rv0 : Value) (rS0 : Nat → Prop), e = .returned (.tuple #[rv0, (.int .i64 r.2)]) ∧ Fresh w0 w' [Ent.own 2 rS0 rv0 r.1] := by
 unfold M.impl_NetScores at hm
 refine calls_CW (args := [(.agg #[(.int .i64 a0.Boats), v1, v3]), v5]) Try.func46 rfl rfl rfl ?_
 have hL := Hp.start w0
 refine CSR ?_
 refine OW.cons (S_box (cs := #[(.int .i64 a0.Boats), v1, v3]) hL rfl rfl rfl ?_)
 intro wd7 b8 hL
 refine OV (.slice none 0 0) rfl (x_assign) ?_
 refine OV (.int .i64 0) rfl (x_assign) ?_
 refine ONS ?_
 refine CSR ?_
 refine OV (.agg #[(.int .i64 a0.Boats), v1, v3]) rfl (x_loadN (cs := [(.int .i64 a0.Boats), v1, v3]) U29 Try_T29 rfl rfl (hL.cellsB 0 rfl (o := 0) (l := [(.int .i64 a0.Boats), v1, v3]) (by intro j u hj; exact (by simpa using hj)))) ?_
 refine OV v5 rfl (x_move) ?_
 obtain ⟨x9, hx10, hm⟩ := bndE hm
 refine OW.cons (OP.call rfl (x_call (vs := [(.agg #[(.int .i64 a0.Boats), v1, v3]), v5, (.int .i64 0)]) Try_C65 ⟨rfl, rfl, rfl, trivial⟩) (M.impl_tableCode_ok _ a0 (hL.rdS 1 rfl h2) (hL.rdS 1 rfl h4) a1 (hL.rdS 1 rfl h6) 0 hx10) ?_)
 rintro e11 wd12 ⟨rfl, hF13⟩
 refine ⟨_, rfl, ?_⟩
 have hL := hL.pushAll hF13
 simp only [lA, lB, lC, lD] at hL
 refine OV (.int .i64 x9) rfl (x_assign) ?_
 refine ONR ?_
 refine OV (.int .i64 x9) rfl (x_move) ?_
 refine OV (.bool (x9 != 0)) rfl (x_neq rfl rfl) ?_
 refine OW.nil ?_
 refine CW.condM (t := x9 != 0) rfl hm (fun hb14 hm => ?_) (fun hb14 hm => ?_)
 · refine CSR ?_
   refine OV (.int .i64 x9) rfl (x_move) ?_
   refine OV (.slice none 0 0) rfl (x_assign) ?_
   refine OV (.int .i64 x9) rfl (x_assign) ?_
   refine OW.nil ?_
   refine CW.ret ?_
   have hL := hL.pushNil Int 2
   obtain rfl := Option.some.inj hm
   exact RR2 rfl rfl rfl ⟨(.slice none 0 0), None_, rfl, hL.fresh 2 rfl [0] (by decide) (by decide) rfl⟩
 refine CW.skip ?_
 refine CSR ?_
 refine OV (.agg #[(.int .i64 a0.Boats), v1, v3]) rfl (x_loadN (cs := [(.int .i64 a0.Boats), v1, v3]) U29 Try_T29 rfl rfl (hL.cellsB 0 rfl (o := 0) (l := [(.int .i64 a0.Boats), v1, v3]) (by intro j u hj; exact (by simpa using hj)))) ?_
 refine OV v5 rfl (x_move) ?_
 obtain ⟨x15, hx16, hm⟩ := bndE hm
 refine OW.cons (OP.call rfl (x_call (vs := [(.agg #[(.int .i64 a0.Boats), v1, v3]), v5]) Try_C83 ⟨rfl, rfl, trivial⟩) (M.impl_netScores_ok _ a0 (hL.rdS 1 rfl h2) (hL.rdS 1 rfl h4) a1 (hL.rdS 1 rfl h6) hx16) ?_)
 rintro e19 wd20 ⟨v18, S17, rfl, hF21⟩
 refine ⟨_, rfl, ?_⟩
 have hL := hL.pushAll hF21
 simp only [lA, lB, lC, lD] at hL
 refine OV v18 rfl (x_assign) ?_
 refine OV (.int .i64 0) rfl (x_assign) ?_
 refine OW.nil ?_
 refine CW.ret ?_
 obtain rfl := Option.some.inj hm
 exact RR2 rfl rfl rfl ⟨v18, S17, rfl, hL.fresh 2 rfl [0] (by decide) (by decide) rfl⟩

theorem M.impl_TiedBoats_1_ok (w0 : World) (a0 : Int) (a1 : Int) (a2 : List Int) {v3 : Value} {b1 : Nat} (h4 : rdL (· < w0.heap.size) w0 v3 a2) (hb2 : bxA (· < w0.heap.size) w0 b1 25 #[v3]) {r : Int} (hm : M.impl_TiedBoats_1 a0 a1 a2 = some r) :
    Calls Try.prog 74 #[(.int .i64 a0), (.int .i64 a1), (.pointer (some ⟨b1, 0, none⟩))] w0 fun e w' => e = .returned (.int .i64 r) ∧ Fresh w0 w' [] := by
 unfold M.impl_TiedBoats_1 at hm
 refine calls_CW (args := [(.int .i64 a0), (.int .i64 a1), (.pointer (some ⟨b1, 0, none⟩))]) Try.func74 rfl rfl rfl ?_
 have hL := Hp.start w0
 refine CSR ?_
 refine OV (.int .i64 0) rfl (x_assign) ?_
 refine ONS ?_
 refine CW.draw Try_mixed ?_
 have hL := hL.call (Mod.drew _)
 refine DW.pre (fuel := 0) (fin := bma 10 1023) (C := fun w' => Mod None_ _ w') [0, 1, 2, 3, 4, 5, 6, 7, 8, 9] (Mod.refl _ _) (by kernel_rfl) (by kernel_rfl) ?_
 refine QW.cons rfl (QP.val (v := v3) rfl (fun w' hm' => x_load1 U25 rfl rfl (((hL.call hm').bxS 0 rfl hb2).cell rfl)) ?_)
 refine QW.cons rfl (QP.val (v := (.int .i64 a0)) rfl (fun w' hm' => x_move) ?_)
 obtain ⟨x5, ha6, hm⟩ := bndE hm
 obtain ⟨hz7, ha11⟩ := idxE ha6
 obtain ⟨b8, q9, hix10⟩ := rdL_ix (hL.rdS 0 rfl h4) hz7 ha11
 refine QW.cons rfl (QP.val (v := (.pointer (some ⟨b8, q9, none⟩))) rfl (fun w' hm' => x_ix U25 Try_T2 rfl rfl hix10) ?_)
 refine QW.cons rfl (QP.val (v := (.int .i64 x5)) rfl (fun w' hm' => x_load1 U2 rfl rfl (rdF_cells ((hL.call hm').rdS 0 rfl h4) hix10 ha11 0 _ rfl)) ?_)
 refine QW.cons rfl (QP.val (v := v3) rfl (fun w' hm' => x_load1 U25 rfl rfl (((hL.call hm').bxS 0 rfl hb2).cell rfl)) ?_)
 refine QW.cons rfl (QP.val (v := (.int .i64 a1)) rfl (fun w' hm' => x_move) ?_)
 obtain ⟨x12, ha13, hm⟩ := bndE hm
 obtain ⟨hz14, ha18⟩ := idxE ha13
 obtain ⟨b15, q16, hix17⟩ := rdL_ix (hL.rdS 0 rfl h4) hz14 ha18
 refine QW.cons rfl (QP.val (v := (.pointer (some ⟨b15, q16, none⟩))) rfl (fun w' hm' => x_ix U25 Try_T2 rfl rfl hix17) ?_)
 refine QW.cons rfl (QP.val (v := (.int .i64 x12)) rfl (fun w' hm' => x_load1 U2 rfl rfl (rdF_cells ((hL.call hm').rdS 0 rfl h4) hix17 ha18 0 _ rfl)) ?_)
 refine QW.cons rfl (QP.val (v := (.int .i64 (w64 (x5 - x12)))) rfl (fun w' hm' => x_sub rfl rfl) ?_)
 refine QW.cons rfl (QP.val (v := (.int .i64 (w64 (x5 - x12)))) rfl (fun w' hm' => x_assign) ?_)
 refine QW.nil ?_
 intro wd19 hmod
 have hL := hL.call hmod
 refine DW.done (by kernel_rfl) ?_
 refine CW.ret ?_
 obtain rfl := Option.some.inj hm
 exact RR1 rfl rfl ⟨rfl, hL.fresh 0 rfl [] (by decide) (by decide) rfl⟩

theorem M.impl_TiedBoats_2_ok (w0 : World) (a0 : List Int) {v1 : Value} (h2 : rdL (· < w0.heap.size) w0 v1 a0) {r : Bool} (hm : M.impl_TiedBoats_2 a0 = some r) :
    Calls Try.prog 76 #[v1] w0 fun e w' => e = .returned (.bool r) ∧ Fresh w0 w' [] := by
 unfold M.impl_TiedBoats_2 at hm
 refine calls_CW (args := [v1]) Try.func76 rfl rfl rfl ?_
 have hL := Hp.start w0
 refine CSR ?_
 refine OV (.bool false) rfl (x_assign) ?_
 refine ONR ?_
 refine OV v1 rfl (x_move) ?_
 refine OV (.int .i64 (a0.length : Int)) rfl (x_lenR U25 rfl (hL.rdS 0 rfl h2)) ?_
 refine OV (.bool (decide ((a0.length : Int) < 2))) rfl (x_lss rfl rfl) ?_
 refine OV (.bool (decide ((a0.length : Int) < 2))) rfl (x_assign) ?_
 refine OW.nil ?_
 refine CW.ret ?_
 obtain rfl := Option.some.inj hm
 exact RR1 rfl rfl ⟨rfl, hL.fresh 0 rfl [] (by decide) (by decide) rfl⟩

theorem M.impl_TiedBoats_ok (w0 : World) (a0 : Table) {v1 : Value} {v3 : Value} (h2 : rdL (· < w0.heap.size) w0 v1 a0.Points) (h4 : rdL (· < w0.heap.size) w0 v3 a0.Codes) (a1 : List Int) {v5 : Value} (h6 : rdL (· < w0.heap.size) w0 v5 a1) {r : (List (List Int)) × Int} (hm : M.impl_TiedBoats a0 a1 = some r) :
    Calls Try.prog 32 #[(.agg #[(.int .i64 a0.Boats), v1, v3]), v5] w0 fun e w' => ∃ (rv0 : Value) (rS0 : Nat → Prop), e = .returned (.tuple #[rv0, (.int .i64 r.2)]) ∧ Fresh w0 w' [Ent.own 25 rS0 rv0 r.1] := by
 unfold M.impl_TiedBoats at hm
 refine calls_CW (args := [(.agg #[(.int .i64 a0.Boats), v1, v3]), v5]) Try.func32 rfl rfl rfl ?_
 have hL := Hp.start w0
 refine CSR ?_
 refine OW.cons (S_box (cs := #[(.int .i64 a0.Boats), v1, v3]) hL rfl rfl rfl ?_)
 intro wd7 b8 hL
 refine OV (.slice none 0 0) rfl (x_assign) ?_
 refine OV (.int .i64 0) rfl (x_assign) ?_
 refine ONR ?_
 refine OV (.agg #[(.int .i64 a0.Boats), v1, v3]) rfl (x_loadN (cs := [(.int .i64 a0.Boats), v1, v3]) U29 Try_T29 rfl rfl (hL.cellsB 0 rfl (o := 0) (l := [(.int .i64 a0.Boats), v1, v3]) (by intro j u hj; exact (by simpa using hj)))) ?_
 refine OV v5 rfl (x_move) ?_
 obtain ⟨x9, hx10, hm⟩ := bndE hm
 refine OW.cons (OP.call rfl (x_call (vs := [(.agg #[(.int .i64 a0.Boats), v1, v3]), v5]) Try_C46 ⟨rfl, rfl, trivial⟩) (M.impl_NetScores_ok _ a0 (hL.rdS 1 rfl h2) (hL.rdS 1 rfl h4) a1 (hL.rdS 1 rfl h6) hx10) ?_)
 rintro e13 wd14 ⟨v12, S11, rfl, hF15⟩
 refine ⟨_, rfl, ?_⟩
 have hL := hL.pushAll hF15
 simp only [lA, lB, lC, lD] at hL
 refine OV (.tuple #[v12, (.int .i64 x9.2)]) rfl (x_move) ?_
 refine OV v12 rfl (x_extract rfl rfl) ?_
 refine OV (.int .i64 x9.2) rfl (x_extract rfl rfl) ?_
 refine OW.cons (S_alloc (cs := #[(.slice none 0 0)]) hL Try_T25 rfl rfl ?_)
 intro wd16 b17 hL
 refine OW.cons (S_store (cs' := #[v12]) hL 0 rfl Try_T25 rfl (rdL_one (hL.rdO 1 rfl)) rfl rfl rfl ?_)
 intro wd18 hL
 refine OV (.int .i64 x9.2) rfl (x_assign) ?_
 refine ONS ?_
 refine CSR ?_
 refine OV (.int .i64 x9.2) rfl (x_move) ?_
 refine OV (.bool (x9.2 != 0)) rfl (x_neq rfl rfl) ?_
 refine OW.nil ?_
 refine CW.condM (t := x9.2 != 0) rfl hm (fun hb19 hm => ?_) (fun hb19 hm => ?_)
 · refine CSR ?_
   refine OV (.int .i64 x9.2) rfl (x_move) ?_
   refine OV (.slice none 0 0) rfl (x_assign) ?_
   refine OV (.int .i64 x9.2) rfl (x_assign) ?_
   refine OW.nil ?_
   refine CW.ret ?_
   have hL := hL.pushNil (List Int) 25
   obtain rfl := Option.some.inj hm
   exact RR2 rfl rfl rfl ⟨(.slice none 0 0), None_, rfl, hL.fresh 4 rfl [0] (by decide) (by decide) rfl⟩
 refine CW.skip ?_
 refine CSR ?_
 refine OW.cons (S_lit0 (α := Int) (List Int) hL U22 Try_T25 rfl ?_)
 intro wd20 v21 S22 hL
 refine OV v21 rfl (x_assign) ?_
 refine ONS ?_
 refine CSR ?_
 refine OV v12 rfl (x_load1 U25 rfl rfl (hL.cellB 1 rfl rfl)) ?_
 refine OV (.int .i64 (x9.1.length : Int)) rfl (x_lenR U25 rfl (hL.rdO 2 rfl)) ?_
 refine OV (.func (.func 74) #[] #[(.pointer (some ⟨b17, 0, none⟩))]) rfl (x_makeFunc (vs := [(.pointer (some ⟨b17, 0, none⟩))]) ⟨rfl, trivial⟩) ?_
 obtain ⟨x23, hx24, hm⟩ := bndE hm
 refine OW.cons (OP.call rfl (x_call (vs := [(.int .i64 (x9.1.length : Int)), (.func (.func 74) #[] #[(.pointer (some ⟨b17, 0, none⟩))])]) Try_C73 ⟨rfl, rfl, trivial⟩) (M.impl_sortedIndices_ok _ (x9.1.length : Int) (fun y0 y1 => M.impl_TiedBoats_1 y0 y1 x9.1) ⟨Try_C74, fun yw hag yvs yv hR => by obtain ⟨y0, y1, yr, rfl, hyf, rfl⟩ := hR; exact M.impl_TiedBoats_1_ok yw y0 y1 x9.1 (hag.rdL (hL.rdO 2 rfl)) (hag.bx (hL.bxB 1 rfl)) hyf⟩ hx24) ?_)
 rintro e27 wd28 ⟨v26, S25, rfl, hF29⟩
 refine ⟨_, rfl, ?_⟩
 have hL := hL.pushAll hF29
 simp only [lA, lB, lC, lD] at hL
 refine OV (.int .i64 (x23.length : Int)) rfl (x_lenR U25 rfl (hL.rdO 0 rfl)) ?_
 refine OV (.int .i64 0) rfl (x_move) ?_
 refine OW.nil ?_
 obtain ⟨o1124, ho1125, hm⟩ := bndE hm
 have hL := hL.sel [1, 0, 2, 3, 4, 5] (by decide) rfl
 refine CW.loopB (fun (s_l1 : (List (List Int)) × Int) (F : Fr) (w : World) => ∃ (v1120 : Value) (S1121 : Nat → Prop), F 6 = (.pointer (some ⟨b17, 0, none⟩)) ∧ F 8 = v1120 ∧ F 25 = v26 ∧ F 26 = (.int .i64 (x23.length : Int)) ∧ F 27 = (.int .i64 s_l1.2) ∧ Hp w0 [Ent.own 25 S1121 v1120 s_l1.1, Ent.own 2 S25 v26 x23, Ent.blk b17 25 #[v12], Ent.own 2 S11 v12 x9.1, Ent.blk b8 29 #[(.int .i64 a0.Boats), v1, v3], Ent.snap w0 w0.heap.size] w) (fun o => outc o (fun x => some x) (fun s => M.impl_TiedBoats_a1 s) = some r) ho1125 hm ⟨v21, S22, rfl, rfl, rfl, rfl, rfl, hL⟩ ?_ ?_
 · intro s_l1 F1126 wd1127 hJ hm
   have hm := outcE hm
   have hm : M.impl_TiedBoats_a1 s_l1 = some r := hm
   unfold M.impl_TiedBoats_a1 at hm
   obtain ⟨v1120, S1121, f1128, f1129, f1130, f1131, f1132, hL⟩ := hJ
   refine CSR ?_
   refine OV v1120 rfl (x_mv f1129) ?_
   obtain ⟨hc1136, hm⟩ := chkE hm
   refine OW.cons (S_callRows (e' := fun v' S' => Ent.own 25 S' v' (s_l1.1.filter (fun (r : List Int) => !decide ((r.length : Int) < 2)))) hL 0 rfl (by decide) (x_call (vs := [v1120, .func (.func 76) #[] #[]]) Try_C75 ⟨rfl, rfl, trivial⟩) (del_io delLaid delEg delG delZ (hL.get 0 rfl) hc1136) ?_)
   intro wd1133 v1134 S1135 hL
   simp only [lC, lD] at hL
   refine OV v1134 rfl (x_assign) ?_
   refine OV (.int .i64 0) rfl (x_assign) ?_
   refine OW.nil ?_
   refine CW.ret ?_
   obtain rfl := Option.some.inj hm
   exact RR2 rfl rfl rfl ⟨v1134, S1135, rfl, hL.fresh 5 rfl [0] (by decide) (by decide) rfl⟩
 intro s_l1 F1137 wd1138 t1122 hJ hm hr1123
 unfold M.impl_TiedBoats_l1 at hm
 obtain ⟨v1120, S1121, f1139, f1140, f1141, f1142, f1143, hL⟩ := hJ
 refine CSR ?_
 refine OV (.bool (decide (s_l1.2 < (x23.length : Int)))) rfl (x_lss f1143 f1142) ?_
 refine ONS ?_
 refine CW.condM (t := decide (s_l1.2 < (x23.length : Int))) rfl hm (fun hb1144 hm => ?_) (fun hb1144 hm => ?_)
 · refine CW.skip ?_
   refine CW.seqJ (fun (s_j1 : (List (List Int))) (F : Fr) (w : World) => ∃ (v1412 : Value) (S1413 : Nat → Prop), F 6 = (.pointer (some ⟨b17, 0, none⟩)) ∧ F 8 = v1412 ∧ F 25 = v26 ∧ F 26 = (.int .i64 (x23.length : Int)) ∧ F 27 = (.int .i64 s_l1.2) ∧ Hp w0 [Ent.own 25 S1413 v1412 s_j1, Ent.own 2 S25 v26 x23, Ent.blk b17 25 #[v12], Ent.own 2 S11 v12 x9.1, Ent.blk b8 29 #[(.int .i64 a0.Boats), v1, v3], Ent.snap w0 w0.heap.size] w) (fun s_j1 => M.impl_TiedBoats_j1 s_l1 s_j1 = some t1122) ?_ ?_
   · refine CW.blockJ (fun (s_j2 : (List (List Int))) (F : Fr) (w : World) => ∃ (v1550 : Value) (S1551 : Nat → Prop), F 6 = (.pointer (some ⟨b17, 0, none⟩)) ∧ F 8 = v1550 ∧ F 25 = v26 ∧ F 26 = (.int .i64 (x23.length : Int)) ∧ F 27 = (.int .i64 s_l1.2) ∧ Hp w0 [Ent.own 25 S1551 v1550 s_j2, Ent.own 2 S25 v26 x23, Ent.blk b17 25 #[v12], Ent.own 2 S11 v12 x9.1, Ent.blk b8 29 #[(.int .i64 a0.Boats), v1, v3], Ent.snap w0 w0.heap.size] w) (fun s_j2 => M.impl_TiedBoats_j2 s_l1 s_j2 = some t1122) ?_ ?_
     · refine CSR ?_
       obtain ⟨x1559, ha1560, hm⟩ := bndE hm
       obtain ⟨hz1561, ha1565⟩ := idxE ha1560
       obtain ⟨b1562, q1563, hix1564⟩ := rdL_ix (hL.rdO 1 rfl) hz1561 ha1565
       refine OV (.pointer (some ⟨b1562, q1563, none⟩)) rfl (x_ix U25 Try_T2 f1141 f1143 hix1564) ?_
       refine OV (.int .i64 x1559) rfl (x_load1 U2 rfl rfl (rdF_cells (hL.rdO 1 rfl) hix1564 ha1565 0 _ rfl)) ?_
       refine OV (.int .i64 x1559) rfl (x_assign) ?_
       refine ONR ?_
       refine OV v1120 rfl (x_mv f1140) ?_
       refine OV (.int .i64 (s_l1.1.length : Int)) rfl (x_lenR U22 rfl (hL.rdO 0 rfl)) ?_
       refine OV (.int .i64 (s_l1.1.length : Int)) rfl (x_assign) ?_
       refine OW.nil ?_
       refine CW.seqJ (fun (s_j3 : Bool) (F : Fr) (w : World) => F 6 = (.pointer (some ⟨b17, 0, none⟩)) ∧ F 8 = v1120 ∧ F 10 = (.int .i64 x1559) ∧ F 11 = (.int .i64 (s_l1.1.length : Int)) ∧ F 25 = v26 ∧ F 26 = (.int .i64 (x23.length : Int)) ∧ F 27 = (.int .i64 s_l1.2) ∧ F 51 = (.bool s_j3) ∧ Hp w0 [Ent.own 25 S1121 v1120 s_l1.1, Ent.own 2 S25 v26 x23, Ent.blk b17 25 #[v12], Ent.own 2 S11 v12 x9.1, Ent.blk b8 29 #[(.int .i64 a0.Boats), v1, v3], Ent.snap w0 w0.heap.size] w) (fun s_j3 => M.impl_TiedBoats_j3 s_l1 x1559 s_j3 = some t1122) ?_ ?_
       · obtain ⟨wz1651, hL, ho1652⟩ := hL.freeze 0 rfl
         simp only [lC, lD] at hL
         refine CW.draw Try_mixed ?_
         have hL := hL.call (Mod.drew _)
         refine DW.pre (fuel := 0) (fin := bma 19 524287) (C := fun w' => Mod None_ _ w') [0, 1, 2, 3, 4, 5, 6, 7, 8, 9, 10, 11, 12, 13, 14, 15, 16, 17, 18] (Mod.refl _ _) (by kernel_rfl) (by kernel_rfl) ?_
         refine QW.cons rfl (QP.val (v := (.int .i64 (s_l1.1.length : Int))) rfl (fun w' hm' => x_move) ?_)
         refine QW.cons rfl (QP.val (v := (.bool (decide (0 < (s_l1.1.length : Int))))) rfl (fun w' hm' => x_gtr rfl rfl) ?_)
         refine QW.cons rfl (QP.val (v := (.bool (decide (0 < (s_l1.1.length : Int))))) rfl (fun w' hm' => x_move) ?_)
         refine ifB_elim hm (fun hb1653 hm => ?_) (fun hb1653 hm => ?_)
         · refine QW.cons rfl (QP.yes' rfl rfl hb1653 (QP.val (v := v12) rfl (fun w' hm' => x_load1 U25 rfl f1139 ((hL.call hm').cellB 2 rfl rfl)) ?_))
           refine QW.cons rfl (QP.yes' rfl rfl hb1653 (QP.val (v := v1120) rfl (fun w' hm' => x_mv f1140) ?_))
           refine QW.cons rfl (QP.yes' rfl rfl hb1653 (QP.val (v := (.int .i64 (s_l1.1.length : Int))) rfl (fun w' hm' => x_move) ?_))
           refine QW.cons rfl (QP.yes' rfl rfl hb1653 (QP.val (v := (.int .i64 (w64 ((s_l1.1.length : Int) - 1)))) rfl (fun w' hm' => x_sub rfl rfl) ?_))
           obtain ⟨x1654, ha1655, hm⟩ := bndE hm
           obtain ⟨hz1656, ha1664⟩ := idxE ha1655
           obtain ⟨b1657, q1658, v1659, hix1660, hs1661, hc1662, hr1663⟩ := rdN_at ho1652.1.rdL hz1656 ha1664
           refine QW.cons rfl (QP.yes' rfl rfl hb1653 (QP.val (v := (.pointer (some ⟨b1657, q1658, none⟩))) rfl (fun w' hm' => x_ix U22 Try_T25 rfl rfl hix1660) ?_))
           refine QW.cons rfl (QP.yes' rfl rfl hb1653 (QP.val (v := v1659) rfl (fun w' hm' => x_load1 U25 rfl rfl ((hL.call hm').cellF 0 rfl hs1661 hc1662)) ?_))
           obtain ⟨x1665, ha1666, hm⟩ := bndE hm
           obtain ⟨hz1667, ha1671⟩ := idxE ha1666
           obtain ⟨b1668, q1669, hix1670⟩ := rdL_ix (hL.rdF 0 rfl hr1663) hz1667 ha1671
           refine QW.cons rfl (QP.yes' rfl rfl hb1653 (QP.val (v := (.pointer (some ⟨b1668, q1669, none⟩))) rfl (fun w' hm' => x_ix U25 Try_T2 rfl rfl hix1670) ?_))
           refine QW.cons rfl (QP.yes' rfl rfl hb1653 (QP.val (v := (.int .i64 x1665)) rfl (fun w' hm' => x_load1 U2 rfl rfl (rdF_cells ((hL.call hm').rdF 0 rfl hr1663) hix1670 ha1671 0 _ rfl)) ?_))
           obtain ⟨x1672, ha1673, hm⟩ := bndE hm
           obtain ⟨hz1674, ha1678⟩ := idxE ha1673
           obtain ⟨b1675, q1676, hix1677⟩ := rdL_ix (hL.rdO 3 rfl) hz1674 ha1678
           refine QW.cons rfl (QP.yes' rfl rfl hb1653 (QP.val (v := (.pointer (some ⟨b1675, q1676, none⟩))) rfl (fun w' hm' => x_ix U25 Try_T2 rfl rfl hix1677) ?_))
           refine QW.cons rfl (QP.yes' rfl rfl hb1653 (QP.val (v := (.int .i64 x1672)) rfl (fun w' hm' => x_load1 U2 rfl rfl (rdF_cells ((hL.call hm').rdO 3 rfl) hix1677 ha1678 0 _ rfl)) ?_))
           refine QW.cons rfl (QP.yes' rfl rfl hb1653 (QP.val (v := v12) rfl (fun w' hm' => x_load1 U25 rfl f1139 ((hL.call hm').cellB 2 rfl rfl)) ?_))
           refine QW.cons rfl (QP.yes' rfl rfl hb1653 (QP.val (v := (.int .i64 x1559)) rfl (fun w' hm' => x_move) ?_))
           obtain ⟨x1679, ha1680, hm⟩ := bndE hm
           obtain ⟨hz1681, ha1685⟩ := idxE ha1680
           obtain ⟨b1682, q1683, hix1684⟩ := rdL_ix (hL.rdO 3 rfl) hz1681 ha1685
           refine QW.cons rfl (QP.yes' rfl rfl hb1653 (QP.val (v := (.pointer (some ⟨b1682, q1683, none⟩))) rfl (fun w' hm' => x_ix U25 Try_T2 rfl rfl hix1684) ?_))
           refine QW.cons rfl (QP.yes' rfl rfl hb1653 (QP.val (v := (.int .i64 x1679)) rfl (fun w' hm' => x_load1 U2 rfl rfl (rdF_cells ((hL.call hm').rdO 3 rfl) hix1684 ha1685 0 _ rfl)) ?_))
           refine QW.cons rfl (QP.yes' rfl rfl hb1653 (QP.val (v := (.bool (x1672 == x1679))) rfl (fun w' hm' => x_eql rfl rfl) ?_))
           refine QW.cons rfl (QP.val (v := (.bool (x1672 == x1679))) rfl (fun w' hm' => x_pickT' rfl hb1653 rfl) ?_)
           refine QW.nil ?_
           intro wd1686 hmod
           have hL := hL.call hmod
           refine DW.done (by kernel_rfl) ?_
           have hL := hL.thaw 0 rfl ho1652
           exact ⟨x1672 == x1679, hm, ⟨f1139, f1140, rfl, rfl, f1141, f1142, f1143, rfl, hL⟩⟩
         refine QW.cons rfl (QP.no' rfl rfl hb1653 rfl ?_)
         refine QW.cons rfl (QP.no' rfl rfl hb1653 rfl ?_)
         refine QW.cons rfl (QP.no' rfl rfl hb1653 rfl ?_)
         refine QW.cons rfl (QP.no' rfl rfl hb1653 rfl ?_)
         refine QW.cons rfl (QP.no' rfl rfl hb1653 rfl ?_)
         refine QW.cons rfl (QP.no' rfl rfl hb1653 rfl ?_)
         refine QW.cons rfl (QP.no' rfl rfl hb1653 rfl ?_)
         refine QW.cons rfl (QP.no' rfl rfl hb1653 rfl ?_)
         refine QW.cons rfl (QP.no' rfl rfl hb1653 rfl ?_)
         refine QW.cons rfl (QP.no' rfl rfl hb1653 rfl ?_)
         refine QW.cons rfl (QP.no' rfl rfl hb1653 rfl ?_)
         refine QW.cons rfl (QP.no' rfl rfl hb1653 rfl ?_)
         refine QW.cons rfl (QP.no' rfl rfl hb1653 rfl ?_)
         refine QW.cons rfl (QP.no' rfl rfl hb1653 rfl ?_)
         refine QW.cons rfl (QP.no' rfl rfl hb1653 rfl ?_)
         refine QW.cons rfl (QP.val (v := (.bool false)) rfl (fun w' hm' => x_pickF' rfl hb1653 rfl) ?_)
         refine QW.nil ?_
         intro wd1687 hmod
         have hL := hL.call hmod
         refine DW.done (by kernel_rfl) ?_
         have hL := hL.thaw 0 rfl ho1652
         exact ⟨false, hm, ⟨f1139, f1140, rfl, rfl, f1141, f1142, f1143, rfl, hL⟩⟩
       intro s_j3 F1603 wd1604 hJ hm
       unfold M.impl_TiedBoats_j3 at hm
       obtain ⟨f1605, f1606, f1607, f1608, f1609, f1610, f1611, f1612, hL⟩ := hJ
       refine CW.condM (t := s_j3) f1612 hm (fun hb1613 hm => ?_) (fun hb1613 hm => ?_)
       · refine CW.regionL ?_
         refine OV v1120 rfl (x_mv f1606) ?_
         refine OV (.int .i64 (s_l1.1.length : Int)) rfl (x_mv f1608) ?_
         refine OV (.int .i64 (w64 ((s_l1.1.length : Int) - 1))) rfl (x_sub rfl rfl) ?_
         refine OV v1120 rfl (x_mv f1606) ?_
         refine OV (.int .i64 (s_l1.1.length : Int)) rfl (x_mv f1608) ?_
         refine OV (.int .i64 (w64 ((s_l1.1.length : Int) - 1))) rfl (x_sub rfl rfl) ?_
         obtain ⟨wz1614, hL, ho1615⟩ := hL.freeze 0 rfl
         simp only [lC, lD] at hL
         obtain ⟨x1616, ha1617, hm⟩ := bndE hm
         obtain ⟨hz1618, ha1626⟩ := idxE ha1617
         obtain ⟨b1619, q1620, v1621, hix1622, hs1623, hc1624, hr1625⟩ := rdN_at ho1615.1.rdL hz1618 ha1626
         refine OV (.pointer (some ⟨b1619, q1620, none⟩)) rfl (x_ix U22 Try_T25 rfl rfl hix1622) ?_
         refine OV v1621 rfl (x_load1 U25 rfl rfl (hL.cellF 0 rfl hs1623 hc1624)) ?_
         refine OV (.int .i64 x1559) rfl (x_mv f1607) ?_
         refine OW.cons (S_lit ([x1559] : List Int) hL U25 Try_T2 rfl (by decide) (by first | (simp [Instr.fill, madeCells, Value.cells, ev, upd, Flat.enc, Flat.sz]; done) | rfl | kernel_rfl) rfl rfl ?_)
         intro wd1627 v1628 S1629 hL
         have hc1630 := hL.cellF 1 rfl hs1623 hc1624
         have hL := hL.thaw 1 rfl ho1615
         simp only [lC, lD] at hL
         obtain ⟨E1631, S1632, S1633, hL⟩ := hL.holeAt (α := Int) 1 rfl hix1622 ha1626 hc1630
         simp only [lC, lD] at hL
         obtain ⟨hc1638, hm⟩ := chkE hm
         refine OW.cons (S_appendE (ys := ([x1559] : List Int)) hL 0 rfl U25 Try_T2 rfl rfl rfl (hL.rdO 1 rfl) (by simp) hc1638 (by decide) rfl ?_)
         intro wd1635 v1636 E1634 S1637 hL
         refine OV (.pointer (some ⟨b1619, q1620, none⟩)) rfl (x_ix U22 Try_T25 rfl rfl hix1622) ?_
         have hL := hL.sel [2, 0, 1, 3, 4, 5, 6, 7] (by decide) rfl
         refine OW.cons (S_storeH (x1616 ++ ([x1559] : List Int)) rfl hL Try_T25 hix1622 ha1626 rfl rfl ?_)
         intro wd1639 S1640 hL
         refine OW.nil ?_
         have hL := hL.sel [0, 2, 3, 4, 5, 6] (by decide) rfl
         exact ⟨s_l1.1.set (w64 ((s_l1.1.length : Int) - 1) : Int).toNat (x1616 ++ ([x1559] : List Int)), hm, ⟨v1120, S1640, f1605, f1606, f1609, f1610, f1611, hL⟩⟩
       refine CW.regionL ?_
       refine OV v1120 rfl (x_mv f1606) ?_
       refine OV (.int .i64 x1559) rfl (x_mv f1607) ?_
       refine OW.cons (S_lit ([x1559] : List Int) hL U25 Try_T2 rfl (by decide) (by first | (simp [Instr.fill, madeCells, Value.cells, ev, upd, Flat.enc, Flat.sz]; done) | rfl | kernel_rfl) rfl rfl ?_)
       intro wd1641 v1642 S1643 hL
       refine OW.cons (S_lit1 ([x1559] : List Int) rfl hL U22 Try_T25 ((congrArg Value.cells (show _ = v1642 from rfl)).trans (rdL_cells (hL.rdO 0 rfl))) rfl ?_)
       intro wd1644 v1645 S1646 hL
       obtain ⟨hc1650, hm⟩ := chkE hm
       have hL := hL.sel [1, 0, 2, 3, 4, 5, 6] (by decide) rfl
       refine OW.cons (S_appendN Int hL U22 Try_T25 rfl rfl rfl hc1650 (by decide) rfl ?_)
       intro wd1647 v1648 S1649 hL
       refine OV v1648 rfl (x_assign) ?_
       refine OW.nil ?_
       exact ⟨s_l1.1 ++ ([([x1559] : List Int)] : List (List Int)), hm, ⟨v1648, S1649, f1605, rfl, f1609, f1610, f1611, hL⟩⟩
     intro s_j2 F1552 wd1553 hJ hm
     unfold M.impl_TiedBoats_j2 at hm
     obtain ⟨v1550, S1551, f1554, f1555, f1556, f1557, f1558, hL⟩ := hJ
     exact ⟨s_j2, hm, ⟨v1550, S1551, f1554, f1555, f1556, f1557, f1558, hL⟩⟩
   intro s_j1 F1414 wd1415 hJ hm
   unfold M.impl_TiedBoats_j1 at hm
   obtain ⟨v1412, S1413, f1416, f1417, f1418, f1419, f1420, hL⟩ := hJ
   refine CW.regionL ?_
   refine OV (.int .i64 (w64 (s_l1.2 + 1))) rfl (x_add f1420 rfl) ?_
   refine OV (.int .i64 (w64 (s_l1.2 + 1))) rfl (x_move) ?_
   refine OW.nil ?_
   obtain rfl := Option.some.inj hm
   exact ⟨_, rfl, ⟨v1412, S1413, f1416, f1417, f1418, f1419, rfl, hL⟩⟩
 refine CW.exit ?_
 refine XJ.hit ?_
 obtain rfl := Option.some.inj hm
 exact ⟨_, rfl, ⟨v1120, S1121, f1139, f1140, f1141, f1142, f1143, hL⟩⟩

theorem M.laws_heldInt64SS_ok (w0 : World) (a0 : List (List Int)) {v1 : Value} (h2 : rdL (· < w0.heap.size) w0 v1 a0) (a1 : Int) {r : Int} (hm : M.laws_heldInt64SS a0 a1 = some r) :
    Calls Try.prog 35 #[v1, (.int .i64 a1)] w0 fun e w' => e = .returned (.int .i64 r) ∧ Fresh w0 w' [] := by
 unfold M.laws_heldInt64SS at hm
 refine calls_CW (args := [v1, (.int .i64 a1)]) Try.func35 rfl rfl rfl ?_
 have hL := Hp.start w0
 refine CSR ?_
 refine OV (.int .i64 0) rfl (x_assign) ?_
 refine ONS ?_
 refine CSR ?_
 refine OV (.int .i64 0) rfl (x_assign) ?_
 refine OW.nil ?_
 obtain ⟨o41, ho42, hm⟩ := bndE hm
 refine CW.loopB (fun (s_l1 : Int × Int) (F : Fr) (w : World) => F 0 = v1 ∧ F 1 = (.int .i64 s_l1.1) ∧ F 5 = (.int .i64 s_l1.2) ∧ Hp w0 [Ent.snap w0 w0.heap.size] w) (fun o => outc o (fun x => some x) (fun s => M.laws_heldInt64SS_a1 s) = some r) ho42 hm ⟨rfl, rfl, rfl, hL⟩ ?_ ?_
 · intro s_l1 F43 wd44 hJ hm
   have hm := outcE hm
   have hm : M.laws_heldInt64SS_a1 s_l1 = some r := hm
   unfold M.laws_heldInt64SS_a1 at hm
   obtain ⟨f45, f46, f47, hL⟩ := hJ
   refine CSR ?_
   refine OV (.int .i64 s_l1.1) rfl (x_mv f46) ?_
   refine OV (.int .i64 s_l1.1) rfl (x_assign) ?_
   refine OW.nil ?_
   refine CW.ret ?_
   obtain rfl := Option.some.inj hm
   exact RR1 rfl rfl ⟨rfl, hL.fresh 0 rfl [] (by decide) (by decide) rfl⟩
 intro s_l1 F48 wd49 t39 hJ hm hr40
 unfold M.laws_heldInt64SS_l1 at hm
 obtain ⟨f50, f51, f52, hL⟩ := hJ
 refine CW.seq ?_
 refine CSR ?_
 refine OV (.int .i64 s_l1.2) rfl (x_mv f52) ?_
 refine OV v1 rfl (x_mv f50) ?_
 refine OV (.int .i64 (a0.length : Int)) rfl (x_lenR U22 rfl (hL.rdS 0 rfl h2)) ?_
 refine OV (.bool (decide (s_l1.2 < (a0.length : Int)))) rfl (x_lss rfl rfl) ?_
 refine OW.nil ?_
 refine CW.condM (t := decide (s_l1.2 < (a0.length : Int))) rfl hm (fun hb53 hm => ?_) (fun hb53 hm => ?_)
 · refine CW.skip ?_
   refine CW.seq ?_
   refine CW.block ?_
   refine CSR ?_
   refine OV v1 rfl (x_mv f50) ?_
   refine OV (.int .i64 s_l1.2) rfl (x_mv f52) ?_
   obtain ⟨x54, ha55, hm⟩ := bndE hm
   obtain ⟨hz56, ha64⟩ := idxE ha55
   obtain ⟨b57, q58, v59, hix60, hs61, hc62, hr63⟩ := rdN_at h2 hz56 ha64
   refine OV (.pointer (some ⟨b57, q58, none⟩)) rfl (x_ix U22 Try_T25 rfl rfl hix60) ?_
   refine OV v59 rfl (x_load1 U25 rfl rfl (hL.cellS 0 rfl hs61 hc62)) ?_
   refine OV (.int .i64 s_l1.1) rfl (x_mv f51) ?_
   obtain ⟨x65, hx66, hm⟩ := bndE hm
   refine OW.cons (OP.call rfl (x_call (vs := [v59, (.int .i64 s_l1.1)]) Try_C26 ⟨rfl, rfl, trivial⟩) (M.laws_heldInt64S_ok _ x54 (hL.rdS 0 rfl hr63) s_l1.1 hx66) ?_)
   rintro e67 wd68 ⟨rfl, hF69⟩
   refine ⟨_, rfl, ?_⟩
   have hL := hL.pushAll hF69
   simp only [lA, lB, lC, lD] at hL
   refine OV (.int .i64 x65) rfl (x_assign) ?_
   refine ONR ?_
   refine OV (.int .i64 x65) rfl (x_move) ?_
   refine OV (.bool (decide (x65 < 0))) rfl (x_lss rfl rfl) ?_
   refine OW.nil ?_
   refine CW.condM (t := decide (x65 < 0)) rfl hm (fun hb70 hm => ?_) (fun hb70 hm => ?_)
   · refine CSR ?_
     refine OV (.int .i64 (-1)) rfl (x_assign) ?_
     refine OW.nil ?_
     refine CW.ret ?_
     obtain rfl := Option.some.inj hm
     have hm := hr40 _ rfl
     obtain rfl := Option.some.inj hm
     exact RR1 rfl rfl ⟨rfl, hL.fresh 0 rfl [] (by decide) (by decide) rfl⟩
   refine CW.skip ?_
   refine CW.regionL ?_
   refine OV (.int .i64 s_l1.2) rfl (x_mv f52) ?_
   refine OV (.int .i64 (w64 (s_l1.2 + 1))) rfl (x_add rfl rfl) ?_
   refine OV (.int .i64 (w64 (s_l1.2 + 1))) rfl (x_assign) ?_
   refine OW.nil ?_
   obtain rfl := Option.some.inj hm
   exact ⟨_, rfl, ⟨f50, rfl, rfl, hL⟩⟩
 refine CW.exit ?_
 refine XJ.hit ?_
 obtain rfl := Option.some.inj hm
 exact ⟨_, rfl, ⟨f50, f51, f52, hL⟩⟩

theorem M.laws_FnExactTiedBoats_ok (w0 : World) (a0 : Table) {v1 : Value} {v3 : Value} (h2 : rdL (· < w0.heap.size) w0 v1 a0.Points) (h4 : rdL (· < w0.heap.size) w0 v3 a0.Codes) (a1 : List Int) {v5 : Value} (h6 : rdL (· < w0.heap.size) w0 v5 a1) {r : Bool} (hm : M.laws_FnExactTiedBoats a0 a1 = some r) :
    Calls Try.prog 8 #[(.agg #[(.int .i64 a0.Boats), v1, v3]), v5] w0 fun e w' => e = .returned (.bool r) ∧ Fresh w0 w' [] := by
 unfold M.laws_FnExactTiedBoats at hm
 refine calls_CW (args := [(.agg #[(.int .i64 a0.Boats), v1, v3]), v5]) Try.func8 rfl rfl rfl ?_
 have hL := Hp.start w0
 refine CSR ?_
 refine OW.cons (S_box (cs := #[(.int .i64 a0.Boats), v1, v3]) hL rfl rfl rfl ?_)
 intro wd7 b8 hL
 refine OV (.bool false) rfl (x_assign) ?_
 refine ONS ?_
 refine CSR ?_
 refine OV v5 rfl (x_move) ?_
 refine OV (.int .i64 (a1.length : Int)) rfl (x_lenR U25 rfl (hL.rdS 1 rfl h6)) ?_
 refine OV (.bool (decide (1048576 < (a1.length : Int)))) rfl (x_gtr rfl rfl) ?_
 refine OW.nil ?_
 refine CW.condM (t := decide (1048576 < (a1.length : Int))) rfl hm (fun hb9 hm => ?_) (fun hb9 hm => ?_)
 · refine CSR ?_
   refine OV (.bool true) rfl (x_assign) ?_
   refine OW.nil ?_
   refine CW.ret ?_
   obtain rfl := Option.some.inj hm
   exact RR1 rfl rfl ⟨rfl, hL.fresh 1 rfl [] (by decide) (by decide) rfl⟩
 refine CW.skip ?_
 refine CSR ?_
 refine OV (.int .i64 1048576) rfl (x_assign) ?_
 refine ONR ?_
 refine OV (.agg #[(.int .i64 a0.Boats), v1, v3]) rfl (x_loadN (cs := [(.int .i64 a0.Boats), v1, v3]) U24 Try_T24 rfl rfl (hL.cellsB 0 rfl (o := 0) (l := [(.int .i64 a0.Boats), v1, v3]) (by intro j u hj; exact (by simpa using hj)))) ?_
 refine OV (.int .i64 1048576) rfl (x_move) ?_
 obtain ⟨x10, hx11, hm⟩ := bndE hm
 refine OW.cons (OP.call rfl (x_call (vs := [(.agg #[(.int .i64 a0.Boats), v1, v3]), (.int .i64 1048576)]) Try_C13 ⟨rfl, rfl, trivial⟩) (M.laws_szTable_ok _ a0 (hL.rdS 1 rfl h2) (hL.rdS 1 rfl h4) 1048576 hx11) ?_)
 rintro e12 wd13 ⟨rfl, hF14⟩
 refine ⟨_, rfl, ?_⟩
 have hL := hL.pushAll hF14
 simp only [lA, lB, lC, lD] at hL
 refine OV (.int .i64 x10) rfl (x_assign) ?_
 refine ONS ?_
 refine CSR ?_
 refine OV (.int .i64 x10) rfl (x_move) ?_
 refine OV (.bool (decide (x10 < 0))) rfl (x_lss rfl rfl) ?_
 refine OW.nil ?_
 refine CW.condM (t := decide (x10 < 0)) rfl hm (fun hb15 hm => ?_) (fun hb15 hm => ?_)
 · refine CSR ?_
   refine OV (.bool true) rfl (x_assign) ?_
   refine OW.nil ?_
   refine CW.ret ?_
   obtain rfl := Option.some.inj hm
   exact RR1 rfl rfl ⟨rfl, hL.fresh 1 rfl [] (by decide) (by decide) rfl⟩
 refine CW.skip ?_
 refine CSR ?_
 refine OV (.agg #[(.int .i64 a0.Boats), v1, v3]) rfl (x_loadN (cs := [(.int .i64 a0.Boats), v1, v3]) U24 Try_T24 rfl rfl (hL.cellsB 0 rfl (o := 0) (l := [(.int .i64 a0.Boats), v1, v3]) (by intro j u hj; exact (by simpa using hj)))) ?_
 obtain ⟨x16, hx17, hm⟩ := bndE hm
 refine OW.cons (OP.call rfl (x_call (vs := [(.agg #[(.int .i64 a0.Boats), v1, v3])]) Try_C15 ⟨rfl, trivial⟩) (M.laws_toTable_ok _ a0 (hL.rdS 1 rfl h2) (hL.rdS 1 rfl h4) hx17) ?_)
 rintro e22 wd23 ⟨v19, S18, v21, S20, rfl, hF24⟩
 refine ⟨_, rfl, ?_⟩
 have hL := hL.pushAll hF24
 simp only [lA, lB, lC, lD] at hL
 refine OV v5 rfl (x_move) ?_
 obtain ⟨x25, hx26, hm⟩ := bndE hm
 refine OW.cons (OP.call rfl (x_call (vs := [v5]) Try_C16 ⟨rfl, trivial⟩) (M.laws_toInt64S_ok _ a1 (hL.rdS 3 rfl h6) hx26) ?_)
 rintro e29 wd30 ⟨v28, S27, rfl, hF31⟩
 refine ⟨_, rfl, ?_⟩
 have hL := hL.pushAll hF31
 simp only [lA, lB, lC, lD] at hL
 obtain ⟨x32, hx33, hm⟩ := bndE hm
 refine OW.cons (OP.call rfl (x_call (vs := [(.agg #[(.int .i64 x16.Boats), v19, v21]), v28]) Try_C31 ⟨rfl, rfl, trivial⟩) (M.spec_TiedBoats_ok _ x16 (hL.rdO 1 rfl) (hL.rdO 2 rfl) x25 (hL.rdO 0 rfl) hx33) ?_)
 rintro e36 wd37 ⟨v35, S34, rfl, hF38⟩
 refine ⟨_, rfl, ?_⟩
 have hL := hL.pushAll hF38
 simp only [lA, lB, lC, lD] at hL
 refine OV (.tuple #[v35, (.int .i64 x32.2)]) rfl (x_move) ?_
 refine OV v35 rfl (x_extract rfl rfl) ?_
 refine OV (.int .i64 x32.2) rfl (x_extract rfl rfl) ?_
 refine OV v35 rfl (x_assign) ?_
 refine OV (.int .i64 x32.2) rfl (x_assign) ?_
 refine ONR ?_
 refine OV (.agg #[(.int .i64 a0.Boats), v1, v3]) rfl (x_loadN (cs := [(.int .i64 a0.Boats), v1, v3]) U24 Try_T24 rfl rfl (hL.cellsB 4 rfl (o := 0) (l := [(.int .i64 a0.Boats), v1, v3]) (by intro j u hj; exact (by simpa using hj)))) ?_
 obtain ⟨x39, hx40, hm⟩ := bndE hm
 refine OW.cons (OP.call rfl (x_call (vs := [(.agg #[(.int .i64 a0.Boats), v1, v3])]) Try_C15 ⟨rfl, trivial⟩) (M.laws_toTable_ok _ a0 (hL.rdS 5 rfl h2) (hL.rdS 5 rfl h4) hx40) ?_)
 rintro e45 wd46 ⟨v42, S41, v44, S43, rfl, hF47⟩
 refine ⟨_, rfl, ?_⟩
 have hL := hL.pushAll hF47
 simp only [lA, lB, lC, lD] at hL
 refine OW.cons (S_alloc (cs := #[(.int .i64 0), (.slice none 0 0), (.slice none 0 0)]) hL Try_T29 rfl rfl ?_)
 intro wd48 b49 hL
 refine OW.cons (S_storeN (l := [(.int .i64 x39.Boats), v42, v44]) (cs' := #[(.int .i64 x39.Boats), v42, v44]) hL 0 rfl Try_T29 rfl rfl (List.forall_mem_cons.2 ⟨rfl, (List.forall_mem_cons.2 ⟨rdL_one (hL.rdO 1 rfl), (List.forall_mem_cons.2 ⟨rdL_one (hL.rdO 2 rfl), (fun _ h => by cases h)⟩)⟩)⟩) rfl (Nat.le_of_ble_eq_true rfl) rfl ?_)
 intro wd50 hL
 refine ONR ?_
 refine OV v5 rfl (x_move) ?_
 obtain ⟨x51, hx52, hm⟩ := bndE hm
 refine OW.cons (OP.call rfl (x_call (vs := [v5]) Try_C16 ⟨rfl, trivial⟩) (M.laws_toInt64S_ok _ a1 (hL.rdS 8 rfl h6) hx52) ?_)
 rintro e55 wd56 ⟨v54, S53, rfl, hF57⟩
 refine ⟨_, rfl, ?_⟩
 have hL := hL.pushAll hF57
 simp only [lA, lB, lC, lD] at hL
 refine OV v54 rfl (x_assign) ?_
 refine ONR ?_
 refine OV (.agg #[(.int .i64 x39.Boats), v42, v44]) rfl (x_loadN (cs := [(.int .i64 x39.Boats), v42, v44]) U29 Try_T29 rfl rfl (hL.cellsB 1 rfl (o := 0) (l := [(.int .i64 x39.Boats), v42, v44]) (by intro j u hj; exact (by simpa using hj)))) ?_
 refine OV v54 rfl (x_move) ?_
 obtain ⟨x58, hx59, hm⟩ := bndE hm
 refine OW.cons (OP.call rfl (x_call (vs := [(.agg #[(.int .i64 x39.Boats), v42, v44]), v54]) Try_C32 ⟨rfl, rfl, trivial⟩) (M.impl_TiedBoats_ok _ x39 (hL.rdO 2 rfl) (hL.rdO 3 rfl) x51 (hL.rdO 0 rfl) hx59) ?_)
 rintro e62 wd63 ⟨v61, S60, rfl, hF64⟩
 refine ⟨_, rfl, ?_⟩
 have hL := hL.pushAll hF64
 simp only [lA, lB, lC, lD] at hL
 refine OV (.tuple #[v61, (.int .i64 x58.2)]) rfl (x_move) ?_
 refine OV v61 rfl (x_extract rfl rfl) ?_
 refine OV (.int .i64 x58.2) rfl (x_extract rfl rfl) ?_
 refine OV v61 rfl (x_assign) ?_
 refine OV (.int .i64 x58.2) rfl (x_assign) ?_
 refine ONS ?_
 refine CW.seqJ (fun (s_j1 : Bool) (F : Fr) (w : World) => F 1 = v5 ∧ F 2 = (.pointer (some ⟨b8, 0, none⟩)) ∧ F 6 = v35 ∧ F 7 = (.int .i64 x32.2) ∧ F 8 = (.pointer (some ⟨b49, 0, none⟩)) ∧ F 9 = v54 ∧ F 10 = v61 ∧ F 11 = (.int .i64 x58.2) ∧ F 51 = (.bool s_j1) ∧ Hp w0 [Ent.own 25 S60 v61 x58.1, Ent.own 2 S53 v54 x51, Ent.blk b49 29 #[(.int .i64 x39.Boats), v42, v44], Ent.own 25 S41 v42 x39.Points, Ent.own 25 S43 v44 x39.Codes, Ent.own 25 S34 v35 x32.1, Ent.blk b8 24 #[(.int .i64 a0.Boats), v1, v3], Ent.snap w0 w0.heap.size] w) (fun s_j1 => M.laws_FnExactTiedBoats_j1 a0 a1 x32 x39 x51 x58 s_j1 = some r) ?_ ?_
 · refine CW.regionL ?_
   refine OV v61 rfl (x_move) ?_
   refine OV v35 rfl (x_move) ?_
   obtain ⟨x222, hx223, hm⟩ := bndE hm
   refine OW.cons (OP.call rfl (x_call (vs := [v61, v35]) Try_C33 ⟨rfl, rfl, trivial⟩) (M.laws_eqInt64SS_ok _ x58.1 (hL.rdO 0 rfl) x32.1 (hL.rdO 5 rfl) hx223) ?_)
   rintro e224 wd225 ⟨rfl, hF226⟩
   refine ⟨_, rfl, ?_⟩
   have hL := hL.pushAll hF226
   simp only [lA, lB, lC, lD] at hL
   refine OV (.bool (!x222)) rfl (x_not rfl) ?_
   refine OV (.bool (!x222)) rfl (x_move) ?_
   refine ifB_elim hm (fun hb227 hm => ?_) (fun hb227 hm => ?_)
   · refine OW.cons (OP.no' rfl rfl hb227 rfl ?_)
     refine OW.cons (OP.no' rfl rfl hb227 rfl ?_)
     refine OW.cons (OP.no' rfl rfl hb227 rfl ?_)
     refine OV (.bool true) rfl (x_pickT' rfl hb227 rfl) ?_
     refine OW.nil ?_
     have hL := hL.sel [0, 1, 2, 3, 4, 5, 9, 10] (by decide) rfl
     exact ⟨true, hm, ⟨rfl, rfl, rfl, rfl, rfl, rfl, rfl, rfl, rfl, hL⟩⟩
   refine OW.cons (OP.yes' rfl rfl hb227 (OP.val (v := (.int .i64 x58.2)) rfl (x_move) ?_))
   refine OW.cons (OP.yes' rfl rfl hb227 (OP.val (v := (.int .i64 x32.2)) rfl (x_move) ?_))
   refine OW.cons (OP.yes' rfl rfl hb227 (OP.val (v := (.bool (x58.2 != x32.2))) rfl (x_neq rfl rfl) ?_))
   refine OV (.bool (x58.2 != x32.2)) rfl (x_pickF' rfl hb227 rfl) ?_
   refine OW.nil ?_
   have hL := hL.sel [0, 1, 2, 3, 4, 5, 9, 10] (by decide) rfl
   exact ⟨x58.2 != x32.2, hm, ⟨rfl, rfl, rfl, rfl, rfl, rfl, rfl, rfl, rfl, hL⟩⟩
 intro s_j1 F71 wd72 hJ hm
 unfold M.laws_FnExactTiedBoats_j1 at hm
 obtain ⟨f73, f74, f75, f76, f77, f78, f79, f80, f81, hL⟩ := hJ
 refine CW.condM (t := s_j1) f81 hm (fun hb82 hm => ?_) (fun hb82 hm => ?_)
 · refine CSR ?_
   refine OV (.bool false) rfl (x_assign) ?_
   refine OW.nil ?_
   refine CW.ret ?_
   obtain rfl := Option.some.inj hm
   exact RR1 rfl rfl ⟨rfl, hL.fresh 7 rfl [] (by decide) (by decide) rfl⟩
 refine CW.skip ?_
 refine CW.seq ?_
 refine CW.seq ?_
 refine CW.drawH (fun w' => Hp w0 [Ent.own 25 S60 v61 x58.1, Ent.own 2 S53 v54 x51, Ent.blk b49 29 #[(.int .i64 x39.Boats), v42, v44], Ent.own 25 S41 v42 x39.Points, Ent.own 25 S43 v44 x39.Codes, Ent.own 25 S34 v35 x32.1, Ent.blk b8 24 #[(.int .i64 a0.Boats), v1, v3], Ent.snap w0 w0.heap.size] w') Try_mixed ?_
 have hL := hL.call (Mod.drew _)
 have hS := (hL.sel [0, 1, 2, 3, 4, 5, 6, 7] (by decide) rfl)
 refine DH.take 0 rfl (by kernel_rfl) (by kernel_rfl) (by kernel_rfl) rfl rfl hS (YH.val (v := (.agg #[(.int .i64 x39.Boats), v42, v44])) (fun w' hS' => x_loadN (cs := [(.int .i64 x39.Boats), v42, v44]) U29 Try_T29 rfl f77 (hS'.cellsB 2 rfl (o := 0) (l := [(.int .i64 x39.Boats), v42, v44]) (by intro j u hj; exact (by simpa using hj))))) ?_
 have hS := (hL.sel [0, 1, 2, 3, 4, 5, 6, 7] (by decide) rfl)
 refine DH.take 1 rfl (by kernel_rfl) (by kernel_rfl) (by kernel_rfl) rfl rfl hS (YH.val (v := (.agg #[(.int .i64 a0.Boats), v1, v3])) (fun w' hS' => x_loadN (cs := [(.int .i64 a0.Boats), v1, v3]) U24 Try_T24 rfl f74 (hS'.cellsB 6 rfl (o := 0) (l := [(.int .i64 a0.Boats), v1, v3]) (by intro j u hj; exact (by simpa using hj))))) ?_
 obtain ⟨x97, hx98, hm⟩ := bndE hm
 refine DH.only 2 rfl (by kernel_rfl) (OP.call rfl (x_call (vs := [(.agg #[(.int .i64 a0.Boats), v1, v3])]) Try_C15 ⟨rfl, trivial⟩) (M.laws_toTable_ok _ a0 (hL.rdS 7 rfl h2) (hL.rdS 7 rfl h4) hx98) ?_)
 rintro e103 wd104 ⟨v100, S99, v102, S101, rfl, hF105⟩
 refine ⟨_, rfl, ?_⟩
 have hL := hL.pushAll hF105
 simp only [lA, lB, lC, lD] at hL
 refine ⟨(hL.sel [2, 3, 4, 5, 6, 7, 8, 9] (by decide) rfl), ?_⟩
 obtain ⟨x106, hx107, hm⟩ := bndE hm
 refine DH.only 3 rfl (by kernel_rfl) (OP.call rfl (x_call (vs := [(.agg #[(.int .i64 x39.Boats), v42, v44]), (.agg #[(.int .i64 x97.Boats), v100, v102])]) Try_C18 ⟨rfl, rfl, trivial⟩) (M.laws_eqTable_ok _ x39 (hL.rdO 5 rfl) (hL.rdO 6 rfl) x97 (hL.rdO 0 rfl) (hL.rdO 1 rfl) hx107) ?_)
 rintro e108 wd109 ⟨rfl, hF110⟩
 refine ⟨_, rfl, ?_⟩
 have hL := hL.pushAll hF110
 simp only [lA, lB, lC, lD] at hL
 refine ⟨(hL.sel [2, 3, 4, 5, 6, 7, 8, 9] (by decide) rfl), ?_⟩
 have hS := (hL.sel [2, 3, 4, 5, 6, 7, 8, 9] (by decide) rfl)
 refine DH.take 4 rfl (by kernel_rfl) (by kernel_rfl) (by kernel_rfl) rfl rfl hS (YH.val (v := (.bool (!x106))) (fun w' hS' => x_not rfl)) ?_
 refine DH.done (by kernel_rfl) ?_
 refine CW.condM (t := !x106) rfl hm (fun hb111 hm => ?_) (fun hb111 hm => ?_)
 · refine CSR ?_
   refine OV (.bool false) rfl (x_assign) ?_
   refine OW.nil ?_
   refine CW.ret ?_
   obtain rfl := Option.some.inj hm
   exact RR1 rfl rfl ⟨rfl, hL.fresh 9 rfl [] (by decide) (by decide) rfl⟩
 refine CW.skip ?_
 refine CW.seq ?_
 refine CSR ?_
 refine OV v54 rfl (x_mv f78) ?_
 refine OV v5 rfl (x_mv f73) ?_
 obtain ⟨x112, hx113, hm⟩ := bndE hm
 refine OW.cons (OP.call rfl (x_call (vs := [v5]) Try_C16 ⟨rfl, trivial⟩) (M.laws_toInt64S_ok _ a1 (hL.rdS 9 rfl h6) hx113) ?_)
 rintro e116 wd117 ⟨v115, S114, rfl, hF118⟩
 refine ⟨_, rfl, ?_⟩
 have hL := hL.pushAll hF118
 simp only [lA, lB, lC, lD] at hL
 obtain ⟨x119, hx120, hm⟩ := bndE hm
 refine OW.cons (OP.call rfl (x_call (vs := [v54, v115]) Try_C19 ⟨rfl, rfl, trivial⟩) (M.laws_eqInt64S_ok _ x51 (hL.rdO 4 rfl) x112 (hL.rdO 0 rfl) hx120) ?_)
 rintro e121 wd122 ⟨rfl, hF123⟩
 refine ⟨_, rfl, ?_⟩
 have hL := hL.pushAll hF123
 simp only [lA, lB, lC, lD] at hL
 refine OV (.bool (!x119)) rfl (x_not rfl) ?_
 refine OW.nil ?_
 refine CW.condM (t := !x119) rfl hm (fun hb124 hm => ?_) (fun hb124 hm => ?_)
 · refine CSR ?_
   refine OV (.bool false) rfl (x_assign) ?_
   refine OW.nil ?_
   refine CW.ret ?_
   obtain rfl := Option.some.inj hm
   exact RR1 rfl rfl ⟨rfl, hL.fresh 10 rfl [] (by decide) (by decide) rfl⟩
 refine CW.skip ?_
 refine CSR ?_
 refine OV (.int .i64 1) rfl (x_assign) ?_
 refine ONR ?_
 refine OV (.agg #[(.int .i64 x39.Boats), v42, v44]) rfl (x_loadN (cs := [(.int .i64 x39.Boats), v42, v44]) U29 Try_T29 rfl f77 (hL.cellsB 5 rfl (o := 0) (l := [(.int .i64 x39.Boats), v42, v44]) (by intro j u hj; exact (by simpa using hj)))) ?_
 refine OV (.int .i64 1) rfl (x_move) ?_
 have hL := hL.sel [6, 7, 0, 1, 2, 3, 4, 5, 8, 9, 10] (by decide) rfl
 have hL := hL.join2
 obtain ⟨x125, hx126, hm⟩ := bndE hm
 refine OW.cons (OP.call rfl (x_call (vs := [(.agg #[(.int .i64 x39.Boats), v42, v44]), (.int .i64 1)]) Try_C24 ⟨rfl, rfl, trivial⟩) (M.laws_markTable_ok _ (Table.mk x39.Boats x39.Points x39.Codes) (hL.get 0 rfl) 1 hx126) ?_)
 rintro e127 wd128 ⟨S130, S131, rfl, hF129⟩
 refine ⟨_, rfl, ?_⟩
 have hL := hL.mut 0 rfl hF129
 simp only [lA, lB, lC, lD] at hL
 have hL := hL.split2
 refine OV (.int .i64 x125.1) rfl (x_assign) ?_
 refine ONR ?_
 refine OV v54 rfl (x_mv f78) ?_
 refine OV (.int .i64 x125.1) rfl (x_move) ?_
 obtain ⟨x132, hx133, hm⟩ := bndE hm
 refine OW.cons (OP.call rfl (x_call (vs := [v54, (.int .i64 x125.1)]) Try_C25 ⟨rfl, rfl, trivial⟩) (M.laws_markInt64S_ok _ x51 (hL.get 6 rfl) x125.1 hx133) ?_)
 rintro e134 wd135 ⟨S137, rfl, hF136⟩
 refine ⟨_, rfl, ?_⟩
 have hL := hL.mut 6 rfl hF136
 simp only [lA, lB, lC, lD] at hL
 refine OV (.int .i64 x132.1) rfl (x_assign) ?_
 refine ONS ?_
 refine CW.seqJ (fun (s_j2 : Bool) (F : Fr) (w : World) => F 1 = v5 ∧ F 2 = (.pointer (some ⟨b8, 0, none⟩)) ∧ F 6 = v35 ∧ F 7 = (.int .i64 x32.2) ∧ F 10 = v61 ∧ F 80 = (.bool s_j2) ∧ Hp w0 [Ent.own 25 S130 v42 x125.2.Points, Ent.own 25 S131 v44 x125.2.Codes, Ent.own 25 S60 v61 x58.1, Ent.blk b49 29 #[(.int .i64 x39.Boats), v42, v44], Ent.own 25 S34 v35 x32.1, Ent.blk b8 24 #[(.int .i64 a0.Boats), v1, v3], Ent.snap w0 w0.heap.size] w) (fun s_j2 => M.laws_FnExactTiedBoats_j2 a0 a1 x32 x58 s_j2 = some r) ?_ ?_
 · refine CW.regionL ?_
   refine OV (.int .i64 x132.1) rfl (x_move) ?_
   refine OV (.bool (decide (x132.1 < 0))) rfl (x_lss rfl rfl) ?_
   refine OV (.bool (decide (x132.1 < 0))) rfl (x_move) ?_
   refine ifB_elim hm (fun hb215 hm => ?_) (fun hb215 hm => ?_)
   · refine OW.cons (OP.no' rfl rfl hb215 rfl ?_)
     refine OW.cons (OP.no' rfl rfl hb215 rfl ?_)
     refine OW.cons (OP.no' rfl rfl hb215 rfl ?_)
     refine OW.cons (OP.no' rfl rfl hb215 rfl ?_)
     refine OV (.bool true) rfl (x_pickT' rfl hb215 rfl) ?_
     refine OV (.bool true) rfl (x_move) ?_
     refine OW.cons (OP.no' rfl rfl rfl rfl ?_)
     refine OW.cons (OP.no' rfl rfl rfl rfl ?_)
     refine OW.cons (OP.no' rfl rfl rfl rfl ?_)
     refine OV (.bool true) rfl (x_pickT' rfl rfl rfl) ?_
     refine OW.nil ?_
     have hL := hL.sel [0, 1, 5, 7, 8, 9, 10] (by decide) rfl
     exact ⟨true, hm, ⟨f73, f74, f75, f76, f79, rfl, hL⟩⟩
   refine OW.cons (OP.yes' rfl rfl hb215 (OP.val (v := v61) rfl (x_mv f79) ?_))
   refine OW.cons (OP.yes' rfl rfl hb215 (OP.val (v := v35) rfl (x_mv f75) ?_))
   obtain ⟨x216, hx217, hm⟩ := bndE hm
   refine OW.cons (OP.yes' rfl rfl hb215 (OP.call rfl (x_call (vs := [v61, v35]) Try_C33 ⟨rfl, rfl, trivial⟩) (M.laws_eqInt64SS_ok _ x58.1 (hL.rdO 5 rfl) x32.1 (hL.rdO 8 rfl) hx217) ?_))
   rintro e218 wd219 ⟨rfl, hF220⟩
   refine ⟨_, rfl, ?_⟩
   have hL := hL.pushAll hF220
   simp only [lA, lB, lC, lD] at hL
   refine OW.cons (OP.yes' rfl rfl hb215 (OP.val (v := (.bool (!x216))) rfl (x_not rfl) ?_))
   refine OV (.bool (!x216)) rfl (x_pickF' rfl hb215 rfl) ?_
   refine OV (.bool (!x216)) rfl (x_move) ?_
   refine ifB_elim hm (fun hb221 hm => ?_) (fun hb221 hm => ?_)
   · refine OW.cons (OP.no' rfl rfl hb221 rfl ?_)
     refine OW.cons (OP.no' rfl rfl hb221 rfl ?_)
     refine OW.cons (OP.no' rfl rfl hb221 rfl ?_)
     refine OV (.bool true) rfl (x_pickT' rfl hb221 rfl) ?_
     refine OW.nil ?_
     have hL := hL.sel [0, 1, 5, 7, 8, 9, 10] (by decide) rfl
     exact ⟨true, hm, ⟨f73, f74, f75, f76, f79, rfl, hL⟩⟩
   refine OW.cons (OP.yes' rfl rfl hb221 (OP.val (v := (.int .i64 x58.2)) rfl (x_mv f80) ?_))
   refine OW.cons (OP.yes' rfl rfl hb221 (OP.val (v := (.int .i64 x32.2)) rfl (x_mv f76) ?_))
   refine OW.cons (OP.yes' rfl rfl hb221 (OP.val (v := (.bool (x58.2 != x32.2))) rfl (x_neq rfl rfl) ?_))
   refine OV (.bool (x58.2 != x32.2)) rfl (x_pickF' rfl hb221 rfl) ?_
   refine OW.nil ?_
   have hL := hL.sel [0, 1, 5, 7, 8, 9, 10] (by decide) rfl
   exact ⟨x58.2 != x32.2, hm, ⟨f73, f74, f75, f76, f79, rfl, hL⟩⟩
 intro s_j2 F145 wd146 hJ hm
 unfold M.laws_FnExactTiedBoats_j2 at hm
 obtain ⟨f147, f148, f149, f150, f151, f152, hL⟩ := hJ
 refine CW.condM (t := s_j2) f152 hm (fun hb153 hm => ?_) (fun hb153 hm => ?_)
 · refine CSR ?_
   refine OV (.bool false) rfl (x_assign) ?_
   refine OW.nil ?_
   refine CW.ret ?_
   obtain rfl := Option.some.inj hm
   exact RR1 rfl rfl ⟨rfl, hL.fresh 6 rfl [] (by decide) (by decide) rfl⟩
 refine CW.skip ?_
 refine CSR ?_
 refine OV (.int .i64 1) rfl (x_assign) ?_
 refine ONR ?_
 refine OV v61 rfl (x_mv f151) ?_
 refine OV (.int .i64 1) rfl (x_move) ?_
 obtain ⟨x154, hx155, hm⟩ := bndE hm
 refine OW.cons (OP.call rfl (x_call (vs := [v61, (.int .i64 1)]) Try_C34 ⟨rfl, rfl, trivial⟩) (M.laws_markInt64SS_ok _ x58.1 (hL.get 2 rfl) 1 hx155) ?_)
 rintro e156 wd157 ⟨S159, rfl, hF158⟩
 refine ⟨_, rfl, ?_⟩
 have hL := hL.mut 2 rfl hF158
 simp only [lA, lB, lC, lD] at hL
 refine OV (.int .i64 x154.1) rfl (x_assign) ?_
 refine ONR ?_
 refine OV (.int .i64 1) rfl (x_assign) ?_
 refine ONR ?_
 refine OV v61 rfl (x_mv f151) ?_
 refine OV (.int .i64 1) rfl (x_move) ?_
 obtain ⟨x160, hx161, hm⟩ := bndE hm
 refine OW.cons (OP.call rfl (x_call (vs := [v61, (.int .i64 1)]) Try_C35 ⟨rfl, rfl, trivial⟩) (M.laws_heldInt64SS_ok _ x154.2 (hL.rdO 2 rfl) 1 hx161) ?_)
 rintro e162 wd163 ⟨rfl, hF164⟩
 refine ⟨_, rfl, ?_⟩
 have hL := hL.pushAll hF164
 simp only [lA, lB, lC, lD] at hL
 refine OV (.int .i64 x160) rfl (x_assign) ?_
 refine ONS ?_
 refine CSR ?_
 refine OV (.int .i64 x160) rfl (x_move) ?_
 refine OV (.bool (decide (x160 < 0))) rfl (x_lss rfl rfl) ?_
 refine OW.nil ?_
 refine CW.condM (t := decide (x160 < 0)) rfl hm (fun hb165 hm => ?_) (fun hb165 hm => ?_)
 · refine CSR ?_
   refine OV (.bool false) rfl (x_assign) ?_
   refine OW.nil ?_
   refine CW.ret ?_
   obtain rfl := Option.some.inj hm
   exact RR1 rfl rfl ⟨rfl, hL.fresh 6 rfl [] (by decide) (by decide) rfl⟩
 refine CW.skip ?_
 refine CW.seq ?_
 refine CSR ?_
 refine OV (.int .i64 x160) rfl (x_move) ?_
 refine OV (.int .i64 x154.1) rfl (x_move) ?_
 refine OV (.bool (x160 != x154.1)) rfl (x_neq rfl rfl) ?_
 refine OW.nil ?_
 refine CW.condM (t := x160 != x154.1) rfl hm (fun hb166 hm => ?_) (fun hb166 hm => ?_)
 · refine CSR ?_
   refine OV (.bool false) rfl (x_assign) ?_
   refine OW.nil ?_
   refine CW.ret ?_
   obtain rfl := Option.some.inj hm
   exact RR1 rfl rfl ⟨rfl, hL.fresh 6 rfl [] (by decide) (by decide) rfl⟩
 refine CW.skip ?_
 refine CSR ?_
 refine OV (.agg #[(.int .i64 a0.Boats), v1, v3]) rfl (x_loadN (cs := [(.int .i64 a0.Boats), v1, v3]) U24 Try_T24 rfl f148 (hL.cellsB 5 rfl (o := 0) (l := [(.int .i64 a0.Boats), v1, v3]) (by intro j u hj; exact (by simpa using hj)))) ?_
 obtain ⟨x167, hx168, hm⟩ := bndE hm
 refine OW.cons (OP.call rfl (x_call (vs := [(.agg #[(.int .i64 a0.Boats), v1, v3])]) Try_C15 ⟨rfl, trivial⟩) (M.laws_toTable_ok _ a0 (hL.rdS 6 rfl h2) (hL.rdS 6 rfl h4) hx168) ?_)
 rintro e173 wd174 ⟨v170, S169, v172, S171, rfl, hF175⟩
 refine ⟨_, rfl, ?_⟩
 have hL := hL.pushAll hF175
 simp only [lA, lB, lC, lD] at hL
 refine OV v5 rfl (x_mv f147) ?_
 obtain ⟨x176, hx177, hm⟩ := bndE hm
 refine OW.cons (OP.call rfl (x_call (vs := [v5]) Try_C16 ⟨rfl, trivial⟩) (M.laws_toInt64S_ok _ a1 (hL.rdS 8 rfl h6) hx177) ?_)
 rintro e180 wd181 ⟨v179, S178, rfl, hF182⟩
 refine ⟨_, rfl, ?_⟩
 have hL := hL.pushAll hF182
 simp only [lA, lB, lC, lD] at hL
 obtain ⟨x183, hx184, hm⟩ := bndE hm
 refine OW.cons (OP.call rfl (x_call (vs := [(.agg #[(.int .i64 x167.Boats), v170, v172]), v179]) Try_C32 ⟨rfl, rfl, trivial⟩) (M.impl_TiedBoats_ok _ x167 (hL.rdO 1 rfl) (hL.rdO 2 rfl) x176 (hL.rdO 0 rfl) hx184) ?_)
 rintro e187 wd188 ⟨v186, S185, rfl, hF189⟩
 refine ⟨_, rfl, ?_⟩
 have hL := hL.pushAll hF189
 simp only [lA, lB, lC, lD] at hL
 refine OV (.tuple #[v186, (.int .i64 x183.2)]) rfl (x_move) ?_
 refine OV v186 rfl (x_extract rfl rfl) ?_
 refine OV (.int .i64 x183.2) rfl (x_extract rfl rfl) ?_
 refine OV v186 rfl (x_assign) ?_
 refine OV (.int .i64 x183.2) rfl (x_assign) ?_
 refine ONS ?_
 refine CW.seqJ (fun (s_j3 : Bool) (F : Fr) (w : World) => F 10 = v61 ∧ F 13 = (.int .i64 x154.1) ∧ F 108 = (.bool s_j3) ∧ Hp w0 [Ent.own 25 S130 v42 x125.2.Points, Ent.own 25 S131 v44 x125.2.Codes, Ent.own 25 S159 v61 x154.2, Ent.blk b49 29 #[(.int .i64 x39.Boats), v42, v44], Ent.blk b8 24 #[(.int .i64 a0.Boats), v1, v3], Ent.snap w0 w0.heap.size] w) (fun s_j3 => M.laws_FnExactTiedBoats_j3 x154 s_j3 = some r) ?_ ?_
 · refine CW.regionL ?_
   refine OV v186 rfl (x_move) ?_
   refine OV v35 rfl (x_mv f149) ?_
   obtain ⟨x209, hx210, hm⟩ := bndE hm
   refine OW.cons (OP.call rfl (x_call (vs := [v186, v35]) Try_C33 ⟨rfl, rfl, trivial⟩) (M.laws_eqInt64SS_ok _ x183.1 (hL.rdO 0 rfl) x32.1 (hL.rdO 8 rfl) hx210) ?_)
   rintro e211 wd212 ⟨rfl, hF213⟩
   refine ⟨_, rfl, ?_⟩
   have hL := hL.pushAll hF213
   simp only [lA, lB, lC, lD] at hL
   refine OV (.bool (!x209)) rfl (x_not rfl) ?_
   refine OV (.bool (!x209)) rfl (x_move) ?_
   refine ifB_elim hm (fun hb214 hm => ?_) (fun hb214 hm => ?_)
   · refine OW.cons (OP.no' rfl rfl hb214 rfl ?_)
     refine OW.cons (OP.no' rfl rfl hb214 rfl ?_)
     refine OW.cons (OP.no' rfl rfl hb214 rfl ?_)
     refine OV (.bool true) rfl (x_pickT' rfl hb214 rfl) ?_
     refine OW.nil ?_
     have hL := hL.sel [4, 5, 6, 7, 9, 10] (by decide) rfl
     exact ⟨true, hm, ⟨f151, rfl, rfl, hL⟩⟩
   refine OW.cons (OP.yes' rfl rfl hb214 (OP.val (v := (.int .i64 x183.2)) rfl (x_move) ?_))
   refine OW.cons (OP.yes' rfl rfl hb214 (OP.val (v := (.int .i64 x32.2)) rfl (x_mv f150) ?_))
   refine OW.cons (OP.yes' rfl rfl hb214 (OP.val (v := (.bool (x183.2 != x32.2))) rfl (x_neq rfl rfl) ?_))
   refine OV (.bool (x183.2 != x32.2)) rfl (x_pickF' rfl hb214 rfl) ?_
   refine OW.nil ?_
   have hL := hL.sel [4, 5, 6, 7, 9, 10] (by decide) rfl
   exact ⟨x183.2 != x32.2, hm, ⟨f151, rfl, rfl, hL⟩⟩
 intro s_j3 F196 wd197 hJ hm
 unfold M.laws_FnExactTiedBoats_j3 at hm
 obtain ⟨f198, f199, f200, hL⟩ := hJ
 refine CW.condM (t := s_j3) f200 hm (fun hb201 hm => ?_) (fun hb201 hm => ?_)
 · refine CSR ?_
   refine OV (.bool false) rfl (x_assign) ?_
   refine OW.nil ?_
   refine CW.ret ?_
   obtain rfl := Option.some.inj hm
   exact RR1 rfl rfl ⟨rfl, hL.fresh 5 rfl [] (by decide) (by decide) rfl⟩
 refine CW.skip ?_
 refine CSR ?_
 refine OV (.int .i64 1) rfl (x_assign) ?_
 refine ONR ?_
 refine OV v61 rfl (x_mv f198) ?_
 refine OV (.int .i64 1) rfl (x_move) ?_
 obtain ⟨x202, hx203, hm⟩ := bndE hm
 refine OW.cons (OP.call rfl (x_call (vs := [v61, (.int .i64 1)]) Try_C35 ⟨rfl, rfl, trivial⟩) (M.laws_heldInt64SS_ok _ x154.2 (hL.rdO 2 rfl) 1 hx203) ?_)
 rintro e204 wd205 ⟨rfl, hF206⟩
 refine ⟨_, rfl, ?_⟩
 have hL := hL.pushAll hF206
 simp only [lA, lB, lC, lD] at hL
 refine OV (.int .i64 x202) rfl (x_assign) ?_
 refine ONS ?_
 refine CSR ?_
 refine OV (.int .i64 x202) rfl (x_move) ?_
 refine OV (.bool (decide (x202 < 0))) rfl (x_lss rfl rfl) ?_
 refine OW.nil ?_
 refine CW.condM (t := decide (x202 < 0)) rfl hm (fun hb207 hm => ?_) (fun hb207 hm => ?_)
 · refine CSR ?_
   refine OV (.bool false) rfl (x_assign) ?_
   refine OW.nil ?_
   refine CW.ret ?_
   obtain rfl := Option.some.inj hm
   exact RR1 rfl rfl ⟨rfl, hL.fresh 5 rfl [] (by decide) (by decide) rfl⟩
 refine CW.skip ?_
 refine CW.seq ?_
 refine CSR ?_
 refine OV (.int .i64 x202) rfl (x_move) ?_
 refine OV (.int .i64 x154.1) rfl (x_mv f199) ?_
 refine OV (.bool (x202 != x154.1)) rfl (x_neq rfl rfl) ?_
 refine OW.nil ?_
 refine CW.condM (t := x202 != x154.1) rfl hm (fun hb208 hm => ?_) (fun hb208 hm => ?_)
 · refine CSR ?_
   refine OV (.bool false) rfl (x_assign) ?_
   refine OW.nil ?_
   refine CW.ret ?_
   obtain rfl := Option.some.inj hm
   exact RR1 rfl rfl ⟨rfl, hL.fresh 5 rfl [] (by decide) (by decide) rfl⟩
 refine CW.skip ?_
 refine CSR ?_
 refine OV (.bool true) rfl (x_assign) ?_
 refine OW.nil ?_
 refine CW.ret ?_
 obtain rfl := Option.some.inj hm
 exact RR1 rfl rfl ⟨rfl, hL.fresh 5 rfl [] (by decide) (by decide) rfl⟩

end Go.Proofs.Ytpobaajdhfoomaa
