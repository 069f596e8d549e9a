/- Links: each Go function returns what its model computes and leaves what was there. Printed by my generator. -/
import Derived.Test.YtpobaajdhfoomaaLnkFnTiedA
namespace Go.Proofs.Ytpobaajdhfoomaa
set_option maxRecDepth 10000
open Go Go.RowKit Go.ChangeShapes Go.WideShapes
set_option linter.unusedVariables false
set_option linter.unusedSimpArgs false

theorem M.slices_Index___int64_int64__ok (w0 : World) (a0 : List Int) {v1 : Value} (h2 : rdL (· < w0.heap.size) w0 v1 a0) (a1 : Int) {r : Int} (hm : M.slices_Index___int64_int64_ a0 a1 = some r) :
    Calls Try.prog 117 #[v1, (.int .i64 a1)] w0 fun e w' => e = .returned (.int .i64 r) ∧ Fresh w0 w' [] := by
 unfold M.slices_Index___int64_int64_ at hm
 refine calls_CW (args := [v1, (.int .i64 a1)]) Try.func117 rfl rfl rfl ?_
 have hL := Hp.start w0
 refine CSR <| OV (.int .i64 0) rfl (x_assign) <| ONS <| CSR <| OV v1 rfl (x_move) <| OV (.int .i64 (a0.length : Int)) rfl (x_lenR U25 rfl (hL.rdS 0 rfl h2)) <| OV (.int .i64 0) rfl (x_move) <| OW.nil ?_
 obtain ⟨o23, ho24, hm⟩ := bndE hm
 refine CW.loopB (fun (s_l1 : Int) (F : Fr) (w : World) => F 0 = v1 ∧ F 1 = (.int .i64 a1) ∧ F 7 = (.int .i64 (a0.length : Int)) ∧ F 8 = (.int .i64 s_l1) ∧ Hp w0 [Ent.snap w0 w0.heap.size] w) (fun o => outc o (fun x => some x) (fun s => M.slices_Index___int64_int64__a1 s) = some r) ho24 hm ⟨rfl, rfl, rfl, rfl, hL⟩ ?_ ?_
 · intro s_l1 F25 wd26 hJ hm
   have hm := outcE hm
   have hm : M.slices_Index___int64_int64__a1 s_l1 = some r := hm
   unfold M.slices_Index___int64_int64__a1 at hm
   obtain ⟨f27, f28, f29, f30, hL⟩ := hJ
   refine CSR <| OV (.int .i64 (-1)) rfl (x_assign) <| OW.nil <| CW.ret ?_
   obtain rfl := Option.some.inj hm
   exact RR1 rfl rfl ⟨rfl, hL.fresh 0 rfl [] (by decide) (by decide) rfl⟩
 intro s_l1 F31 wd32 t21 hJ hm hr22
 unfold M.slices_Index___int64_int64__l1 at hm
 obtain ⟨f33, f34, f35, f36, hL⟩ := hJ
 refine CSR <| OV (.bool (decide (s_l1 < (a0.length : Int)))) rfl (x_lss f36 f35) <| ONS ?_
 refine CW.condM (t := decide (s_l1 < (a0.length : Int))) rfl hm (fun hb37 hm => ?_) (fun hb37 hm => ?_)
 · refine CW.skip <| CW.seq <| CW.block <| CSR <| OV (.int .i64 s_l1) rfl (x_mv f36) <| OV (.int .i64 s_l1) rfl (x_assign) <| ONR <| OV (.int .i64 a1) rfl (x_mv f34) <| OV v1 rfl (x_mv f33) <| OV (.int .i64 s_l1) rfl (x_move) ?_
   obtain ⟨x38, ha39, hm⟩ := bndE hm
   obtain ⟨hz40, ha44⟩ := idxE ha39
   obtain ⟨b41, q42, hix43⟩ := rdL_ix (hL.rdS 0 rfl h2) hz40 ha44
   refine OV (.pointer (some ⟨b41, q42, none⟩)) rfl (x_ix U25 Try_T2 rfl rfl hix43) <| OV (.int .i64 x38) rfl (x_load1 U2 rfl rfl (rdF_cells (hL.rdS 0 rfl h2) hix43 ha44 0 _ rfl)) <| OV (.bool (a1 == x38)) rfl (x_eql rfl rfl) <| OW.nil ?_
   refine CW.condM (t := a1 == x38) rfl hm (fun hb45 hm => ?_) (fun hb45 hm => ?_)
   · refine CSR <| OV (.int .i64 s_l1) rfl (x_move) <| OV (.int .i64 s_l1) rfl (x_assign) <| OW.nil <| CW.ret ?_
     obtain rfl := Option.some.inj hm
     have hm := hr22 _ rfl
     obtain rfl := Option.some.inj hm
     exact RR1 rfl rfl ⟨rfl, hL.fresh 0 rfl [] (by decide) (by decide) rfl⟩
   refine CW.skip <| CW.regionL <| OV (.int .i64 (w64 (s_l1 + 1))) rfl (x_add f36 rfl) <| OV (.int .i64 (w64 (s_l1 + 1))) rfl (x_move) <| OW.nil ?_
   obtain rfl := Option.some.inj hm
   exact ⟨_, rfl, ⟨f33, f34, f35, rfl, hL⟩⟩
 refine CW.exit ?_
 refine XJ.hit ?_
 obtain rfl := Option.some.inj hm
 exact ⟨_, rfl, ⟨f33, f34, f35, f36, hL⟩⟩

theorem M.slices_Contains___int64_int64__ok (w0 : World) (a0 : List Int) {v1 : Value} (h2 : rdL (· < w0.heap.size) w0 v1 a0) (a1 : Int) {r : Bool} (hm : M.slices_Contains___int64_int64_ a0 a1 = some r) :
    Calls Try.prog 108 #[v1, (.int .i64 a1)] w0 fun e w' => e = .returned (.bool r) ∧ Fresh w0 w' [] := by
 unfold M.slices_Contains___int64_int64_ at hm
 refine calls_CW (args := [v1, (.int .i64 a1)]) Try.func108 rfl rfl rfl ?_
 have hL := Hp.start w0
 refine CSR <| OV (.bool false) rfl (x_assign) <| ONR <| OV v1 rfl (x_move) <| OV (.int .i64 a1) rfl (x_move) ?_
 obtain ⟨x3, hx4, hm⟩ := bndE hm
 refine OW.cons (OP.call rfl (x_call (vs := [v1, (.int .i64 a1)]) Try_C117 ⟨rfl, rfl, trivial⟩) (M.slices_Index___int64_int64__ok _ a0 (hL.rdS 0 rfl h2) a1 hx4) ?_)
 rintro e5 wd6 ⟨rfl, hF7⟩
 refine ⟨_, rfl, ?_⟩
 have hL := hL.pushAll hF7
 simp only [lA, lB, lC, lD] at hL
 refine OV (.bool (decide (0 ≤ x3))) rfl (x_geq rfl rfl) <| OV (.bool (decide (0 ≤ x3))) rfl (x_assign) <| OW.nil <| CW.ret ?_
 obtain rfl := Option.some.inj hm
 exact RR1 rfl rfl ⟨rfl, hL.fresh 0 rfl [] (by decide) (by decide) rfl⟩

theorem M.impl_countedPoints_ok (w0 : World) (a0 : Table) {v1 : Value} {v3 : Value} (h2 : rdL (· < w0.heap.size) w0 v1 a0.Points) (h4 : rdL (· < w0.heap.size) w0 v3 a0.Codes) (a1 : List Int) {v5 : Value} (h6 : rdL (· < w0.heap.size) w0 v5 a1) (a2 : Int) {r : (List Int)} (hm : M.impl_countedPoints a0 a1 a2 = some r) :
    Calls Try.prog 90 #[(.agg #[(.int .i64 a0.Boats), v1, v3]), v5, (.int .i64 a2)] w0 fun e w' => ∃ (rv0 : Value) (rS0 : Nat → Prop), e = .returned rv0 ∧ Fresh w0 w' [Ent.own 2 rS0 rv0 r] := by
 unfold M.impl_countedPoints at hm
 refine calls_CW (args := [(.agg #[(.int .i64 a0.Boats), v1, v3]), v5, (.int .i64 a2)]) Try.func90 rfl rfl rfl ?_
 have hL := Hp.start w0
 refine CSR ?_
 refine OW.cons (S_box (cs := #[(.int .i64 a0.Boats), v1, v3]) hL rfl rfl rfl ?_)
 intro wd7 b8 hL
 refine OV (.slice none 0 0) rfl (x_assign) <| ONR ?_
 refine OW.cons (S_lit ([] : List Int) hL U25 Try_T2 rfl (by decide) (by first | (simp [Instr.fill, madeCells, Value.cells, ev, upd, Flat.enc, Flat.sz]; done) | rfl | kernel_rfl) rfl rfl ?_)
 intro wd9 v10 S11 hL
 refine OV (.agg #[(.int .i64 a0.Boats), v1, v3]) rfl (x_loadN (cs := [(.int .i64 a0.Boats), v1, v3]) U29 Try_T29 rfl rfl (hL.cellsB 1 rfl (o := 0) (l := [(.int .i64 a0.Boats), v1, v3]) (by intro j u hj; exact (by simpa using hj)))) <| OV v5 rfl (x_move) <| OV (.int .i64 a2) rfl (x_move) ?_
 obtain ⟨x12, hx13, hm⟩ := bndE hm
 refine OW.cons (OP.call rfl (x_call (vs := [(.agg #[(.int .i64 a0.Boats), v1, v3]), v5, (.int .i64 a2)]) Try_C78 ⟨rfl, rfl, rfl, trivial⟩) (M.impl_discardsOf_ok _ a0 (hL.rdS 2 rfl h2) (hL.rdS 2 rfl h4) a1 (hL.rdS 2 rfl h6) a2 hx13) ?_)
 rintro e16 wd17 ⟨v15, S14, rfl, hF18⟩
 refine ⟨_, rfl, ?_⟩
 have hL := hL.pushAll hF18
 simp only [lA, lB, lC, lD] at hL
 refine OV v10 rfl (x_assign) <| OV v15 rfl (x_assign) <| ONS <| CSR <| OV (.pointer (some ⟨b8, 1, none⟩)) rfl (x_fieldAddr (fsz := 1) 0 1 1 U29 rfl Try_T22 rfl rfl rfl) <| OV v1 rfl (x_load1 U22 rfl rfl (hL.cellB 2 rfl rfl)) <| OV (.int .i64 (a0.Points.length : Int)) rfl (x_lenR U22 rfl (hL.rdS 3 rfl h2)) <| OV (.int .i64 0) rfl (x_move) <| OW.nil ?_
 obtain ⟨o335, ho336, hm⟩ := bndE hm
 have hL := hL.sel [1, 0, 2, 3] (by decide) rfl
 refine CW.loopB (fun (s_l1 : (List Int) × Int) (F : Fr) (w : World) => ∃ (v331 : Value) (S332 : Nat → Prop), F 2 = (.int .i64 a2) ∧ F 3 = (.pointer (some ⟨b8, 0, none⟩)) ∧ F 7 = v331 ∧ F 8 = v15 ∧ F 17 = (.int .i64 (a0.Points.length : Int)) ∧ F 18 = (.int .i64 s_l1.2) ∧ Hp w0 [Ent.own 2 S332 v331 s_l1.1, Ent.own 2 S14 v15 x12, Ent.blk b8 29 #[(.int .i64 a0.Boats), v1, v3], Ent.snap w0 w0.heap.size] w) (fun o => outc o (fun x => some x) (fun s => M.impl_countedPoints_a1 s) = some r) ho336 hm ⟨v10, S11, rfl, rfl, rfl, rfl, rfl, rfl, hL⟩ ?_ ?_
 · intro s_l1 F337 wd338 hJ hm
   have hm := outcE hm
   have hm : M.impl_countedPoints_a1 s_l1 = some r := hm
   unfold M.impl_countedPoints_a1 at hm
   obtain ⟨v331, S332, f339, f340, f341, f342, f343, f344, hL⟩ := hJ
   refine CSR <| OV v331 rfl (x_mv f341) <| OV v331 rfl (x_assign) <| OW.nil <| CW.ret ?_
   obtain rfl := Option.some.inj hm
   exact RR1 rfl rfl ⟨v331, S332, rfl, hL.fresh 3 rfl [0] (by decide) (by decide) rfl⟩
 intro s_l1 F345 wd346 t333 hJ hm hr334
 unfold M.impl_countedPoints_l1 at hm
 obtain ⟨v331, S332, f347, f348, f349, f350, f351, f352, hL⟩ := hJ
 refine CSR <| OV (.bool (decide (s_l1.2 < (a0.Points.length : Int)))) rfl (x_lss f352 f351) <| ONS ?_
 refine CW.condM (t := decide (s_l1.2 < (a0.Points.length : Int))) rfl hm (fun hb353 hm => ?_) (fun hb353 hm => ?_)
 · refine CW.skip ?_
   refine CW.seqJ (fun (s_j1 : (List Int)) (F : Fr) (w : World) => ∃ (v426 : Value) (S427 : Nat → Prop), F 2 = (.int .i64 a2) ∧ F 3 = (.pointer (some ⟨b8, 0, none⟩)) ∧ F 7 = v426 ∧ F 8 = v15 ∧ F 17 = (.int .i64 (a0.Points.length : Int)) ∧ F 18 = (.int .i64 s_l1.2) ∧ Hp w0 [Ent.own 2 S427 v426 s_j1, Ent.own 2 S14 v15 x12, Ent.blk b8 29 #[(.int .i64 a0.Boats), v1, v3], Ent.snap w0 w0.heap.size] w) (fun s_j1 => M.impl_countedPoints_j1 s_l1 s_j1 = some t333) ?_ ?_
   · refine CW.blockJ (fun (s_j2 : (List Int)) (F : Fr) (w : World) => ∃ (v467 : Value) (S468 : Nat → Prop), F 2 = (.int .i64 a2) ∧ F 3 = (.pointer (some ⟨b8, 0, none⟩)) ∧ F 7 = v467 ∧ F 8 = v15 ∧ F 17 = (.int .i64 (a0.Points.length : Int)) ∧ F 18 = (.int .i64 s_l1.2) ∧ Hp w0 [Ent.own 2 S468 v467 s_j2, Ent.own 2 S14 v15 x12, Ent.blk b8 29 #[(.int .i64 a0.Boats), v1, v3], Ent.snap w0 w0.heap.size] w) (fun s_j2 => M.impl_countedPoints_j2 s_l1 s_j2 = some t333) ?_ ?_
     · refine CSR <| OV (.int .i64 s_l1.2) rfl (x_mv f352) <| OV (.int .i64 s_l1.2) rfl (x_assign) <| ONR <| OV v15 rfl (x_mv f350) <| OV (.int .i64 s_l1.2) rfl (x_move) ?_
       obtain ⟨x477, hx478, hm⟩ := bndE hm
       refine OW.cons (OP.call rfl (x_call (vs := [v15, (.int .i64 s_l1.2)]) Try_C108 ⟨rfl, rfl, trivial⟩) (M.slices_Contains___int64_int64__ok _ x12 (hL.rdO 1 rfl) s_l1.2 hx478) ?_)
       rintro e479 wd480 ⟨rfl, hF481⟩
       refine ⟨_, rfl, ?_⟩
       have hL := hL.pushAll hF481
       simp only [lA, lB, lC, lD] at hL
       refine OV (.bool (!x477)) rfl (x_not rfl) <| OW.nil ?_
       refine CW.condM (t := !x477) rfl hm (fun hb482 hm => ?_) (fun hb482 hm => ?_)
       · refine CW.regionL <| OV v331 rfl (x_mv f349) <| OV (.pointer (some ⟨b8, 1, none⟩)) rfl (x_fieldAddr (fsz := 1) 0 1 1 U29 rfl Try_T22 rfl f348 rfl) <| OV v1 rfl (x_load1 U22 rfl rfl (hL.cellB 2 rfl rfl)) <| OV (.int .i64 s_l1.2) rfl (x_move) ?_
         obtain ⟨x483, ha484, hm⟩ := bndE hm
         obtain ⟨hz485, ha493⟩ := idxE ha484
         obtain ⟨b486, q487, v488, hix489, hs490, hc491, hr492⟩ := rdN_at h2 hz485 ha493
         refine OV (.pointer (some ⟨b486, q487, none⟩)) rfl (x_ix U22 Try_T25 rfl rfl hix489) <| OV v488 rfl (x_load1 U25 rfl rfl (hL.cellS 3 rfl hs490 hc491)) <| OV (.int .i64 a2) rfl (x_mv f347) ?_
         obtain ⟨x494, ha495, hm⟩ := bndE hm
         obtain ⟨hz496, ha500⟩ := idxE ha495
         obtain ⟨b497, q498, hix499⟩ := rdL_ix (hL.rdS 3 rfl hr492) hz496 ha500
         refine OV (.pointer (some ⟨b497, q498, none⟩)) rfl (x_ix U25 Try_T2 rfl rfl hix499) <| OV (.int .i64 x494) rfl (x_load1 U2 rfl rfl (rdF_cells (hL.rdS 3 rfl hr492) hix499 ha500 0 _ rfl)) ?_
         refine OW.cons (S_lit ([x494] : List Int) hL U25 Try_T2 rfl (by decide) (by first | (simp [Instr.fill, madeCells, Value.cells, ev, upd, Flat.enc, Flat.sz]; done) | rfl | kernel_rfl) rfl rfl ?_)
         intro wd501 v502 S503 hL
         obtain ⟨hc507, hm⟩ := chkE hm
         refine OW.cons (S_append (ys := ([x494] : List Int)) hL 1 rfl U25 Try_T2 rfl rfl rfl (hL.rdO 0 rfl) hc507 (by decide) rfl ?_)
         intro wd504 v505 S506 hL
         refine OV v505 rfl (x_assign) <| OW.nil ?_
         have hL := hL.sel [1, 2, 3, 4] (by decide) rfl
         exact ⟨s_l1.1 ++ ([x494] : List Int), hm, ⟨v505, S506, f347, f348, rfl, f350, f351, f352, hL⟩⟩
       refine CW.skip ?_
       exact ⟨s_l1.1, hm, ⟨v331, S332, f347, f348, f349, f350, f351, f352, hL⟩⟩
     intro s_j2 F469 wd470 hJ hm
     unfold M.impl_countedPoints_j2 at hm
     obtain ⟨v467, S468, f471, f472, f473, f474, f475, f476, hL⟩ := hJ
     exact ⟨s_j2, hm, ⟨v467, S468, f471, f472, f473, f474, f475, f476, hL⟩⟩
   intro s_j1 F428 wd429 hJ hm
   unfold M.impl_countedPoints_j1 at hm
   obtain ⟨v426, S427, f430, f431, f432, f433, f434, f435, hL⟩ := hJ
   refine CW.regionL <| OV (.int .i64 (w64 (s_l1.2 + 1))) rfl (x_add f435 rfl) <| OV (.int .i64 (w64 (s_l1.2 + 1))) rfl (x_move) <| OW.nil ?_
   obtain rfl := Option.some.inj hm
   exact ⟨_, rfl, ⟨v426, S427, f430, f431, f432, f433, f434, rfl, hL⟩⟩
 refine CW.exit ?_
 refine XJ.hit ?_
 obtain rfl := Option.some.inj hm
 exact ⟨_, rfl, ⟨v331, S332, f347, f348, f349, f350, f351, f352, hL⟩⟩

theorem M.impl_netPoints_ok (w0 : World) (a0 : Table) {v1 : Value} {v3 : Value} (h2 : rdL (· < w0.heap.size) w0 v1 a0.Points) (h4 : rdL (· < w0.heap.size) w0 v3 a0.Codes) (a1 : List Int) {v5 : Value} (h6 : rdL (· < w0.heap.size) w0 v5 a1) (a2 : Int) {r : Int} (hm : M.impl_netPoints a0 a1 a2 = some r) :
    Calls Try.prog 71 #[(.agg #[(.int .i64 a0.Boats), v1, v3]), v5, (.int .i64 a2)] w0 fun e w' => e = .returned (.int .i64 r) ∧ Fresh w0 w' [] := by
 unfold M.impl_netPoints at hm
 refine calls_CW (args := [(.agg #[(.int .i64 a0.Boats), v1, v3]), v5, (.int .i64 a2)]) Try.func71 rfl rfl rfl ?_
 have hL := Hp.start w0
 refine CSR ?_
 refine OW.cons (S_box (cs := #[(.int .i64 a0.Boats), v1, v3]) hL rfl rfl rfl ?_)
 intro wd7 b8 hL
 refine OV (.int .i64 0) rfl (x_assign) <| ONR <| OV (.int .i64 0) rfl (x_assign) <| ONS <| CSR <| OV (.agg #[(.int .i64 a0.Boats), v1, v3]) rfl (x_loadN (cs := [(.int .i64 a0.Boats), v1, v3]) U29 Try_T29 rfl rfl (hL.cellsB 0 rfl (o := 0) (l := [(.int .i64 a0.Boats), v1, v3]) (by intro j u hj; exact (by simpa using hj)))) <| OV v5 rfl (x_move) <| OV (.int .i64 a2) rfl (x_move) ?_
 obtain ⟨x9, hx10, hm⟩ := bndE hm
 refine OW.cons (OP.call rfl (x_call (vs := [(.agg #[(.int .i64 a0.Boats), v1, v3]), v5, (.int .i64 a2)]) Try_C90 ⟨rfl, rfl, rfl, trivial⟩) (M.impl_countedPoints_ok _ a0 (hL.rdS 1 rfl h2) (hL.rdS 1 rfl h4) a1 (hL.rdS 1 rfl h6) a2 hx10) ?_)
 rintro e13 wd14 ⟨v12, S11, rfl, hF15⟩
 refine ⟨_, rfl, ?_⟩
 have hL := hL.pushAll hF15
 simp only [lA, lB, lC, lD] at hL
 refine OV (.int .i64 (x9.length : Int)) rfl (x_lenR U25 rfl (hL.rdO 0 rfl)) <| OV (.int .i64 0) rfl (x_move) <| OW.nil ?_
 obtain ⟨o34, ho35, hm⟩ := bndE hm
 refine CW.loopB (fun (s_l1 : Int × Int) (F : Fr) (w : World) => F 7 = (.int .i64 s_l1.1) ∧ F 13 = v12 ∧ F 14 = (.int .i64 (x9.length : Int)) ∧ F 15 = (.int .i64 s_l1.2) ∧ Hp w0 [Ent.own 2 S11 v12 x9, Ent.blk b8 29 #[(.int .i64 a0.Boats), v1, v3], Ent.snap w0 w0.heap.size] w) (fun o => outc o (fun x => some x) (fun s => M.impl_netPoints_a1 s) = some r) ho35 hm ⟨rfl, rfl, rfl, rfl, hL⟩ ?_ ?_
 · intro s_l1 F36 wd37 hJ hm
   have hm := outcE hm
   have hm : M.impl_netPoints_a1 s_l1 = some r := hm
   unfold M.impl_netPoints_a1 at hm
   obtain ⟨f38, f39, f40, f41, hL⟩ := hJ
   refine CSR <| OV (.int .i64 s_l1.1) rfl (x_mv f38) <| OV (.int .i64 s_l1.1) rfl (x_assign) <| OW.nil <| CW.ret ?_
   obtain rfl := Option.some.inj hm
   exact RR1 rfl rfl ⟨rfl, hL.fresh 2 rfl [] (by decide) (by decide) rfl⟩
 intro s_l1 F42 wd43 t32 hJ hm hr33
 unfold M.impl_netPoints_l1 at hm
 obtain ⟨f44, f45, f46, f47, hL⟩ := hJ
 refine CSR <| OV (.bool (decide (s_l1.2 < (x9.length : Int)))) rfl (x_lss f47 f46) <| ONS ?_
 refine CW.condM (t := decide (s_l1.2 < (x9.length : Int))) rfl hm (fun hb48 hm => ?_) (fun hb48 hm => ?_)
 · refine CW.skip <| CW.seq <| CW.block <| CSR ?_
   obtain ⟨x49, ha50, hm⟩ := bndE hm
   obtain ⟨hz51, ha55⟩ := idxE ha50
   obtain ⟨b52, q53, hix54⟩ := rdL_ix (hL.rdO 0 rfl) hz51 ha55
   refine OV (.pointer (some ⟨b52, q53, none⟩)) rfl (x_ix U25 Try_T2 f45 f47 hix54) <| OV (.int .i64 x49) rfl (x_load1 U2 rfl rfl (rdF_cells (hL.rdO 0 rfl) hix54 ha55 0 _ rfl)) <| OV (.int .i64 x49) rfl (x_assign) <| OW.nil <| CW.regionL <| OV (.int .i64 s_l1.1) rfl (x_mv f44) <| OV (.int .i64 x49) rfl (x_move) <| OV (.int .i64 (w64 (s_l1.1 + x49))) rfl (x_add rfl rfl) <| OV (.int .i64 (w64 (s_l1.1 + x49))) rfl (x_assign) <| OW.nil <| CW.regionL <| OV (.int .i64 (w64 (s_l1.2 + 1))) rfl (x_add f47 rfl) <| OV (.int .i64 (w64 (s_l1.2 + 1))) rfl (x_move) <| OW.nil ?_
   obtain rfl := Option.some.inj hm
   exact ⟨_, rfl, ⟨rfl, f45, f46, rfl, hL⟩⟩
 refine CW.exit ?_
 refine XJ.hit ?_
 obtain rfl := Option.some.inj hm
 exact ⟨_, rfl, ⟨f44, f45, f46, f47, hL⟩⟩

theorem M.impl_sortedPoints_ok (w0 : World) (a0 : Table) {v1 : Value} {v3 : Value} (h2 : rdL (· < w0.heap.size) w0 v1 a0.Points) (h4 : rdL (· < w0.heap.size) w0 v3 a0.Codes) (a1 : List Int) {v5 : Value} (h6 : rdL (· < w0.heap.size) w0 v5 a1) (a2 : Int) {r : (List Int)} (hm : M.impl_sortedPoints a0 a1 a2 = some r) :
    Calls Try.prog 92 #[(.agg #[(.int .i64 a0.Boats), v1, v3]), v5, (.int .i64 a2)] w0 fun e w' => ∃ (rv0 : Value) (rS0 : Nat → Prop), e = .returned rv0 ∧ Fresh w0 w' [Ent.own 2 rS0 rv0 r] := by
 unfold M.impl_sortedPoints at hm
 refine calls_CW (args := [(.agg #[(.int .i64 a0.Boats), v1, v3]), v5, (.int .i64 a2)]) Try.func92 rfl rfl rfl ?_
 have hL := Hp.start w0
 refine CSR ?_
 refine OW.cons (S_box (cs := #[(.int .i64 a0.Boats), v1, v3]) hL rfl rfl rfl ?_)
 intro wd7 b8 hL
 refine OV (.slice none 0 0) rfl (x_assign) <| ONR <| OV (.agg #[(.int .i64 a0.Boats), v1, v3]) rfl (x_loadN (cs := [(.int .i64 a0.Boats), v1, v3]) U29 Try_T29 rfl rfl (hL.cellsB 0 rfl (o := 0) (l := [(.int .i64 a0.Boats), v1, v3]) (by intro j u hj; exact (by simpa using hj)))) <| OV v5 rfl (x_move) <| OV (.int .i64 a2) rfl (x_move) ?_
 obtain ⟨x9, hx10, hm⟩ := bndE hm
 refine OW.cons (OP.call rfl (x_call (vs := [(.agg #[(.int .i64 a0.Boats), v1, v3]), v5, (.int .i64 a2)]) Try_C90 ⟨rfl, rfl, rfl, trivial⟩) (M.impl_countedPoints_ok _ a0 (hL.rdS 1 rfl h2) (hL.rdS 1 rfl h4) a1 (hL.rdS 1 rfl h6) a2 hx10) ?_)
 rintro e13 wd14 ⟨v12, S11, rfl, hF15⟩
 refine ⟨_, rfl, ?_⟩
 have hL := hL.pushAll hF15
 simp only [lA, lB, lC, lD] at hL
 refine OV v12 rfl (x_assign) <| ONR <| OV v12 rfl (x_move) ?_
 obtain ⟨x16, hx17, hm⟩ := bndE hm
 refine OW.cons (OP.call rfl (x_call (vs := [v12]) Try_C107 ⟨rfl, trivial⟩) (M.slices_Sort___int64_int64__ok _ x9 (hL.get 0 rfl) hx17) ?_)
 rintro e18 wd19 ⟨S21, rfl, hF20⟩
 refine ⟨_, rfl, ?_⟩
 have hL := hL.mut 0 rfl hF20
 simp only [lA, lB, lC, lD] at hL
 refine ONR <| OV v12 rfl (x_move) <| OV v12 rfl (x_assign) <| OW.nil <| CW.ret ?_
 obtain rfl := Option.some.inj hm
 exact RR1 rfl rfl ⟨v12, S21, rfl, hL.fresh 2 rfl [0] (by decide) (by decide) rfl⟩

theorem M.back110_ok (w0 : World) {v : Value} {α : Type} [GoT α] {S : Nat → Prop} {xs : List α} (h : rdL S w0 v xs) :
    Calls Try.prog 98 #[v] w0 fun e w' => ∃ b : Nat, e = .returned (.func (.func 110) #[] #[.pointer (some ⟨b, 0, none⟩)]) ∧ Fresh w0 w' [Ent.blk b 22 #[v]] := by
 refine calls_CW (args := [v]) Try.func98 rfl rfl rfl ?_
 have hL := Hp.start w0
 refine CSR ?_
 refine OW.cons (S_box (cs := #[v]) hL rfl (rdL_cells h) rfl ?_)
 intro wd b hL
 refine OW.cons (OP.val rfl x_assign ?_)
 refine ONR <| OV (.func (.func 110) #[] #[.pointer (some ⟨b, 0, none⟩)]) rfl (x_makeFunc (vs := [(.pointer (some ⟨b, 0, none⟩))]) ⟨rfl, trivial⟩) ?_
 refine OW.cons (OP.val rfl x_assign ?_)
 refine OW.nil <| CW.ret ?_
 exact RR1 rfl rfl ⟨b, rfl, hL.fresh 1 rfl [0] (by decide) (by decide) rfl⟩
theorem M.back110_it {v : Value} {b : Nat} {xs : List (List Int)} : IterB Try.prog 110 22 b v xs := by
 intro l Y Z W hY hr h0
 have hlen : (xs.length : Int) < 9223372036854775808 := by
   obtain ⟨Av, cap, _, h1, h2, _⟩ := (hY _ _ h0).2
   unfold maxLen at h2
   omega
 refine calls_CF (args := [(.func (.yield l) #[] #[]), (.pointer (some ⟨b, 0, none⟩))]) Try.func110 rfl rfl rfl ?_
 refine CF.seq ?_
 refine CF.regionL ?_
 refine OW.cons (OP.val rfl (x_load1 U22 rfl rfl (cell_box (hY _ _ h0).1)) ?_)
 refine OW.cons (OP.val rfl (x_lenR U22 rfl (hY _ _ h0).2) ?_)
 refine OW.cons (OP.val rfl (x_sub rfl rfl) ?_)
 refine OW.cons (OP.val rfl x_assign ?_)
 refine OW.nil ?_
 refine CF.block ?_
 refine CF.loop (fun F w => ∃ k : Nat, k ≤ xs.length ∧ F 0 = (.func (.yield l) #[] #[]) ∧ F 1 = (.pointer (some ⟨b, 0, none⟩)) ∧ F 3 = .int .i64 ((k : Int) - 1) ∧ Y k w) (fun F _ => match F 3 with | .int _ i => (i + 1).toNat | _ => 0) ⟨xs.length, Nat.le_refl _, rfl, rfl, congrArg (Value.int .i64) (w64_id (by omega)), h0⟩ ?_
 rintro F w ⟨k, hk, f0, f1, f3, hYk⟩
 refine CF.seq ?_
 refine CF.seq ?_
 refine CF.regionL ?_
 refine OW.cons (OP.val rfl (x_mv f3) ?_)
 refine OW.cons (OP.val rfl (x_geq rfl rfl) ?_)
 refine OW.nil ?_
 cases k with
 | zero =>
   refine CF.condF (t := decide ((0 : Int) ≤ ((0 : Nat) : Int) - 1)) rfl (decide_eq_false (by omega)) ?_
   refine CF.exit ?_
   refine XX.hit ?_
   exact RR0 rfl ⟨⟨_, rfl⟩, .inl hYk⟩
 | succ k =>
   refine CF.condT (t := decide ((0 : Int) ≤ ((k + 1 : Nat) : Int) - 1)) rfl (decide_eq_true (by omega)) ?_
   refine CF.skip ?_
   refine CF.seq ?_
   refine CF.block ?_
   refine CF.seq ?_
   have hlt : k < xs.length := by omega
   have e1 : (((k + 1 : Nat) : Int) - 1) = (k : Int) := by omega
   rw [e1] at f3
   obtain ⟨b1, q1, u1, hix, _, hc, _⟩ := rdN_at (hY _ _ hYk).2 (Int.natCast_nonneg k) (by rw [Int.toNat_natCast]; exact List.getElem?_eq_getElem hlt)
   obtain ⟨fn, tmps, assign, body, hy, hR⟩ := hr k w u1 hlt hYk (fun b' q' hix' => by obtain ⟨rfl, rfl⟩ := hix.inj hix'; exact hc)
   refine CF.regionY ?_
   refine OF.cons rfl (OP.val rfl (x_mv f0) ?_)
   refine OF.cons rfl (OP.val rfl (x_mv f3) ?_)
   refine OF.cons rfl (OP.val rfl (x_load1 U22 rfl f1 (cell_box (hY _ _ hYk).1)) ?_)
   refine OF.cons rfl (OP.val rfl (x_mv f3) ?_)
   refine OF.cons rfl (OP.val rfl (x_ix U22 Try_T25 rfl rfl hix) ?_)
   refine OF.cons rfl (OP.val rfl (x_load1 U25 rfl rfl hc) ?_)
   refine OF.yield rfl rfl rfl rfl hy (hR.mono ?_)
   rintro e W' (⟨rfl, hY'⟩ | ⟨rfl, hZ⟩)
   · refine ⟨_, rfl, ?_⟩
     refine OF.cons rfl (OP.val rfl (x_not (b := true) rfl) ?_)
     refine OF.nil ?_
     refine CF.condF (t := !true) rfl rfl ?_
     refine CF.skip ?_
     refine CF.regionL ?_
     refine OW.cons (OP.val rfl (x_mv f3) ?_)
     refine OW.cons (OP.val rfl (x_sub rfl rfl) ?_)
     refine OW.cons (OP.val rfl x_assign ?_)
     refine OW.nil ?_
     have e2 : w64 ((k : Int) - 1) = (k : Int) - 1 := w64_id (by omega)
     refine ⟨⟨k, by omega, f0, f1, congrArg (Value.int .i64) e2, hY'⟩, ?_⟩
     show (w64 ((k : Int) - 1) + 1).toNat < (match F 3 with | .int _ i => (i + 1).toNat | _ => 0)
     rw [e2, f3]
     simp
   · refine ⟨_, rfl, ?_⟩
     refine OF.cons rfl (OP.val rfl (x_not (b := false) rfl) ?_)
     refine OF.nil ?_
     refine CF.condT (t := !false) rfl rfl ?_
     refine CF.ret ?_
     exact RR0 rfl ⟨⟨_, rfl⟩, .inr hZ⟩

theorem M.impl_compareBoats_ok (w0 : World) (a0 : Table) {v1 : Value} {v3 : Value} (h2 : rdL (· < w0.heap.size) w0 v1 a0.Points) (h4 : rdL (· < w0.heap.size) w0 v3 a0.Codes) (a1 : List Int) {v5 : Value} (h6 : rdL (· < w0.heap.size) w0 v5 a1) (a2 : Int) (a3 : Int) {r : Int × Int × Int} (hm : M.impl_compareBoats a0 a1 a2 a3 = some r) :
    Calls Try.prog 62 #[(.agg #[(.int .i64 a0.Boats), v1, v3]), v5, (.int .i64 a2), (.int .i64 a3)] w0 fun e w' => e = .returned (.tuple #[(.int .i64 r.1), (.int .i64 r.2.1), (.int .i64 r.2.2)]) ∧ Fresh w0 w' [] := by
 unfold M.impl_compareBoats at hm
 refine calls_SW (args := [(.agg #[(.int .i64 a0.Boats), v1, v3]), v5, (.int .i64 a2), (.int .i64 a3)]) Try.func62 rfl rfl rfl ?_
 have hL := Hp.start w0
 refine SW.seqC ?_
 refine CW.regionL ?_
 refine OW.cons (S_box (cs := #[(.int .i64 a0.Boats), v1, v3]) hL rfl rfl rfl ?_)
 intro wd7 b8 hL
 refine OW.cons (S_box (cs := #[(.int .i64 a2)]) hL rfl rfl rfl ?_)
 intro wd9 b10 hL
 refine OW.cons (S_box (cs := #[(.int .i64 a3)]) hL rfl rfl rfl ?_)
 intro wd11 b12 hL
 refine OW.cons (S_alloc (cs := #[(.int .i64 0)]) hL Try_T2 rfl rfl ?_)
 intro wd13 b14 hL
 refine OW.cons (S_alloc (cs := #[(.int .i64 0)]) hL Try_T2 rfl rfl ?_)
 intro wd15 b16 hL
 refine OW.cons (S_alloc (cs := #[(.int .i64 0)]) hL Try_T2 rfl rfl ?_)
 intro wd17 b18 hL
 refine OW.nil ?_
 refine SW.seqC ?_
 refine CW.seq ?_
 refine CW.draw Try_mixed ?_
 have hL := hL.call (Mod.drew _)
 refine DW.pre (fuel := 0) (fin := bma 10 1023) (C := fun w' => Mod None_ _ w') [0, 1, 2, 3, 4, 5, 6, 7, 8, 9] (Mod.refl _ _) (by kernel_rfl) (by kernel_rfl) ?_
 refine QV (.agg #[(.int .i64 a0.Boats), v1, v3]) rfl rfl (fun w' hm' => x_loadN (cs := [(.int .i64 a0.Boats), v1, v3]) U29 Try_T29 rfl rfl ((hL.call hm').cellsB 5 rfl (o := 0) (l := [(.int .i64 a0.Boats), v1, v3]) (by intro j u hj; exact (by simpa using hj)))) <| QV v5 rfl rfl (fun w' hm' => x_move) <| QV (.int .i64 a2) rfl rfl (fun w' hm' => x_load1 U2 rfl rfl ((hL.call hm').cellB 4 rfl rfl)) ?_
 obtain ⟨x19, hx20, hm⟩ := bndE hm
 refine QW.cons rfl (QP.call (v := (.int .i64 x19)) rfl (fun w' hm' => x_call (vs := [(.agg #[(.int .i64 a0.Boats), v1, v3]), v5, (.int .i64 a2)]) Try_C71 ⟨rfl, rfl, rfl, trivial⟩) (fun w' hm' => (M.impl_netPoints_ok w' a0 ((hL.call hm').rdS 6 rfl h2) ((hL.call hm').rdS 6 rfl h4) a1 ((hL.call hm').rdS 6 rfl h6) a2 hx20).mono (fun e w'' h => ⟨h.1, hm'.trans h.2.mod⟩)) ?_)
 refine QV (.agg #[(.int .i64 a0.Boats), v1, v3]) rfl rfl (fun w' hm' => x_loadN (cs := [(.int .i64 a0.Boats), v1, v3]) U29 Try_T29 rfl rfl ((hL.call hm').cellsB 5 rfl (o := 0) (l := [(.int .i64 a0.Boats), v1, v3]) (by intro j u hj; exact (by simpa using hj)))) <| QV v5 rfl rfl (fun w' hm' => x_move) <| QV (.int .i64 a3) rfl rfl (fun w' hm' => x_load1 U2 rfl rfl ((hL.call hm').cellB 3 rfl rfl)) ?_
 obtain ⟨x21, hx22, hm⟩ := bndE hm
 refine QW.cons rfl (QP.call (v := (.int .i64 x21)) rfl (fun w' hm' => x_call (vs := [(.agg #[(.int .i64 a0.Boats), v1, v3]), v5, (.int .i64 a3)]) Try_C71 ⟨rfl, rfl, rfl, trivial⟩) (fun w' hm' => (M.impl_netPoints_ok w' a0 ((hL.call hm').rdS 6 rfl h2) ((hL.call hm').rdS 6 rfl h4) a1 ((hL.call hm').rdS 6 rfl h6) a3 hx22).mono (fun e w'' h => ⟨h.1, hm'.trans h.2.mod⟩)) ?_)
 refine QV (.int .i64 (w64 (x19 - x21))) rfl rfl (fun w' hm' => x_sub rfl rfl) <| QV (.int .i64 (w64 (x19 - x21))) rfl rfl (fun w' hm' => x_assign) ?_
 refine QW.nil ?_
 intro wd23 hmod
 have hL := hL.call hmod
 refine DW.done (by kernel_rfl) ?_
 refine CSR <| OV (.int .i64 (w64 (x19 - x21))) rfl (x_move) <| OV (.bool ((w64 (x19 - x21)) != 0)) rfl (x_neq rfl rfl) <| OW.nil ?_
 refine CW.condM (t := (w64 (x19 - x21)) != 0) rfl hm (fun hb24 hm => ?_) (fun hb24 hm => ?_)
 · refine CSR <| OV (.int .i64 (w64 (x19 - x21))) rfl (x_move) ?_
   obtain ⟨x25, hx26, hm⟩ := bndE hm
   refine OW.cons (OP.call rfl (x_call (vs := [(.int .i64 (w64 (x19 - x21)))]) Try_C97 ⟨rfl, trivial⟩) (M.impl_sign_ok _ (w64 (x19 - x21)) hx26) ?_)
   rintro e27 wd28 ⟨rfl, hF29⟩
   refine ⟨_, rfl, ?_⟩
   have hL := hL.pushAll hF29
   simp only [lA, lB, lC, lD] at hL
   refine OW.cons (S_store (cs' := #[(.int .i64 x25)]) hL 2 rfl Try_T2 rfl rfl rfl rfl rfl ?_)
   intro wd30 hL
   refine OW.cons (S_store (cs' := #[(.int .i64 1)]) hL 1 rfl Try_T2 rfl rfl rfl rfl rfl ?_)
   intro wd31 hL
   refine OW.cons (S_store (cs' := #[(.int .i64 0)]) hL 0 rfl Try_T2 rfl rfl rfl rfl rfl ?_)
   intro wd32 hL
   refine OW.nil <| CW.ret ?_
   refine RM.nil ?_
   obtain rfl := Option.some.inj hm
   exact RRs (v := (.int .i64 x25)) (v2 := (.int .i64 1)) (vs := [(.int .i64 0)]) (rs := [.cell 8 2, .cell 9 2, .cell 10 2]) rfl ⟨resCell rfl (run_load1 U2 rfl (cell_box (hL.get 2 rfl))), resCell rfl (run_load1 U2 rfl (cell_box (hL.get 1 rfl))), resCell rfl (run_load1 U2 rfl (cell_box (hL.get 0 rfl))), trivial⟩ ⟨rfl, hL.fresh 6 rfl [] (by decide) (by decide) rfl⟩
 refine CW.skip ?_
 refine SW.seqC ?_
 refine CW.drawH (fun w' => Hp w0 [Ent.blk b18 2 #[(.int .i64 0)], Ent.blk b16 2 #[(.int .i64 0)], Ent.blk b14 2 #[(.int .i64 0)], Ent.blk b12 2 #[(.int .i64 a3)], Ent.blk b10 2 #[(.int .i64 a2)], Ent.blk b8 29 #[(.int .i64 a0.Boats), v1, v3], Ent.snap w0 w0.heap.size] w') Try_mixed ?_
 have hL := hL.call (Mod.drew _)
 have hS := (hL.sel [0, 1, 2, 3, 4, 5, 6] (by decide) rfl)
 refine DH.take 0 rfl (by kernel_rfl) (by kernel_rfl) (by kernel_rfl) rfl rfl hS (YH.val (v := (.agg #[(.int .i64 a0.Boats), v1, v3])) (fun w' hS' => x_loadN (cs := [(.int .i64 a0.Boats), v1, v3]) U29 Try_T29 rfl rfl (hS'.cellsB 5 rfl (o := 0) (l := [(.int .i64 a0.Boats), v1, v3]) (by intro j u hj; exact (by simpa using hj))))) ?_
 have hS := (hL.sel [0, 1, 2, 3, 4, 5, 6] (by decide) rfl)
 refine DH.take 1 rfl (by kernel_rfl) (by kernel_rfl) (by kernel_rfl) rfl rfl hS (YH.val (v := v5) (fun w' hS' => x_move)) ?_
 have hS := (hL.sel [0, 1, 2, 3, 4, 5, 6] (by decide) rfl)
 refine DH.take 2 rfl (by kernel_rfl) (by kernel_rfl) (by kernel_rfl) rfl rfl hS (YH.val (v := (.int .i64 a2)) (fun w' hS' => x_load1 U2 rfl rfl (hS'.cellB 4 rfl rfl))) ?_
 have hS := (hL.sel [0, 1, 2, 3, 4, 5, 6] (by decide) rfl)
 refine DH.take 4 rfl (by kernel_rfl) (by kernel_rfl) (by kernel_rfl) rfl rfl hS (YH.val (v := (.agg #[(.int .i64 a0.Boats), v1, v3])) (fun w' hS' => x_loadN (cs := [(.int .i64 a0.Boats), v1, v3]) U29 Try_T29 rfl rfl (hS'.cellsB 5 rfl (o := 0) (l := [(.int .i64 a0.Boats), v1, v3]) (by intro j u hj; exact (by simpa using hj))))) ?_
 have hS := (hL.sel [0, 1, 2, 3, 4, 5, 6] (by decide) rfl)
 refine DH.take 5 rfl (by kernel_rfl) (by kernel_rfl) (by kernel_rfl) rfl rfl hS (YH.val (v := v5) (fun w' hS' => x_move)) ?_
 have hS := (hL.sel [0, 1, 2, 3, 4, 5, 6] (by decide) rfl)
 refine DH.take 6 rfl (by kernel_rfl) (by kernel_rfl) (by kernel_rfl) rfl rfl hS (YH.val (v := (.int .i64 a3)) (fun w' hS' => x_load1 U2 rfl rfl (hS'.cellB 3 rfl rfl))) ?_
 obtain ⟨x47, hx48, hm⟩ := bndE hm
 refine DH.only 3 rfl (by kernel_rfl) (OP.call rfl (x_call (vs := [(.agg #[(.int .i64 a0.Boats), v1, v3]), v5, (.int .i64 a2)]) Try_C92 ⟨rfl, rfl, rfl, trivial⟩) (M.impl_sortedPoints_ok _ a0 (hL.rdS 6 rfl h2) (hL.rdS 6 rfl h4) a1 (hL.rdS 6 rfl h6) a2 hx48) ?_)
 rintro e51 wd52 ⟨v50, S49, rfl, hF53⟩
 refine ⟨_, rfl, ?_⟩
 have hL := hL.pushAll hF53
 simp only [lA, lB, lC, lD] at hL
 refine ⟨(hL.sel [1, 2, 3, 4, 5, 6, 7] (by decide) rfl), ?_⟩
 obtain ⟨x54, hx55, hm⟩ := bndE hm
 refine DH.only 7 rfl (by kernel_rfl) (OP.call rfl (x_call (vs := [(.agg #[(.int .i64 a0.Boats), v1, v3]), v5, (.int .i64 a3)]) Try_C92 ⟨rfl, rfl, rfl, trivial⟩) (M.impl_sortedPoints_ok _ a0 (hL.rdS 7 rfl h2) (hL.rdS 7 rfl h4) a1 (hL.rdS 7 rfl h6) a3 hx55) ?_)
 rintro e58 wd59 ⟨v57, S56, rfl, hF60⟩
 refine ⟨_, rfl, ?_⟩
 have hL := hL.pushAll hF60
 simp only [lA, lB, lC, lD] at hL
 refine ⟨(hL.sel [2, 3, 4, 5, 6, 7, 8] (by decide) rfl), ?_⟩
 have hS := (hL.sel [2, 3, 4, 5, 6, 7, 8] (by decide) rfl)
 refine DH.take 8 rfl (by kernel_rfl) (by kernel_rfl) (by kernel_rfl) rfl rfl hS (YH.val (v := v50) (fun w' hS' => x_assign)) ?_
 have hS := (hL.sel [2, 3, 4, 5, 6, 7, 8] (by decide) rfl)
 refine DH.take 9 rfl (by kernel_rfl) (by kernel_rfl) (by kernel_rfl) rfl rfl hS (YH.val (v := v57) (fun w' hS' => x_assign)) ?_
 refine DH.done (by kernel_rfl) ?_
 refine SW.seqC ?_
 refine CSR <| OV v50 rfl (x_move) <| OV (.int .i64 (x47.length : Int)) rfl (x_lenR U25 rfl (hL.rdO 1 rfl)) <| OV v57 rfl (x_move) <| OV (.int .i64 (x54.length : Int)) rfl (x_lenR U25 rfl (hL.rdO 0 rfl)) <| OV (.int .i64 (min (x47.length : Int) (x54.length : Int))) rfl (x_min2 rfl rfl) <| OV (.int .i64 0) rfl (x_move) <| OW.nil ?_
 obtain ⟨o137, ho138, hm⟩ := bndE hm
 refine CW.loopB (fun (s_l1 : Int) (F : Fr) (w : World) => F 4 = (.pointer (some ⟨b8, 0, none⟩)) ∧ F 6 = (.pointer (some ⟨b10, 0, none⟩)) ∧ F 7 = (.pointer (some ⟨b12, 0, none⟩)) ∧ F 8 = (.pointer (some ⟨b14, 0, none⟩)) ∧ F 9 = (.pointer (some ⟨b16, 0, none⟩)) ∧ F 10 = (.pointer (some ⟨b18, 0, none⟩)) ∧ F 12 = v50 ∧ F 13 = v57 ∧ F 42 = (.int .i64 (min (x47.length : Int) (x54.length : Int))) ∧ F 43 = (.int .i64 s_l1) ∧ Hp w0 [Ent.own 2 S56 v57 x54, Ent.own 2 S49 v50 x47, Ent.blk b18 2 #[(.int .i64 0)], Ent.blk b16 2 #[(.int .i64 0)], Ent.blk b14 2 #[(.int .i64 0)], Ent.blk b12 2 #[(.int .i64 a3)], Ent.blk b10 2 #[(.int .i64 a2)], Ent.blk b8 29 #[(.int .i64 a0.Boats), v1, v3], Ent.snap w0 w0.heap.size] w) (fun o => outc o (fun x => some x) (fun s => M.impl_compareBoats_a1 a0 a2 a3 s) = some r) ho138 hm ⟨rfl, rfl, rfl, rfl, rfl, rfl, rfl, rfl, rfl, rfl, hL⟩ ?_ ?_
 · intro s_l1 F139 wd140 hJ hm
   have hm := outcE hm
   have hm : M.impl_compareBoats_a1 a0 a2 a3 s_l1 = some r := hm
   unfold M.impl_compareBoats_a1 at hm
   obtain ⟨f141, f142, f143, f144, f145, f146, f147, f148, f149, f150, hL⟩ := hJ
   refine SW.seq ?_
   refine SW.seqC ?_
   refine CW.regionL <| OV (.pointer (some ⟨b8, 1, none⟩)) rfl (x_fieldAddr (fsz := 1) 0 1 1 U29 rfl Try_T22 rfl f141 rfl) <| OV v1 rfl (x_load1 U22 rfl rfl (hL.cellB 7 rfl rfl)) ?_
   refine OW.cons (OP.call rfl (x_call (vs := [v1]) Try_C98 ⟨rfl, trivial⟩) (M.back110_ok _ (hL.rdS 8 rfl h2)) ?_)
   rintro e153 wd152 ⟨b151, rfl, hF154⟩
   refine ⟨_, rfl, ?_⟩
   have hL := hL.pushAll hF154
   simp only [lA, lB, lC, lD] at hL
   refine OW.nil ?_
   refine SW.block ?_
   obtain ⟨o155, ho156, hm⟩ := bndE hm
   refine SW.rangeB (bodyM := M.impl_compareBoats_l2 a0 a2 a3) (fun o => outc o (fun x => some x) (fun s => M.impl_compareBoats_a2 s) = some r) (fun F x y => upd (upd (upd (upd F 69 x) 70 y) 15 x) 16 y) Try_C110 rfl rfl rfl M.back110_it hL (fun Γ0 W h => ⟨h.drops.get 0 rfl, h.drops.rdS 9 rfl h2⟩) ho156 hm ?_ ?_ ?_ ?_
   · intro t ht
     exact (Option.some.inj (show some (Stp.brk (-1)) = some t from ht)).symm
   · intro l x y W K hK
     refine CF.seq ?_
     refine CF.regionL ?_
     refine OW.cons (OP.val rfl x_assign ?_)
     refine OW.nil ?_
     refine CF.regionL ?_
     refine OW.cons (OP.val rfl x_assign ?_)
     refine OW.nil ?_
     exact hK
   · intro l162 D163 lo164 i165 u166 wd167 t168 hi169 hL hu170 hm hr171
     unfold M.impl_compareBoats_l2 at hm
     have hm := ifB_pos (by simp) hm
     obtain ⟨x172, ha173, hm⟩ := bndE hm
     obtain ⟨hz174, ha175⟩ := idxE ha173
     obtain ⟨b176, q177, v178, hix179, hs180, hc181, hr182⟩ := rdN_at h2 hz174 ha175
     have hc183 := Option.some.inj ((hL.cellS 11 rfl hs180 hc181).symm.trans (hu170 b176 q177 hix179))
     subst hc183
     refine CF.block ?_
     refine CF.seq ?_
     refine CF.draw Try_mixed ?_
     have hL := hL.call (Mod.drew _)
     refine DW.pre (fuel := 0) (fin := bma 9 511) (C := fun w' => Mod None_ _ w') [0, 1, 2, 3, 4, 5, 6, 7, 8] (Mod.refl _ _) (by kernel_rfl) (by kernel_rfl) ?_
     refine QV v178 rfl rfl (fun w' hm' => x_move) <| QV (.int .i64 a2) rfl rfl (fun w' hm' => x_load1 U2 rfl f142 ((hL.call hm').cellB 9 rfl rfl)) ?_
     obtain ⟨x184, ha185, hm⟩ := bndE hm
     obtain ⟨hz186, ha190⟩ := idxE ha185
     obtain ⟨b187, q188, hix189⟩ := rdL_ix (hL.rdS 11 rfl hr182) hz186 ha190
     refine QV (.pointer (some ⟨b187, q188, none⟩)) rfl rfl (fun w' hm' => x_ix U25 Try_T2 rfl rfl hix189) <| QV (.int .i64 x184) rfl rfl (fun w' hm' => x_load1 U2 rfl rfl (rdF_cells ((hL.call hm').rdS 11 rfl hr182) hix189 ha190 0 _ rfl)) <| QV v178 rfl rfl (fun w' hm' => x_move) <| QV (.int .i64 a3) rfl rfl (fun w' hm' => x_load1 U2 rfl f143 ((hL.call hm').cellB 8 rfl rfl)) ?_
     obtain ⟨x191, ha192, hm⟩ := bndE hm
     obtain ⟨hz193, ha197⟩ := idxE ha192
     obtain ⟨b194, q195, hix196⟩ := rdL_ix (hL.rdS 11 rfl hr182) hz193 ha197
     refine QV (.pointer (some ⟨b194, q195, none⟩)) rfl rfl (fun w' hm' => x_ix U25 Try_T2 rfl rfl hix196) <| QV (.int .i64 x191) rfl rfl (fun w' hm' => x_load1 U2 rfl rfl (rdF_cells ((hL.call hm').rdS 11 rfl hr182) hix196 ha197 0 _ rfl)) <| QV (.bool (x184 != x191)) rfl rfl (fun w' hm' => x_neq rfl rfl) ?_
     refine QW.nil ?_
     intro wd198 hmod
     have hL := hL.call hmod
     refine DW.done (by kernel_rfl) ?_
     refine CF.condM (t := x184 != x191) rfl hm (fun hb199 hm => ?_) (fun hb199 hm => ?_)
     · refine CF.seq ?_
       refine CF.drawH (fun w' => Hp w0 [Ent.raw l162 lo164, Ent.raw D163 (.deferred (some [])), Ent.blk b151 22 #[v1], Ent.own 2 S56 v57 x54, Ent.own 2 S49 v50 x47, Ent.blk b12 2 #[(.int .i64 a3)], Ent.blk b10 2 #[(.int .i64 a2)], Ent.blk b8 29 #[(.int .i64 a0.Boats), v1, v3], Ent.snap w0 w0.heap.size] w') Try_mixed ?_
       have hL := hL.call (Mod.drew _)
       have hS := (hL.sel [0, 1, 2, 3, 4, 8, 9, 10, 11] (by decide) rfl)
       refine DH.take 0 rfl (by kernel_rfl) (by kernel_rfl) (by kernel_rfl) rfl rfl hS (YH.val (v := v178) (fun w' hS' => x_move)) ?_
       have hS := (hL.sel [0, 1, 2, 3, 4, 8, 9, 10, 11] (by decide) rfl)
       refine DH.take 1 rfl (by kernel_rfl) (by kernel_rfl) (by kernel_rfl) rfl rfl hS (YH.val (v := (.int .i64 a2)) (fun w' hS' => x_load1 U2 rfl f142 (hS'.cellB 6 rfl rfl))) ?_
       have hS := (hL.sel [0, 1, 2, 3, 4, 8, 9, 10, 11] (by decide) rfl)
       obtain ⟨x222, ha223, hm⟩ := bndE hm
       obtain ⟨hz224, ha228⟩ := idxE ha223
       obtain ⟨b225, q226, hix227⟩ := rdL_ix (hL.rdS 11 rfl hr182) hz224 ha228
       refine DH.take 2 rfl (by kernel_rfl) (by kernel_rfl) (by kernel_rfl) rfl rfl hS (YH.val (v := (.pointer (some ⟨b225, q226, none⟩))) (fun w' hS' => x_ix U25 Try_T2 rfl rfl hix227)) ?_
       have hS := (hL.sel [0, 1, 2, 3, 4, 8, 9, 10, 11] (by decide) rfl)
       refine DH.take 3 rfl (by kernel_rfl) (by kernel_rfl) (by kernel_rfl) rfl rfl hS (YH.val (v := (.int .i64 x222)) (fun w' hS' => x_load1 U2 rfl rfl (rdF_cells (hS'.rdS 8 rfl hr182) hix227 ha228 0 _ rfl))) ?_
       have hS := (hL.sel [0, 1, 2, 3, 4, 8, 9, 10, 11] (by decide) rfl)
       refine DH.take 4 rfl (by kernel_rfl) (by kernel_rfl) (by kernel_rfl) rfl rfl hS (YH.val (v := v178) (fun w' hS' => x_move)) ?_
       have hS := (hL.sel [0, 1, 2, 3, 4, 8, 9, 10, 11] (by decide) rfl)
       refine DH.take 5 rfl (by kernel_rfl) (by kernel_rfl) (by kernel_rfl) rfl rfl hS (YH.val (v := (.int .i64 a3)) (fun w' hS' => x_load1 U2 rfl f143 (hS'.cellB 5 rfl rfl))) ?_
       have hS := (hL.sel [0, 1, 2, 3, 4, 8, 9, 10, 11] (by decide) rfl)
       obtain ⟨x229, ha230, hm⟩ := bndE hm
       obtain ⟨hz231, ha235⟩ := idxE ha230
       obtain ⟨b232, q233, hix234⟩ := rdL_ix (hL.rdS 11 rfl hr182) hz231 ha235
       refine DH.take 6 rfl (by kernel_rfl) (by kernel_rfl) (by kernel_rfl) rfl rfl hS (YH.val (v := (.pointer (some ⟨b232, q233, none⟩))) (fun w' hS' => x_ix U25 Try_T2 rfl rfl hix234)) ?_
       have hS := (hL.sel [0, 1, 2, 3, 4, 8, 9, 10, 11] (by decide) rfl)
       refine DH.take 7 rfl (by kernel_rfl) (by kernel_rfl) (by kernel_rfl) rfl rfl hS (YH.val (v := (.int .i64 x229)) (fun w' hS' => x_load1 U2 rfl rfl (rdF_cells (hS'.rdS 8 rfl hr182) hix234 ha235 0 _ rfl))) ?_
       have hS := (hL.sel [0, 1, 2, 3, 4, 8, 9, 10, 11] (by decide) rfl)
       refine DH.take 8 rfl (by kernel_rfl) (by kernel_rfl) (by kernel_rfl) rfl rfl hS (YH.val (v := (.int .i64 (w64 (x222 - x229)))) (fun w' hS' => x_sub rfl rfl)) ?_
       have hS := (hL.sel [0, 1, 2, 3, 4, 8, 9, 10, 11] (by decide) rfl)
       refine DH.take 10 rfl (by kernel_rfl) (by kernel_rfl) (by kernel_rfl) rfl rfl hS (YH.val (v := (.int .i64 (i165 : Int))) (fun w' hS' => x_move)) ?_
       obtain ⟨x236, hx237, hm⟩ := bndE hm
       refine DH.only 9 rfl (by kernel_rfl) (OP.call rfl (x_call (vs := [(.int .i64 (w64 (x222 - x229)))]) Try_C97 ⟨rfl, trivial⟩) (M.impl_sign_ok _ (w64 (x222 - x229)) hx237) ?_)
       rintro e238 wd239 ⟨rfl, hF240⟩
       refine ⟨_, rfl, ?_⟩
       have hL := hL.pushAll hF240
       simp only [lA, lB, lC, lD] at hL
       refine ⟨(hL.sel [0, 1, 2, 3, 4, 8, 9, 10, 11] (by decide) rfl), ?_⟩
       refine DH.only 11 rfl (by kernel_rfl) (S_store (cs' := #[(.int .i64 x236)]) hL 7 rfl Try_T2 f144 rfl rfl rfl rfl ?_)
       intro wd241 hL
       refine ⟨(hL.sel [0, 1, 2, 3, 4, 8, 9, 10, 11] (by decide) rfl), ?_⟩
       refine DH.only 12 rfl (by kernel_rfl) (S_store (cs' := #[(.int .i64 3)]) hL 6 rfl Try_T2 f145 rfl rfl rfl rfl ?_)
       intro wd242 hL
       refine ⟨(hL.sel [0, 1, 2, 3, 4, 8, 9, 10, 11] (by decide) rfl), ?_⟩
       refine DH.only 13 rfl (by kernel_rfl) (S_store (cs' := #[(.int .i64 (i165 : Int))]) hL 5 rfl Try_T2 f146 rfl rfl rfl rfl ?_)
       intro wd243 hL
       refine ⟨(hL.sel [0, 1, 2, 3, 4, 8, 9, 10, 11] (by decide) rfl), ?_⟩
       refine DH.done (by kernel_rfl) ?_
       refine CF.ret ?_
       obtain rfl := Option.some.inj hm
       have hm := hr171 _ rfl
       obtain rfl := Option.some.inj hm
       refine ⟨_, hL, fun wq hL => ?_⟩
       refine RM.mark hL 0 rfl (fun wq hL => ?_)
       simp only [List.set_cons_zero, List.set_cons_succ, List.eraseIdx_cons_zero] at hL
       exact RRs (v := (.int .i64 x236)) (v2 := (.int .i64 3)) (vs := [(.int .i64 (i165 : Int))]) (rs := [.cell 8 2, .cell 9 2, .cell 10 2]) rfl ⟨resCell f144 (run_load1 U2 rfl (cell_box (hL.get 5 rfl))), resCell f145 (run_load1 U2 rfl (cell_box (hL.get 4 rfl))), resCell f146 (run_load1 U2 rfl (cell_box (hL.get 3 rfl))), trivial⟩ ⟨rfl, hL.fresh 9 rfl [] (by decide) (by decide) rfl⟩
     refine CF.skip ?_
     obtain rfl := Option.some.inj hm
     exact ⟨rfl, hL⟩
   intro D157 wd158 hL hm
   have hm := outcE hm
   have hm : M.impl_compareBoats_a2 (-1) = some r := hm
   unfold M.impl_compareBoats_a2 at hm
   refine SW.ofCF ?_
   refine CF.seq ?_
   refine CF.regionL ?_
   refine OW.cons (S_store (cs' := #[(.int .i64 0)]) hL 6 rfl Try_T2 f144 rfl rfl rfl rfl ?_)
   intro wd159 hL
   refine OW.cons (S_store (cs' := #[(.int .i64 0)]) hL 5 rfl Try_T2 f145 rfl rfl rfl rfl ?_)
   intro wd160 hL
   refine OW.cons (S_store (cs' := #[(.int .i64 0)]) hL 4 rfl Try_T2 f146 rfl rfl rfl rfl ?_)
   intro wd161 hL
   refine OW.nil ?_
   refine CF.ret ?_
   obtain rfl := Option.some.inj hm
   refine RM.mark hL 0 rfl (fun wq hL => ?_)
   simp only [List.set_cons_zero, List.set_cons_succ, List.eraseIdx_cons_zero] at hL
   exact RRs (v := (.int .i64 0)) (v2 := (.int .i64 0)) (vs := [(.int .i64 0)]) (rs := [.cell 8 2, .cell 9 2, .cell 10 2]) rfl ⟨resCell f144 (run_load1 U2 rfl (cell_box (hL.get 5 rfl))), resCell f145 (run_load1 U2 rfl (cell_box (hL.get 4 rfl))), resCell f146 (run_load1 U2 rfl (cell_box (hL.get 3 rfl))), trivial⟩ ⟨rfl, hL.fresh 9 rfl [] (by decide) (by decide) rfl⟩
 intro s_l1 F244 wd245 t135 hJ hm hr136
 unfold M.impl_compareBoats_l1 at hm
 obtain ⟨f246, f247, f248, f249, f250, f251, f252, f253, f254, f255, hL⟩ := hJ
 refine CSR <| OV (.bool (decide (s_l1 < (min (x47.length : Int) (x54.length : Int))))) rfl (x_lss f255 f254) <| ONS ?_
 refine CW.condM (t := decide (s_l1 < (min (x47.length : Int) (x54.length : Int)))) rfl hm (fun hb256 hm => ?_) (fun hb256 hm => ?_)
 · refine CW.skip <| CW.seq <| CW.block <| CSR <| OV (.int .i64 s_l1) rfl (x_mv f255) <| OV (.int .i64 s_l1) rfl (x_assign) <| ONS ?_
   refine CW.draw Try_mixed ?_
   have hL := hL.call (Mod.drew _)
   refine DW.pre (fuel := 0) (fin := bma 9 511) (C := fun w' => Mod None_ _ w') [0, 1, 2, 3, 4, 5, 6, 7, 8] (Mod.refl _ _) (by kernel_rfl) (by kernel_rfl) ?_
   refine QV v50 rfl rfl (fun w' hm' => x_mv f252) <| QV (.int .i64 s_l1) rfl rfl (fun w' hm' => x_move) ?_
   obtain ⟨x257, ha258, hm⟩ := bndE hm
   obtain ⟨hz259, ha263⟩ := idxE ha258
   obtain ⟨b260, q261, hix262⟩ := rdL_ix (hL.rdO 1 rfl) hz259 ha263
   refine QV (.pointer (some ⟨b260, q261, none⟩)) rfl rfl (fun w' hm' => x_ix U25 Try_T2 rfl rfl hix262) <| QV (.int .i64 x257) rfl rfl (fun w' hm' => x_load1 U2 rfl rfl (rdF_cells ((hL.call hm').rdO 1 rfl) hix262 ha263 0 _ rfl)) <| QV v57 rfl rfl (fun w' hm' => x_mv f253) <| QV (.int .i64 s_l1) rfl rfl (fun w' hm' => x_move) ?_
   obtain ⟨x264, ha265, hm⟩ := bndE hm
   obtain ⟨hz266, ha270⟩ := idxE ha265
   obtain ⟨b267, q268, hix269⟩ := rdL_ix (hL.rdO 0 rfl) hz266 ha270
   refine QV (.pointer (some ⟨b267, q268, none⟩)) rfl rfl (fun w' hm' => x_ix U25 Try_T2 rfl rfl hix269) <| QV (.int .i64 x264) rfl rfl (fun w' hm' => x_load1 U2 rfl rfl (rdF_cells ((hL.call hm').rdO 0 rfl) hix269 ha270 0 _ rfl)) <| QV (.bool (x257 != x264)) rfl rfl (fun w' hm' => x_neq rfl rfl) ?_
   refine QW.nil ?_
   intro wd271 hmod
   have hL := hL.call hmod
   refine DW.done (by kernel_rfl) ?_
   refine CW.condM (t := x257 != x264) rfl hm (fun hb272 hm => ?_) (fun hb272 hm => ?_)
   · refine CW.seq ?_
     refine CW.draw Try_mixed ?_
     have hL := hL.call (Mod.drew _)
     refine DW.pre (fuel := 3) (fin := bma 13 1023) (C := fun w' => Mod None_ _ w') [0, 1, 2, 3, 4, 5, 6, 7, 8, 9] (Mod.refl _ _) (by kernel_rfl) (by kernel_rfl) ?_
     refine QV v50 rfl rfl (fun w' hm' => x_mv f252) <| QV (.int .i64 s_l1) rfl rfl (fun w' hm' => x_move) ?_
     obtain ⟨x273, ha274, hm⟩ := bndE hm
     obtain ⟨hz275, ha279⟩ := idxE ha274
     obtain ⟨b276, q277, hix278⟩ := rdL_ix (hL.rdO 1 rfl) hz275 ha279
     refine QV (.pointer (some ⟨b276, q277, none⟩)) rfl rfl (fun w' hm' => x_ix U25 Try_T2 rfl rfl hix278) <| QV (.int .i64 x273) rfl rfl (fun w' hm' => x_load1 U2 rfl rfl (rdF_cells ((hL.call hm').rdO 1 rfl) hix278 ha279 0 _ rfl)) <| QV v57 rfl rfl (fun w' hm' => x_mv f253) <| QV (.int .i64 s_l1) rfl rfl (fun w' hm' => x_move) ?_
     obtain ⟨x280, ha281, hm⟩ := bndE hm
     obtain ⟨hz282, ha286⟩ := idxE ha281
     obtain ⟨b283, q284, hix285⟩ := rdL_ix (hL.rdO 0 rfl) hz282 ha286
     refine QV (.pointer (some ⟨b283, q284, none⟩)) rfl rfl (fun w' hm' => x_ix U25 Try_T2 rfl rfl hix285) <| QV (.int .i64 x280) rfl rfl (fun w' hm' => x_load1 U2 rfl rfl (rdF_cells ((hL.call hm').rdO 0 rfl) hix285 ha286 0 _ rfl)) <| QV (.int .i64 (w64 (x273 - x280))) rfl rfl (fun w' hm' => x_sub rfl rfl) ?_
     obtain ⟨x287, hx288, hm⟩ := bndE hm
     refine QW.cons rfl (QP.call (v := (.int .i64 x287)) rfl (fun w' hm' => x_call (vs := [(.int .i64 (w64 (x273 - x280)))]) Try_C97 ⟨rfl, trivial⟩) (fun w' hm' => (M.impl_sign_ok w' (w64 (x273 - x280)) hx288).mono (fun e w'' h => ⟨h.1, hm'.trans h.2.mod⟩)) ?_)
     refine QW.nil ?_
     intro wd289 hmod
     have hL := hL.call hmod
     refine DW.only 10 rfl (by kernel_rfl) (S_store (cs' := #[(.int .i64 x287)]) hL 4 rfl Try_T2 f249 rfl rfl rfl rfl ?_)
     intro wd290 hL
     refine DW.only 11 rfl (by kernel_rfl) (S_store (cs' := #[(.int .i64 2)]) hL 3 rfl Try_T2 f250 rfl rfl rfl rfl ?_)
     intro wd291 hL
     refine DW.only 12 rfl (by kernel_rfl) (S_store (cs' := #[(.int .i64 0)]) hL 2 rfl Try_T2 f251 rfl rfl rfl rfl ?_)
     intro wd292 hL
     refine DW.done (by kernel_rfl) ?_
     refine CW.ret ?_
     refine RM.nil ?_
     obtain rfl := Option.some.inj hm
     have hm := hr136 _ rfl
     obtain rfl := Option.some.inj hm
     exact RRs (v := (.int .i64 x287)) (v2 := (.int .i64 2)) (vs := [(.int .i64 0)]) (rs := [.cell 8 2, .cell 9 2, .cell 10 2]) rfl ⟨resCell f249 (run_load1 U2 rfl (cell_box (hL.get 4 rfl))), resCell f250 (run_load1 U2 rfl (cell_box (hL.get 3 rfl))), resCell f251 (run_load1 U2 rfl (cell_box (hL.get 2 rfl))), trivial⟩ ⟨rfl, hL.fresh 8 rfl [] (by decide) (by decide) rfl⟩
   refine CW.skip <| CW.regionL <| OV (.int .i64 (w64 (s_l1 + 1))) rfl (x_add f255 rfl) <| OV (.int .i64 (w64 (s_l1 + 1))) rfl (x_move) <| OW.nil ?_
   obtain rfl := Option.some.inj hm
   exact ⟨_, rfl, ⟨f246, f247, f248, f249, f250, f251, f252, f253, f254, rfl, hL⟩⟩
 refine CW.exit ?_
 refine XJ.hit ?_
 obtain rfl := Option.some.inj hm
 exact ⟨_, rfl, ⟨f246, f247, f248, f249, f250, f251, f252, f253, f254, f255, hL⟩⟩

theorem M.spec_DecidingRace_ok (w0 : World) (a0 : Table) {v1 : Value} {v3 : Value} (h2 : rdL (· < w0.heap.size) w0 v1 a0.Points) (h4 : rdL (· < w0.heap.size) w0 v3 a0.Codes) (a1 : List Int) {v5 : Value} (h6 : rdL (· < w0.heap.size) w0 v5 a1) (a2 : Int) (a3 : Int) {r : Int × Int} (hm : M.spec_DecidingRace a0 a1 a2 a3 = some r) :
    Calls Try.prog 20 #[(.agg #[(.int .i64 a0.Boats), v1, v3]), v5, (.int .i64 a2), (.int .i64 a3)] w0 fun e w' => e = .returned (.tuple #[(.int .i64 r.1), (.int .i64 r.2)]) ∧ Fresh w0 w' [] := by
 unfold M.spec_DecidingRace at hm
 refine calls_CW (args := [(.agg #[(.int .i64 a0.Boats), v1, v3]), v5, (.int .i64 a2), (.int .i64 a3)]) Try.func20 rfl rfl rfl ?_
 have hL := Hp.start w0
 refine CSR ?_
 refine OW.cons (S_box (cs := #[(.int .i64 a0.Boats), v1, v3]) hL rfl rfl rfl ?_)
 intro wd7 b8 hL
 refine OV (.int .i64 0) rfl (x_assign) <| OV (.int .i64 0) rfl (x_assign) <| ONR <| OV (.agg #[(.int .i64 a0.Boats), v1, v3]) rfl (x_loadN (cs := [(.int .i64 a0.Boats), v1, v3]) U29 Try_T29 rfl rfl (hL.cellsB 0 rfl (o := 0) (l := [(.int .i64 a0.Boats), v1, v3]) (by intro j u hj; exact (by simpa using hj)))) <| OV v5 rfl (x_move) <| OV (.int .i64 a2) rfl (x_move) <| OV (.int .i64 a3) rfl (x_move) ?_
 obtain ⟨x9, hx10, hm⟩ := bndE hm
 refine OW.cons (OP.call rfl (x_call (vs := [(.agg #[(.int .i64 a0.Boats), v1, v3]), v5, (.int .i64 a2), (.int .i64 a3)]) Try_C58 ⟨rfl, rfl, rfl, rfl, trivial⟩) (M.spec_l28Code_ok _ a0 (hL.rdS 1 rfl h2) (hL.rdS 1 rfl h4) a1 (hL.rdS 1 rfl h6) a2 a3 hx10) ?_)
 rintro e11 wd12 ⟨rfl, hF13⟩
 refine ⟨_, rfl, ?_⟩
 have hL := hL.pushAll hF13
 simp only [lA, lB, lC, lD] at hL
 refine OV (.int .i64 x9) rfl (x_assign) <| ONS <| CSR <| OV (.int .i64 x9) rfl (x_move) <| OV (.bool (x9 != 0)) rfl (x_neq rfl rfl) <| OW.nil ?_
 refine CW.condM (t := x9 != 0) rfl hm (fun hb14 hm => ?_) (fun hb14 hm => ?_)
 · refine CSR <| OV (.int .i64 x9) rfl (x_move) <| OV (.int .i64 0) rfl (x_assign) <| OV (.int .i64 x9) rfl (x_assign) <| OW.nil <| CW.ret ?_
   obtain rfl := Option.some.inj hm
   exact RR2 rfl rfl rfl ⟨rfl, hL.fresh 1 rfl [] (by decide) (by decide) rfl⟩
 refine CW.skip <| CSR <| OV (.agg #[(.int .i64 a0.Boats), v1, v3]) rfl (x_loadN (cs := [(.int .i64 a0.Boats), v1, v3]) U29 Try_T29 rfl rfl (hL.cellsB 0 rfl (o := 0) (l := [(.int .i64 a0.Boats), v1, v3]) (by intro j u hj; exact (by simpa using hj)))) <| OV v5 rfl (x_move) <| OV (.int .i64 a2) rfl (x_move) <| OV (.int .i64 a3) rfl (x_move) ?_
 obtain ⟨x15, hx16, hm⟩ := bndE hm
 refine OW.cons (OP.call rfl (x_call (vs := [(.agg #[(.int .i64 a0.Boats), v1, v3]), v5, (.int .i64 a2), (.int .i64 a3)]) Try_C59 ⟨rfl, rfl, rfl, rfl, trivial⟩) (M.spec_l28Compare_ok _ a0 (hL.rdS 1 rfl h2) (hL.rdS 1 rfl h4) a1 (hL.rdS 1 rfl h6) a2 a3 hx16) ?_)
 rintro e17 wd18 ⟨rfl, hF19⟩
 refine ⟨_, rfl, ?_⟩
 have hL := hL.pushAll hF19
 simp only [lA, lB, lC, lD] at hL
 refine OV (.tuple #[(.int .i64 x15.1), (.int .i64 x15.2.1), (.int .i64 x15.2.2)]) rfl (x_move) <| OV (.int .i64 x15.1) rfl (x_extract rfl rfl) <| OV (.int .i64 x15.2.1) rfl (x_extract rfl rfl) <| OV (.int .i64 x15.2.2) rfl (x_extract rfl rfl) <| OV (.int .i64 x15.1) rfl (x_assign) <| OV (.int .i64 x15.2.1) rfl (x_assign) <| OV (.int .i64 x15.2.2) rfl (x_assign) <| ONS <| CSR <| OV (.int .i64 x15.2.1) rfl (x_move) <| OV (.bool (x15.2.1 != 3)) rfl (x_neq rfl rfl) <| OW.nil ?_
 refine CW.condM (t := x15.2.1 != 3) rfl hm (fun hb20 hm => ?_) (fun hb20 hm => ?_)
 · refine CSR <| OV (.int .i64 0) rfl (x_assign) <| OV (.int .i64 4) rfl (x_assign) <| OW.nil <| CW.ret ?_
   obtain rfl := Option.some.inj hm
   exact RR2 rfl rfl rfl ⟨rfl, hL.fresh 1 rfl [] (by decide) (by decide) rfl⟩
 refine CW.skip <| CSR <| OV (.int .i64 x15.2.2) rfl (x_move) <| OV (.int .i64 x15.2.2) rfl (x_assign) <| OV (.int .i64 0) rfl (x_assign) <| OW.nil <| CW.ret ?_
 obtain rfl := Option.some.inj hm
 exact RR2 rfl rfl rfl ⟨rfl, hL.fresh 1 rfl [] (by decide) (by decide) rfl⟩

theorem M.impl_DecidingRace_ok (w0 : World) (a0 : Table) {v1 : Value} {v3 : Value} (h2 : rdL (· < w0.heap.size) w0 v1 a0.Points) (h4 : rdL (· < w0.heap.size) w0 v3 a0.Codes) (a1 : List Int) {v5 : Value} (h6 : rdL (· < w0.heap.size) w0 v5 a1) (a2 : Int) (a3 : Int) {r : Int × Int} (hm : M.impl_DecidingRace a0 a1 a2 a3 = some r) :
    Calls Try.prog 21 #[(.agg #[(.int .i64 a0.Boats), v1, v3]), v5, (.int .i64 a2), (.int .i64 a3)] w0 fun e w' => e = .returned (.tuple #[(.int .i64 r.1), (.int .i64 r.2)]) ∧ Fresh w0 w' [] := by
 unfold M.impl_DecidingRace at hm
 refine calls_CW (args := [(.agg #[(.int .i64 a0.Boats), v1, v3]), v5, (.int .i64 a2), (.int .i64 a3)]) Try.func21 rfl rfl rfl ?_
 have hL := Hp.start w0
 refine CSR ?_
 refine OW.cons (S_box (cs := #[(.int .i64 a0.Boats), v1, v3]) hL rfl rfl rfl ?_)
 intro wd7 b8 hL
 refine OV (.int .i64 0) rfl (x_assign) <| OV (.int .i64 0) rfl (x_assign) <| ONS <| CSR <| OV (.agg #[(.int .i64 a0.Boats), v1, v3]) rfl (x_loadN (cs := [(.int .i64 a0.Boats), v1, v3]) U29 Try_T29 rfl rfl (hL.cellsB 0 rfl (o := 0) (l := [(.int .i64 a0.Boats), v1, v3]) (by intro j u hj; exact (by simpa using hj)))) <| OV v5 rfl (x_move) <| OV (.int .i64 a2) rfl (x_move) <| OV (.int .i64 a3) rfl (x_move) ?_
 obtain ⟨x9, hx10, hm⟩ := bndE hm
 refine OW.cons (OP.call rfl (x_call (vs := [(.agg #[(.int .i64 a0.Boats), v1, v3]), v5, (.int .i64 a2), (.int .i64 a3)]) Try_C61 ⟨rfl, rfl, rfl, rfl, trivial⟩) (M.impl_boatsCode_ok _ a0 (hL.rdS 1 rfl h2) (hL.rdS 1 rfl h4) a1 (hL.rdS 1 rfl h6) a2 a3 hx10) ?_)
 rintro e11 wd12 ⟨rfl, hF13⟩
 refine ⟨_, rfl, ?_⟩
 have hL := hL.pushAll hF13
 simp only [lA, lB, lC, lD] at hL
 refine OV (.int .i64 x9) rfl (x_assign) <| ONR <| OV (.int .i64 x9) rfl (x_move) <| OV (.bool (x9 != 0)) rfl (x_neq rfl rfl) <| OW.nil ?_
 refine CW.condM (t := x9 != 0) rfl hm (fun hb14 hm => ?_) (fun hb14 hm => ?_)
 · refine CSR <| OV (.int .i64 x9) rfl (x_move) <| OV (.int .i64 0) rfl (x_assign) <| OV (.int .i64 x9) rfl (x_assign) <| OW.nil <| CW.ret ?_
   obtain rfl := Option.some.inj hm
   exact RR2 rfl rfl rfl ⟨rfl, hL.fresh 1 rfl [] (by decide) (by decide) rfl⟩
 refine CW.skip <| CSR <| OV (.agg #[(.int .i64 a0.Boats), v1, v3]) rfl (x_loadN (cs := [(.int .i64 a0.Boats), v1, v3]) U29 Try_T29 rfl rfl (hL.cellsB 0 rfl (o := 0) (l := [(.int .i64 a0.Boats), v1, v3]) (by intro j u hj; exact (by simpa using hj)))) <| OV v5 rfl (x_move) <| OV (.int .i64 a2) rfl (x_move) <| OV (.int .i64 a3) rfl (x_move) ?_
 obtain ⟨x15, hx16, hm⟩ := bndE hm
 refine OW.cons (OP.call rfl (x_call (vs := [(.agg #[(.int .i64 a0.Boats), v1, v3]), v5, (.int .i64 a2), (.int .i64 a3)]) Try_C62 ⟨rfl, rfl, rfl, rfl, trivial⟩) (M.impl_compareBoats_ok _ a0 (hL.rdS 1 rfl h2) (hL.rdS 1 rfl h4) a1 (hL.rdS 1 rfl h6) a2 a3 hx16) ?_)
 rintro e17 wd18 ⟨rfl, hF19⟩
 refine ⟨_, rfl, ?_⟩
 have hL := hL.pushAll hF19
 simp only [lA, lB, lC, lD] at hL
 refine OV (.tuple #[(.int .i64 x15.1), (.int .i64 x15.2.1), (.int .i64 x15.2.2)]) rfl (x_move) <| OV (.int .i64 x15.1) rfl (x_extract rfl rfl) <| OV (.int .i64 x15.2.1) rfl (x_extract rfl rfl) <| OV (.int .i64 x15.2.2) rfl (x_extract rfl rfl) <| OV (.int .i64 x15.1) rfl (x_assign) <| OV (.int .i64 x15.2.1) rfl (x_assign) <| OV (.int .i64 x15.2.2) rfl (x_assign) <| ONS <| CSR <| OV (.int .i64 x15.2.1) rfl (x_move) <| OV (.bool (x15.2.1 != 3)) rfl (x_neq rfl rfl) <| OW.nil ?_
 refine CW.condM (t := x15.2.1 != 3) rfl hm (fun hb20 hm => ?_) (fun hb20 hm => ?_)
 · refine CSR <| OV (.int .i64 0) rfl (x_assign) <| OV (.int .i64 4) rfl (x_assign) <| OW.nil <| CW.ret ?_
   obtain rfl := Option.some.inj hm
   exact RR2 rfl rfl rfl ⟨rfl, hL.fresh 1 rfl [] (by decide) (by decide) rfl⟩
 refine CW.skip <| CSR <| OV (.int .i64 x15.2.2) rfl (x_move) <| OV (.int .i64 x15.2.2) rfl (x_assign) <| OV (.int .i64 0) rfl (x_assign) <| OW.nil <| CW.ret ?_
 obtain rfl := Option.some.inj hm
 exact RR2 rfl rfl rfl ⟨rfl, hL.fresh 1 rfl [] (by decide) (by decide) rfl⟩

theorem M.spec_l28Rank_ok (w0 : World) (a0 : Table) {v1 : Value} {v3 : Value} (h2 : rdL (· < w0.heap.size) w0 v1 a0.Points) (h4 : rdL (· < w0.heap.size) w0 v3 a0.Codes) (a1 : List Int) {v5 : Value} (h6 : rdL (· < w0.heap.size) w0 v5 a1) (a2 : Int) {r : Int} (hm : M.spec_l28Rank a0 a1 a2 = some r) :
    Calls Try.prog 64 #[(.agg #[(.int .i64 a0.Boats), v1, v3]), v5, (.int .i64 a2)] w0 fun e w' => e = .returned (.int .i64 r) ∧ Fresh w0 w' [] := by
 unfold M.spec_l28Rank at hm
 refine calls_CW (args := [(.agg #[(.int .i64 a0.Boats), v1, v3]), v5, (.int .i64 a2)]) Try.func64 rfl rfl rfl ?_
 have hL := Hp.start w0
 refine CSR ?_
 refine OW.cons (S_box (cs := #[(.int .i64 a0.Boats), v1, v3]) hL rfl rfl rfl ?_)
 intro wd7 b8 hL
 refine OV (.int .i64 0) rfl (x_assign) <| ONR <| OV (.int .i64 1) rfl (x_assign) <| ONS <| CSR <| OV (.int .i64 0) rfl (x_assign) <| OW.nil ?_
 obtain ⟨o103, ho104, hm⟩ := bndE hm
 refine CW.loopB (fun (s_l1 : Int × Int) (F : Fr) (w : World) => F 1 = v5 ∧ F 2 = (.int .i64 a2) ∧ F 3 = (.pointer (some ⟨b8, 0, none⟩)) ∧ F 7 = (.int .i64 s_l1.1) ∧ F 8 = (.int .i64 s_l1.2) ∧ Hp w0 [Ent.blk b8 29 #[(.int .i64 a0.Boats), v1, v3], Ent.snap w0 w0.heap.size] w) (fun o => outc o (fun x => some x) (fun s => M.spec_l28Rank_a1 s) = some r) ho104 hm ⟨rfl, rfl, rfl, rfl, rfl, hL⟩ ?_ ?_
 · intro s_l1 F105 wd106 hJ hm
   have hm := outcE hm
   have hm : M.spec_l28Rank_a1 s_l1 = some r := hm
   unfold M.spec_l28Rank_a1 at hm
   obtain ⟨f107, f108, f109, f110, f111, hL⟩ := hJ
   refine CSR <| OV (.int .i64 s_l1.1) rfl (x_mv f110) <| OV (.int .i64 s_l1.1) rfl (x_assign) <| OW.nil <| CW.ret ?_
   obtain rfl := Option.some.inj hm
   exact RR1 rfl rfl ⟨rfl, hL.fresh 1 rfl [] (by decide) (by decide) rfl⟩
 intro s_l1 F112 wd113 t101 hJ hm hr102
 unfold M.spec_l28Rank_l1 at hm
 obtain ⟨f114, f115, f116, f117, f118, hL⟩ := hJ
 refine CW.seq <| CSR <| OV (.int .i64 s_l1.2) rfl (x_mv f118) <| OV (.pointer (some ⟨b8, 0, none⟩)) rfl (x_fieldAddr (fsz := 1) 0 0 0 U29 rfl Try_T2 rfl f116 rfl) <| OV (.int .i64 a0.Boats) rfl (x_load1 U2 rfl rfl (hL.cellB 0 rfl rfl)) <| OV (.bool (decide (s_l1.2 < a0.Boats))) rfl (x_lss rfl rfl) <| OW.nil ?_
 refine CW.condM (t := decide (s_l1.2 < a0.Boats)) rfl hm (fun hb119 hm => ?_) (fun hb119 hm => ?_)
 · refine CW.skip ?_
   refine CW.seqJ (fun (s_j1 : Int) (F : Fr) (w : World) => F 1 = v5 ∧ F 2 = (.int .i64 a2) ∧ F 3 = (.pointer (some ⟨b8, 0, none⟩)) ∧ F 7 = (.int .i64 s_j1) ∧ F 8 = (.int .i64 s_l1.2) ∧ Hp w0 [Ent.blk b8 29 #[(.int .i64 a0.Boats), v1, v3], Ent.snap w0 w0.heap.size] w) (fun s_j1 => M.spec_l28Rank_j1 s_l1 s_j1 = some t101) ?_ ?_
   · refine CW.blockJ (fun (s_j2 : Int) (F : Fr) (w : World) => F 1 = v5 ∧ F 2 = (.int .i64 a2) ∧ F 3 = (.pointer (some ⟨b8, 0, none⟩)) ∧ F 7 = (.int .i64 s_j2) ∧ F 8 = (.int .i64 s_l1.2) ∧ Hp w0 [Ent.blk b8 29 #[(.int .i64 a0.Boats), v1, v3], Ent.snap w0 w0.heap.size] w) (fun s_j2 => M.spec_l28Rank_j2 s_l1 s_j2 = some t101) ?_ ?_
     · refine CSR <| OV (.agg #[(.int .i64 a0.Boats), v1, v3]) rfl (x_loadN (cs := [(.int .i64 a0.Boats), v1, v3]) U29 Try_T29 rfl f116 (hL.cellsB 0 rfl (o := 0) (l := [(.int .i64 a0.Boats), v1, v3]) (by intro j u hj; exact (by simpa using hj)))) <| OV v5 rfl (x_mv f114) <| OV (.int .i64 s_l1.2) rfl (x_mv f118) <| OV (.int .i64 a2) rfl (x_mv f115) ?_
       obtain ⟨x159, hx160, hm⟩ := bndE hm
       refine OW.cons (OP.call rfl (x_call (vs := [(.agg #[(.int .i64 a0.Boats), v1, v3]), v5, (.int .i64 s_l1.2), (.int .i64 a2)]) Try_C59 ⟨rfl, rfl, rfl, rfl, trivial⟩) (M.spec_l28Compare_ok _ a0 (hL.rdS 1 rfl h2) (hL.rdS 1 rfl h4) a1 (hL.rdS 1 rfl h6) s_l1.2 a2 hx160) ?_)
       rintro e161 wd162 ⟨rfl, hF163⟩
       refine ⟨_, rfl, ?_⟩
       have hL := hL.pushAll hF163
       simp only [lA, lB, lC, lD] at hL
       refine OV (.tuple #[(.int .i64 x159.1), (.int .i64 x159.2.1), (.int .i64 x159.2.2)]) rfl (x_move) <| OV (.int .i64 x159.1) rfl (x_extract rfl rfl) <| OV (.int .i64 x159.2.1) rfl (x_extract rfl rfl) <| OV (.int .i64 x159.2.2) rfl (x_extract rfl rfl) <| OV (.int .i64 x159.1) rfl (x_assign) <| OV (.int .i64 x159.2.1) rfl (x_assign) <| OV (.int .i64 x159.2.2) rfl (x_assign) <| ONR <| OV (.int .i64 x159.1) rfl (x_move) <| OV (.bool (decide (x159.1 < 0))) rfl (x_lss rfl rfl) <| OW.nil ?_
       refine CW.condM (t := decide (x159.1 < 0)) rfl hm (fun hb164 hm => ?_) (fun hb164 hm => ?_)
       · refine CW.regionL <| OV (.int .i64 s_l1.1) rfl (x_mv f117) <| OV (.int .i64 (w64 (s_l1.1 + 1))) rfl (x_add rfl rfl) <| OV (.int .i64 (w64 (s_l1.1 + 1))) rfl (x_assign) <| OW.nil ?_
         exact ⟨w64 (s_l1.1 + 1), hm, ⟨f114, f115, f116, rfl, f118, hL⟩⟩
       refine CW.skip ?_
       exact ⟨s_l1.1, hm, ⟨f114, f115, f116, f117, f118, hL⟩⟩
     intro s_j2 F152 wd153 hJ hm
     unfold M.spec_l28Rank_j2 at hm
     obtain ⟨f154, f155, f156, f157, f158, hL⟩ := hJ
     exact ⟨s_j2, hm, ⟨f154, f155, f156, f157, f158, hL⟩⟩
   intro s_j1 F139 wd140 hJ hm
   unfold M.spec_l28Rank_j1 at hm
   obtain ⟨f141, f142, f143, f144, f145, hL⟩ := hJ
   refine CW.regionL <| OV (.int .i64 s_l1.2) rfl (x_mv f145) <| OV (.int .i64 (w64 (s_l1.2 + 1))) rfl (x_add rfl rfl) <| OV (.int .i64 (w64 (s_l1.2 + 1))) rfl (x_assign) <| OW.nil ?_
   obtain rfl := Option.some.inj hm
   exact ⟨_, rfl, ⟨f141, f142, f143, f144, rfl, hL⟩⟩
 refine CW.exit ?_
 refine XJ.hit ?_
 obtain rfl := Option.some.inj hm
 exact ⟨_, rfl, ⟨f114, f115, f116, f117, f118, hL⟩⟩

theorem M.spec_l28Standing_ok (w0 : World) (a0 : Table) {v1 : Value} {v3 : Value} (h2 : rdL (· < w0.heap.size) w0 v1 a0.Points) (h4 : rdL (· < w0.heap.size) w0 v3 a0.Codes) (a1 : List Int) {v5 : Value} (h6 : rdL (· < w0.heap.size) w0 v5 a1) {r : (List Int)} (hm : M.spec_l28Standing a0 a1 = some r) :
    Calls Try.prog 67 #[(.agg #[(.int .i64 a0.Boats), v1, v3]), v5] w0 fun e w' => ∃ (rv0 : Value) (rS0 : Nat → Prop), e = .returned rv0 ∧ Fresh w0 w' [Ent.own 2 rS0 rv0 r] := by
 unfold M.spec_l28Standing at hm
 refine calls_CW (args := [(.agg #[(.int .i64 a0.Boats), v1, v3]), v5]) Try.func67 rfl rfl rfl ?_
 have hL := Hp.start w0
 refine CSR ?_
 refine OW.cons (S_box (cs := #[(.int .i64 a0.Boats), v1, v3]) hL rfl rfl rfl ?_)
 intro wd7 b8 hL
 refine OV (.slice none 0 0) rfl (x_assign) <| ONR ?_
 refine OW.cons (S_lit ([] : List Int) hL U25 Try_T2 rfl (by decide) (by first | (simp [Instr.fill, madeCells, Value.cells, ev, upd, Flat.enc, Flat.sz]; done) | rfl | kernel_rfl) rfl rfl ?_)
 intro wd9 v10 S11 hL
 refine OV v10 rfl (x_assign) <| ONS <| CSR <| OV (.int .i64 1) rfl (x_assign) <| OW.nil ?_
 obtain ⟨o544, ho545, hm⟩ := bndE hm
 refine CW.loopB (fun (s_l1 : (List Int) × Int) (F : Fr) (w : World) => ∃ (v540 : Value) (S541 : Nat → Prop), F 1 = v5 ∧ F 2 = (.pointer (some ⟨b8, 0, none⟩)) ∧ F 5 = v540 ∧ F 6 = (.int .i64 s_l1.2) ∧ Hp w0 [Ent.own 2 S541 v540 s_l1.1, Ent.blk b8 29 #[(.int .i64 a0.Boats), v1, v3], Ent.snap w0 w0.heap.size] w) (fun o => outc o (fun x => some x) (fun s => M.spec_l28Standing_a1 s) = some r) ho545 hm ⟨v10, S11, rfl, rfl, rfl, rfl, hL⟩ ?_ ?_
 · intro s_l1 F546 wd547 hJ hm
   have hm := outcE hm
   have hm : M.spec_l28Standing_a1 s_l1 = some r := hm
   unfold M.spec_l28Standing_a1 at hm
   obtain ⟨v540, S541, f548, f549, f550, f551, hL⟩ := hJ
   refine CSR <| OV v540 rfl (x_mv f550) <| OV v540 rfl (x_assign) <| OW.nil <| CW.ret ?_
   obtain rfl := Option.some.inj hm
   exact RR1 rfl rfl ⟨v540, S541, rfl, hL.fresh 2 rfl [0] (by decide) (by decide) rfl⟩
 intro s_l1 F552 wd553 t542 hJ hm hr543
 unfold M.spec_l28Standing_l1 at hm
 obtain ⟨v540, S541, f554, f555, f556, f557, hL⟩ := hJ
 refine CW.seq <| CSR <| OV (.int .i64 s_l1.2) rfl (x_mv f557) <| OV (.pointer (some ⟨b8, 0, none⟩)) rfl (x_fieldAddr (fsz := 1) 0 0 0 U29 rfl Try_T2 rfl f555 rfl) <| OV (.int .i64 a0.Boats) rfl (x_load1 U2 rfl rfl (hL.cellB 1 rfl rfl)) <| OV (.bool (decide (s_l1.2 ≤ a0.Boats))) rfl (x_leq rfl rfl) <| OW.nil ?_
 refine CW.condM (t := decide (s_l1.2 ≤ a0.Boats)) rfl hm (fun hb558 hm => ?_) (fun hb558 hm => ?_)
 · refine CW.skip <| CW.seq <| CW.block <| CSR <| OV (.int .i64 0) rfl (x_assign) <| OW.nil ?_
   obtain ⟨o725, ho726, hm⟩ := bndE hm
   refine CW.loopB (fun (s_l2 : (List Int) × Int) (F : Fr) (w : World) => ∃ (v721 : Value) (S722 : Nat → Prop), F 1 = v5 ∧ F 2 = (.pointer (some ⟨b8, 0, none⟩)) ∧ F 5 = v721 ∧ F 6 = (.int .i64 s_l1.2) ∧ F 7 = (.int .i64 s_l2.2) ∧ Hp w0 [Ent.own 2 S722 v721 s_l2.1, Ent.blk b8 29 #[(.int .i64 a0.Boats), v1, v3], Ent.snap w0 w0.heap.size] w) (fun o => outc o (fun x => some (.ret x)) (fun s => M.spec_l28Standing_a2 s_l1 s) = some t542) ho726 hm ⟨v540, S541, f554, f555, f556, f557, rfl, hL⟩ ?_ ?_
   · intro s_l2 F727 wd728 hJ hm
     have hm := outcE hm
     have hm : M.spec_l28Standing_a2 s_l1 s_l2 = some t542 := hm
     unfold M.spec_l28Standing_a2 at hm
     obtain ⟨v721, S722, f729, f730, f731, f732, f733, hL⟩ := hJ
     refine CW.regionL <| OV (.int .i64 s_l1.2) rfl (x_mv f732) <| OV (.int .i64 (w64 (s_l1.2 + 1))) rfl (x_add rfl rfl) <| OV (.int .i64 (w64 (s_l1.2 + 1))) rfl (x_assign) <| OW.nil ?_
     obtain rfl := Option.some.inj hm
     exact ⟨_, rfl, ⟨v721, S722, f729, f730, f731, rfl, hL⟩⟩
   intro s_l2 F734 wd735 t723 hJ hm hr724
   unfold M.spec_l28Standing_l2 at hm
   obtain ⟨v721, S722, f736, f737, f738, f739, f740, hL⟩ := hJ
   refine CW.seq <| CSR <| OV (.int .i64 s_l2.2) rfl (x_mv f740) <| OV (.pointer (some ⟨b8, 0, none⟩)) rfl (x_fieldAddr (fsz := 1) 0 0 0 U29 rfl Try_T2 rfl f737 rfl) <| OV (.int .i64 a0.Boats) rfl (x_load1 U2 rfl rfl (hL.cellB 1 rfl rfl)) <| OV (.bool (decide (s_l2.2 < a0.Boats))) rfl (x_lss rfl rfl) <| OW.nil ?_
   refine CW.condM (t := decide (s_l2.2 < a0.Boats)) rfl hm (fun hb741 hm => ?_) (fun hb741 hm => ?_)
   · refine CW.skip ?_
     refine CW.seqJ (fun (s_j1 : (List Int)) (F : Fr) (w : World) => ∃ (v777 : Value) (S778 : Nat → Prop), F 1 = v5 ∧ F 2 = (.pointer (some ⟨b8, 0, none⟩)) ∧ F 5 = v777 ∧ F 6 = (.int .i64 s_l1.2) ∧ F 7 = (.int .i64 s_l2.2) ∧ Hp w0 [Ent.own 2 S778 v777 s_j1, Ent.blk b8 29 #[(.int .i64 a0.Boats), v1, v3], Ent.snap w0 w0.heap.size] w) (fun s_j1 => M.spec_l28Standing_j1 s_l2 s_j1 = some t723) ?_ ?_
     · refine CW.blockJ (fun (s_j2 : (List Int)) (F : Fr) (w : World) => ∃ (v799 : Value) (S800 : Nat → Prop), F 1 = v5 ∧ F 2 = (.pointer (some ⟨b8, 0, none⟩)) ∧ F 5 = v799 ∧ F 6 = (.int .i64 s_l1.2) ∧ F 7 = (.int .i64 s_l2.2) ∧ Hp w0 [Ent.own 2 S800 v799 s_j2, Ent.blk b8 29 #[(.int .i64 a0.Boats), v1, v3], Ent.snap w0 w0.heap.size] w) (fun s_j2 => M.spec_l28Standing_j2 s_l2 s_j2 = some t723) ?_ ?_
       · refine CSR <| OV (.agg #[(.int .i64 a0.Boats), v1, v3]) rfl (x_loadN (cs := [(.int .i64 a0.Boats), v1, v3]) U29 Try_T29 rfl f737 (hL.cellsB 1 rfl (o := 0) (l := [(.int .i64 a0.Boats), v1, v3]) (by intro j u hj; exact (by simpa using hj)))) <| OV v5 rfl (x_mv f736) <| OV (.int .i64 s_l2.2) rfl (x_mv f740) ?_
         obtain ⟨x808, hx809, hm⟩ := bndE hm
         refine OW.cons (OP.call rfl (x_call (vs := [(.agg #[(.int .i64 a0.Boats), v1, v3]), v5, (.int .i64 s_l2.2)]) Try_C64 ⟨rfl, rfl, rfl, trivial⟩) (M.spec_l28Rank_ok _ a0 (hL.rdS 2 rfl h2) (hL.rdS 2 rfl h4) a1 (hL.rdS 2 rfl h6) s_l2.2 hx809) ?_)
         rintro e810 wd811 ⟨rfl, hF812⟩
         refine ⟨_, rfl, ?_⟩
         have hL := hL.pushAll hF812
         simp only [lA, lB, lC, lD] at hL
         refine OV (.int .i64 s_l1.2) rfl (x_mv f739) <| OV (.bool (x808 == s_l1.2)) rfl (x_eql rfl rfl) <| OW.nil ?_
         refine CW.condM (t := x808 == s_l1.2) rfl hm (fun hb813 hm => ?_) (fun hb813 hm => ?_)
         · refine CW.regionL <| OV v721 rfl (x_mv f738) <| OV (.int .i64 s_l2.2) rfl (x_mv f740) ?_
           refine OW.cons (S_lit ([s_l2.2] : List Int) hL U25 Try_T2 rfl (by decide) (by first | (simp [Instr.fill, madeCells, Value.cells, ev, upd, Flat.enc, Flat.sz]; done) | rfl | kernel_rfl) rfl rfl ?_)
           intro wd814 v815 S816 hL
           obtain ⟨hc820, hm⟩ := chkE hm
           refine OW.cons (S_append (ys := ([s_l2.2] : List Int)) hL 1 rfl U25 Try_T2 rfl rfl rfl (hL.rdO 0 rfl) hc820 (by decide) rfl ?_)
           intro wd817 v818 S819 hL
           refine OV v818 rfl (x_assign) <| OW.nil ?_
           have hL := hL.sel [1, 2, 3] (by decide) rfl
           exact ⟨s_l2.1 ++ ([s_l2.2] : List Int), hm, ⟨v818, S819, f736, f737, rfl, f739, f740, hL⟩⟩
         refine CW.skip ?_
         exact ⟨s_l2.1, hm, ⟨v721, S722, f736, f737, f738, f739, f740, hL⟩⟩
       intro s_j2 F801 wd802 hJ hm
       unfold M.spec_l28Standing_j2 at hm
       obtain ⟨v799, S800, f803, f804, f805, f806, f807, hL⟩ := hJ
       exact ⟨s_j2, hm, ⟨v799, S800, f803, f804, f805, f806, f807, hL⟩⟩
     intro s_j1 F779 wd780 hJ hm
     unfold M.spec_l28Standing_j1 at hm
     obtain ⟨v777, S778, f781, f782, f783, f784, f785, hL⟩ := hJ
     refine CW.regionL <| OV (.int .i64 s_l2.2) rfl (x_mv f785) <| OV (.int .i64 (w64 (s_l2.2 + 1))) rfl (x_add rfl rfl) <| OV (.int .i64 (w64 (s_l2.2 + 1))) rfl (x_assign) <| OW.nil ?_
     obtain rfl := Option.some.inj hm
     exact ⟨_, rfl, ⟨v777, S778, f781, f782, f783, f784, rfl, hL⟩⟩
   refine CW.exit ?_
   refine XJ.hit ?_
   obtain rfl := Option.some.inj hm
   exact ⟨_, rfl, ⟨v721, S722, f736, f737, f738, f739, f740, hL⟩⟩
 refine CW.exit ?_
 refine XJ.hit ?_
 obtain rfl := Option.some.inj hm
 exact ⟨_, rfl, ⟨v540, S541, f554, f555, f556, f557, hL⟩⟩

theorem M.impl_standingOf_1_ok (w0 : World) (a0 : Int) (a1 : Int) (a2 : Table) {v3 : Value} {v5 : Value} {b1 : Nat} (h4 : rdL (· < w0.heap.size) w0 v3 a2.Points) (h6 : rdL (· < w0.heap.size) w0 v5 a2.Codes) (hb2 : bxA (· < w0.heap.size) w0 b1 29 #[(.int .i64 a2.Boats), v3, v5]) (a3 : List Int) {v9 : Value} {b7 : Nat} (h10 : rdL (· < w0.heap.size) w0 v9 a3) (hb8 : bxA (· < w0.heap.size) w0 b7 25 #[v9]) {r : Int} (hm : M.impl_standingOf_1 a0 a1 a2 a3 = some r) :
    Calls Try.prog 100 #[(.int .i64 a0), (.int .i64 a1), (.pointer (some ⟨b1, 0, none⟩)), (.pointer (some ⟨b7, 0, none⟩))] w0 fun e w' => e = .returned (.int .i64 r) ∧ Fresh w0 w' [] := by
 unfold M.impl_standingOf_1 at hm
 refine calls_CW (args := [(.int .i64 a0), (.int .i64 a1), (.pointer (some ⟨b1, 0, none⟩)), (.pointer (some ⟨b7, 0, none⟩))]) Try.func100 rfl rfl rfl ?_
 have hL := Hp.start w0
 refine CSR <| OV (.int .i64 0) rfl (x_assign) <| ONR <| OV (.agg #[(.int .i64 a2.Boats), v3, v5]) rfl (x_loadN (cs := [(.int .i64 a2.Boats), v3, v5]) U29 Try_T29 rfl rfl ((hL.bxS 0 rfl hb2).cells (o := 0) (l := [(.int .i64 a2.Boats), v3, v5]) (by intro j u hj; exact (by simpa using hj)))) <| OV v9 rfl (x_load1 U25 rfl rfl ((hL.bxS 0 rfl hb8).cell rfl)) <| OV (.int .i64 a0) rfl (x_move) <| OV (.int .i64 a1) rfl (x_move) ?_
 obtain ⟨x11, hx12, hm⟩ := bndE hm
 refine OW.cons (OP.call rfl (x_call (vs := [(.agg #[(.int .i64 a2.Boats), v3, v5]), v9, (.int .i64 a0), (.int .i64 a1)]) Try_C62 ⟨rfl, rfl, rfl, rfl, trivial⟩) (M.impl_compareBoats_ok _ a2 (hL.rdS 0 rfl h4) (hL.rdS 0 rfl h6) a3 (hL.rdS 0 rfl h10) a0 a1 hx12) ?_)
 rintro e13 wd14 ⟨rfl, hF15⟩
 refine ⟨_, rfl, ?_⟩
 have hL := hL.pushAll hF15
 simp only [lA, lB, lC, lD] at hL
 refine OV (.tuple #[(.int .i64 x11.1), (.int .i64 x11.2.1), (.int .i64 x11.2.2)]) rfl (x_move) <| OV (.int .i64 x11.1) rfl (x_extract rfl rfl) <| OV (.int .i64 x11.2.1) rfl (x_extract rfl rfl) <| OV (.int .i64 x11.2.2) rfl (x_extract rfl rfl) <| OV (.int .i64 x11.1) rfl (x_assign) <| OV (.int .i64 x11.2.1) rfl (x_assign) <| OV (.int .i64 x11.2.2) rfl (x_assign) <| ONR <| OV (.int .i64 x11.1) rfl (x_move) <| OV (.int .i64 x11.1) rfl (x_assign) <| OW.nil <| CW.ret ?_
 obtain rfl := Option.some.inj hm
 exact RR1 rfl rfl ⟨rfl, hL.fresh 0 rfl [] (by decide) (by decide) rfl⟩

theorem M.impl_standingOf_ok (w0 : World) (a0 : Table) {v1 : Value} {v3 : Value} (h2 : rdL (· < w0.heap.size) w0 v1 a0.Points) (h4 : rdL (· < w0.heap.size) w0 v3 a0.Codes) (a1 : List Int) {v5 : Value} (h6 : rdL (· < w0.heap.size) w0 v5 a1) {r : (List Int)} (hm : M.impl_standingOf a0 a1 = some r) :
    Calls Try.prog 68 #[(.agg #[(.int .i64 a0.Boats), v1, v3]), v5] w0 fun e w' => ∃ (rv0 : Value) (rS0 : Nat → Prop), e = .returned rv0 ∧ Fresh w0 w' [Ent.own 2 rS0 rv0 r] := by
 unfold M.impl_standingOf at hm
 refine calls_CW (args := [(.agg #[(.int .i64 a0.Boats), v1, v3]), v5]) Try.func68 rfl rfl rfl ?_
 have hL := Hp.start w0
 refine CSR ?_
 refine OW.cons (S_box (cs := #[(.int .i64 a0.Boats), v1, v3]) hL rfl rfl rfl ?_)
 intro wd7 b8 hL
 refine OW.cons (S_box (cs := #[v5]) hL rfl (rdL_cells (hL.rdS 1 rfl h6)) rfl ?_)
 intro wd9 b10 hL
 refine OV (.slice none 0 0) rfl (x_assign) <| ONR <| OV (.pointer (some ⟨b8, 0, none⟩)) rfl (x_fieldAddr (fsz := 1) 0 0 0 U29 rfl Try_T2 rfl rfl rfl) <| OV (.int .i64 a0.Boats) rfl (x_load1 U2 rfl rfl (hL.cellB 1 rfl rfl)) <| OV (.func (.func 100) #[] #[(.pointer (some ⟨b8, 0, none⟩)), (.pointer (some ⟨b10, 0, none⟩))]) rfl (x_makeFunc (vs := [(.pointer (some ⟨b8, 0, none⟩)), (.pointer (some ⟨b10, 0, none⟩))]) ⟨rfl, rfl, trivial⟩) ?_
 obtain ⟨x11, hx12, hm⟩ := bndE hm
 refine OW.cons (OP.call rfl (x_call (vs := [(.int .i64 a0.Boats), (.func (.func 100) #[] #[(.pointer (some ⟨b8, 0, none⟩)), (.pointer (some ⟨b10, 0, none⟩))])]) Try_C73 ⟨rfl, rfl, trivial⟩) (M.impl_sortedIndices_ok _ a0.Boats (fun y0 y1 => M.impl_standingOf_1 y0 y1 a0 a1) ⟨Try_C100, fun yw hag yvs yv hR => by obtain ⟨y0, y1, yr, rfl, hyf, rfl⟩ := hR; exact M.impl_standingOf_1_ok yw y0 y1 a0 (hag.rdL (hL.rdS 2 rfl h2)) (hag.rdL (hL.rdS 2 rfl h4)) (hag.bx (hL.bxB 1 rfl)) a1 (hag.rdL (hL.rdS 2 rfl h6)) (hag.bx (hL.bxB 0 rfl)) hyf⟩ hx12) ?_)
 rintro e15 wd16 ⟨v14, S13, rfl, hF17⟩
 refine ⟨_, rfl, ?_⟩
 have hL := hL.pushAll hF17
 simp only [lA, lB, lC, lD] at hL
 refine OV v14 rfl (x_assign) <| OW.nil <| CW.ret ?_
 obtain rfl := Option.some.inj hm
 exact RR1 rfl rfl ⟨v14, S13, rfl, hL.fresh 3 rfl [0] (by decide) (by decide) rfl⟩

theorem M.impl_StandingOf_ok (w0 : World) (a0 : Table) {v1 : Value} {v3 : Value} (h2 : rdL (· < w0.heap.size) w0 v1 a0.Points) (h4 : rdL (· < w0.heap.size) w0 v3 a0.Codes) (a1 : List Int) {v5 : Value} (h6 : rdL (· < w0.heap.size) w0 v5 a1) {r : (List Int) × Int} (hm : M.impl_StandingOf a0 a1 = some r) :
    Calls Try.prog 28 #[(.agg #[(.int .i64 a0.Boats), v1, v3]), v5] w0 fun e w' => ∃ (rv0 : Value) (rS0 : Nat → Prop), e = .returned (.tuple #[rv0, (.int .i64 r.2)]) ∧ Fresh w0 w' [Ent.own 2 rS0 rv0 r.1] := by
 unfold M.impl_StandingOf at hm
 refine calls_CW (args := [(.agg #[(.int .i64 a0.Boats), v1, v3]), v5]) Try.func28 rfl rfl rfl ?_
 have hL := Hp.start w0
 refine CSR ?_
 refine OW.cons (S_box (cs := #[(.int .i64 a0.Boats), v1, v3]) hL rfl rfl rfl ?_)
 intro wd7 b8 hL
 refine OV (.slice none 0 0) rfl (x_assign) <| OV (.int .i64 0) rfl (x_assign) <| ONS <| CSR <| OV (.agg #[(.int .i64 a0.Boats), v1, v3]) rfl (x_loadN (cs := [(.int .i64 a0.Boats), v1, v3]) U29 Try_T29 rfl rfl (hL.cellsB 0 rfl (o := 0) (l := [(.int .i64 a0.Boats), v1, v3]) (by intro j u hj; exact (by simpa using hj)))) <| OV v5 rfl (x_move) ?_
 obtain ⟨x9, hx10, hm⟩ := bndE hm
 refine OW.cons (OP.call rfl (x_call (vs := [(.agg #[(.int .i64 a0.Boats), v1, v3]), v5, (.int .i64 0)]) Try_C65 ⟨rfl, rfl, rfl, trivial⟩) (M.impl_tableCode_ok _ a0 (hL.rdS 1 rfl h2) (hL.rdS 1 rfl h4) a1 (hL.rdS 1 rfl h6) 0 hx10) ?_)
 rintro e11 wd12 ⟨rfl, hF13⟩
 refine ⟨_, rfl, ?_⟩
 have hL := hL.pushAll hF13
 simp only [lA, lB, lC, lD] at hL
 refine OV (.int .i64 x9) rfl (x_assign) <| ONR <| OV (.int .i64 x9) rfl (x_move) <| OV (.bool (x9 != 0)) rfl (x_neq rfl rfl) <| OW.nil ?_
 refine CW.condM (t := x9 != 0) rfl hm (fun hb14 hm => ?_) (fun hb14 hm => ?_)
 · refine CSR <| OV (.int .i64 x9) rfl (x_move) <| OV (.slice none 0 0) rfl (x_assign) <| OV (.int .i64 x9) rfl (x_assign) <| OW.nil <| CW.ret ?_
   have hL := hL.pushNil Int 2
   obtain rfl := Option.some.inj hm
   exact RR2 rfl rfl rfl ⟨(.slice none 0 0), None_, rfl, hL.fresh 2 rfl [0] (by decide) (by decide) rfl⟩
 refine CW.skip <| CSR <| OV (.agg #[(.int .i64 a0.Boats), v1, v3]) rfl (x_loadN (cs := [(.int .i64 a0.Boats), v1, v3]) U29 Try_T29 rfl rfl (hL.cellsB 0 rfl (o := 0) (l := [(.int .i64 a0.Boats), v1, v3]) (by intro j u hj; exact (by simpa using hj)))) <| OV v5 rfl (x_move) ?_
 obtain ⟨x15, hx16, hm⟩ := bndE hm
 refine OW.cons (OP.call rfl (x_call (vs := [(.agg #[(.int .i64 a0.Boats), v1, v3]), v5]) Try_C68 ⟨rfl, rfl, trivial⟩) (M.impl_standingOf_ok _ a0 (hL.rdS 1 rfl h2) (hL.rdS 1 rfl h4) a1 (hL.rdS 1 rfl h6) hx16) ?_)
 rintro e19 wd20 ⟨v18, S17, rfl, hF21⟩
 refine ⟨_, rfl, ?_⟩
 have hL := hL.pushAll hF21
 simp only [lA, lB, lC, lD] at hL
 refine OV v18 rfl (x_assign) <| OV (.int .i64 0) rfl (x_assign) <| OW.nil <| CW.ret ?_
 obtain rfl := Option.some.inj hm
 exact RR2 rfl rfl rfl ⟨v18, S17, rfl, hL.fresh 2 rfl [0] (by decide) (by decide) rfl⟩

theorem M.spec_LeadOf_ok (w0 : World) (a0 : Table) {v1 : Value} {v3 : Value} (h2 : rdL (· < w0.heap.size) w0 v1 a0.Points) (h4 : rdL (· < w0.heap.size) w0 v3 a0.Codes) (a1 : List Int) {v5 : Value} (h6 : rdL (· < w0.heap.size) w0 v5 a1) {r : Int × Int} (hm : M.spec_LeadOf a0 a1 = some r) :
    Calls Try.prog 29 #[(.agg #[(.int .i64 a0.Boats), v1, v3]), v5] w0 fun e w' => e = .returned (.tuple #[(.int .i64 r.1), (.int .i64 r.2)]) ∧ Fresh w0 w' [] := by
 unfold M.spec_LeadOf at hm
 refine calls_CW (args := [(.agg #[(.int .i64 a0.Boats), v1, v3]), v5]) Try.func29 rfl rfl rfl ?_
 have hL := Hp.start w0
 refine CSR ?_
 refine OW.cons (S_box (cs := #[(.int .i64 a0.Boats), v1, v3]) hL rfl rfl rfl ?_)
 intro wd7 b8 hL
 refine OV (.int .i64 0) rfl (x_assign) <| OV (.int .i64 0) rfl (x_assign) <| ONR <| OV (.agg #[(.int .i64 a0.Boats), v1, v3]) rfl (x_loadN (cs := [(.int .i64 a0.Boats), v1, v3]) U29 Try_T29 rfl rfl (hL.cellsB 0 rfl (o := 0) (l := [(.int .i64 a0.Boats), v1, v3]) (by intro j u hj; exact (by simpa using hj)))) <| OV v5 rfl (x_move) ?_
 obtain ⟨x9, hx10, hm⟩ := bndE hm
 refine OW.cons (OP.call rfl (x_call (vs := [(.agg #[(.int .i64 a0.Boats), v1, v3]), v5, (.int .i64 0)]) Try_C63 ⟨rfl, rfl, rfl, trivial⟩) (M.spec_l27Code_ok _ a0 (hL.rdS 1 rfl h2) (hL.rdS 1 rfl h4) a1 (hL.rdS 1 rfl h6) 0 hx10) ?_)
 rintro e11 wd12 ⟨rfl, hF13⟩
 refine ⟨_, rfl, ?_⟩
 have hL := hL.pushAll hF13
 simp only [lA, lB, lC, lD] at hL
 refine OV (.int .i64 x9) rfl (x_assign) <| ONS <| CSR <| OV (.int .i64 x9) rfl (x_move) <| OV (.bool (x9 != 0)) rfl (x_neq rfl rfl) <| OW.nil ?_
 refine CW.condM (t := x9 != 0) rfl hm (fun hb14 hm => ?_) (fun hb14 hm => ?_)
 · refine CSR <| OV (.int .i64 x9) rfl (x_move) <| OV (.int .i64 0) rfl (x_assign) <| OV (.int .i64 x9) rfl (x_assign) <| OW.nil <| CW.ret ?_
   obtain rfl := Option.some.inj hm
   exact RR2 rfl rfl rfl ⟨rfl, hL.fresh 1 rfl [] (by decide) (by decide) rfl⟩
 refine CW.skip <| CW.seq <| CSR <| OV (.pointer (some ⟨b8, 0, none⟩)) rfl (x_fieldAddr (fsz := 1) 0 0 0 U29 rfl Try_T2 rfl rfl rfl) <| OV (.int .i64 a0.Boats) rfl (x_load1 U2 rfl rfl (hL.cellB 0 rfl rfl)) <| OV (.bool (a0.Boats == 1)) rfl (x_eql rfl rfl) <| OW.nil ?_
 refine CW.condM (t := a0.Boats == 1) rfl hm (fun hb15 hm => ?_) (fun hb15 hm => ?_)
 · refine CSR <| OV (.int .i64 0) rfl (x_assign) <| OV (.int .i64 5) rfl (x_assign) <| OW.nil <| CW.ret ?_
   obtain rfl := Option.some.inj hm
   exact RR2 rfl rfl rfl ⟨rfl, hL.fresh 1 rfl [] (by decide) (by decide) rfl⟩
 refine CW.skip <| CSR <| OV (.agg #[(.int .i64 a0.Boats), v1, v3]) rfl (x_loadN (cs := [(.int .i64 a0.Boats), v1, v3]) U29 Try_T29 rfl rfl (hL.cellsB 0 rfl (o := 0) (l := [(.int .i64 a0.Boats), v1, v3]) (by intro j u hj; exact (by simpa using hj)))) <| OV v5 rfl (x_move) ?_
 obtain ⟨x16, hx17, hm⟩ := bndE hm
 refine OW.cons (OP.call rfl (x_call (vs := [(.agg #[(.int .i64 a0.Boats), v1, v3]), v5]) Try_C67 ⟨rfl, rfl, trivial⟩) (M.spec_l28Standing_ok _ a0 (hL.rdS 1 rfl h2) (hL.rdS 1 rfl h4) a1 (hL.rdS 1 rfl h6) hx17) ?_)
 rintro e20 wd21 ⟨v19, S18, rfl, hF22⟩
 refine ⟨_, rfl, ?_⟩
 have hL := hL.pushAll hF22
 simp only [lA, lB, lC, lD] at hL
 refine OV v19 rfl (x_assign) <| ONS ?_
 refine CW.drawH (fun w' => Hp w0 [Ent.own 2 S18 v19 x16, Ent.blk b8 29 #[(.int .i64 a0.Boats), v1, v3], Ent.snap w0 w0.heap.size] w') Try_mixed ?_
 have hL := hL.call (Mod.drew _)
 have hS := (hL.sel [0, 1, 2] (by decide) rfl)
 refine DH.take 0 rfl (by kernel_rfl) (by kernel_rfl) (by kernel_rfl) rfl rfl hS (YH.val (v := (.agg #[(.int .i64 a0.Boats), v1, v3])) (fun w' hS' => x_loadN (cs := [(.int .i64 a0.Boats), v1, v3]) U29 Try_T29 rfl rfl (hS'.cellsB 1 rfl (o := 0) (l := [(.int .i64 a0.Boats), v1, v3]) (by intro j u hj; exact (by simpa using hj))))) ?_
 have hS := (hL.sel [0, 1, 2] (by decide) rfl)
 refine DH.take 1 rfl (by kernel_rfl) (by kernel_rfl) (by kernel_rfl) rfl rfl hS (YH.val (v := v5) (fun w' hS' => x_move)) ?_
 have hS := (hL.sel [0, 1, 2] (by decide) rfl)
 refine DH.take 2 rfl (by kernel_rfl) (by kernel_rfl) (by kernel_rfl) rfl rfl hS (YH.val (v := v19) (fun w' hS' => x_move)) ?_
 have hS := (hL.sel [0, 1, 2] (by decide) rfl)
 obtain ⟨x61, ha62, hm⟩ := bndE hm
 obtain ⟨hz63, ha67⟩ := idxE ha62
 obtain ⟨b64, q65, hix66⟩ := rdL_ix (hL.rdO 0 rfl) hz63 ha67
 refine DH.take 3 rfl (by kernel_rfl) (by kernel_rfl) (by kernel_rfl) rfl rfl hS (YH.val (v := (.pointer (some ⟨b64, q65, none⟩))) (fun w' hS' => x_ix U25 Try_T2 rfl rfl hix66)) ?_
 have hS := (hL.sel [0, 1, 2] (by decide) rfl)
 refine DH.take 4 rfl (by kernel_rfl) (by kernel_rfl) (by kernel_rfl) rfl rfl hS (YH.val (v := (.int .i64 x61)) (fun w' hS' => x_load1 U2 rfl rfl (rdF_cells (hS'.rdO 0 rfl) hix66 ha67 0 _ rfl))) ?_
 have hS := (hL.sel [0, 1, 2] (by decide) rfl)
 refine DH.take 7 rfl (by kernel_rfl) (by kernel_rfl) (by kernel_rfl) rfl rfl hS (YH.val (v := (.agg #[(.int .i64 a0.Boats), v1, v3])) (fun w' hS' => x_loadN (cs := [(.int .i64 a0.Boats), v1, v3]) U29 Try_T29 rfl rfl (hS'.cellsB 1 rfl (o := 0) (l := [(.int .i64 a0.Boats), v1, v3]) (by intro j u hj; exact (by simpa using hj))))) ?_
 have hS := (hL.sel [0, 1, 2] (by decide) rfl)
 refine DH.take 8 rfl (by kernel_rfl) (by kernel_rfl) (by kernel_rfl) rfl rfl hS (YH.val (v := v5) (fun w' hS' => x_move)) ?_
 have hS := (hL.sel [0, 1, 2] (by decide) rfl)
 refine DH.take 9 rfl (by kernel_rfl) (by kernel_rfl) (by kernel_rfl) rfl rfl hS (YH.val (v := v19) (fun w' hS' => x_move)) ?_
 have hS := (hL.sel [0, 1, 2] (by decide) rfl)
 obtain ⟨x68, ha69, hm⟩ := bndE hm
 obtain ⟨hz70, ha74⟩ := idxE ha69
 obtain ⟨b71, q72, hix73⟩ := rdL_ix (hL.rdO 0 rfl) hz70 ha74
 refine DH.take 10 rfl (by kernel_rfl) (by kernel_rfl) (by kernel_rfl) rfl rfl hS (YH.val (v := (.pointer (some ⟨b71, q72, none⟩))) (fun w' hS' => x_ix U25 Try_T2 rfl rfl hix73)) ?_
 have hS := (hL.sel [0, 1, 2] (by decide) rfl)
 refine DH.take 11 rfl (by kernel_rfl) (by kernel_rfl) (by kernel_rfl) rfl rfl hS (YH.val (v := (.int .i64 x68)) (fun w' hS' => x_load1 U2 rfl rfl (rdF_cells (hS'.rdO 0 rfl) hix73 ha74 0 _ rfl))) ?_
 obtain ⟨x75, hx76, hm⟩ := bndE hm
 refine DH.only 5 rfl (by kernel_rfl) (OP.call rfl (x_call (vs := [(.agg #[(.int .i64 a0.Boats), v1, v3]), v5, (.int .i64 x61)]) Try_C70 ⟨rfl, rfl, rfl, trivial⟩) (M.spec_l27Counted_ok _ a0 (hL.rdS 2 rfl h2) (hL.rdS 2 rfl h4) a1 (hL.rdS 2 rfl h6) x61 hx76) ?_)
 rintro e79 wd80 ⟨v78, S77, rfl, hF81⟩
 refine ⟨_, rfl, ?_⟩
 have hL := hL.pushAll hF81
 simp only [lA, lB, lC, lD] at hL
 refine ⟨(hL.sel [1, 2, 3] (by decide) rfl), ?_⟩
 obtain ⟨x82, hx83, hm⟩ := bndE hm
 refine DH.only 6 rfl (by kernel_rfl) (OP.call rfl (x_call (vs := [v78]) Try_C69 ⟨rfl, trivial⟩) (M.spec_l27Sum_ok _ x75 (hL.rdO 0 rfl) hx83) ?_)
 rintro e84 wd85 ⟨rfl, hF86⟩
 refine ⟨_, rfl, ?_⟩
 have hL := hL.pushAll hF86
 simp only [lA, lB, lC, lD] at hL
 refine ⟨(hL.sel [1, 2, 3] (by decide) rfl), ?_⟩
 obtain ⟨x87, hx88, hm⟩ := bndE hm
 refine DH.only 12 rfl (by kernel_rfl) (OP.call rfl (x_call (vs := [(.agg #[(.int .i64 a0.Boats), v1, v3]), v5, (.int .i64 x68)]) Try_C70 ⟨rfl, rfl, rfl, trivial⟩) (M.spec_l27Counted_ok _ a0 (hL.rdS 3 rfl h2) (hL.rdS 3 rfl h4) a1 (hL.rdS 3 rfl h6) x68 hx88) ?_)
 rintro e91 wd92 ⟨v90, S89, rfl, hF93⟩
 refine ⟨_, rfl, ?_⟩
 have hL := hL.pushAll hF93
 simp only [lA, lB, lC, lD] at hL
 refine ⟨(hL.sel [2, 3, 4] (by decide) rfl), ?_⟩
 obtain ⟨x94, hx95, hm⟩ := bndE hm
 refine DH.only 13 rfl (by kernel_rfl) (OP.call rfl (x_call (vs := [v90]) Try_C69 ⟨rfl, trivial⟩) (M.spec_l27Sum_ok _ x87 (hL.rdO 0 rfl) hx95) ?_)
 rintro e96 wd97 ⟨rfl, hF98⟩
 refine ⟨_, rfl, ?_⟩
 have hL := hL.pushAll hF98
 simp only [lA, lB, lC, lD] at hL
 refine ⟨(hL.sel [2, 3, 4] (by decide) rfl), ?_⟩
 have hS := (hL.sel [2, 3, 4] (by decide) rfl)
 refine DH.take 14 rfl (by kernel_rfl) (by kernel_rfl) (by kernel_rfl) rfl rfl hS (YH.val (v := (.int .i64 (w64 (x82 - x94)))) (fun w' hS' => x_sub rfl rfl)) ?_
 have hS := (hL.sel [2, 3, 4] (by decide) rfl)
 refine DH.take 15 rfl (by kernel_rfl) (by kernel_rfl) (by kernel_rfl) rfl rfl hS (YH.val (v := (.int .i64 (w64 (x82 - x94)))) (fun w' hS' => x_assign)) ?_
 have hS := (hL.sel [2, 3, 4] (by decide) rfl)
 refine DH.take 16 rfl (by kernel_rfl) (by kernel_rfl) (by kernel_rfl) rfl rfl hS (YH.val (v := (.int .i64 0)) (fun w' hS' => x_assign)) ?_
 refine DH.done (by kernel_rfl) ?_
 refine CW.ret ?_
 obtain rfl := Option.some.inj hm
 exact RR2 rfl rfl rfl ⟨rfl, hL.fresh 4 rfl [] (by decide) (by decide) rfl⟩

theorem M.impl_LeadOf_ok (w0 : World) (a0 : Table) {v1 : Value} {v3 : Value} (h2 : rdL (· < w0.heap.size) w0 v1 a0.Points) (h4 : rdL (· < w0.heap.size) w0 v3 a0.Codes) (a1 : List Int) {v5 : Value} (h6 : rdL (· < w0.heap.size) w0 v5 a1) {r : Int × Int} (hm : M.impl_LeadOf a0 a1 = some r) :
    Calls Try.prog 30 #[(.agg #[(.int .i64 a0.Boats), v1, v3]), v5] w0 fun e w' => e = .returned (.tuple #[(.int .i64 r.1), (.int .i64 r.2)]) ∧ Fresh w0 w' [] := by
 unfold M.impl_LeadOf at hm
 refine calls_CW (args := [(.agg #[(.int .i64 a0.Boats), v1, v3]), v5]) Try.func30 rfl rfl rfl ?_
 have hL := Hp.start w0
 refine CSR ?_
 refine OW.cons (S_box (cs := #[(.int .i64 a0.Boats), v1, v3]) hL rfl rfl rfl ?_)
 intro wd7 b8 hL
 refine OV (.int .i64 0) rfl (x_assign) <| OV (.int .i64 0) rfl (x_assign) <| ONR <| OV (.agg #[(.int .i64 a0.Boats), v1, v3]) rfl (x_loadN (cs := [(.int .i64 a0.Boats), v1, v3]) U29 Try_T29 rfl rfl (hL.cellsB 0 rfl (o := 0) (l := [(.int .i64 a0.Boats), v1, v3]) (by intro j u hj; exact (by simpa using hj)))) <| OV v5 rfl (x_move) ?_
 obtain ⟨x9, hx10, hm⟩ := bndE hm
 refine OW.cons (OP.call rfl (x_call (vs := [(.agg #[(.int .i64 a0.Boats), v1, v3]), v5]) Try_C28 ⟨rfl, rfl, trivial⟩) (M.impl_StandingOf_ok _ a0 (hL.rdS 1 rfl h2) (hL.rdS 1 rfl h4) a1 (hL.rdS 1 rfl h6) hx10) ?_)
 rintro e13 wd14 ⟨v12, S11, rfl, hF15⟩
 refine ⟨_, rfl, ?_⟩
 have hL := hL.pushAll hF15
 simp only [lA, lB, lC, lD] at hL
 refine OV (.tuple #[v12, (.int .i64 x9.2)]) rfl (x_move) <| OV v12 rfl (x_extract rfl rfl) <| OV (.int .i64 x9.2) rfl (x_extract rfl rfl) <| OV v12 rfl (x_assign) <| OV (.int .i64 x9.2) rfl (x_assign) <| ONS <| CSR <| OV (.int .i64 x9.2) rfl (x_move) <| OV (.bool (x9.2 != 0)) rfl (x_neq rfl rfl) <| OW.nil ?_
 refine CW.condM (t := x9.2 != 0) rfl hm (fun hb16 hm => ?_) (fun hb16 hm => ?_)
 · refine CSR <| OV (.int .i64 x9.2) rfl (x_move) <| OV (.int .i64 0) rfl (x_assign) <| OV (.int .i64 x9.2) rfl (x_assign) <| OW.nil <| CW.ret ?_
   obtain rfl := Option.some.inj hm
   exact RR2 rfl rfl rfl ⟨rfl, hL.fresh 2 rfl [] (by decide) (by decide) rfl⟩
 refine CW.skip <| CW.seq <| CSR <| OV v12 rfl (x_move) <| OV (.int .i64 (x9.1.length : Int)) rfl (x_lenR U25 rfl (hL.rdO 0 rfl)) <| OV (.bool (decide ((x9.1.length : Int) < 2))) rfl (x_lss rfl rfl) <| OW.nil ?_
 refine CW.condM (t := decide ((x9.1.length : Int) < 2)) rfl hm (fun hb17 hm => ?_) (fun hb17 hm => ?_)
 · refine CSR <| OV (.int .i64 0) rfl (x_assign) <| OV (.int .i64 5) rfl (x_assign) <| OW.nil <| CW.ret ?_
   obtain rfl := Option.some.inj hm
   exact RR2 rfl rfl rfl ⟨rfl, hL.fresh 2 rfl [] (by decide) (by decide) rfl⟩
 refine CW.skip <| CW.seq ?_
 refine CW.draw Try_mixed ?_
 have hL := hL.call (Mod.drew _)
 refine DW.pre (fuel := 0) (fin := bma 15 32767) (C := fun w' => Mod None_ _ w') [0, 1, 2, 3, 4, 5, 6, 7, 8, 9, 10, 11, 12, 13, 14] (Mod.refl _ _) (by kernel_rfl) (by kernel_rfl) ?_
 refine QV (.agg #[(.int .i64 a0.Boats), v1, v3]) rfl rfl (fun w' hm' => x_loadN (cs := [(.int .i64 a0.Boats), v1, v3]) U29 Try_T29 rfl rfl ((hL.call hm').cellsB 1 rfl (o := 0) (l := [(.int .i64 a0.Boats), v1, v3]) (by intro j u hj; exact (by simpa using hj)))) <| QV v5 rfl rfl (fun w' hm' => x_move) <| QV v12 rfl rfl (fun w' hm' => x_move) ?_
 obtain ⟨x18, ha19, hm⟩ := bndE hm
 obtain ⟨hz20, ha24⟩ := idxE ha19
 obtain ⟨b21, q22, hix23⟩ := rdL_ix (hL.rdO 0 rfl) hz20 ha24
 refine QV (.pointer (some ⟨b21, q22, none⟩)) rfl rfl (fun w' hm' => x_ix U25 Try_T2 rfl rfl hix23) <| QV (.int .i64 x18) rfl rfl (fun w' hm' => x_load1 U2 rfl rfl (rdF_cells ((hL.call hm').rdO 0 rfl) hix23 ha24 0 _ rfl)) ?_
 obtain ⟨x25, hx26, hm⟩ := bndE hm
 refine QW.cons rfl (QP.call (v := (.int .i64 x25)) rfl (fun w' hm' => x_call (vs := [(.agg #[(.int .i64 a0.Boats), v1, v3]), v5, (.int .i64 x18)]) Try_C71 ⟨rfl, rfl, rfl, trivial⟩) (fun w' hm' => (M.impl_netPoints_ok w' a0 ((hL.call hm').rdS 2 rfl h2) ((hL.call hm').rdS 2 rfl h4) a1 ((hL.call hm').rdS 2 rfl h6) x18 hx26).mono (fun e w'' h => ⟨h.1, hm'.trans h.2.mod⟩)) ?_)
 refine QV (.agg #[(.int .i64 a0.Boats), v1, v3]) rfl rfl (fun w' hm' => x_loadN (cs := [(.int .i64 a0.Boats), v1, v3]) U29 Try_T29 rfl rfl ((hL.call hm').cellsB 1 rfl (o := 0) (l := [(.int .i64 a0.Boats), v1, v3]) (by intro j u hj; exact (by simpa using hj)))) <| QV v5 rfl rfl (fun w' hm' => x_move) <| QV v12 rfl rfl (fun w' hm' => x_move) ?_
 obtain ⟨x27, ha28, hm⟩ := bndE hm
 obtain ⟨hz29, ha33⟩ := idxE ha28
 obtain ⟨b30, q31, hix32⟩ := rdL_ix (hL.rdO 0 rfl) hz29 ha33
 refine QV (.pointer (some ⟨b30, q31, none⟩)) rfl rfl (fun w' hm' => x_ix U25 Try_T2 rfl rfl hix32) <| QV (.int .i64 x27) rfl rfl (fun w' hm' => x_load1 U2 rfl rfl (rdF_cells ((hL.call hm').rdO 0 rfl) hix32 ha33 0 _ rfl)) ?_
 obtain ⟨x34, hx35, hm⟩ := bndE hm
 refine QW.cons rfl (QP.call (v := (.int .i64 x34)) rfl (fun w' hm' => x_call (vs := [(.agg #[(.int .i64 a0.Boats), v1, v3]), v5, (.int .i64 x27)]) Try_C71 ⟨rfl, rfl, rfl, trivial⟩) (fun w' hm' => (M.impl_netPoints_ok w' a0 ((hL.call hm').rdS 2 rfl h2) ((hL.call hm').rdS 2 rfl h4) a1 ((hL.call hm').rdS 2 rfl h6) x27 hx35).mono (fun e w'' h => ⟨h.1, hm'.trans h.2.mod⟩)) ?_)
 refine QV (.int .i64 (w64 (x25 - x34))) rfl rfl (fun w' hm' => x_sub rfl rfl) <| QV (.int .i64 (w64 (x25 - x34))) rfl rfl (fun w' hm' => x_assign) <| QV (.int .i64 0) rfl rfl (fun w' hm' => x_assign) ?_
 refine QW.nil ?_
 intro wd36 hmod
 have hL := hL.call hmod
 refine DW.done (by kernel_rfl) ?_
 refine CW.ret ?_
 obtain rfl := Option.some.inj hm
 exact RR2 rfl rfl rfl ⟨rfl, hL.fresh 2 rfl [] (by decide) (by decide) rfl⟩

theorem M.spec_NetScores_ok (w0 : World) (a0 : Table) {v1 : Value} {v3 : Value} (h2 : rdL (· < w0.heap.size) w0 v1 a0.Points) (h4 : rdL (· < w0.heap.size) w0 v3 a0.Codes) (a1 : List Int) {v5 : Value} (h6 : rdL (· < w0.heap.size) w0 v5 a1) {r : (List Int) × Int} (hm : M.spec_NetScores a0 a1 = some r) :
    Calls Try.prog 47 #[(.agg #[(.int .i64 a0.Boats), v1, v3]), v5] w0 fun e w' => ∃ (rv0 : Value) (rS0 : Nat → Prop), e = .returned (.tuple #[rv0, (.int .i64 r.2)]) ∧ Fresh w0 w' [Ent.own 2 rS0 rv0 r.1] := by
 unfold M.spec_NetScores at hm
 refine calls_CW (args := [(.agg #[(.int .i64 a0.Boats), v1, v3]), v5]) Try.func47 rfl rfl rfl ?_
 have hL := Hp.start w0
 refine CSR ?_
 refine OW.cons (S_box (cs := #[(.int .i64 a0.Boats), v1, v3]) hL rfl rfl rfl ?_)
 intro wd7 b8 hL
 refine OV (.slice none 0 0) rfl (x_assign) <| OV (.int .i64 0) rfl (x_assign) <| ONR <| OV (.agg #[(.int .i64 a0.Boats), v1, v3]) rfl (x_loadN (cs := [(.int .i64 a0.Boats), v1, v3]) U29 Try_T29 rfl rfl (hL.cellsB 0 rfl (o := 0) (l := [(.int .i64 a0.Boats), v1, v3]) (by intro j u hj; exact (by simpa using hj)))) <| OV v5 rfl (x_move) ?_
 obtain ⟨x9, hx10, hm⟩ := bndE hm
 refine OW.cons (OP.call rfl (x_call (vs := [(.agg #[(.int .i64 a0.Boats), v1, v3]), v5, (.int .i64 0)]) Try_C63 ⟨rfl, rfl, rfl, trivial⟩) (M.spec_l27Code_ok _ a0 (hL.rdS 1 rfl h2) (hL.rdS 1 rfl h4) a1 (hL.rdS 1 rfl h6) 0 hx10) ?_)
 rintro e11 wd12 ⟨rfl, hF13⟩
 refine ⟨_, rfl, ?_⟩
 have hL := hL.pushAll hF13
 simp only [lA, lB, lC, lD] at hL
 refine OV (.int .i64 x9) rfl (x_assign) <| ONS <| CSR <| OV (.int .i64 x9) rfl (x_move) <| OV (.bool (x9 != 0)) rfl (x_neq rfl rfl) <| OW.nil ?_
 refine CW.condM (t := x9 != 0) rfl hm (fun hb14 hm => ?_) (fun hb14 hm => ?_)
 · refine CSR <| OV (.int .i64 x9) rfl (x_move) <| OV (.slice none 0 0) rfl (x_assign) <| OV (.int .i64 x9) rfl (x_assign) <| OW.nil <| CW.ret ?_
   have hL := hL.pushNil Int 2
   obtain rfl := Option.some.inj hm
   exact RR2 rfl rfl rfl ⟨(.slice none 0 0), None_, rfl, hL.fresh 2 rfl [0] (by decide) (by decide) rfl⟩
 refine CW.skip <| CSR ?_
 refine OW.cons (S_lit ([] : List Int) hL U25 Try_T2 rfl (by decide) (by first | (simp [Instr.fill, madeCells, Value.cells, ev, upd, Flat.enc, Flat.sz]; done) | rfl | kernel_rfl) rfl rfl ?_)
 intro wd15 v16 S17 hL
 refine OV v16 rfl (x_assign) <| ONS <| CSR <| OV (.int .i64 0) rfl (x_assign) <| OW.nil ?_
 obtain ⟨o64, ho65, hm⟩ := bndE hm
 refine CW.loopB (fun (s_l1 : (List Int) × Int) (F : Fr) (w : World) => ∃ (v60 : Value) (S61 : Nat → Prop), F 1 = v5 ∧ F 2 = (.pointer (some ⟨b8, 0, none⟩)) ∧ F 7 = v60 ∧ F 8 = (.int .i64 s_l1.2) ∧ Hp w0 [Ent.own 2 S61 v60 s_l1.1, Ent.blk b8 29 #[(.int .i64 a0.Boats), v1, v3], Ent.snap w0 w0.heap.size] w) (fun o => outc o (fun x => some x) (fun s => M.spec_NetScores_a1 s) = some r) ho65 hm ⟨v16, S17, rfl, rfl, rfl, rfl, hL⟩ ?_ ?_
 · intro s_l1 F66 wd67 hJ hm
   have hm := outcE hm
   have hm : M.spec_NetScores_a1 s_l1 = some r := hm
   unfold M.spec_NetScores_a1 at hm
   obtain ⟨v60, S61, f68, f69, f70, f71, hL⟩ := hJ
   refine CSR <| OV v60 rfl (x_mv f70) <| OV v60 rfl (x_assign) <| OV (.int .i64 0) rfl (x_assign) <| OW.nil <| CW.ret ?_
   obtain rfl := Option.some.inj hm
   exact RR2 rfl rfl rfl ⟨v60, S61, rfl, hL.fresh 2 rfl [0] (by decide) (by decide) rfl⟩
 intro s_l1 F72 wd73 t62 hJ hm hr63
 unfold M.spec_NetScores_l1 at hm
 obtain ⟨v60, S61, f74, f75, f76, f77, hL⟩ := hJ
 refine CW.seq <| CSR <| OV (.int .i64 s_l1.2) rfl (x_mv f77) <| OV (.pointer (some ⟨b8, 0, none⟩)) rfl (x_fieldAddr (fsz := 1) 0 0 0 U29 rfl Try_T2 rfl f75 rfl) <| OV (.int .i64 a0.Boats) rfl (x_load1 U2 rfl rfl (hL.cellB 1 rfl rfl)) <| OV (.bool (decide (s_l1.2 < a0.Boats))) rfl (x_lss rfl rfl) <| OW.nil ?_
 refine CW.condM (t := decide (s_l1.2 < a0.Boats)) rfl hm (fun hb78 hm => ?_) (fun hb78 hm => ?_)
 · refine CW.skip <| CW.seq <| CW.block <| CW.regionL <| OV v60 rfl (x_mv f76) <| OV (.agg #[(.int .i64 a0.Boats), v1, v3]) rfl (x_loadN (cs := [(.int .i64 a0.Boats), v1, v3]) U29 Try_T29 rfl f75 (hL.cellsB 1 rfl (o := 0) (l := [(.int .i64 a0.Boats), v1, v3]) (by intro j u hj; exact (by simpa using hj)))) <| OV v5 rfl (x_mv f74) <| OV (.int .i64 s_l1.2) rfl (x_mv f77) ?_
   obtain ⟨x79, hx80, hm⟩ := bndE hm
   refine OW.cons (OP.call rfl (x_call (vs := [(.agg #[(.int .i64 a0.Boats), v1, v3]), v5, (.int .i64 s_l1.2)]) Try_C70 ⟨rfl, rfl, rfl, trivial⟩) (M.spec_l27Counted_ok _ a0 (hL.rdS 2 rfl h2) (hL.rdS 2 rfl h4) a1 (hL.rdS 2 rfl h6) s_l1.2 hx80) ?_)
   rintro e83 wd84 ⟨v82, S81, rfl, hF85⟩
   refine ⟨_, rfl, ?_⟩
   have hL := hL.pushAll hF85
   simp only [lA, lB, lC, lD] at hL
   obtain ⟨x86, hx87, hm⟩ := bndE hm
   refine OW.cons (OP.call rfl (x_call (vs := [v82]) Try_C69 ⟨rfl, trivial⟩) (M.spec_l27Sum_ok _ x79 (hL.rdO 0 rfl) hx87) ?_)
   rintro e88 wd89 ⟨rfl, hF90⟩
   refine ⟨_, rfl, ?_⟩
   have hL := hL.pushAll hF90
   simp only [lA, lB, lC, lD] at hL
   refine OW.cons (S_lit ([x86] : List Int) hL U25 Try_T2 rfl (by decide) (by first | (simp [Instr.fill, madeCells, Value.cells, ev, upd, Flat.enc, Flat.sz]; done) | rfl | kernel_rfl) rfl rfl ?_)
   intro wd91 v92 S93 hL
   obtain ⟨hc97, hm⟩ := chkE hm
   refine OW.cons (S_append (ys := ([x86] : List Int)) hL 2 rfl U25 Try_T2 rfl rfl rfl (hL.rdO 0 rfl) hc97 (by decide) rfl ?_)
   intro wd94 v95 S96 hL
   refine OV v95 rfl (x_assign) <| OW.nil <| CW.regionL <| OV (.int .i64 s_l1.2) rfl (x_mv f77) <| OV (.int .i64 (w64 (s_l1.2 + 1))) rfl (x_add rfl rfl) <| OV (.int .i64 (w64 (s_l1.2 + 1))) rfl (x_assign) <| OW.nil ?_
   have hL := hL.sel [2, 3, 4] (by decide) rfl
   obtain rfl := Option.some.inj hm
   exact ⟨_, rfl, ⟨v95, S96, f74, f75, rfl, rfl, hL⟩⟩
 refine CW.exit ?_
 refine XJ.hit ?_
 obtain rfl := Option.some.inj hm
 exact ⟨_, rfl, ⟨v60, S61, f74, f75, f76, f77, hL⟩⟩

theorem M.spec_TiedBoats_ok (w0 : World) (a0 : Table) {v1 : Value} {v3 : Value} (h2 : rdL (· < w0.heap.size) w0 v1 a0.Points) (h4 : rdL (· < w0.heap.size) w0 v3 a0.Codes) (a1 : List Int) {v5 : Value} (h6 : rdL (· < w0.heap.size) w0 v5 a1) {r : (List (List Int)) × Int} (hm : M.spec_TiedBoats a0 a1 = some r) :
    Calls Try.prog 31 #[(.agg #[(.int .i64 a0.Boats), v1, v3]), v5] w0 fun e w' => ∃ (rv0 : Value) (rS0 : Nat → Prop), e = .returned (.tuple #[rv0, (.int .i64 r.2)]) ∧ Fresh w0 w' [Ent.own 25 rS0 rv0 r.1] := by
 unfold M.spec_TiedBoats at hm
 refine calls_CW (args := [(.agg #[(.int .i64 a0.Boats), v1, v3]), v5]) Try.func31 rfl rfl rfl ?_
 have hL := Hp.start w0
 refine CSR ?_
 refine OW.cons (S_box (cs := #[(.int .i64 a0.Boats), v1, v3]) hL rfl rfl rfl ?_)
 intro wd7 b8 hL
 refine OV (.slice none 0 0) rfl (x_assign) <| OV (.int .i64 0) rfl (x_assign) <| ONR <| OV (.agg #[(.int .i64 a0.Boats), v1, v3]) rfl (x_loadN (cs := [(.int .i64 a0.Boats), v1, v3]) U29 Try_T29 rfl rfl (hL.cellsB 0 rfl (o := 0) (l := [(.int .i64 a0.Boats), v1, v3]) (by intro j u hj; exact (by simpa using hj)))) <| OV v5 rfl (x_move) ?_
 obtain ⟨x9, hx10, hm⟩ := bndE hm
 refine OW.cons (OP.call rfl (x_call (vs := [(.agg #[(.int .i64 a0.Boats), v1, v3]), v5]) Try_C47 ⟨rfl, rfl, trivial⟩) (M.spec_NetScores_ok _ a0 (hL.rdS 1 rfl h2) (hL.rdS 1 rfl h4) a1 (hL.rdS 1 rfl h6) hx10) ?_)
 rintro e13 wd14 ⟨v12, S11, rfl, hF15⟩
 refine ⟨_, rfl, ?_⟩
 have hL := hL.pushAll hF15
 simp only [lA, lB, lC, lD] at hL
 refine OV (.tuple #[v12, (.int .i64 x9.2)]) rfl (x_move) <| OV v12 rfl (x_extract rfl rfl) <| OV (.int .i64 x9.2) rfl (x_extract rfl rfl) <| OV v12 rfl (x_assign) <| OV (.int .i64 x9.2) rfl (x_assign) <| ONS <| CSR <| OV (.int .i64 x9.2) rfl (x_move) <| OV (.bool (x9.2 != 0)) rfl (x_neq rfl rfl) <| OW.nil ?_
 refine CW.condM (t := x9.2 != 0) rfl hm (fun hb16 hm => ?_) (fun hb16 hm => ?_)
 · refine CSR <| OV (.int .i64 x9.2) rfl (x_move) <| OV (.slice none 0 0) rfl (x_assign) <| OV (.int .i64 x9.2) rfl (x_assign) <| OW.nil <| CW.ret ?_
   have hL := hL.pushNil (List Int) 25
   obtain rfl := Option.some.inj hm
   exact RR2 rfl rfl rfl ⟨(.slice none 0 0), None_, rfl, hL.fresh 3 rfl [0] (by decide) (by decide) rfl⟩
 refine CW.skip <| CSR <| OV v12 rfl (x_move) ?_
 obtain ⟨x17, hx18, hm⟩ := bndE hm
 refine OW.cons (OP.call rfl (x_call (vs := [v12]) Try_C72 ⟨rfl, trivial⟩) (M.spec_l28Sorted_ok _ x9.1 (hL.rdO 0 rfl) hx18) ?_)
 rintro e21 wd22 ⟨v20, S19, rfl, hF23⟩
 refine ⟨_, rfl, ?_⟩
 have hL := hL.pushAll hF23
 simp only [lA, lB, lC, lD] at hL
 refine OV v20 rfl (x_assign) <| ONR ?_
 refine OW.cons (S_lit0 (α := Int) (List Int) hL U22 Try_T25 rfl ?_)
 intro wd24 v25 S26 hL
 refine OV v25 rfl (x_assign) <| ONS <| CSR <| OV (.int .i64 0) rfl (x_assign) <| OW.nil ?_
 obtain ⟨o3753, ho3754, hm⟩ := bndE hm
 refine CW.loopB (fun (s_l1 : (List (List Int)) × Int) (F : Fr) (w : World) => ∃ (v3749 : Value) (S3750 : Nat → Prop), F 2 = (.pointer (some ⟨b8, 0, none⟩)) ∧ F 6 = v12 ∧ F 8 = v20 ∧ F 9 = v3749 ∧ F 10 = (.int .i64 s_l1.2) ∧ Hp w0 [Ent.own 25 S3750 v3749 s_l1.1, Ent.own 2 S19 v20 x17, Ent.own 2 S11 v12 x9.1, Ent.blk b8 29 #[(.int .i64 a0.Boats), v1, v3], Ent.snap w0 w0.heap.size] w) (fun o => outc o (fun x => some x) (fun s => M.spec_TiedBoats_a1 s) = some r) ho3754 hm ⟨v25, S26, rfl, rfl, rfl, rfl, rfl, hL⟩ ?_ ?_
 · intro s_l1 F3755 wd3756 hJ hm
   have hm := outcE hm
   have hm : M.spec_TiedBoats_a1 s_l1 = some r := hm
   unfold M.spec_TiedBoats_a1 at hm
   obtain ⟨v3749, S3750, f3757, f3758, f3759, f3760, f3761, hL⟩ := hJ
   refine CSR <| OV v3749 rfl (x_mv f3760) <| OV v3749 rfl (x_assign) <| OV (.int .i64 0) rfl (x_assign) <| OW.nil <| CW.ret ?_
   obtain rfl := Option.some.inj hm
   exact RR2 rfl rfl rfl ⟨v3749, S3750, rfl, hL.fresh 4 rfl [0] (by decide) (by decide) rfl⟩
 intro s_l1 F3762 wd3763 t3751 hJ hm hr3752
 unfold M.spec_TiedBoats_l1 at hm
 obtain ⟨v3749, S3750, f3764, f3765, f3766, f3767, f3768, hL⟩ := hJ
 refine CW.seq <| CSR <| OV (.int .i64 s_l1.2) rfl (x_mv f3768) <| OV v20 rfl (x_mv f3766) <| OV (.int .i64 (x17.length : Int)) rfl (x_lenR U25 rfl (hL.rdO 1 rfl)) <| OV (.bool (decide (s_l1.2 < (x17.length : Int)))) rfl (x_lss rfl rfl) <| OW.nil ?_
 refine CW.condM (t := decide (s_l1.2 < (x17.length : Int))) rfl hm (fun hb3769 hm => ?_) (fun hb3769 hm => ?_)
 · refine CW.skip ?_
   refine CW.seqJ (fun (s_j1 : (List (List Int))) (F : Fr) (w : World) => ∃ (v4695 : Value) (S4696 : Nat → Prop), F 2 = (.pointer (some ⟨b8, 0, none⟩)) ∧ F 6 = v12 ∧ F 8 = v20 ∧ F 9 = v4695 ∧ F 10 = (.int .i64 s_l1.2) ∧ Hp w0 [Ent.own 25 S4696 v4695 s_j1, Ent.own 2 S19 v20 x17, Ent.own 2 S11 v12 x9.1, Ent.blk b8 29 #[(.int .i64 a0.Boats), v1, v3], Ent.snap w0 w0.heap.size] w) (fun s_j1 => M.spec_TiedBoats_j1 s_l1 s_j1 = some t3751) ?_ ?_
   · refine CW.blockJ (fun (s_j2 : (List (List Int))) (F : Fr) (w : World) => ∃ (v5162 : Value) (S5163 : Nat → Prop), F 2 = (.pointer (some ⟨b8, 0, none⟩)) ∧ F 6 = v12 ∧ F 8 = v20 ∧ F 9 = v5162 ∧ F 10 = (.int .i64 s_l1.2) ∧ Hp w0 [Ent.own 25 S5163 v5162 s_j2, Ent.own 2 S19 v20 x17, Ent.own 2 S11 v12 x9.1, Ent.blk b8 29 #[(.int .i64 a0.Boats), v1, v3], Ent.snap w0 w0.heap.size] w) (fun s_j2 => M.spec_TiedBoats_j2 s_l1 s_j2 = some t3751) ?_ ?_
     · refine CW.seq ?_
       refine CW.seqJ (fun (s_j3 : Bool) (F : Fr) (w : World) => F 2 = (.pointer (some ⟨b8, 0, none⟩)) ∧ F 6 = v12 ∧ F 8 = v20 ∧ F 9 = v3749 ∧ F 10 = (.int .i64 s_l1.2) ∧ F 44 = (.bool s_j3) ∧ Hp w0 [Ent.own 25 S3750 v3749 s_l1.1, Ent.own 2 S19 v20 x17, Ent.own 2 S11 v12 x9.1, Ent.blk b8 29 #[(.int .i64 a0.Boats), v1, v3], Ent.snap w0 w0.heap.size] w) (fun s_j3 => M.spec_TiedBoats_j3 a0 x9 x17 s_l1 s_j3 = some t3751) ?_ ?_
       · refine CW.draw Try_mixed ?_
         have hL := hL.call (Mod.drew _)
         refine DW.pre (fuel := 0) (fin := bma 14 16383) (C := fun w' => Mod None_ _ w') [0, 1, 2, 3, 4, 5, 6, 7, 8, 9, 10, 11, 12, 13] (Mod.refl _ _) (by kernel_rfl) (by kernel_rfl) ?_
         refine QV (.int .i64 s_l1.2) rfl rfl (fun w' hm' => x_mv f3768) <| QV (.bool (decide (0 < s_l1.2))) rfl rfl (fun w' hm' => x_gtr rfl rfl) <| QV (.bool (decide (0 < s_l1.2))) rfl rfl (fun w' hm' => x_move) ?_
         refine ifB_elim hm (fun hb5612 hm => ?_) (fun hb5612 hm => ?_)
         · refine QW.cons rfl (QP.yes' rfl rfl hb5612 (QP.val (v := v20) rfl (fun w' hm' => x_mv f3766) ?_))
           refine QW.cons rfl (QP.yes' rfl rfl hb5612 (QP.val (v := (.int .i64 s_l1.2)) rfl (fun w' hm' => x_mv f3768) ?_))
           refine QW.cons rfl (QP.yes' rfl rfl hb5612 (QP.val (v := (.int .i64 (w64 (s_l1.2 - 1)))) rfl (fun w' hm' => x_sub rfl rfl) ?_))
           obtain ⟨x5613, ha5614, hm⟩ := bndE hm
           obtain ⟨hz5615, ha5619⟩ := idxE ha5614
           obtain ⟨b5616, q5617, hix5618⟩ := rdL_ix (hL.rdO 1 rfl) hz5615 ha5619
           refine QW.cons rfl (QP.yes' rfl rfl hb5612 (QP.val (v := (.pointer (some ⟨b5616, q5617, none⟩))) rfl (fun w' hm' => x_ix U25 Try_T2 rfl rfl hix5618) ?_))
           refine QW.cons rfl (QP.yes' rfl rfl hb5612 (QP.val (v := (.int .i64 x5613)) rfl (fun w' hm' => x_load1 U2 rfl rfl (rdF_cells ((hL.call hm').rdO 1 rfl) hix5618 ha5619 0 _ rfl)) ?_))
           refine QW.cons rfl (QP.yes' rfl rfl hb5612 (QP.val (v := v20) rfl (fun w' hm' => x_mv f3766) ?_))
           refine QW.cons rfl (QP.yes' rfl rfl hb5612 (QP.val (v := (.int .i64 s_l1.2)) rfl (fun w' hm' => x_mv f3768) ?_))
           obtain ⟨x5620, ha5621, hm⟩ := bndE hm
           obtain ⟨hz5622, ha5626⟩ := idxE ha5621
           obtain ⟨b5623, q5624, hix5625⟩ := rdL_ix (hL.rdO 1 rfl) hz5622 ha5626
           refine QW.cons rfl (QP.yes' rfl rfl hb5612 (QP.val (v := (.pointer (some ⟨b5623, q5624, none⟩))) rfl (fun w' hm' => x_ix U25 Try_T2 rfl rfl hix5625) ?_))
           refine QW.cons rfl (QP.yes' rfl rfl hb5612 (QP.val (v := (.int .i64 x5620)) rfl (fun w' hm' => x_load1 U2 rfl rfl (rdF_cells ((hL.call hm').rdO 1 rfl) hix5625 ha5626 0 _ rfl)) ?_))
           refine QW.cons rfl (QP.yes' rfl rfl hb5612 (QP.val (v := (.bool (x5613 == x5620))) rfl (fun w' hm' => x_eql rfl rfl) ?_))
           refine QV (.bool (x5613 == x5620)) rfl rfl (fun w' hm' => x_pickT' rfl hb5612 rfl) ?_
           refine QW.nil ?_
           intro wd5627 hmod
           have hL := hL.call hmod
           refine DW.done (by kernel_rfl) ?_
           exact ⟨x5613 == x5620, hm, ⟨f3764, f3765, f3766, f3767, f3768, rfl, hL⟩⟩
         refine QW.cons rfl (QP.no' rfl rfl hb5612 rfl ?_)
         refine QW.cons rfl (QP.no' rfl rfl hb5612 rfl ?_)
         refine QW.cons rfl (QP.no' rfl rfl hb5612 rfl ?_)
         refine QW.cons rfl (QP.no' rfl rfl hb5612 rfl ?_)
         refine QW.cons rfl (QP.no' rfl rfl hb5612 rfl ?_)
         refine QW.cons rfl (QP.no' rfl rfl hb5612 rfl ?_)
         refine QW.cons rfl (QP.no' rfl rfl hb5612 rfl ?_)
         refine QW.cons rfl (QP.no' rfl rfl hb5612 rfl ?_)
         refine QW.cons rfl (QP.no' rfl rfl hb5612 rfl ?_)
         refine QW.cons rfl (QP.no' rfl rfl hb5612 rfl ?_)
         refine QV (.bool false) rfl rfl (fun w' hm' => x_pickF' rfl hb5612 rfl) ?_
         refine QW.nil ?_
         intro wd5628 hmod
         have hL := hL.call hmod
         refine DW.done (by kernel_rfl) ?_
         exact ⟨false, hm, ⟨f3764, f3765, f3766, f3767, f3768, rfl, hL⟩⟩
       intro s_j3 F5188 wd5189 hJ hm
       unfold M.spec_TiedBoats_j3 at hm
       obtain ⟨f5190, f5191, f5192, f5193, f5194, f5195, hL⟩ := hJ
       refine CW.condM (t := s_j3) f5195 hm (fun hb5196 hm => ?_) (fun hb5196 hm => ?_)
       · refine CW.exit ?_
         refine XJ.hit ?_
         exact ⟨s_l1.1, hm, ⟨v3749, S3750, f5190, f5191, f5192, f5193, f5194, hL⟩⟩
       refine CW.skip <| CSR ?_
       refine OW.cons (S_lit ([] : List Int) hL U25 Try_T2 rfl (by decide) (by first | (simp [Instr.fill, madeCells, Value.cells, ev, upd, Flat.enc, Flat.sz]; done) | rfl | kernel_rfl) rfl rfl ?_)
       intro wd5197 v5198 S5199 hL
       refine OV v5198 rfl (x_assign) <| ONS <| CSR <| OV (.int .i64 0) rfl (x_assign) <| OW.nil ?_
       obtain ⟨o5458, ho5459, hm⟩ := bndE hm
       refine CW.loopB (fun (s_l2 : (List Int) × Int) (F : Fr) (w : World) => ∃ (v5454 : Value) (S5455 : Nat → Prop), F 2 = (.pointer (some ⟨b8, 0, none⟩)) ∧ F 6 = v12 ∧ F 8 = v20 ∧ F 9 = v3749 ∧ F 10 = (.int .i64 s_l1.2) ∧ F 11 = v5454 ∧ F 12 = (.int .i64 s_l2.2) ∧ Hp w0 [Ent.own 2 S5455 v5454 s_l2.1, Ent.own 25 S3750 v3749 s_l1.1, Ent.own 2 S19 v20 x17, Ent.own 2 S11 v12 x9.1, Ent.blk b8 29 #[(.int .i64 a0.Boats), v1, v3], Ent.snap w0 w0.heap.size] w) (fun o => outc o (fun x => some (.ret x)) (fun s => M.spec_TiedBoats_a2 s_l1 s) = some t3751) ho5459 hm ⟨v5198, S5199, f5190, f5191, f5192, f5193, f5194, rfl, rfl, hL⟩ ?_ ?_
       · intro s_l2 F5460 wd5461 hJ hm
         have hm := outcE hm
         have hm : M.spec_TiedBoats_a2 s_l1 s_l2 = some t3751 := hm
         unfold M.spec_TiedBoats_a2 at hm
         obtain ⟨v5454, S5455, f5462, f5463, f5464, f5465, f5466, f5467, f5468, hL⟩ := hJ
         refine CSR <| OV v5454 rfl (x_mv f5467) <| OV (.int .i64 (s_l2.1.length : Int)) rfl (x_lenR U25 rfl (hL.rdO 0 rfl)) <| OV (.bool (decide (1 < (s_l2.1.length : Int)))) rfl (x_gtr rfl rfl) <| OW.nil ?_
         refine CW.condM (t := decide (1 < (s_l2.1.length : Int))) rfl hm (fun hb5469 hm => ?_) (fun hb5469 hm => ?_)
         · refine CW.regionL <| OV v3749 rfl (x_mv f5465) <| OV v5454 rfl (x_mv f5467) ?_
           refine OW.cons (S_lit1 s_l2.1 rfl hL U22 Try_T25 ((congrArg Value.cells (show _ = v5454 from rfl)).trans (rdL_cells (hL.rdO 0 rfl))) rfl ?_)
           intro wd5470 v5471 S5472 hL
           obtain ⟨hc5476, hm⟩ := chkE hm
           have hL := hL.sel [1, 0, 2, 3, 4, 5] (by decide) rfl
           refine OW.cons (S_appendN Int hL U22 Try_T25 rfl rfl rfl hc5476 (by decide) rfl ?_)
           intro wd5473 v5474 S5475 hL
           refine OV v5474 rfl (x_assign) <| OW.nil ?_
           exact ⟨s_l1.1 ++ ([s_l2.1] : List (List Int)), hm, ⟨v5474, S5475, f5462, f5463, f5464, rfl, f5466, hL⟩⟩
         refine CW.skip ?_
         have hL := hL.sel [1, 2, 3, 4, 5] (by decide) rfl
         exact ⟨s_l1.1, hm, ⟨v3749, S3750, f5462, f5463, f5464, f5465, f5466, hL⟩⟩
       intro s_l2 F5477 wd5478 t5456 hJ hm hr5457
       unfold M.spec_TiedBoats_l2 at hm
       obtain ⟨v5454, S5455, f5479, f5480, f5481, f5482, f5483, f5484, f5485, hL⟩ := hJ
       refine CW.seq <| CSR <| OV (.int .i64 s_l2.2) rfl (x_mv f5485) <| OV (.pointer (some ⟨b8, 0, none⟩)) rfl (x_fieldAddr (fsz := 1) 0 0 0 U29 rfl Try_T2 rfl f5479 rfl) <| OV (.int .i64 a0.Boats) rfl (x_load1 U2 rfl rfl (hL.cellB 4 rfl rfl)) <| OV (.bool (decide (s_l2.2 < a0.Boats))) rfl (x_lss rfl rfl) <| OW.nil ?_
       refine CW.condM (t := decide (s_l2.2 < a0.Boats)) rfl hm (fun hb5486 hm => ?_) (fun hb5486 hm => ?_)
       · refine CW.skip ?_
         refine CW.seqJ (fun (s_j4 : (List Int)) (F : Fr) (w : World) => ∃ (v5544 : Value) (S5545 : Nat → Prop), F 2 = (.pointer (some ⟨b8, 0, none⟩)) ∧ F 6 = v12 ∧ F 8 = v20 ∧ F 9 = v3749 ∧ F 10 = (.int .i64 s_l1.2) ∧ F 11 = v5544 ∧ F 12 = (.int .i64 s_l2.2) ∧ Hp w0 [Ent.own 2 S5545 v5544 s_j4, Ent.own 25 S3750 v3749 s_l1.1, Ent.own 2 S19 v20 x17, Ent.own 2 S11 v12 x9.1, Ent.blk b8 29 #[(.int .i64 a0.Boats), v1, v3], Ent.snap w0 w0.heap.size] w) (fun s_j4 => M.spec_TiedBoats_j4 s_l2 s_j4 = some t5456) ?_ ?_
         · refine CW.blockJ (fun (s_j5 : (List Int)) (F : Fr) (w : World) => ∃ (v5578 : Value) (S5579 : Nat → Prop), F 2 = (.pointer (some ⟨b8, 0, none⟩)) ∧ F 6 = v12 ∧ F 8 = v20 ∧ F 9 = v3749 ∧ F 10 = (.int .i64 s_l1.2) ∧ F 11 = v5578 ∧ F 12 = (.int .i64 s_l2.2) ∧ Hp w0 [Ent.own 2 S5579 v5578 s_j5, Ent.own 25 S3750 v3749 s_l1.1, Ent.own 2 S19 v20 x17, Ent.own 2 S11 v12 x9.1, Ent.blk b8 29 #[(.int .i64 a0.Boats), v1, v3], Ent.snap w0 w0.heap.size] w) (fun s_j5 => M.spec_TiedBoats_j5 s_l2 s_j5 = some t5456) ?_ ?_
           · refine CW.seq ?_
             refine CW.draw Try_mixed ?_
             have hL := hL.call (Mod.drew _)
             refine DW.pre (fuel := 0) (fin := bma 9 511) (C := fun w' => Mod None_ _ w') [0, 1, 2, 3, 4, 5, 6, 7, 8] (Mod.refl _ _) (by kernel_rfl) (by kernel_rfl) ?_
             refine QV v12 rfl rfl (fun w' hm' => x_mv f5480) <| QV (.int .i64 s_l2.2) rfl rfl (fun w' hm' => x_mv f5485) ?_
             obtain ⟨x5589, ha5590, hm⟩ := bndE hm
             obtain ⟨hz5591, ha5595⟩ := idxE ha5590
             obtain ⟨b5592, q5593, hix5594⟩ := rdL_ix (hL.rdO 3 rfl) hz5591 ha5595
             refine QV (.pointer (some ⟨b5592, q5593, none⟩)) rfl rfl (fun w' hm' => x_ix U25 Try_T2 rfl rfl hix5594) <| QV (.int .i64 x5589) rfl rfl (fun w' hm' => x_load1 U2 rfl rfl (rdF_cells ((hL.call hm').rdO 3 rfl) hix5594 ha5595 0 _ rfl)) <| QV v20 rfl rfl (fun w' hm' => x_mv f5481) <| QV (.int .i64 s_l1.2) rfl rfl (fun w' hm' => x_mv f5483) ?_
             obtain ⟨x5596, ha5597, hm⟩ := bndE hm
             obtain ⟨hz5598, ha5602⟩ := idxE ha5597
             obtain ⟨b5599, q5600, hix5601⟩ := rdL_ix (hL.rdO 2 rfl) hz5598 ha5602
             refine QV (.pointer (some ⟨b5599, q5600, none⟩)) rfl rfl (fun w' hm' => x_ix U25 Try_T2 rfl rfl hix5601) <| QV (.int .i64 x5596) rfl rfl (fun w' hm' => x_load1 U2 rfl rfl (rdF_cells ((hL.call hm').rdO 2 rfl) hix5601 ha5602 0 _ rfl)) <| QV (.bool (x5589 == x5596)) rfl rfl (fun w' hm' => x_eql rfl rfl) ?_
             refine QW.nil ?_
             intro wd5603 hmod
             have hL := hL.call hmod
             refine DW.done (by kernel_rfl) ?_
             refine CW.condM (t := x5589 == x5596) rfl hm (fun hb5604 hm => ?_) (fun hb5604 hm => ?_)
             · refine CW.regionL <| OV v5454 rfl (x_mv f5484) <| OV (.int .i64 s_l2.2) rfl (x_mv f5485) ?_
               refine OW.cons (S_lit ([s_l2.2] : List Int) hL U25 Try_T2 rfl (by decide) (by first | (simp [Instr.fill, madeCells, Value.cells, ev, upd, Flat.enc, Flat.sz]; done) | rfl | kernel_rfl) rfl rfl ?_)
               intro wd5605 v5606 S5607 hL
               obtain ⟨hc5611, hm⟩ := chkE hm
               refine OW.cons (S_append (ys := ([s_l2.2] : List Int)) hL 1 rfl U25 Try_T2 rfl rfl rfl (hL.rdO 0 rfl) hc5611 (by decide) rfl ?_)
               intro wd5608 v5609 S5610 hL
               refine OV v5609 rfl (x_assign) <| OW.nil ?_
               have hL := hL.sel [1, 2, 3, 4, 5, 6] (by decide) rfl
               exact ⟨s_l2.1 ++ ([s_l2.2] : List Int), hm, ⟨v5609, S5610, f5479, f5480, f5481, f5482, f5483, rfl, f5485, hL⟩⟩
             refine CW.skip ?_
             exact ⟨s_l2.1, hm, ⟨v5454, S5455, f5479, f5480, f5481, f5482, f5483, f5484, f5485, hL⟩⟩
           intro s_j5 F5580 wd5581 hJ hm
           unfold M.spec_TiedBoats_j5 at hm
           obtain ⟨v5578, S5579, f5582, f5583, f5584, f5585, f5586, f5587, f5588, hL⟩ := hJ
           exact ⟨s_j5, hm, ⟨v5578, S5579, f5582, f5583, f5584, f5585, f5586, f5587, f5588, hL⟩⟩
         intro s_j4 F5546 wd5547 hJ hm
         unfold M.spec_TiedBoats_j4 at hm
         obtain ⟨v5544, S5545, f5548, f5549, f5550, f5551, f5552, f5553, f5554, hL⟩ := hJ
         refine CW.regionL <| OV (.int .i64 s_l2.2) rfl (x_mv f5554) <| OV (.int .i64 (w64 (s_l2.2 + 1))) rfl (x_add rfl rfl) <| OV (.int .i64 (w64 (s_l2.2 + 1))) rfl (x_assign) <| OW.nil ?_
         obtain rfl := Option.some.inj hm
         exact ⟨_, rfl, ⟨v5544, S5545, f5548, f5549, f5550, f5551, f5552, f5553, rfl, hL⟩⟩
       refine CW.exit ?_
       refine XJ.hit ?_
       obtain rfl := Option.some.inj hm
       exact ⟨_, rfl, ⟨v5454, S5455, f5479, f5480, f5481, f5482, f5483, f5484, f5485, hL⟩⟩
     intro s_j2 F5164 wd5165 hJ hm
     unfold M.spec_TiedBoats_j2 at hm
     obtain ⟨v5162, S5163, f5166, f5167, f5168, f5169, f5170, hL⟩ := hJ
     exact ⟨s_j2, hm, ⟨v5162, S5163, f5166, f5167, f5168, f5169, f5170, hL⟩⟩
   intro s_j1 F4697 wd4698 hJ hm
   unfold M.spec_TiedBoats_j1 at hm
   obtain ⟨v4695, S4696, f4699, f4700, f4701, f4702, f4703, hL⟩ := hJ
   refine CW.regionL <| OV (.int .i64 s_l1.2) rfl (x_mv f4703) <| OV (.int .i64 (w64 (s_l1.2 + 1))) rfl (x_add rfl rfl) <| OV (.int .i64 (w64 (s_l1.2 + 1))) rfl (x_assign) <| OW.nil ?_
   obtain rfl := Option.some.inj hm
   exact ⟨_, rfl, ⟨v4695, S4696, f4699, f4700, f4701, f4702, rfl, hL⟩⟩
 refine CW.exit ?_
 refine XJ.hit ?_
 obtain rfl := Option.some.inj hm
 exact ⟨_, rfl, ⟨v3749, S3750, f3764, f3765, f3766, f3767, f3768, hL⟩⟩

theorem M.impl_netScores_ok (w0 : World) (a0 : Table) {v1 : Value} {v3 : Value} (h2 : rdL (· < w0.heap.size) w0 v1 a0.Points) (h4 : rdL (· < w0.heap.size) w0 v3 a0.Codes) (a1 : List Int) {v5 : Value} (h6 : rdL (· < w0.heap.size) w0 v5 a1) {r : (List Int)} (hm : M.impl_netScores a0 a1 = some r) :
    Calls Try.prog 83 #[(.agg #[(.int .i64 a0.Boats), v1, v3]), v5] w0 fun e w' => ∃ (rv0 : Value) (rS0 : Nat → Prop), e = .returned rv0 ∧ Fresh w0 w' [Ent.own 2 rS0 rv0 r] := by
 unfold M.impl_netScores at hm
 refine calls_CW (args := [(.agg #[(.int .i64 a0.Boats), v1, v3]), v5]) Try.func83 rfl rfl rfl ?_
 have hL := Hp.start w0
 refine CSR ?_
 refine OW.cons (S_box (cs := #[(.int .i64 a0.Boats), v1, v3]) hL rfl rfl rfl ?_)
 intro wd7 b8 hL
 refine OV (.slice none 0 0) rfl (x_assign) <| ONR ?_
 refine OW.cons (S_lit ([] : List Int) hL U25 Try_T2 rfl (by decide) (by first | (simp [Instr.fill, madeCells, Value.cells, ev, upd, Flat.enc, Flat.sz]; done) | rfl | kernel_rfl) rfl rfl ?_)
 intro wd9 v10 S11 hL
 refine OV v10 rfl (x_assign) <| ONS <| CSR <| OV (.pointer (some ⟨b8, 0, none⟩)) rfl (x_fieldAddr (fsz := 1) 0 0 0 U29 rfl Try_T2 rfl rfl rfl) <| OV (.int .i64 a0.Boats) rfl (x_load1 U2 rfl rfl (hL.cellB 1 rfl rfl)) <| OV (.int .i64 0) rfl (x_move) <| OW.nil ?_
 obtain ⟨o44, ho45, hm⟩ := bndE hm
 refine CW.loopB (fun (s_l1 : (List Int) × Int) (F : Fr) (w : World) => ∃ (v40 : Value) (S41 : Nat → Prop), F 1 = v5 ∧ F 2 = (.pointer (some ⟨b8, 0, none⟩)) ∧ F 5 = v40 ∧ F 9 = (.int .i64 a0.Boats) ∧ F 10 = (.int .i64 s_l1.2) ∧ Hp w0 [Ent.own 2 S41 v40 s_l1.1, Ent.blk b8 29 #[(.int .i64 a0.Boats), v1, v3], Ent.snap w0 w0.heap.size] w) (fun o => outc o (fun x => some x) (fun s => M.impl_netScores_a1 s) = some r) ho45 hm ⟨v10, S11, rfl, rfl, rfl, rfl, rfl, hL⟩ ?_ ?_
 · intro s_l1 F46 wd47 hJ hm
   have hm := outcE hm
   have hm : M.impl_netScores_a1 s_l1 = some r := hm
   unfold M.impl_netScores_a1 at hm
   obtain ⟨v40, S41, f48, f49, f50, f51, f52, hL⟩ := hJ
   refine CSR <| OV v40 rfl (x_mv f50) <| OV v40 rfl (x_assign) <| OW.nil <| CW.ret ?_
   obtain rfl := Option.some.inj hm
   exact RR1 rfl rfl ⟨v40, S41, rfl, hL.fresh 2 rfl [0] (by decide) (by decide) rfl⟩
 intro s_l1 F53 wd54 t42 hJ hm hr43
 unfold M.impl_netScores_l1 at hm
 obtain ⟨v40, S41, f55, f56, f57, f58, f59, hL⟩ := hJ
 refine CSR <| OV (.bool (decide (s_l1.2 < a0.Boats))) rfl (x_lss f59 f58) <| ONS ?_
 refine CW.condM (t := decide (s_l1.2 < a0.Boats)) rfl hm (fun hb60 hm => ?_) (fun hb60 hm => ?_)
 · refine CW.skip <| CW.seq <| CW.block <| CSR <| OV (.int .i64 s_l1.2) rfl (x_mv f59) <| OV (.int .i64 s_l1.2) rfl (x_assign) <| OW.nil <| CW.regionL <| OV v40 rfl (x_mv f57) <| OV (.agg #[(.int .i64 a0.Boats), v1, v3]) rfl (x_loadN (cs := [(.int .i64 a0.Boats), v1, v3]) U29 Try_T29 rfl f56 (hL.cellsB 1 rfl (o := 0) (l := [(.int .i64 a0.Boats), v1, v3]) (by intro j u hj; exact (by simpa using hj)))) <| OV v5 rfl (x_mv f55) <| OV (.int .i64 s_l1.2) rfl (x_move) ?_
   obtain ⟨x61, hx62, hm⟩ := bndE hm
   refine OW.cons (OP.call rfl (x_call (vs := [(.agg #[(.int .i64 a0.Boats), v1, v3]), v5, (.int .i64 s_l1.2)]) Try_C71 ⟨rfl, rfl, rfl, trivial⟩) (M.impl_netPoints_ok _ a0 (hL.rdS 2 rfl h2) (hL.rdS 2 rfl h4) a1 (hL.rdS 2 rfl h6) s_l1.2 hx62) ?_)
   rintro e63 wd64 ⟨rfl, hF65⟩
   refine ⟨_, rfl, ?_⟩
   have hL := hL.pushAll hF65
   simp only [lA, lB, lC, lD] at hL
   refine OW.cons (S_lit ([x61] : List Int) hL U25 Try_T2 rfl (by decide) (by first | (simp [Instr.fill, madeCells, Value.cells, ev, upd, Flat.enc, Flat.sz]; done) | rfl | kernel_rfl) rfl rfl ?_)
   intro wd66 v67 S68 hL
   obtain ⟨hc72, hm⟩ := chkE hm
   refine OW.cons (S_append (ys := ([x61] : List Int)) hL 1 rfl U25 Try_T2 rfl rfl rfl (hL.rdO 0 rfl) hc72 (by decide) rfl ?_)
   intro wd69 v70 S71 hL
   refine OV v70 rfl (x_assign) <| OW.nil <| CW.regionL <| OV (.int .i64 (w64 (s_l1.2 + 1))) rfl (x_add f59 rfl) <| OV (.int .i64 (w64 (s_l1.2 + 1))) rfl (x_move) <| OW.nil ?_
   have hL := hL.sel [1, 2, 3] (by decide) rfl
   obtain rfl := Option.some.inj hm
   exact ⟨_, rfl, ⟨v70, S71, f55, f56, rfl, f58, rfl, hL⟩⟩
 refine CW.exit ?_
 refine XJ.hit ?_
 obtain rfl := Option.some.inj hm
 exact ⟨_, rfl, ⟨v40, S41, f55, f56, f57, f58, f59, hL⟩⟩

theorem M.impl_NetScores_ok (w0 : World) (a0 : Table) {v1 : Value} {v3 : Value} (h2 : rdL (· < w0.heap.size) w0 v1 a0.Points) (h4 : rdL (· < w0.heap.size) w0 v3 a0.Codes) (a1 : List Int) {v5 : Value} (h6 : rdL (· < w0.heap.size) w0 v5 a1) {r : (List Int) × Int} (hm : M.impl_NetScores a0 a1 = some r) :
    Calls Try.prog 46 #[(.agg #[(.int .i64 a0.Boats), v1, v3]), v5] w0 fun e w' => ∃ (rv0 : Value) (rS0 : Nat → Prop), e = .returned (.tuple #[rv0, (.int .i64 r.2)]) ∧ Fresh w0 w' [Ent.own 2 rS0 rv0 r.1] := by
 unfold M.impl_NetScores at hm
 refine calls_CW (args := [(.agg #[(.int .i64 a0.Boats), v1, v3]), v5]) Try.func46 rfl rfl rfl ?_
 have hL := Hp.start w0
 refine CSR ?_
 refine OW.cons (S_box (cs := #[(.int .i64 a0.Boats), v1, v3]) hL rfl rfl rfl ?_)
 intro wd7 b8 hL
 refine OV (.slice none 0 0) rfl (x_assign) <| OV (.int .i64 0) rfl (x_assign) <| ONS <| CSR <| OV (.agg #[(.int .i64 a0.Boats), v1, v3]) rfl (x_loadN (cs := [(.int .i64 a0.Boats), v1, v3]) U29 Try_T29 rfl rfl (hL.cellsB 0 rfl (o := 0) (l := [(.int .i64 a0.Boats), v1, v3]) (by intro j u hj; exact (by simpa using hj)))) <| OV v5 rfl (x_move) ?_
 obtain ⟨x9, hx10, hm⟩ := bndE hm
 refine OW.cons (OP.call rfl (x_call (vs := [(.agg #[(.int .i64 a0.Boats), v1, v3]), v5, (.int .i64 0)]) Try_C65 ⟨rfl, rfl, rfl, trivial⟩) (M.impl_tableCode_ok _ a0 (hL.rdS 1 rfl h2) (hL.rdS 1 rfl h4) a1 (hL.rdS 1 rfl h6) 0 hx10) ?_)
 rintro e11 wd12 ⟨rfl, hF13⟩
 refine ⟨_, rfl, ?_⟩
 have hL := hL.pushAll hF13
 simp only [lA, lB, lC, lD] at hL
 refine OV (.int .i64 x9) rfl (x_assign) <| ONR <| OV (.int .i64 x9) rfl (x_move) <| OV (.bool (x9 != 0)) rfl (x_neq rfl rfl) <| OW.nil ?_
 refine CW.condM (t := x9 != 0) rfl hm (fun hb14 hm => ?_) (fun hb14 hm => ?_)
 · refine CSR <| OV (.int .i64 x9) rfl (x_move) <| OV (.slice none 0 0) rfl (x_assign) <| OV (.int .i64 x9) rfl (x_assign) <| OW.nil <| CW.ret ?_
   have hL := hL.pushNil Int 2
   obtain rfl := Option.some.inj hm
   exact RR2 rfl rfl rfl ⟨(.slice none 0 0), None_, rfl, hL.fresh 2 rfl [0] (by decide) (by decide) rfl⟩
 refine CW.skip <| CSR <| OV (.agg #[(.int .i64 a0.Boats), v1, v3]) rfl (x_loadN (cs := [(.int .i64 a0.Boats), v1, v3]) U29 Try_T29 rfl rfl (hL.cellsB 0 rfl (o := 0) (l := [(.int .i64 a0.Boats), v1, v3]) (by intro j u hj; exact (by simpa using hj)))) <| OV v5 rfl (x_move) ?_
 obtain ⟨x15, hx16, hm⟩ := bndE hm
 refine OW.cons (OP.call rfl (x_call (vs := [(.agg #[(.int .i64 a0.Boats), v1, v3]), v5]) Try_C83 ⟨rfl, rfl, trivial⟩) (M.impl_netScores_ok _ a0 (hL.rdS 1 rfl h2) (hL.rdS 1 rfl h4) a1 (hL.rdS 1 rfl h6) hx16) ?_)
 rintro e19 wd20 ⟨v18, S17, rfl, hF21⟩
 refine ⟨_, rfl, ?_⟩
 have hL := hL.pushAll hF21
 simp only [lA, lB, lC, lD] at hL
 refine OV v18 rfl (x_assign) <| OV (.int .i64 0) rfl (x_assign) <| OW.nil <| CW.ret ?_
 obtain rfl := Option.some.inj hm
 exact RR2 rfl rfl rfl ⟨v18, S17, rfl, hL.fresh 2 rfl [0] (by decide) (by decide) rfl⟩

theorem M.impl_TiedBoats_1_ok (w0 : World) (a0 : Int) (a1 : Int) (a2 : List Int) {v3 : Value} {b1 : Nat} (h4 : rdL (· < w0.heap.size) w0 v3 a2) (hb2 : bxA (· < w0.heap.size) w0 b1 25 #[v3]) {r : Int} (hm : M.impl_TiedBoats_1 a0 a1 a2 = some r) :
    Calls Try.prog 74 #[(.int .i64 a0), (.int .i64 a1), (.pointer (some ⟨b1, 0, none⟩))] w0 fun e w' => e = .returned (.int .i64 r) ∧ Fresh w0 w' [] := by
 unfold M.impl_TiedBoats_1 at hm
 refine calls_CW (args := [(.int .i64 a0), (.int .i64 a1), (.pointer (some ⟨b1, 0, none⟩))]) Try.func74 rfl rfl rfl ?_
 have hL := Hp.start w0
 refine CSR <| OV (.int .i64 0) rfl (x_assign) <| ONS ?_
 refine CW.draw Try_mixed ?_
 have hL := hL.call (Mod.drew _)
 refine DW.pre (fuel := 0) (fin := bma 10 1023) (C := fun w' => Mod None_ _ w') [0, 1, 2, 3, 4, 5, 6, 7, 8, 9] (Mod.refl _ _) (by kernel_rfl) (by kernel_rfl) ?_
 refine QV v3 rfl rfl (fun w' hm' => x_load1 U25 rfl rfl (((hL.call hm').bxS 0 rfl hb2).cell rfl)) <| QV (.int .i64 a0) rfl rfl (fun w' hm' => x_move) ?_
 obtain ⟨x5, ha6, hm⟩ := bndE hm
 obtain ⟨hz7, ha11⟩ := idxE ha6
 obtain ⟨b8, q9, hix10⟩ := rdL_ix (hL.rdS 0 rfl h4) hz7 ha11
 refine QV (.pointer (some ⟨b8, q9, none⟩)) rfl rfl (fun w' hm' => x_ix U25 Try_T2 rfl rfl hix10) <| QV (.int .i64 x5) rfl rfl (fun w' hm' => x_load1 U2 rfl rfl (rdF_cells ((hL.call hm').rdS 0 rfl h4) hix10 ha11 0 _ rfl)) <| QV v3 rfl rfl (fun w' hm' => x_load1 U25 rfl rfl (((hL.call hm').bxS 0 rfl hb2).cell rfl)) <| QV (.int .i64 a1) rfl rfl (fun w' hm' => x_move) ?_
 obtain ⟨x12, ha13, hm⟩ := bndE hm
 obtain ⟨hz14, ha18⟩ := idxE ha13
 obtain ⟨b15, q16, hix17⟩ := rdL_ix (hL.rdS 0 rfl h4) hz14 ha18
 refine QV (.pointer (some ⟨b15, q16, none⟩)) rfl rfl (fun w' hm' => x_ix U25 Try_T2 rfl rfl hix17) <| QV (.int .i64 x12) rfl rfl (fun w' hm' => x_load1 U2 rfl rfl (rdF_cells ((hL.call hm').rdS 0 rfl h4) hix17 ha18 0 _ rfl)) <| QV (.int .i64 (w64 (x5 - x12))) rfl rfl (fun w' hm' => x_sub rfl rfl) <| QV (.int .i64 (w64 (x5 - x12))) rfl rfl (fun w' hm' => x_assign) ?_
 refine QW.nil ?_
 intro wd19 hmod
 have hL := hL.call hmod
 refine DW.done (by kernel_rfl) ?_
 refine CW.ret ?_
 obtain rfl := Option.some.inj hm
 exact RR1 rfl rfl ⟨rfl, hL.fresh 0 rfl [] (by decide) (by decide) rfl⟩

theorem M.impl_TiedBoats_2_ok (w0 : World) (a0 : List Int) {v1 : Value} (h2 : rdL (· < w0.heap.size) w0 v1 a0) {r : Bool} (hm : M.impl_TiedBoats_2 a0 = some r) :
    Calls Try.prog 76 #[v1] w0 fun e w' => e = .returned (.bool r) ∧ Fresh w0 w' [] := by
 unfold M.impl_TiedBoats_2 at hm
 refine calls_CW (args := [v1]) Try.func76 rfl rfl rfl ?_
 have hL := Hp.start w0
 refine CSR <| OV (.bool false) rfl (x_assign) <| ONR <| OV v1 rfl (x_move) <| OV (.int .i64 (a0.length : Int)) rfl (x_lenR U25 rfl (hL.rdS 0 rfl h2)) <| OV (.bool (decide ((a0.length : Int) < 2))) rfl (x_lss rfl rfl) <| OV (.bool (decide ((a0.length : Int) < 2))) rfl (x_assign) <| OW.nil <| CW.ret ?_
 obtain rfl := Option.some.inj hm
 exact RR1 rfl rfl ⟨rfl, hL.fresh 0 rfl [] (by decide) (by decide) rfl⟩

theorem M.impl_TiedBoats_ok (w0 : World) (a0 : Table) {v1 : Value} {v3 : Value} (h2 : rdL (· < w0.heap.size) w0 v1 a0.Points) (h4 : rdL (· < w0.heap.size) w0 v3 a0.Codes) (a1 : List Int) {v5 : Value} (h6 : rdL (· < w0.heap.size) w0 v5 a1) {r : (List (List Int)) × Int} (hm : M.impl_TiedBoats a0 a1 = some r) :
    Calls Try.prog 32 #[(.agg #[(.int .i64 a0.Boats), v1, v3]), v5] w0 fun e w' => ∃ (rv0 : Value) (rS0 : Nat → Prop), e = .returned (.tuple #[rv0, (.int .i64 r.2)]) ∧ Fresh w0 w' [Ent.own 25 rS0 rv0 r.1] := by
 unfold M.impl_TiedBoats at hm
 refine calls_CW (args := [(.agg #[(.int .i64 a0.Boats), v1, v3]), v5]) Try.func32 rfl rfl rfl ?_
 have hL := Hp.start w0
 refine CSR ?_
 refine OW.cons (S_box (cs := #[(.int .i64 a0.Boats), v1, v3]) hL rfl rfl rfl ?_)
 intro wd7 b8 hL
 refine OV (.slice none 0 0) rfl (x_assign) <| OV (.int .i64 0) rfl (x_assign) <| ONR <| OV (.agg #[(.int .i64 a0.Boats), v1, v3]) rfl (x_loadN (cs := [(.int .i64 a0.Boats), v1, v3]) U29 Try_T29 rfl rfl (hL.cellsB 0 rfl (o := 0) (l := [(.int .i64 a0.Boats), v1, v3]) (by intro j u hj; exact (by simpa using hj)))) <| OV v5 rfl (x_move) ?_
 obtain ⟨x9, hx10, hm⟩ := bndE hm
 refine OW.cons (OP.call rfl (x_call (vs := [(.agg #[(.int .i64 a0.Boats), v1, v3]), v5]) Try_C46 ⟨rfl, rfl, trivial⟩) (M.impl_NetScores_ok _ a0 (hL.rdS 1 rfl h2) (hL.rdS 1 rfl h4) a1 (hL.rdS 1 rfl h6) hx10) ?_)
 rintro e13 wd14 ⟨v12, S11, rfl, hF15⟩
 refine ⟨_, rfl, ?_⟩
 have hL := hL.pushAll hF15
 simp only [lA, lB, lC, lD] at hL
 refine OV (.tuple #[v12, (.int .i64 x9.2)]) rfl (x_move) <| OV v12 rfl (x_extract rfl rfl) <| OV (.int .i64 x9.2) rfl (x_extract rfl rfl) ?_
 refine OW.cons (S_alloc (cs := #[(.slice none 0 0)]) hL Try_T25 rfl rfl ?_)
 intro wd16 b17 hL
 refine OW.cons (S_store (cs' := #[v12]) hL 0 rfl Try_T25 rfl (rdL_one (hL.rdO 1 rfl)) rfl rfl rfl ?_)
 intro wd18 hL
 refine OV (.int .i64 x9.2) rfl (x_assign) <| ONS <| CSR <| OV (.int .i64 x9.2) rfl (x_move) <| OV (.bool (x9.2 != 0)) rfl (x_neq rfl rfl) <| OW.nil ?_
 refine CW.condM (t := x9.2 != 0) rfl hm (fun hb19 hm => ?_) (fun hb19 hm => ?_)
 · refine CSR <| OV (.int .i64 x9.2) rfl (x_move) <| OV (.slice none 0 0) rfl (x_assign) <| OV (.int .i64 x9.2) rfl (x_assign) <| OW.nil <| CW.ret ?_
   have hL := hL.pushNil (List Int) 25
   obtain rfl := Option.some.inj hm
   exact RR2 rfl rfl rfl ⟨(.slice none 0 0), None_, rfl, hL.fresh 4 rfl [0] (by decide) (by decide) rfl⟩
 refine CW.skip <| CSR ?_
 refine OW.cons (S_lit0 (α := Int) (List Int) hL U22 Try_T25 rfl ?_)
 intro wd20 v21 S22 hL
 refine OV v21 rfl (x_assign) <| ONS <| CSR <| OV v12 rfl (x_load1 U25 rfl rfl (hL.cellB 1 rfl rfl)) <| OV (.int .i64 (x9.1.length : Int)) rfl (x_lenR U25 rfl (hL.rdO 2 rfl)) <| OV (.func (.func 74) #[] #[(.pointer (some ⟨b17, 0, none⟩))]) rfl (x_makeFunc (vs := [(.pointer (some ⟨b17, 0, none⟩))]) ⟨rfl, trivial⟩) ?_
 obtain ⟨x23, hx24, hm⟩ := bndE hm
 refine OW.cons (OP.call rfl (x_call (vs := [(.int .i64 (x9.1.length : Int)), (.func (.func 74) #[] #[(.pointer (some ⟨b17, 0, none⟩))])]) Try_C73 ⟨rfl, rfl, trivial⟩) (M.impl_sortedIndices_ok _ (x9.1.length : Int) (fun y0 y1 => M.impl_TiedBoats_1 y0 y1 x9.1) ⟨Try_C74, fun yw hag yvs yv hR => by obtain ⟨y0, y1, yr, rfl, hyf, rfl⟩ := hR; exact M.impl_TiedBoats_1_ok yw y0 y1 x9.1 (hag.rdL (hL.rdO 2 rfl)) (hag.bx (hL.bxB 1 rfl)) hyf⟩ hx24) ?_)
 rintro e27 wd28 ⟨v26, S25, rfl, hF29⟩
 refine ⟨_, rfl, ?_⟩
 have hL := hL.pushAll hF29
 simp only [lA, lB, lC, lD] at hL
 refine OV (.int .i64 (x23.length : Int)) rfl (x_lenR U25 rfl (hL.rdO 0 rfl)) <| OV (.int .i64 0) rfl (x_move) <| OW.nil ?_
 obtain ⟨o1124, ho1125, hm⟩ := bndE hm
 have hL := hL.sel [1, 0, 2, 3, 4, 5] (by decide) rfl
 refine CW.loopB (fun (s_l1 : (List (List Int)) × Int) (F : Fr) (w : World) => ∃ (v1120 : Value) (S1121 : Nat → Prop), F 6 = (.pointer (some ⟨b17, 0, none⟩)) ∧ F 8 = v1120 ∧ F 25 = v26 ∧ F 26 = (.int .i64 (x23.length : Int)) ∧ F 27 = (.int .i64 s_l1.2) ∧ Hp w0 [Ent.own 25 S1121 v1120 s_l1.1, Ent.own 2 S25 v26 x23, Ent.blk b17 25 #[v12], Ent.own 2 S11 v12 x9.1, Ent.blk b8 29 #[(.int .i64 a0.Boats), v1, v3], Ent.snap w0 w0.heap.size] w) (fun o => outc o (fun x => some x) (fun s => M.impl_TiedBoats_a1 s) = some r) ho1125 hm ⟨v21, S22, rfl, rfl, rfl, rfl, rfl, hL⟩ ?_ ?_
 · intro s_l1 F1126 wd1127 hJ hm
   have hm := outcE hm
   have hm : M.impl_TiedBoats_a1 s_l1 = some r := hm
   unfold M.impl_TiedBoats_a1 at hm
   obtain ⟨v1120, S1121, f1128, f1129, f1130, f1131, f1132, hL⟩ := hJ
   refine CSR <| OV v1120 rfl (x_mv f1129) ?_
   obtain ⟨hc1136, hm⟩ := chkE hm
   refine OW.cons (S_callRows (e' := fun v' S' => Ent.own 25 S' v' (s_l1.1.filter (fun (r : List Int) => !decide ((r.length : Int) < 2)))) hL 0 rfl (by decide) (x_call (vs := [v1120, .func (.func 76) #[] #[]]) Try_C75 ⟨rfl, rfl, trivial⟩) (del_io delLaid delEg delG delZ (hL.get 0 rfl) hc1136) ?_)
   intro wd1133 v1134 S1135 hL
   simp only [lC, lD] at hL
   refine OV v1134 rfl (x_assign) <| OV (.int .i64 0) rfl (x_assign) <| OW.nil <| CW.ret ?_
   obtain rfl := Option.some.inj hm
   exact RR2 rfl rfl rfl ⟨v1134, S1135, rfl, hL.fresh 5 rfl [0] (by decide) (by decide) rfl⟩
 intro s_l1 F1137 wd1138 t1122 hJ hm hr1123
 unfold M.impl_TiedBoats_l1 at hm
 obtain ⟨v1120, S1121, f1139, f1140, f1141, f1142, f1143, hL⟩ := hJ
 refine CSR <| OV (.bool (decide (s_l1.2 < (x23.length : Int)))) rfl (x_lss f1143 f1142) <| ONS ?_
 refine CW.condM (t := decide (s_l1.2 < (x23.length : Int))) rfl hm (fun hb1144 hm => ?_) (fun hb1144 hm => ?_)
 · refine CW.skip ?_
   refine CW.seqJ (fun (s_j1 : (List (List Int))) (F : Fr) (w : World) => ∃ (v1412 : Value) (S1413 : Nat → Prop), F 6 = (.pointer (some ⟨b17, 0, none⟩)) ∧ F 8 = v1412 ∧ F 25 = v26 ∧ F 26 = (.int .i64 (x23.length : Int)) ∧ F 27 = (.int .i64 s_l1.2) ∧ Hp w0 [Ent.own 25 S1413 v1412 s_j1, Ent.own 2 S25 v26 x23, Ent.blk b17 25 #[v12], Ent.own 2 S11 v12 x9.1, Ent.blk b8 29 #[(.int .i64 a0.Boats), v1, v3], Ent.snap w0 w0.heap.size] w) (fun s_j1 => M.impl_TiedBoats_j1 s_l1 s_j1 = some t1122) ?_ ?_
   · refine CW.blockJ (fun (s_j2 : (List (List Int))) (F : Fr) (w : World) => ∃ (v1550 : Value) (S1551 : Nat → Prop), F 6 = (.pointer (some ⟨b17, 0, none⟩)) ∧ F 8 = v1550 ∧ F 25 = v26 ∧ F 26 = (.int .i64 (x23.length : Int)) ∧ F 27 = (.int .i64 s_l1.2) ∧ Hp w0 [Ent.own 25 S1551 v1550 s_j2, Ent.own 2 S25 v26 x23, Ent.blk b17 25 #[v12], Ent.own 2 S11 v12 x9.1, Ent.blk b8 29 #[(.int .i64 a0.Boats), v1, v3], Ent.snap w0 w0.heap.size] w) (fun s_j2 => M.impl_TiedBoats_j2 s_l1 s_j2 = some t1122) ?_ ?_
     · refine CSR ?_
       obtain ⟨x1559, ha1560, hm⟩ := bndE hm
       obtain ⟨hz1561, ha1565⟩ := idxE ha1560
       obtain ⟨b1562, q1563, hix1564⟩ := rdL_ix (hL.rdO 1 rfl) hz1561 ha1565
       refine OV (.pointer (some ⟨b1562, q1563, none⟩)) rfl (x_ix U25 Try_T2 f1141 f1143 hix1564) <| OV (.int .i64 x1559) rfl (x_load1 U2 rfl rfl (rdF_cells (hL.rdO 1 rfl) hix1564 ha1565 0 _ rfl)) <| OV (.int .i64 x1559) rfl (x_assign) <| ONR <| OV v1120 rfl (x_mv f1140) <| OV (.int .i64 (s_l1.1.length : Int)) rfl (x_lenR U22 rfl (hL.rdO 0 rfl)) <| OV (.int .i64 (s_l1.1.length : Int)) rfl (x_assign) <| OW.nil ?_
       refine CW.seqJ (fun (s_j3 : Bool) (F : Fr) (w : World) => F 6 = (.pointer (some ⟨b17, 0, none⟩)) ∧ F 8 = v1120 ∧ F 10 = (.int .i64 x1559) ∧ F 11 = (.int .i64 (s_l1.1.length : Int)) ∧ F 25 = v26 ∧ F 26 = (.int .i64 (x23.length : Int)) ∧ F 27 = (.int .i64 s_l1.2) ∧ F 51 = (.bool s_j3) ∧ Hp w0 [Ent.own 25 S1121 v1120 s_l1.1, Ent.own 2 S25 v26 x23, Ent.blk b17 25 #[v12], Ent.own 2 S11 v12 x9.1, Ent.blk b8 29 #[(.int .i64 a0.Boats), v1, v3], Ent.snap w0 w0.heap.size] w) (fun s_j3 => M.impl_TiedBoats_j3 s_l1 x1559 s_j3 = some t1122) ?_ ?_
       · obtain ⟨wz1651, hL, ho1652⟩ := hL.freeze 0 rfl
         simp only [lC, lD] at hL
         refine CW.draw Try_mixed ?_
         have hL := hL.call (Mod.drew _)
         refine DW.pre (fuel := 0) (fin := bma 19 524287) (C := fun w' => Mod None_ _ w') [0, 1, 2, 3, 4, 5, 6, 7, 8, 9, 10, 11, 12, 13, 14, 15, 16, 17, 18] (Mod.refl _ _) (by kernel_rfl) (by kernel_rfl) ?_
         refine QV (.int .i64 (s_l1.1.length : Int)) rfl rfl (fun w' hm' => x_move) <| QV (.bool (decide (0 < (s_l1.1.length : Int)))) rfl rfl (fun w' hm' => x_gtr rfl rfl) <| QV (.bool (decide (0 < (s_l1.1.length : Int)))) rfl rfl (fun w' hm' => x_move) ?_
         refine ifB_elim hm (fun hb1653 hm => ?_) (fun hb1653 hm => ?_)
         · refine QW.cons rfl (QP.yes' rfl rfl hb1653 (QP.val (v := v12) rfl (fun w' hm' => x_load1 U25 rfl f1139 ((hL.call hm').cellB 2 rfl rfl)) ?_))
           refine QW.cons rfl (QP.yes' rfl rfl hb1653 (QP.val (v := v1120) rfl (fun w' hm' => x_mv f1140) ?_))
           refine QW.cons rfl (QP.yes' rfl rfl hb1653 (QP.val (v := (.int .i64 (s_l1.1.length : Int))) rfl (fun w' hm' => x_move) ?_))
           refine QW.cons rfl (QP.yes' rfl rfl hb1653 (QP.val (v := (.int .i64 (w64 ((s_l1.1.length : Int) - 1)))) rfl (fun w' hm' => x_sub rfl rfl) ?_))
           obtain ⟨x1654, ha1655, hm⟩ := bndE hm
           obtain ⟨hz1656, ha1664⟩ := idxE ha1655
           obtain ⟨b1657, q1658, v1659, hix1660, hs1661, hc1662, hr1663⟩ := rdN_at ho1652.1.rdL hz1656 ha1664
           refine QW.cons rfl (QP.yes' rfl rfl hb1653 (QP.val (v := (.pointer (some ⟨b1657, q1658, none⟩))) rfl (fun w' hm' => x_ix U22 Try_T25 rfl rfl hix1660) ?_))
           refine QW.cons rfl (QP.yes' rfl rfl hb1653 (QP.val (v := v1659) rfl (fun w' hm' => x_load1 U25 rfl rfl ((hL.call hm').cellF 0 rfl hs1661 hc1662)) ?_))
           obtain ⟨x1665, ha1666, hm⟩ := bndE hm
           obtain ⟨hz1667, ha1671⟩ := idxE ha1666
           obtain ⟨b1668, q1669, hix1670⟩ := rdL_ix (hL.rdF 0 rfl hr1663) hz1667 ha1671
           refine QW.cons rfl (QP.yes' rfl rfl hb1653 (QP.val (v := (.pointer (some ⟨b1668, q1669, none⟩))) rfl (fun w' hm' => x_ix U25 Try_T2 rfl rfl hix1670) ?_))
           refine QW.cons rfl (QP.yes' rfl rfl hb1653 (QP.val (v := (.int .i64 x1665)) rfl (fun w' hm' => x_load1 U2 rfl rfl (rdF_cells ((hL.call hm').rdF 0 rfl hr1663) hix1670 ha1671 0 _ rfl)) ?_))
           obtain ⟨x1672, ha1673, hm⟩ := bndE hm
           obtain ⟨hz1674, ha1678⟩ := idxE ha1673
           obtain ⟨b1675, q1676, hix1677⟩ := rdL_ix (hL.rdO 3 rfl) hz1674 ha1678
           refine QW.cons rfl (QP.yes' rfl rfl hb1653 (QP.val (v := (.pointer (some ⟨b1675, q1676, none⟩))) rfl (fun w' hm' => x_ix U25 Try_T2 rfl rfl hix1677) ?_))
           refine QW.cons rfl (QP.yes' rfl rfl hb1653 (QP.val (v := (.int .i64 x1672)) rfl (fun w' hm' => x_load1 U2 rfl rfl (rdF_cells ((hL.call hm').rdO 3 rfl) hix1677 ha1678 0 _ rfl)) ?_))
           refine QW.cons rfl (QP.yes' rfl rfl hb1653 (QP.val (v := v12) rfl (fun w' hm' => x_load1 U25 rfl f1139 ((hL.call hm').cellB 2 rfl rfl)) ?_))
           refine QW.cons rfl (QP.yes' rfl rfl hb1653 (QP.val (v := (.int .i64 x1559)) rfl (fun w' hm' => x_move) ?_))
           obtain ⟨x1679, ha1680, hm⟩ := bndE hm
           obtain ⟨hz1681, ha1685⟩ := idxE ha1680
           obtain ⟨b1682, q1683, hix1684⟩ := rdL_ix (hL.rdO 3 rfl) hz1681 ha1685
           refine QW.cons rfl (QP.yes' rfl rfl hb1653 (QP.val (v := (.pointer (some ⟨b1682, q1683, none⟩))) rfl (fun w' hm' => x_ix U25 Try_T2 rfl rfl hix1684) ?_))
           refine QW.cons rfl (QP.yes' rfl rfl hb1653 (QP.val (v := (.int .i64 x1679)) rfl (fun w' hm' => x_load1 U2 rfl rfl (rdF_cells ((hL.call hm').rdO 3 rfl) hix1684 ha1685 0 _ rfl)) ?_))
           refine QW.cons rfl (QP.yes' rfl rfl hb1653 (QP.val (v := (.bool (x1672 == x1679))) rfl (fun w' hm' => x_eql rfl rfl) ?_))
           refine QV (.bool (x1672 == x1679)) rfl rfl (fun w' hm' => x_pickT' rfl hb1653 rfl) ?_
           refine QW.nil ?_
           intro wd1686 hmod
           have hL := hL.call hmod
           refine DW.done (by kernel_rfl) ?_
           have hL := hL.thaw 0 rfl ho1652
           exact ⟨x1672 == x1679, hm, ⟨f1139, f1140, rfl, rfl, f1141, f1142, f1143, rfl, hL⟩⟩
         refine QW.cons rfl (QP.no' rfl rfl hb1653 rfl ?_)
         refine QW.cons rfl (QP.no' rfl rfl hb1653 rfl ?_)
         refine QW.cons rfl (QP.no' rfl rfl hb1653 rfl ?_)
         refine QW.cons rfl (QP.no' rfl rfl hb1653 rfl ?_)
         refine QW.cons rfl (QP.no' rfl rfl hb1653 rfl ?_)
         refine QW.cons rfl (QP.no' rfl rfl hb1653 rfl ?_)
         refine QW.cons rfl (QP.no' rfl rfl hb1653 rfl ?_)
         refine QW.cons rfl (QP.no' rfl rfl hb1653 rfl ?_)
         refine QW.cons rfl (QP.no' rfl rfl hb1653 rfl ?_)
         refine QW.cons rfl (QP.no' rfl rfl hb1653 rfl ?_)
         refine QW.cons rfl (QP.no' rfl rfl hb1653 rfl ?_)
         refine QW.cons rfl (QP.no' rfl rfl hb1653 rfl ?_)
         refine QW.cons rfl (QP.no' rfl rfl hb1653 rfl ?_)
         refine QW.cons rfl (QP.no' rfl rfl hb1653 rfl ?_)
         refine QW.cons rfl (QP.no' rfl rfl hb1653 rfl ?_)
         refine QV (.bool false) rfl rfl (fun w' hm' => x_pickF' rfl hb1653 rfl) ?_
         refine QW.nil ?_
         intro wd1687 hmod
         have hL := hL.call hmod
         refine DW.done (by kernel_rfl) ?_
         have hL := hL.thaw 0 rfl ho1652
         exact ⟨false, hm, ⟨f1139, f1140, rfl, rfl, f1141, f1142, f1143, rfl, hL⟩⟩
       intro s_j3 F1603 wd1604 hJ hm
       unfold M.impl_TiedBoats_j3 at hm
       obtain ⟨f1605, f1606, f1607, f1608, f1609, f1610, f1611, f1612, hL⟩ := hJ
       refine CW.condM (t := s_j3) f1612 hm (fun hb1613 hm => ?_) (fun hb1613 hm => ?_)
       · refine CW.regionL <| OV v1120 rfl (x_mv f1606) <| OV (.int .i64 (s_l1.1.length : Int)) rfl (x_mv f1608) <| OV (.int .i64 (w64 ((s_l1.1.length : Int) - 1))) rfl (x_sub rfl rfl) <| OV v1120 rfl (x_mv f1606) <| OV (.int .i64 (s_l1.1.length : Int)) rfl (x_mv f1608) <| OV (.int .i64 (w64 ((s_l1.1.length : Int) - 1))) rfl (x_sub rfl rfl) ?_
         obtain ⟨wz1614, hL, ho1615⟩ := hL.freeze 0 rfl
         simp only [lC, lD] at hL
         obtain ⟨x1616, ha1617, hm⟩ := bndE hm
         obtain ⟨hz1618, ha1626⟩ := idxE ha1617
         obtain ⟨b1619, q1620, v1621, hix1622, hs1623, hc1624, hr1625⟩ := rdN_at ho1615.1.rdL hz1618 ha1626
         refine OV (.pointer (some ⟨b1619, q1620, none⟩)) rfl (x_ix U22 Try_T25 rfl rfl hix1622) <| OV v1621 rfl (x_load1 U25 rfl rfl (hL.cellF 0 rfl hs1623 hc1624)) <| OV (.int .i64 x1559) rfl (x_mv f1607) ?_
         refine OW.cons (S_lit ([x1559] : List Int) hL U25 Try_T2 rfl (by decide) (by first | (simp [Instr.fill, madeCells, Value.cells, ev, upd, Flat.enc, Flat.sz]; done) | rfl | kernel_rfl) rfl rfl ?_)
         intro wd1627 v1628 S1629 hL
         have hc1630 := hL.cellF 1 rfl hs1623 hc1624
         have hL := hL.thaw 1 rfl ho1615
         simp only [lC, lD] at hL
         obtain ⟨E1631, S1632, S1633, hL⟩ := hL.holeAt (α := Int) 1 rfl hix1622 ha1626 hc1630
         simp only [lC, lD] at hL
         obtain ⟨hc1638, hm⟩ := chkE hm
         refine OW.cons (S_appendE (ys := ([x1559] : List Int)) hL 0 rfl U25 Try_T2 rfl rfl rfl (hL.rdO 1 rfl) (by simp) hc1638 (by decide) rfl ?_)
         intro wd1635 v1636 E1634 S1637 hL
         refine OV (.pointer (some ⟨b1619, q1620, none⟩)) rfl (x_ix U22 Try_T25 rfl rfl hix1622) ?_
         have hL := hL.sel [2, 0, 1, 3, 4, 5, 6, 7] (by decide) rfl
         refine OW.cons (S_storeH (x1616 ++ ([x1559] : List Int)) rfl hL Try_T25 hix1622 ha1626 rfl rfl ?_)
         intro wd1639 S1640 hL
         refine OW.nil ?_
         have hL := hL.sel [0, 2, 3, 4, 5, 6] (by decide) rfl
         exact ⟨s_l1.1.set (w64 ((s_l1.1.length : Int) - 1) : Int).toNat (x1616 ++ ([x1559] : List Int)), hm, ⟨v1120, S1640, f1605, f1606, f1609, f1610, f1611, hL⟩⟩
       refine CW.regionL <| OV v1120 rfl (x_mv f1606) <| OV (.int .i64 x1559) rfl (x_mv f1607) ?_
       refine OW.cons (S_lit ([x1559] : List Int) hL U25 Try_T2 rfl (by decide) (by first | (simp [Instr.fill, madeCells, Value.cells, ev, upd, Flat.enc, Flat.sz]; done) | rfl | kernel_rfl) rfl rfl ?_)
       intro wd1641 v1642 S1643 hL
       refine OW.cons (S_lit1 ([x1559] : List Int) rfl hL U22 Try_T25 ((congrArg Value.cells (show _ = v1642 from rfl)).trans (rdL_cells (hL.rdO 0 rfl))) rfl ?_)
       intro wd1644 v1645 S1646 hL
       obtain ⟨hc1650, hm⟩ := chkE hm
       have hL := hL.sel [1, 0, 2, 3, 4, 5, 6] (by decide) rfl
       refine OW.cons (S_appendN Int hL U22 Try_T25 rfl rfl rfl hc1650 (by decide) rfl ?_)
       intro wd1647 v1648 S1649 hL
       refine OV v1648 rfl (x_assign) <| OW.nil ?_
       exact ⟨s_l1.1 ++ ([([x1559] : List Int)] : List (List Int)), hm, ⟨v1648, S1649, f1605, rfl, f1609, f1610, f1611, hL⟩⟩
     intro s_j2 F1552 wd1553 hJ hm
     unfold M.impl_TiedBoats_j2 at hm
     obtain ⟨v1550, S1551, f1554, f1555, f1556, f1557, f1558, hL⟩ := hJ
     exact ⟨s_j2, hm, ⟨v1550, S1551, f1554, f1555, f1556, f1557, f1558, hL⟩⟩
   intro s_j1 F1414 wd1415 hJ hm
   unfold M.impl_TiedBoats_j1 at hm
   obtain ⟨v1412, S1413, f1416, f1417, f1418, f1419, f1420, hL⟩ := hJ
   refine CW.regionL <| OV (.int .i64 (w64 (s_l1.2 + 1))) rfl (x_add f1420 rfl) <| OV (.int .i64 (w64 (s_l1.2 + 1))) rfl (x_move) <| OW.nil ?_
   obtain rfl := Option.some.inj hm
   exact ⟨_, rfl, ⟨v1412, S1413, f1416, f1417, f1418, f1419, rfl, hL⟩⟩
 refine CW.exit ?_
 refine XJ.hit ?_
 obtain rfl := Option.some.inj hm
 exact ⟨_, rfl, ⟨v1120, S1121, f1139, f1140, f1141, f1142, f1143, hL⟩⟩

theorem M.laws_big_ok (w0 : World) (a0 : List UInt8) {v1 : Value} (h2 : rdL (· < w0.heap.size) w0 v1 a0) {r : Bool} (hm : M.laws_big a0 = some r) :
    Calls Try.prog 36 #[v1] w0 fun e w' => e = .returned (.bool r) ∧ Fresh w0 w' [] := by
 unfold M.laws_big at hm
 refine calls_CW (args := [v1]) Try.func36 rfl rfl rfl ?_
 have hL := Hp.start w0
 refine CSR <| OV (.bool false) rfl (x_assign) <| ONR <| OV v1 rfl (x_move) <| OV (.int .i64 (a0.length : Int)) rfl (x_lenR U47 rfl (hL.rdS 0 rfl h2)) <| OV (.bool (decide (4096 < (a0.length : Int)))) rfl (x_gtr rfl rfl) <| OV (.bool (decide (4096 < (a0.length : Int)))) rfl (x_assign) <| OW.nil <| CW.ret ?_
 obtain rfl := Option.some.inj hm
 exact RR1 rfl rfl ⟨rfl, hL.fresh 0 rfl [] (by decide) (by decide) rfl⟩

theorem M.spec_l01From_ok (w0 : World) (a0 : List UInt8) {v1 : Value} (h2 : rdL (· < w0.heap.size) w0 v1 a0) {r : (Int × Int)} (hm : M.spec_l01From a0 = some r) :
    Calls Try.prog 84 #[v1] w0 fun e w' => ∃ rb : Nat, e = .returned (.pointer (some ⟨rb, 0, none⟩)) ∧ Fresh w0 w' [Ent.blk rb 90 #[v1, .int .i64 r.1, .int .i64 r.2]] := by
 unfold M.spec_l01From at hm
 refine calls_CW (args := [v1]) Try.func84 rfl rfl rfl ?_
 have hL := Hp.start w0
 refine CSR <| OV (.pointer none) rfl (x_assign) <| ONR <| OV v1 rfl (x_move) <| OV (.agg #[v1, (.int .i64 0), (.int .i64 61657)]) rfl (x_build Try_B90 (ps := [(0, v1), (2, (.int .i64 61657))]) ⟨⟨rfl, rfl⟩, ⟨rfl, rfl⟩, trivial⟩ (by simp [Instr.fill, cells_int, cells_bool, cells_string, cells_agg, cells_slice, cells_pointer, (rdL_cells (hL.rdS 0 rfl h2))])) ?_
 refine OW.cons (S_box (cs := #[v1, (.int .i64 0), (.int .i64 61657)]) hL rfl rfl rfl ?_)
 intro wd3 b4 hL
 refine OV (.pointer (some ⟨b4, 0, none⟩)) rfl (x_assign) <| ONS <| CSR <| OV (.int .i64 0) rfl (x_assign) <| OW.nil ?_
 obtain ⟨o57, ho58, hm⟩ := bndE hm
 refine CW.loopB (fun (s_l1 : Int × Int) (F : Fr) (w : World) => F 0 = v1 ∧ F 3 = (.pointer (some ⟨b4, 0, none⟩)) ∧ F 4 = (.int .i64 s_l1.2) ∧ Hp w0 [Ent.blk b4 90 #[v1, (.int .i64 0), (.int .i64 s_l1.1)], Ent.snap w0 w0.heap.size] w) (fun o => outc o (fun x => some x) (fun s => M.spec_l01From_a1 s) = some r) ho58 hm ⟨rfl, rfl, rfl, hL⟩ ?_ ?_
 · intro s_l1 F59 wd60 hJ hm
   have hm := outcE hm
   have hm : M.spec_l01From_a1 s_l1 = some r := hm
   unfold M.spec_l01From_a1 at hm
   obtain ⟨f61, f62, f63, hL⟩ := hJ
   refine CSR <| OV (.pointer (some ⟨b4, 0, none⟩)) rfl (x_mv f62) <| OV (.pointer (some ⟨b4, 0, none⟩)) rfl (x_assign) <| OW.nil <| CW.ret ?_
   obtain rfl := Option.some.inj hm
   exact RR1 rfl rfl ⟨b4, rfl, hL.fresh 1 rfl [0] (by decide) (by decide) rfl⟩
 intro s_l1 F64 wd65 t55 hJ hm hr56
 unfold M.spec_l01From_l1 at hm
 obtain ⟨f66, f67, f68, hL⟩ := hJ
 refine CW.seq ?_
 refine CW.seqJ (fun (s_j1 : Bool) (F : Fr) (w : World) => F 0 = v1 ∧ F 3 = (.pointer (some ⟨b4, 0, none⟩)) ∧ F 4 = (.int .i64 s_l1.2) ∧ F 15 = (.bool s_j1) ∧ Hp w0 [Ent.blk b4 90 #[v1, (.int .i64 0), (.int .i64 s_l1.1)], Ent.snap w0 w0.heap.size] w) (fun s_j1 => M.spec_l01From_j1 a0 s_l1 s_j1 = some t55) ?_ ?_
 · refine CW.regionL <| OV (.int .i64 s_l1.2) rfl (x_mv f68) <| OV v1 rfl (x_mv f66) <| OV (.int .i64 (a0.length : Int)) rfl (x_lenR U47 rfl (hL.rdS 1 rfl h2)) <| OV (.bool (decide (s_l1.2 < (a0.length : Int)))) rfl (x_lss rfl rfl) <| OV (.bool (decide (s_l1.2 < (a0.length : Int)))) rfl (x_move) ?_
   refine ifB_elim hm (fun hb93 hm => ?_) (fun hb93 hm => ?_)
   · refine OW.cons (OP.yes' rfl rfl hb93 (OP.val (v := (.int .i64 s_l1.2)) rfl (x_mv f68) ?_))
     refine OW.cons (OP.yes' rfl rfl hb93 (OP.val (v := (.bool (decide (s_l1.2 < 64)))) rfl (x_lss rfl rfl) ?_))
     refine OV (.bool (decide (s_l1.2 < 64))) rfl (x_pickT' rfl hb93 rfl) <| OW.nil ?_
     exact ⟨decide (s_l1.2 < 64), hm, ⟨f66, f67, f68, rfl, hL⟩⟩
   refine OW.cons (OP.no' rfl rfl hb93 rfl ?_)
   refine OW.cons (OP.no' rfl rfl hb93 rfl ?_)
   refine OV (.bool false) rfl (x_pickF' rfl hb93 rfl) <| OW.nil ?_
   exact ⟨false, hm, ⟨f66, f67, f68, rfl, hL⟩⟩
 intro s_j1 F70 wd71 hJ hm
 unfold M.spec_l01From_j1 at hm
 obtain ⟨f72, f73, f74, f75, hL⟩ := hJ
 refine CW.condM (t := s_j1) f75 hm (fun hb76 hm => ?_) (fun hb76 hm => ?_)
 · refine CW.skip <| CW.seq <| CW.block ?_
   refine CW.drawH (fun w' => Hp w0 [Ent.snap w0 w0.heap.size] w') Try_mixed ?_
   have hL := hL.call (Mod.drew _)
   have hS := (hL.sel [1] (by decide) rfl)
   refine DH.take 0 rfl (by kernel_rfl) (by kernel_rfl) (by kernel_rfl) rfl rfl hS (YH.val (v := (.pointer (some ⟨b4, 0, none⟩))) (fun w' hS' => x_mv f73)) ?_
   have hS := (hL.sel [1] (by decide) rfl)
   refine DH.take 1 rfl (by kernel_rfl) (by kernel_rfl) (by kernel_rfl) rfl rfl hS (YH.val (v := (.pointer (some ⟨b4, 0, none⟩))) (fun w' hS' => x_mv f73)) ?_
   have hS := (hL.sel [1] (by decide) rfl)
   refine DH.take 2 rfl (by kernel_rfl) (by kernel_rfl) (by kernel_rfl) rfl rfl hS (YH.val (v := (.pointer (some ⟨b4, 0, none⟩))) (fun w' hS' => x_nilCheck rfl)) ?_
   have hS := (hL.sel [1] (by decide) rfl)
   refine DH.take 3 rfl (by kernel_rfl) (by kernel_rfl) (by kernel_rfl) rfl rfl hS (YH.val (v := (.pointer (some ⟨b4, 2, none⟩))) (fun w' hS' => x_fieldAddr (fsz := 1) 0 2 2 U90 rfl Try_T2 rfl rfl rfl)) ?_
   have hS := (hL.sel [1] (by decide) rfl)
   refine DH.take 6 rfl (by kernel_rfl) (by kernel_rfl) (by kernel_rfl) rfl rfl hS (YH.val (v := v1) (fun w' hS' => x_mv f72)) ?_
   have hS := (hL.sel [1] (by decide) rfl)
   refine DH.take 7 rfl (by kernel_rfl) (by kernel_rfl) (by kernel_rfl) rfl rfl hS (YH.val (v := (.int .i64 s_l1.2)) (fun w' hS' => x_mv f74)) ?_
   have hS := (hL.sel [1] (by decide) rfl)
   obtain ⟨x85, ha86, hm⟩ := bndE hm
   obtain ⟨hz87, ha91⟩ := idxE ha86
   obtain ⟨b88, q89, hix90⟩ := rdL_ix (hL.rdS 1 rfl h2) hz87 ha91
   refine DH.take 8 rfl (by kernel_rfl) (by kernel_rfl) (by kernel_rfl) rfl rfl hS (YH.val (v := (.pointer (some ⟨b88, q89, none⟩))) (fun w' hS' => x_ix U47 Try_T5 rfl rfl hix90)) ?_
   have hS := (hL.sel [1] (by decide) rfl)
   refine DH.take 9 rfl (by kernel_rfl) (by kernel_rfl) (by kernel_rfl) rfl rfl hS (YH.val (v := (.int .u8 (x85.toNat : Int))) (fun w' hS' => x_load1 U5 rfl rfl (rdF_cells (hS'.rdS 0 rfl h2) hix90 ha91 0 _ rfl))) ?_
   have hS := (hL.sel [1] (by decide) rfl)
   refine DH.take 10 rfl (by kernel_rfl) (by kernel_rfl) (by kernel_rfl) rfl rfl hS (YH.val (v := (.int .i64 (IntKind.i64.wrap (x85.toNat : Int)))) (fun w' hS' => x_conv U5 U2 rfl)) ?_
   refine DH.only 4 rfl (by kernel_rfl) (OP.val (v := (.int .i64 s_l1.1)) rfl (x_load1 U2 rfl rfl (hL.cellB 0 rfl rfl)) ?_)
   refine ⟨(hL.sel [1] (by decide) rfl), ?_⟩
   have hS := (hL.sel [1] (by decide) rfl)
   refine DH.take 5 rfl (by kernel_rfl) (by kernel_rfl) (by kernel_rfl) rfl rfl hS (YH.val (v := (.int .i64 (w64 (s_l1.1 * 53)))) (fun w' hS' => x_mul rfl rfl)) ?_
   have hS := (hL.sel [1] (by decide) rfl)
   refine DH.take 11 rfl (by kernel_rfl) (by kernel_rfl) (by kernel_rfl) rfl rfl hS (YH.val (v := (.int .i64 (w64 ((w64 (s_l1.1 * 53)) + (IntKind.i64.wrap (x85.toNat : Int)))))) (fun w' hS' => x_add rfl rfl)) ?_
   have hS := (hL.sel [1] (by decide) rfl)
   refine DH.take 12 rfl (by kernel_rfl) (by kernel_rfl) (by kernel_rfl) rfl rfl hS (YH.val (v := (.int .i64 ((w64 ((w64 (s_l1.1 * 53)) + (IntKind.i64.wrap (x85.toNat : Int)))).tmod 2147483647))) (fun w' hS' => x_rem rfl rfl (by decide))) ?_
   have hS := (hL.sel [1] (by decide) rfl)
   refine DH.take 13 rfl (by kernel_rfl) (by kernel_rfl) (by kernel_rfl) rfl rfl hS (YH.val (v := (.pointer (some ⟨b4, 0, none⟩))) (fun w' hS' => x_nilCheck rfl)) ?_
   have hS := (hL.sel [1] (by decide) rfl)
   refine DH.take 14 rfl (by kernel_rfl) (by kernel_rfl) (by kernel_rfl) rfl rfl hS (YH.val (v := (.pointer (some ⟨b4, 2, none⟩))) (fun w' hS' => x_fieldAddr (fsz := 1) 0 2 2 U90 rfl Try_T2 rfl rfl rfl)) ?_
   refine DH.only 15 rfl (by kernel_rfl) (S_store (cs' := #[v1, (.int .i64 0), (.int .i64 ((w64 ((w64 (s_l1.1 * 53)) + (IntKind.i64.wrap (x85.toNat : Int)))).tmod 2147483647))]) hL 0 rfl Try_T2 rfl rfl rfl rfl rfl ?_)
   intro wd92 hL
   refine ⟨(hL.sel [1] (by decide) rfl), ?_⟩
   refine DH.done (by kernel_rfl) ?_
   refine CW.regionL <| OV (.int .i64 s_l1.2) rfl (x_mv f74) <| OV (.int .i64 (w64 (s_l1.2 + 1))) rfl (x_add rfl rfl) <| OV (.int .i64 (w64 (s_l1.2 + 1))) rfl (x_assign) <| OW.nil ?_
   obtain rfl := Option.some.inj hm
   exact ⟨_, rfl, ⟨f72, f73, rfl, hL⟩⟩
 refine CW.exit ?_
 refine XJ.hit ?_
 obtain rfl := Option.some.inj hm
 exact ⟨_, rfl, ⟨f72, f73, f74, hL⟩⟩

theorem M.spec_l01Next_ok (w0 : World) {b1 : Nat} {v2 : Value} (a0 : Src) (h3 : rdL (fun k => k < w0.heap.size ∧ ¬ (Ent.blk b1 90 #[v2, .int .i64 a0.at_, .int .i64 a0.seed]).S k) w0 v2 a0.code) (he4 : (Ent.blk b1 90 #[v2, .int .i64 a0.at_, .int .i64 a0.seed]).H w0) (a1 : Int) {r : (Int) × (Int × Int)} (hm : M.spec_l01Next a0 a1 = some r) :
    Calls Try.prog 86 #[(.pointer (some ⟨b1, 0, none⟩)), (.int .i64 a1)] w0 fun e w' => e = .returned (.int .i64 r.1) ∧ Mut w0 w' (Ent.blk b1 90 #[v2, .int .i64 a0.at_, .int .i64 a0.seed]).S [Ent.blk b1 90 #[v2, .int .i64 r.2.1, .int .i64 r.2.2]] := by
 unfold M.spec_l01Next at hm
 refine calls_CW (args := [(.pointer (some ⟨b1, 0, none⟩)), (.int .i64 a1)]) Try.func86 rfl rfl rfl ?_
 have hL := Hp.startIO he4
 refine CSR <| OV (.int .i64 0) rfl (x_assign) <| ONS <| CSR <| OV (.int .i64 a1) rfl (x_move) <| OV (.bool (decide (a1 ≤ 1))) rfl (x_leq rfl rfl) <| OW.nil ?_
 refine CW.condM (t := decide (a1 ≤ 1)) rfl hm (fun hb5 hm => ?_) (fun hb5 hm => ?_)
 · refine CSR <| OV (.int .i64 0) rfl (x_assign) <| OW.nil <| CW.ret ?_
   obtain rfl := Option.some.inj hm
   exact RR1 rfl rfl ⟨rfl, hL.mutOut 1 rfl [0] (by decide) (by decide) rfl⟩
 refine CW.skip <| CSR <| OV (.pointer (some ⟨b1, 0, none⟩)) rfl (x_move) <| OV (.pointer (some ⟨b1, 0, none⟩)) rfl (x_move) <| OV (.pointer (some ⟨b1, 0, none⟩)) rfl (x_nilCheck rfl) <| OV (.pointer (some ⟨b1, 2, none⟩)) rfl (x_fieldAddr (fsz := 1) 0 2 2 U90 rfl Try_T2 rfl rfl rfl) <| OV (.int .i64 a0.seed) rfl (x_load1 U2 rfl rfl (hL.cellB 0 rfl rfl)) <| OV (.int .i64 (w64 (a0.seed * 48271))) rfl (x_mul rfl rfl) <| OV (.int .i64 (w64 ((w64 (a0.seed * 48271)) + 23))) rfl (x_add rfl rfl) <| OV (.int .i64 ((w64 ((w64 (a0.seed * 48271)) + 23)).tmod 2147483647)) rfl (x_rem rfl rfl (by decide)) <| OV (.pointer (some ⟨b1, 0, none⟩)) rfl (x_nilCheck rfl) <| OV (.pointer (some ⟨b1, 2, none⟩)) rfl (x_fieldAddr (fsz := 1) 0 2 2 U90 rfl Try_T2 rfl rfl rfl) ?_
 refine OW.cons (S_store (cs' := #[v2, (.int .i64 a0.at_), (.int .i64 ((w64 ((w64 (a0.seed * 48271)) + 23)).tmod 2147483647))]) hL 0 rfl Try_T2 rfl rfl rfl rfl rfl ?_)
 intro wd6 hL
 refine ONR <| OV (.pointer (some ⟨b1, 0, none⟩)) rfl (x_move) <| OV (.pointer (some ⟨b1, 0, none⟩)) rfl (x_nilCheck rfl) <| OV (.pointer (some ⟨b1, 2, none⟩)) rfl (x_fieldAddr (fsz := 1) 0 2 2 U90 rfl Try_T2 rfl rfl rfl) <| OV (.int .i64 ((w64 ((w64 (a0.seed * 48271)) + 23)).tmod 2147483647)) rfl (x_load1 U2 rfl rfl (hL.cellB 0 rfl rfl)) <| OV (.int .i64 (w64 (((w64 ((w64 (a0.seed * 48271)) + 23)).tmod 2147483647).tdiv 17))) rfl (x_quo rfl rfl (by decide)) <| OV (.int .i64 (w64 (((w64 ((w64 (a0.seed * 48271)) + 23)).tmod 2147483647).tdiv 17))) rfl (x_assign) <| OW.nil ?_
 refine CW.seqJ (fun (s_j1 : Int × Int) (F : Fr) (w : World) => F 1 = (.int .i64 a1) ∧ F 5 = (.int .i64 s_j1.2) ∧ Hp w0 [Ent.blk b1 90 #[v2, (.int .i64 s_j1.1), (.int .i64 ((w64 ((w64 (a0.seed * 48271)) + 23)).tmod 2147483647))], Ent.frz w0 (Ent.blk b1 90 #[v2, .int .i64 a0.at_, .int .i64 a0.seed]).S] w) (fun s_j1 => M.spec_l01Next_j1 a0 a1 s_j1 = some r) ?_ ?_
 · refine CW.seq ?_
   refine CW.draw Try_mixed ?_
   have hL := hL.call (Mod.drew _)
   refine DW.pre (fuel := 0) (fin := bma 10 1023) (C := fun w' => Mod None_ _ w') [0, 1, 2, 3, 4, 5, 6, 7, 8, 9] (Mod.refl _ _) (by kernel_rfl) (by kernel_rfl) ?_
   refine QV (.pointer (some ⟨b1, 0, none⟩)) rfl rfl (fun w' hm' => x_move) <| QV (.pointer (some ⟨b1, 0, none⟩)) rfl rfl (fun w' hm' => x_nilCheck rfl) <| QV (.pointer (some ⟨b1, 1, none⟩)) rfl rfl (fun w' hm' => x_fieldAddr (fsz := 1) 0 1 1 U90 rfl Try_T3 rfl rfl rfl) <| QV (.int .i64 a0.at_) rfl rfl (fun w' hm' => x_load1 U3 rfl rfl ((hL.call hm').cellB 0 rfl rfl)) <| QV (.pointer (some ⟨b1, 0, none⟩)) rfl rfl (fun w' hm' => x_move) <| QV (.pointer (some ⟨b1, 0, none⟩)) rfl rfl (fun w' hm' => x_nilCheck rfl) <| QV (.pointer (some ⟨b1, 0, none⟩)) rfl rfl (fun w' hm' => x_fieldAddr (fsz := 1) 0 0 0 U90 rfl Try_T47 rfl rfl rfl) <| QV v2 rfl rfl (fun w' hm' => x_load1 U47 rfl rfl ((hL.call hm').cellB 0 rfl rfl)) <| QV (.int .i64 (a0.code.length : Int)) rfl rfl (fun w' hm' => x_lenR U47 rfl ((hL.call hm').rdZ 1 rfl h3)) <| QV (.bool (decide (a0.at_ < (a0.code.length : Int)))) rfl rfl (fun w' hm' => x_lss rfl rfl) ?_
   refine QW.nil ?_
   intro wd40 hmod
   have hL := hL.call hmod
   refine DW.done (by kernel_rfl) ?_
   refine CW.condM (t := decide (a0.at_ < (a0.code.length : Int))) rfl hm (fun hb41 hm => ?_) (fun hb41 hm => ?_)
   · refine CW.seq ?_
     refine CW.draw Try_mixed ?_
     have hL := hL.call (Mod.drew _)
     refine DW.pre (fuel := 0) (fin := bma 14 16383) (C := fun w' => Mod None_ _ w') [0, 1, 2, 3, 4, 5, 6, 7, 8, 9, 10, 11, 12, 13] (Mod.refl _ _) (by kernel_rfl) (by kernel_rfl) ?_
     refine QV (.int .i64 (w64 (((w64 ((w64 (a0.seed * 48271)) + 23)).tmod 2147483647).tdiv 17))) rfl rfl (fun w' hm' => x_move) <| QV (.pointer (some ⟨b1, 0, none⟩)) rfl rfl (fun w' hm' => x_move) <| QV (.pointer (some ⟨b1, 0, none⟩)) rfl rfl (fun w' hm' => x_nilCheck rfl) <| QV (.pointer (some ⟨b1, 0, none⟩)) rfl rfl (fun w' hm' => x_fieldAddr (fsz := 1) 0 0 0 U90 rfl Try_T47 rfl rfl rfl) <| QV v2 rfl rfl (fun w' hm' => x_load1 U47 rfl rfl ((hL.call hm').cellB 0 rfl rfl)) <| QV (.pointer (some ⟨b1, 0, none⟩)) rfl rfl (fun w' hm' => x_move) <| QV (.pointer (some ⟨b1, 0, none⟩)) rfl rfl (fun w' hm' => x_nilCheck rfl) <| QV (.pointer (some ⟨b1, 1, none⟩)) rfl rfl (fun w' hm' => x_fieldAddr (fsz := 1) 0 1 1 U90 rfl Try_T3 rfl rfl rfl) <| QV (.int .i64 a0.at_) rfl rfl (fun w' hm' => x_load1 U3 rfl rfl ((hL.call hm').cellB 0 rfl rfl)) ?_
     obtain ⟨x42, ha43, hm⟩ := bndE hm
     obtain ⟨hz44, ha48⟩ := idxE ha43
     obtain ⟨b45, q46, hix47⟩ := rdL_ix (hL.rdZ 1 rfl h3) hz44 ha48
     refine QV (.pointer (some ⟨b45, q46, none⟩)) rfl rfl (fun w' hm' => x_ix U47 Try_T5 rfl rfl hix47) <| QV (.int .u8 (x42.toNat : Int)) rfl rfl (fun w' hm' => x_load1 U5 rfl rfl (rdF_cells ((hL.call hm').rdZ 1 rfl h3) hix47 ha48 0 _ rfl)) <| QV (.int .i64 (IntKind.i64.wrap (x42.toNat : Int))) rfl rfl (fun w' hm' => x_conv U5 U2 rfl) <| QV (.int .i64 (w64 ((w64 (((w64 ((w64 (a0.seed * 48271)) + 23)).tmod 2147483647).tdiv 17)) + (IntKind.i64.wrap (x42.toNat : Int))))) rfl rfl (fun w' hm' => x_add rfl rfl) <| QV (.int .i64 (w64 ((w64 (((w64 ((w64 (a0.seed * 48271)) + 23)).tmod 2147483647).tdiv 17)) + (IntKind.i64.wrap (x42.toNat : Int))))) rfl rfl (fun w' hm' => x_assign) ?_
     refine QW.nil ?_
     intro wd49 hmod
     have hL := hL.call hmod
     refine DW.done (by kernel_rfl) ?_
     refine CSR <| OV (.pointer (some ⟨b1, 0, none⟩)) rfl (x_move) <| OV (.pointer (some ⟨b1, 0, none⟩)) rfl (x_nilCheck rfl) <| OV (.pointer (some ⟨b1, 1, none⟩)) rfl (x_fieldAddr (fsz := 1) 0 1 1 U90 rfl Try_T3 rfl rfl rfl) <| OV (.int .i64 a0.at_) rfl (x_load1 U3 rfl rfl (hL.cellB 0 rfl rfl)) <| OV (.int .i64 (w64 (a0.at_ + 1))) rfl (x_add rfl rfl) <| OV (.pointer (some ⟨b1, 0, none⟩)) rfl (x_nilCheck rfl) <| OV (.pointer (some ⟨b1, 1, none⟩)) rfl (x_fieldAddr (fsz := 1) 0 1 1 U90 rfl Try_T3 rfl rfl rfl) ?_
     refine OW.cons (S_store (cs' := #[v2, (.int .i64 (w64 (a0.at_ + 1))), (.int .i64 ((w64 ((w64 (a0.seed * 48271)) + 23)).tmod 2147483647))]) hL 0 rfl Try_T3 rfl rfl rfl rfl rfl ?_)
     intro wd50 hL
     refine OW.nil ?_
     refine CW.seqJ (fun (s_j2 : Bool) (F : Fr) (w : World) => F 0 = (.pointer (some ⟨b1, 0, none⟩)) ∧ F 1 = (.int .i64 a1) ∧ F 5 = (.int .i64 (w64 ((w64 (((w64 ((w64 (a0.seed * 48271)) + 23)).tmod 2147483647).tdiv 17)) + (IntKind.i64.wrap (x42.toNat : Int))))) ∧ F 62 = (.bool s_j2) ∧ Hp w0 [Ent.blk b1 90 #[v2, (.int .i64 (w64 (a0.at_ + 1))), (.int .i64 ((w64 ((w64 (a0.seed * 48271)) + 23)).tmod 2147483647))], Ent.frz w0 (Ent.blk b1 90 #[v2, .int .i64 a0.at_, .int .i64 a0.seed]).S] w) (fun s_j2 => M.spec_l01Next_j2 a0 a1 x42 s_j2 = some r) ?_ ?_
     · refine CW.regionL <| OV (.int .i64 a1) rfl (x_move) <| OV (.bool (decide (a1 ≤ 256))) rfl (x_leq rfl rfl) <| OV (.bool (decide (a1 ≤ 256))) rfl (x_move) ?_
       refine ifB_elim hm (fun hb67 hm => ?_) (fun hb67 hm => ?_)
       · refine OW.cons (OP.yes' rfl rfl hb67 (OP.val (v := (.pointer (some ⟨b1, 0, none⟩))) rfl (x_move) ?_))
         refine OW.cons (OP.yes' rfl rfl hb67 (OP.val (v := (.pointer (some ⟨b1, 0, none⟩))) rfl (x_nilCheck rfl) ?_))
         refine OW.cons (OP.yes' rfl rfl hb67 (OP.val (v := (.pointer (some ⟨b1, 1, none⟩))) rfl (x_fieldAddr (fsz := 1) 0 1 1 U90 rfl Try_T3 rfl rfl rfl) ?_))
         refine OW.cons (OP.yes' rfl rfl hb67 (OP.val (v := (.int .i64 (w64 (a0.at_ + 1)))) rfl (x_load1 U3 rfl rfl (hL.cellB 0 rfl rfl)) ?_))
         refine OW.cons (OP.yes' rfl rfl hb67 (OP.val (v := (.int .i64 ((w64 (a0.at_ + 1)).tmod 2))) rfl (x_rem rfl rfl (by decide)) ?_))
         refine OW.cons (OP.yes' rfl rfl hb67 (OP.val (v := (.bool (((w64 (a0.at_ + 1)).tmod 2) == 0))) rfl (x_eql rfl rfl) ?_))
         refine OV (.bool (((w64 (a0.at_ + 1)).tmod 2) == 0)) rfl (x_pickT' rfl hb67 rfl) <| OW.nil ?_
         exact ⟨((w64 (a0.at_ + 1)).tmod 2) == 0, hm, ⟨rfl, rfl, rfl, rfl, hL⟩⟩
       refine OW.cons (OP.no' rfl rfl hb67 rfl ?_)
       refine OW.cons (OP.no' rfl rfl hb67 rfl ?_)
       refine OW.cons (OP.no' rfl rfl hb67 rfl ?_)
       refine OW.cons (OP.no' rfl rfl hb67 rfl ?_)
       refine OW.cons (OP.no' rfl rfl hb67 rfl ?_)
       refine OW.cons (OP.no' rfl rfl hb67 rfl ?_)
       refine OV (.bool false) rfl (x_pickF' rfl hb67 rfl) <| OW.nil ?_
       exact ⟨false, hm, ⟨rfl, rfl, rfl, rfl, hL⟩⟩
     intro s_j2 F52 wd53 hJ hm
     unfold M.spec_l01Next_j2 at hm
     obtain ⟨f54, f55, f56, f57, hL⟩ := hJ
     refine CW.condM (t := s_j2) f57 hm (fun hb58 hm => ?_) (fun hb58 hm => ?_)
     · refine CW.draw Try_mixed ?_
       have hL := hL.call (Mod.drew _)
       refine DW.pre (fuel := 0) (fin := bma 13 8191) (C := fun w' => Mod None_ _ w') [0, 1, 2, 3, 4, 5, 6, 7, 8, 9, 10, 11, 12] (Mod.refl _ _) (by kernel_rfl) (by kernel_rfl) ?_
       refine QV (.pointer (some ⟨b1, 0, none⟩)) rfl rfl (fun w' hm' => x_mv f54) <| QV (.pointer (some ⟨b1, 0, none⟩)) rfl rfl (fun w' hm' => x_nilCheck rfl) <| QV (.pointer (some ⟨b1, 0, none⟩)) rfl rfl (fun w' hm' => x_fieldAddr (fsz := 1) 0 0 0 U90 rfl Try_T47 rfl rfl rfl) <| QV v2 rfl rfl (fun w' hm' => x_load1 U47 rfl rfl ((hL.call hm').cellB 0 rfl rfl)) <| QV (.pointer (some ⟨b1, 0, none⟩)) rfl rfl (fun w' hm' => x_mv f54) <| QV (.pointer (some ⟨b1, 0, none⟩)) rfl rfl (fun w' hm' => x_nilCheck rfl) <| QV (.pointer (some ⟨b1, 1, none⟩)) rfl rfl (fun w' hm' => x_fieldAddr (fsz := 1) 0 1 1 U90 rfl Try_T3 rfl rfl rfl) <| QV (.int .i64 (w64 (a0.at_ + 1))) rfl rfl (fun w' hm' => x_load1 U3 rfl rfl ((hL.call hm').cellB 0 rfl rfl)) <| QV (.int .i64 (w64 ((w64 (a0.at_ + 1)) - 1))) rfl rfl (fun w' hm' => x_sub rfl rfl) ?_
       obtain ⟨x59, ha60, hm⟩ := bndE hm
       obtain ⟨hz61, ha65⟩ := idxE ha60
       obtain ⟨b62, q63, hix64⟩ := rdL_ix (hL.rdZ 1 rfl h3) hz61 ha65
       refine QV (.pointer (some ⟨b62, q63, none⟩)) rfl rfl (fun w' hm' => x_ix U47 Try_T5 rfl rfl hix64) <| QV (.int .u8 (x59.toNat : Int)) rfl rfl (fun w' hm' => x_load1 U5 rfl rfl (rdF_cells ((hL.call hm').rdZ 1 rfl h3) hix64 ha65 0 _ rfl)) <| QV (.int .i64 (IntKind.i64.wrap (x59.toNat : Int))) rfl rfl (fun w' hm' => x_conv U5 U2 rfl) <| QV (.int .i64 (IntKind.i64.wrap (x59.toNat : Int))) rfl rfl (fun w' hm' => x_assign) ?_
       refine QW.nil ?_
       intro wd66 hmod
       have hL := hL.call hmod
       refine DW.done (by kernel_rfl) ?_
       exact ⟨(w64 (a0.at_ + 1), IntKind.i64.wrap (x59.toNat : Int)), hm, ⟨f55, rfl, hL⟩⟩
     refine CW.skip ?_
     exact ⟨(w64 (a0.at_ + 1), w64 ((w64 (((w64 ((w64 (a0.seed * 48271)) + 23)).tmod 2147483647).tdiv 17)) + (IntKind.i64.wrap (x42.toNat : Int)))), hm, ⟨f55, f56, hL⟩⟩
   refine CW.skip ?_
   exact ⟨(a0.at_, w64 (((w64 ((w64 (a0.seed * 48271)) + 23)).tmod 2147483647).tdiv 17)), hm, ⟨rfl, rfl, hL⟩⟩
 intro s_j1 F35 wd36 hJ hm
 unfold M.spec_l01Next_j1 at hm
 obtain ⟨f37, f38, hL⟩ := hJ
 refine CSR <| OV (.int .i64 s_j1.2) rfl (x_mv f38) <| OV (.int .i64 a1) rfl (x_mv f37) ?_
 obtain ⟨hc39, hm⟩ := chkE hm
 refine OV (.int .i64 (s_j1.2.tmod a1)) rfl (x_rem rfl rfl hc39) <| OV (.int .i64 (s_j1.2.tmod a1)) rfl (x_assign) <| OW.nil <| CW.ret ?_
 obtain rfl := Option.some.inj hm
 exact RR1 rfl rfl ⟨rfl, hL.mutOut 1 rfl [0] (by decide) (by decide) rfl⟩

theorem M.spec_l26DrawBoats_ok (w0 : World) {b1 : Nat} {v2 : Value} (a0 : Src) (h3 : rdL (fun k => k < w0.heap.size ∧ ¬ (Ent.blk b1 90 #[v2, .int .i64 a0.at_, .int .i64 a0.seed]).S k) w0 v2 a0.code) (he4 : (Ent.blk b1 90 #[v2, .int .i64 a0.at_, .int .i64 a0.seed]).H w0) {r : (Int) × (Int × Int)} (hm : M.spec_l26DrawBoats a0 = some r) :
    Calls Try.prog 120 #[(.pointer (some ⟨b1, 0, none⟩))] w0 fun e w' => e = .returned (.int .i64 r.1) ∧ Mut w0 w' (Ent.blk b1 90 #[v2, .int .i64 a0.at_, .int .i64 a0.seed]).S [Ent.blk b1 90 #[v2, .int .i64 r.2.1, .int .i64 r.2.2]] := by
 unfold M.spec_l26DrawBoats at hm
 refine calls_CW (args := [(.pointer (some ⟨b1, 0, none⟩))]) Try.func120 rfl rfl rfl ?_
 have hL := Hp.startIO he4
 refine CSR <| OV (.int .i64 0) rfl (x_assign) <| ONS <| CSR <| OV (.pointer (some ⟨b1, 0, none⟩)) rfl (x_move) ?_
 obtain ⟨x5, hx6, hm⟩ := bndE hm
 refine OW.cons (OP.call rfl (x_call (vs := [(.pointer (some ⟨b1, 0, none⟩)), (.int .i64 24)]) Try_C86 ⟨rfl, rfl, trivial⟩) (M.spec_l01Next_ok _ (Src.mk a0.code a0.at_ a0.seed) (hL.exZ 1 0 (by decide) rfl rfl h3) (hL.get 0 rfl) 24 hx6) ?_)
 rintro e7 wd8 ⟨rfl, hF9⟩
 refine ⟨_, rfl, ?_⟩
 have hL := hL.mut 0 rfl hF9
 simp only [lA, lB, lC, lD] at hL
 refine OV (.bool (x5.1 == 0)) rfl (x_eql rfl rfl) <| OW.nil ?_
 refine CW.condM (t := x5.1 == 0) rfl hm (fun hb10 hm => ?_) (fun hb10 hm => ?_)
 · refine CSR <| OV (.pointer (some ⟨b1, 0, none⟩)) rfl (x_move) ?_
   obtain ⟨x11, hx12, hm⟩ := bndE hm
   refine OW.cons (OP.call rfl (x_call (vs := [(.pointer (some ⟨b1, 0, none⟩)), (.int .i64 2)]) Try_C86 ⟨rfl, rfl, trivial⟩) (M.spec_l01Next_ok _ (Src.mk a0.code x5.2.1 x5.2.2) (hL.exZ 1 0 (by decide) rfl rfl h3) (hL.get 0 rfl) 2 hx12) ?_)
   rintro e13 wd14 ⟨rfl, hF15⟩
   refine ⟨_, rfl, ?_⟩
   have hL := hL.mut 0 rfl hF15
   simp only [lA, lB, lC, lD] at hL
   refine OV (.int .i64 (w64 (16 * x11.1))) rfl (x_mul rfl rfl) <| OV (.int .i64 (w64 (16 * x11.1))) rfl (x_assign) <| OW.nil <| CW.ret ?_
   obtain rfl := Option.some.inj hm
   exact RR1 rfl rfl ⟨rfl, hL.mutOut 1 rfl [0] (by decide) (by decide) rfl⟩
 refine CW.skip <| CSR <| OV (.pointer (some ⟨b1, 0, none⟩)) rfl (x_move) ?_
 obtain ⟨x16, hx17, hm⟩ := bndE hm
 refine OW.cons (OP.call rfl (x_call (vs := [(.pointer (some ⟨b1, 0, none⟩)), (.int .i64 6)]) Try_C86 ⟨rfl, rfl, trivial⟩) (M.spec_l01Next_ok _ (Src.mk a0.code x5.2.1 x5.2.2) (hL.exZ 1 0 (by decide) rfl rfl h3) (hL.get 0 rfl) 6 hx17) ?_)
 rintro e18 wd19 ⟨rfl, hF20⟩
 refine ⟨_, rfl, ?_⟩
 have hL := hL.mut 0 rfl hF20
 simp only [lA, lB, lC, lD] at hL
 refine OV (.int .i64 (w64 (1 + x16.1))) rfl (x_add rfl rfl) <| OV (.int .i64 (w64 (1 + x16.1))) rfl (x_assign) <| OW.nil <| CW.ret ?_
 obtain rfl := Option.some.inj hm
 exact RR1 rfl rfl ⟨rfl, hL.mutOut 1 rfl [0] (by decide) (by decide) rfl⟩

theorem M.spec_l26DrawRace_ok (w0 : World) {b1 : Nat} {v2 : Value} (a0 : Src) (h3 : rdL (fun k => k < w0.heap.size ∧ ¬ (Ent.blk b1 90 #[v2, .int .i64 a0.at_, .int .i64 a0.seed]).S k) w0 v2 a0.code) (he4 : (Ent.blk b1 90 #[v2, .int .i64 a0.at_, .int .i64 a0.seed]).H w0) (a1 : Int) {r : (Race) × (Int × Int)} (hm : M.spec_l26DrawRace a0 a1 = some r) :
    Calls Try.prog 121 #[(.pointer (some ⟨b1, 0, none⟩)), (.int .i64 a1)] w0 fun e w' => ∃ (rv0 : Value) (rS0 : Nat → Prop), e = .returned (.agg #[rv0]) ∧ Mut w0 w' (Ent.blk b1 90 #[v2, .int .i64 a0.at_, .int .i64 a0.seed]).S [Ent.blk b1 90 #[v2, .int .i64 r.2.1, .int .i64 r.2.2], Ent.own 103 rS0 rv0 r.1.Finishes] := by
 unfold M.spec_l26DrawRace at hm
 refine calls_CW (args := [(.pointer (some ⟨b1, 0, none⟩)), (.int .i64 a1)]) Try.func121 rfl rfl rfl ?_
 have hL := Hp.startIO he4
 refine CSR ?_
 refine OW.cons (S_alloc (cs := #[(.slice none 0 0)]) hL Try_T101 rfl rfl ?_)
 intro wd5 b6 hL
 refine ONR ?_
 refine OW.cons (S_lit ([] : List Finish) hL U99 Try_T103 rfl (by decide) (by first | (simp [Instr.fill, madeCells, Value.cells, ev, upd, Flat.enc, Flat.sz]; done) | rfl | kernel_rfl) rfl rfl ?_)
 intro wd7 v8 S9 hL
 refine OV v8 rfl (x_assign) <| ONS <| CSR <| OV (.int .i64 0) rfl (x_assign) <| OW.nil ?_
 obtain ⟨o112, ho113, hm⟩ := bndE hm
 refine CW.loopB (fun (s_l1 : Int × Int × (List Finish) × Int) (F : Fr) (w : World) => ∃ (v108 : Value) (S109 : Nat → Prop), F 0 = (.pointer (some ⟨b1, 0, none⟩)) ∧ F 1 = (.int .i64 a1) ∧ F 4 = (.pointer (some ⟨b6, 0, none⟩)) ∧ F 5 = v108 ∧ F 6 = (.int .i64 s_l1.2.2.2) ∧ Hp w0 [Ent.own 103 S109 v108 s_l1.2.2.1, Ent.blk b6 101 #[(.slice none 0 0)], Ent.blk b1 90 #[v2, (.int .i64 s_l1.1), (.int .i64 s_l1.2.1)], Ent.frz w0 (Ent.blk b1 90 #[v2, .int .i64 a0.at_, .int .i64 a0.seed]).S] w) (fun o => outc o (fun x => some x) (fun s => M.spec_l26DrawRace_a1 s) = some r) ho113 hm ⟨v8, S9, rfl, rfl, rfl, rfl, rfl, hL⟩ ?_ ?_
 · intro s_l1 F114 wd115 hJ hm
   have hm := outcE hm
   have hm : M.spec_l26DrawRace_a1 s_l1 = some r := hm
   unfold M.spec_l26DrawRace_a1 at hm
   obtain ⟨v108, S109, f116, f117, f118, f119, f120, hL⟩ := hJ
   refine CSR <| OV v108 rfl (x_mv f119) <| OV (.agg #[v108]) rfl (x_build Try_B101 (ps := [(0, v108)]) ⟨⟨rfl, rfl⟩, trivial⟩ (by simp [Instr.fill, cells_int, cells_bool, cells_string, cells_agg, cells_slice, cells_pointer, (rdL_cells (hL.rdO 0 rfl))])) ?_
   refine OW.cons (S_storeN (l := [v108]) (cs' := #[v108]) hL 1 rfl Try_T101 f118 rfl (List.forall_mem_cons.2 ⟨rdL_one (hL.rdO 0 rfl), (fun _ h => by cases h)⟩) rfl (Nat.le_of_ble_eq_true rfl) rfl ?_)
   intro wd121 hL
   refine OW.nil <| CW.ret ?_
   obtain rfl := Option.some.inj hm
   exact RRc rfl f118 (run_loadBlk U101 Try_T101 (hL.get 1 rfl) rfl) ⟨v108, S109, rfl, hL.mutOut 3 rfl [2, 0] (by decide) (by decide) rfl⟩
 intro s_l1 F122 wd123 t110 hJ hm hr111
 unfold M.spec_l26DrawRace_l1 at hm
 obtain ⟨v108, S109, f124, f125, f126, f127, f128, hL⟩ := hJ
 refine CW.seq <| CSR <| OV (.int .i64 s_l1.2.2.2) rfl (x_mv f128) <| OV (.int .i64 a1) rfl (x_mv f125) <| OV (.bool (decide (s_l1.2.2.2 < a1))) rfl (x_lss rfl rfl) <| OW.nil ?_
 refine CW.condM (t := decide (s_l1.2.2.2 < a1)) rfl hm (fun hb129 hm => ?_) (fun hb129 hm => ?_)
 · refine CW.skip <| CW.seq <| CW.block <| CSR <| OV (.int .i64 s_l1.2.2.2) rfl (x_mv f128) <| OV (.pointer (some ⟨b1, 0, none⟩)) rfl (x_mv f124) <| OV (.int .i64 a1) rfl (x_mv f125) <| OV (.int .i64 (w64 (2 * a1))) rfl (x_mul rfl rfl) ?_
   obtain ⟨x130, hx131, hm⟩ := bndE hm
   refine OW.cons (OP.call rfl (x_call (vs := [(.pointer (some ⟨b1, 0, none⟩)), (.int .i64 (w64 (2 * a1)))]) Try_C86 ⟨rfl, rfl, trivial⟩) (M.spec_l01Next_ok _ (Src.mk a0.code s_l1.1 s_l1.2.1) (hL.exZ 3 2 (by decide) rfl rfl h3) (hL.get 2 rfl) (w64 (2 * a1)) hx131) ?_)
   rintro e132 wd133 ⟨rfl, hF134⟩
   refine ⟨_, rfl, ?_⟩
   have hL := hL.mut 2 rfl hF134
   simp only [lA, lB, lC, lD] at hL
   refine OV (.int .i64 (w64 (1 + x130.1))) rfl (x_add rfl rfl) <| OV (.agg #[(.int .i64 s_l1.2.2.2), (.int .i64 0), (.int .i64 (w64 (1 + x130.1)))]) rfl (x_build Try_B103 (ps := [(0, (.int .i64 s_l1.2.2.2)), (2, (.int .i64 (w64 (1 + x130.1))))]) ⟨⟨rfl, rfl⟩, ⟨rfl, rfl⟩, trivial⟩ (by simp [Instr.fill, cells_int, cells_bool, cells_string, cells_agg, cells_slice, cells_pointer])) ?_
   refine OW.cons (S_alloc (cs := #[(.int .i64 0), (.int .i64 0), (.int .i64 0)]) hL Try_T103 rfl rfl ?_)
   intro wd135 b136 hL
   refine OW.cons (S_storeN (l := [(.int .i64 s_l1.2.2.2), (.int .i64 0), (.int .i64 (w64 (1 + x130.1)))]) (cs' := #[(.int .i64 s_l1.2.2.2), (.int .i64 0), (.int .i64 (w64 (1 + x130.1)))]) hL 0 rfl Try_T103 rfl rfl (List.forall_mem_cons.2 ⟨rfl, (List.forall_mem_cons.2 ⟨rfl, (List.forall_mem_cons.2 ⟨rfl, (fun _ h => by cases h)⟩)⟩)⟩) rfl (Nat.le_of_ble_eq_true rfl) rfl ?_)
   intro wd137 hL
   refine OW.nil ?_
   refine CW.seqJ (fun (s_j1 : Int × Int × Int × Int) (F : Fr) (w : World) => F 0 = (.pointer (some ⟨b1, 0, none⟩)) ∧ F 1 = (.int .i64 a1) ∧ F 4 = (.pointer (some ⟨b6, 0, none⟩)) ∧ F 5 = v108 ∧ F 6 = (.int .i64 s_l1.2.2.2) ∧ F 7 = (.pointer (some ⟨b136, 0, none⟩)) ∧ Hp w0 [Ent.blk b136 103 #[(.int .i64 s_l1.2.2.2), (.int .i64 s_j1.2.2.1), (.int .i64 s_j1.2.2.2)], Ent.own 103 S109 v108 s_l1.2.2.1, Ent.blk b6 101 #[(.slice none 0 0)], Ent.blk b1 90 #[v2, (.int .i64 s_j1.1), (.int .i64 s_j1.2.1)], Ent.frz w0 (Ent.blk b1 90 #[v2, .int .i64 a0.at_, .int .i64 a0.seed]).S] w) (fun s_j1 => M.spec_l26DrawRace_j1 s_l1 s_j1 = some t110) ?_ ?_
   · refine CSR <| OV (.pointer (some ⟨b1, 0, none⟩)) rfl (x_mv f124) ?_
     obtain ⟨x165, hx166, hm⟩ := bndE hm
     refine OW.cons (OP.call rfl (x_call (vs := [(.pointer (some ⟨b1, 0, none⟩)), (.int .i64 4)]) Try_C86 ⟨rfl, rfl, trivial⟩) (M.spec_l01Next_ok _ (Src.mk a0.code x130.2.1 x130.2.2) (hL.exZ 4 3 (by decide) rfl rfl h3) (hL.get 3 rfl) 4 hx166) ?_)
     rintro e167 wd168 ⟨rfl, hF169⟩
     refine ⟨_, rfl, ?_⟩
     have hL := hL.mut 3 rfl hF169
     simp only [lA, lB, lC, lD] at hL
     refine OV (.bool (x165.1 == 0)) rfl (x_eql rfl rfl) <| OW.nil ?_
     refine CW.condM (t := x165.1 == 0) rfl hm (fun hb170 hm => ?_) (fun hb170 hm => ?_)
     · refine CW.regionL <| OV (.int .i64 s_l1.2.2.2) rfl (x_mv f128) <| OV (.pointer (some ⟨b1, 0, none⟩)) rfl (x_mv f124) ?_
       obtain ⟨x171, hx172, hm⟩ := bndE hm
       refine OW.cons (OP.call rfl (x_call (vs := [(.pointer (some ⟨b1, 0, none⟩)), (.int .i64 9)]) Try_C86 ⟨rfl, rfl, trivial⟩) (M.spec_l01Next_ok _ (Src.mk a0.code x165.2.1 x165.2.2) (hL.exZ 4 3 (by decide) rfl rfl h3) (hL.get 3 rfl) 9 hx172) ?_)
       rintro e173 wd174 ⟨rfl, hF175⟩
       refine ⟨_, rfl, ?_⟩
       have hL := hL.mut 3 rfl hF175
       simp only [lA, lB, lC, lD] at hL
       refine OV (.int .i64 (w64 (1 + x171.1))) rfl (x_add rfl rfl) <| OV (.agg #[(.int .i64 s_l1.2.2.2), (.int .i64 (w64 (1 + x171.1))), (.int .i64 0)]) rfl (x_build Try_B103 (ps := [(0, (.int .i64 s_l1.2.2.2)), (1, (.int .i64 (w64 (1 + x171.1))))]) ⟨⟨rfl, rfl⟩, ⟨rfl, rfl⟩, trivial⟩ (by simp [Instr.fill, cells_int, cells_bool, cells_string, cells_agg, cells_slice, cells_pointer])) ?_
       refine OW.cons (S_storeN (l := [(.int .i64 s_l1.2.2.2), (.int .i64 (w64 (1 + x171.1))), (.int .i64 0)]) (cs' := #[(.int .i64 s_l1.2.2.2), (.int .i64 (w64 (1 + x171.1))), (.int .i64 0)]) hL 0 rfl Try_T103 rfl rfl (List.forall_mem_cons.2 ⟨rfl, (List.forall_mem_cons.2 ⟨rfl, (List.forall_mem_cons.2 ⟨rfl, (fun _ h => by cases h)⟩)⟩)⟩) rfl (Nat.le_of_ble_eq_true rfl) rfl ?_)
       intro wd176 hL
       refine OW.nil ?_
       exact ⟨(x171.2.1, x171.2.2, w64 (1 + x171.1), 0), hm, ⟨f124, f125, f126, f127, f128, rfl, hL⟩⟩
     refine CW.skip ?_
     exact ⟨(x165.2.1, x165.2.2, 0, w64 (1 + x130.1)), hm, ⟨f124, f125, f126, f127, f128, rfl, hL⟩⟩
   intro s_j1 F150 wd151 hJ hm
   unfold M.spec_l26DrawRace_j1 at hm
   obtain ⟨f152, f153, f154, f155, f156, f157, hL⟩ := hJ
   refine CW.regionL <| OV v108 rfl (x_mv f155) <| OV (.agg #[(.int .i64 s_l1.2.2.2), (.int .i64 s_j1.2.2.1), (.int .i64 s_j1.2.2.2)]) rfl (x_loadN (cs := [(.int .i64 s_l1.2.2.2), (.int .i64 s_j1.2.2.1), (.int .i64 s_j1.2.2.2)]) U103 Try_T103 rfl f157 (hL.cellsB 0 rfl (o := 0) (l := [(.int .i64 s_l1.2.2.2), (.int .i64 s_j1.2.2.1), (.int .i64 s_j1.2.2.2)]) (by intro j u hj; exact (by simpa using hj)))) ?_
   refine OW.cons (S_lit ([(Finish.mk s_l1.2.2.2 s_j1.2.2.1 s_j1.2.2.2)] : List Finish) hL U99 Try_T103 rfl (by decide) (by first | (simp [Instr.fill, madeCells, Value.cells, ev, upd, Flat.enc, Flat.sz]; done) | rfl | kernel_rfl) rfl rfl ?_)
   intro wd158 v159 S160 hL
   obtain ⟨hc164, hm⟩ := chkE hm
   refine OW.cons (S_append (ys := ([(Finish.mk s_l1.2.2.2 s_j1.2.2.1 s_j1.2.2.2)] : List Finish)) hL 2 rfl U99 Try_T103 rfl rfl rfl (hL.rdO 0 rfl) hc164 (by decide) rfl ?_)
   intro wd161 v162 S163 hL
   refine OV v162 rfl (x_assign) <| OW.nil <| CW.regionL <| OV (.int .i64 s_l1.2.2.2) rfl (x_mv f156) <| OV (.int .i64 (w64 (s_l1.2.2.2 + 1))) rfl (x_add rfl rfl) <| OV (.int .i64 (w64 (s_l1.2.2.2 + 1))) rfl (x_assign) <| OW.nil ?_
   have hL := hL.sel [2, 3, 4, 5] (by decide) rfl
   obtain rfl := Option.some.inj hm
   exact ⟨_, rfl, ⟨v162, S163, f152, f153, f154, rfl, rfl, hL⟩⟩
 refine CW.exit ?_
 refine XJ.hit ?_
 obtain rfl := Option.some.inj hm
 exact ⟨_, rfl, ⟨v108, S109, f124, f125, f126, f127, f128, hL⟩⟩

theorem M.spec_l26DrawSeries_ok (w0 : World) {b1 : Nat} {v2 : Value} (a0 : Src) (h3 : rdL (fun k => k < w0.heap.size ∧ ¬ (Ent.blk b1 90 #[v2, .int .i64 a0.at_, .int .i64 a0.seed]).S k) w0 v2 a0.code) (he4 : (Ent.blk b1 90 #[v2, .int .i64 a0.at_, .int .i64 a0.seed]).H w0) {r : (Series) × (Int × Int)} (hm : M.spec_l26DrawSeries a0 = some r) :
    Calls Try.prog 113 #[(.pointer (some ⟨b1, 0, none⟩))] w0 fun e w' => ∃ (rv0 : Value) (rS0 : Nat → Prop), e = .returned (.agg #[(.int .i64 r.1.Boats), (.int .i64 r.1.Scheme), rv0]) ∧ Mut w0 w' (Ent.blk b1 90 #[v2, .int .i64 a0.at_, .int .i64 a0.seed]).S [Ent.blk b1 90 #[v2, .int .i64 r.2.1, .int .i64 r.2.2], Ent.own 101 rS0 rv0 r.1.Races] := by
 unfold M.spec_l26DrawSeries at hm
 refine calls_CW (args := [(.pointer (some ⟨b1, 0, none⟩))]) Try.func113 rfl rfl rfl ?_
 have hL := Hp.startIO he4
 refine CSR ?_
 refine OW.cons (S_alloc (cs := #[(.int .i64 0), (.int .i64 0), (.slice none 0 0)]) hL Try_T97 rfl rfl ?_)
 intro wd5 b6 hL
 refine ONR <| OV (.pointer (some ⟨b1, 0, none⟩)) rfl (x_move) ?_
 obtain ⟨x7, hx8, hm⟩ := bndE hm
 refine OW.cons (OP.call rfl (x_call (vs := [(.pointer (some ⟨b1, 0, none⟩))]) Try_C120 ⟨rfl, trivial⟩) (M.spec_l26DrawBoats_ok _ (Src.mk a0.code a0.at_ a0.seed) (hL.exZ 2 1 (by decide) rfl rfl h3) (hL.get 1 rfl) hx8) ?_)
 rintro e9 wd10 ⟨rfl, hF11⟩
 refine ⟨_, rfl, ?_⟩
 have hL := hL.mut 1 rfl hF11
 simp only [lA, lB, lC, lD] at hL
 refine OV (.int .i64 x7.1) rfl (x_assign) <| ONR <| OV (.int .i64 x7.1) rfl (x_move) <| OV (.pointer (some ⟨b1, 0, none⟩)) rfl (x_move) ?_
 obtain ⟨x12, hx13, hm⟩ := bndE hm
 refine OW.cons (OP.call rfl (x_call (vs := [(.pointer (some ⟨b1, 0, none⟩)), (.int .i64 2)]) Try_C86 ⟨rfl, rfl, trivial⟩) (M.spec_l01Next_ok _ (Src.mk a0.code x7.2.1 x7.2.2) (hL.exZ 2 1 (by decide) rfl rfl h3) (hL.get 1 rfl) 2 hx13) ?_)
 rintro e14 wd15 ⟨rfl, hF16⟩
 refine ⟨_, rfl, ?_⟩
 have hL := hL.mut 1 rfl hF16
 simp only [lA, lB, lC, lD] at hL
 refine OW.cons (S_lit0 (α := Finish) Race hL U95 Try_T101 rfl ?_)
 intro wd17 v18 S19 hL
 refine OV (.agg #[(.int .i64 x7.1), (.int .i64 x12.1), v18]) rfl (x_build Try_B97 (ps := [(0, (.int .i64 x7.1)), (1, (.int .i64 x12.1)), (2, v18)]) ⟨⟨rfl, rfl⟩, ⟨rfl, rfl⟩, ⟨rfl, rfl⟩, trivial⟩ (by simp [Instr.fill, cells_int, cells_bool, cells_string, cells_agg, cells_slice, cells_pointer, (rdL_cells (hL.rdO 0 rfl))])) ?_
 refine OW.cons (S_alloc (cs := #[(.int .i64 0), (.int .i64 0), (.slice none 0 0)]) hL Try_T97 rfl rfl ?_)
 intro wd20 b21 hL
 refine OW.cons (S_storeN (l := [(.int .i64 x7.1), (.int .i64 x12.1), v18]) (cs' := #[(.int .i64 x7.1), (.int .i64 x12.1), v18]) hL 0 rfl Try_T97 rfl rfl (List.forall_mem_cons.2 ⟨rfl, (List.forall_mem_cons.2 ⟨rfl, (List.forall_mem_cons.2 ⟨rdL_one (hL.rdO 1 rfl), (fun _ h => by cases h)⟩)⟩)⟩) rfl (Nat.le_of_ble_eq_true rfl) rfl ?_)
 intro wd22 hL
 refine ONR ?_
 refine OW.cons (S_lit0 (α := Finish) Race hL U95 Try_T101 rfl ?_)
 intro wd23 v24 S25 hL
 refine OV v24 rfl (x_assign) <| ONS <| CSR <| OV (.pointer (some ⟨b1, 0, none⟩)) rfl (x_move) ?_
 obtain ⟨x26, hx27, hm⟩ := bndE hm
 refine OW.cons (OP.call rfl (x_call (vs := [(.pointer (some ⟨b1, 0, none⟩)), (.int .i64 7)]) Try_C86 ⟨rfl, rfl, trivial⟩) (M.spec_l01Next_ok _ (Src.mk a0.code x12.2.1 x12.2.2) (hL.exZ 5 4 (by decide) rfl rfl h3) (hL.get 4 rfl) 7 hx27) ?_)
 rintro e28 wd29 ⟨rfl, hF30⟩
 refine ⟨_, rfl, ?_⟩
 have hL := hL.mut 4 rfl hF30
 simp only [lA, lB, lC, lD] at hL
 refine OV (.int .i64 x26.1) rfl (x_assign) <| OW.nil ?_
 obtain ⟨o67, ho68, hm⟩ := bndE hm
 refine CW.loopB (fun (s_l1 : Int × Int × (List Race) × Int) (F : Fr) (w : World) => ∃ (v63 : Value) (S64 : Nat → Prop), F 0 = (.pointer (some ⟨b1, 0, none⟩)) ∧ F 2 = (.pointer (some ⟨b6, 0, none⟩)) ∧ F 3 = (.int .i64 x7.1) ∧ F 4 = (.pointer (some ⟨b21, 0, none⟩)) ∧ F 5 = v63 ∧ F 6 = (.int .i64 s_l1.2.2.2) ∧ Hp w0 [Ent.own 101 S64 v63 s_l1.2.2.1, Ent.blk b21 97 #[(.int .i64 x7.1), (.int .i64 x12.1), v18], Ent.own 101 S19 v18 ([] : List Race), Ent.blk b6 97 #[(.int .i64 0), (.int .i64 0), (.slice none 0 0)], Ent.blk b1 90 #[v2, (.int .i64 s_l1.1), (.int .i64 s_l1.2.1)], Ent.frz w0 (Ent.blk b1 90 #[v2, .int .i64 a0.at_, .int .i64 a0.seed]).S] w) (fun o => outc o (fun x => some x) (fun s => M.spec_l26DrawSeries_a1 a0 x7 x12 s) = some r) ho68 hm ⟨v24, S25, rfl, rfl, rfl, rfl, rfl, rfl, hL⟩ ?_ ?_
 · intro s_l1 F69 wd70 hJ hm
   have hm := outcE hm
   have hm : M.spec_l26DrawSeries_a1 a0 x7 x12 s_l1 = some r := hm
   unfold M.spec_l26DrawSeries_a1 at hm
   obtain ⟨v63, S64, f71, f72, f73, f74, f75, f76, hL⟩ := hJ
   refine CW.seqJ (fun (s_j1 : Int × Int × Int × (List Race)) (F : Fr) (w : World) => ∃ (v275 : Value) (S276 : Nat → Prop), F 2 = (.pointer (some ⟨b6, 0, none⟩)) ∧ F 4 = (.pointer (some ⟨b21, 0, none⟩)) ∧ F 5 = v275 ∧ Hp w0 [Ent.own 101 S276 v275 s_j1.2.2.2, Ent.blk b21 97 #[(.int .i64 x7.1), (.int .i64 s_j1.2.2.1), v18], Ent.own 101 S19 v18 ([] : List Race), Ent.blk b6 97 #[(.int .i64 0), (.int .i64 0), (.slice none 0 0)], Ent.blk b1 90 #[v2, (.int .i64 s_j1.1), (.int .i64 s_j1.2.1)], Ent.frz w0 (Ent.blk b1 90 #[v2, .int .i64 a0.at_, .int .i64 a0.seed]).S] w) (fun s_j1 => M.spec_l26DrawSeries_j1 x7 s_j1 = some r) ?_ ?_
   · refine CSR <| OV (.pointer (some ⟨b1, 0, none⟩)) rfl (x_mv f71) ?_
     obtain ⟨x283, hx284, hm⟩ := bndE hm
     refine OW.cons (OP.call rfl (x_call (vs := [(.pointer (some ⟨b1, 0, none⟩)), (.int .i64 30)]) Try_C86 ⟨rfl, rfl, trivial⟩) (M.spec_l01Next_ok _ (Src.mk a0.code s_l1.1 s_l1.2.1) (hL.exZ 5 4 (by decide) rfl rfl h3) (hL.get 4 rfl) 30 hx284) ?_)
     rintro e285 wd286 ⟨rfl, hF287⟩
     refine ⟨_, rfl, ?_⟩
     have hL := hL.mut 4 rfl hF287
     simp only [lA, lB, lC, lD] at hL
     refine OW.nil ?_
     refine CW.blockJ (fun (s_j2 : Int × Int × Int × (List Race)) (F : Fr) (w : World) => ∃ (v381 : Value) (S382 : Nat → Prop), F 2 = (.pointer (some ⟨b6, 0, none⟩)) ∧ F 4 = (.pointer (some ⟨b21, 0, none⟩)) ∧ F 5 = v381 ∧ Hp w0 [Ent.own 101 S382 v381 s_j2.2.2.2, Ent.blk b21 97 #[(.int .i64 x7.1), (.int .i64 s_j2.2.2.1), v18], Ent.own 101 S19 v18 ([] : List Race), Ent.blk b6 97 #[(.int .i64 0), (.int .i64 0), (.slice none 0 0)], Ent.blk b1 90 #[v2, (.int .i64 s_j2.1), (.int .i64 s_j2.2.1)], Ent.frz w0 (Ent.blk b1 90 #[v2, .int .i64 a0.at_, .int .i64 a0.seed]).S] w) (fun s_j2 => M.spec_l26DrawSeries_j2 x7 s_j2 = some r) ?_ ?_
     · refine CSR <| OV (.bool (x283.1 == 0)) rfl (x_eql rfl rfl) <| OV (.bool (x283.1 == 0)) rfl (x_assign) <| OW.nil ?_
       refine CW.condM (t := x283.1 == 0) rfl hm (fun hb388 hm => ?_) (fun hb388 hm => ?_)
       · refine CW.regionL <| OV (.pointer (some ⟨b21, 1, none⟩)) rfl (x_fieldAddr (fsz := 1) 0 1 1 U97 rfl Try_T2 rfl f74 rfl) ?_
         refine OW.cons (S_store (cs' := #[(.int .i64 x7.1), (.int .i64 2), v18]) hL 1 rfl Try_T2 rfl rfl rfl rfl rfl ?_)
         intro wd389 hL
         refine OW.nil ?_
         exact ⟨(x283.2.1, x283.2.2, 2, s_l1.2.2.1), hm, ⟨v63, S64, f72, f74, f75, hL⟩⟩
       refine CSR <| OV (.bool (x283.1 == 1)) rfl (x_eql rfl rfl) <| OV (.bool (x283.1 == 1)) rfl (x_assign) <| OW.nil ?_
       refine CW.condM (t := x283.1 == 1) rfl hm (fun hb390 hm => ?_) (fun hb390 hm => ?_)
       · refine CW.regionL <| OV v63 rfl (x_mv f75) <| OV (.pointer (some ⟨b1, 0, none⟩)) rfl (x_mv f71) <| OV (.int .i64 x7.1) rfl (x_mv f73) <| OV (.int .i64 (w64 (x7.1 + 1))) rfl (x_add rfl rfl) ?_
         obtain ⟨x391, hx392, hm⟩ := bndE hm
         refine OW.cons (OP.call rfl (x_call (vs := [(.pointer (some ⟨b1, 0, none⟩)), (.int .i64 (w64 (x7.1 + 1)))]) Try_C121 ⟨rfl, rfl, trivial⟩) (M.spec_l26DrawRace_ok _ (Src.mk a0.code x283.2.1 x283.2.2) (hL.exZ 5 4 (by decide) rfl rfl h3) (hL.get 4 rfl) (w64 (x7.1 + 1)) hx392) ?_)
         rintro e395 wd396 ⟨v394, S393, rfl, hF397⟩
         refine ⟨_, rfl, ?_⟩
         have hL := hL.mut 4 rfl hF397
         simp only [lA, lB, lC, lD] at hL
         refine OW.cons (S_lit1 (Race.mk x391.1.Finishes) rfl hL U95 Try_T101 rfl rfl ?_)
         intro wd398 v399 S400 hL
         obtain ⟨hc404, hm⟩ := chkE hm
         have hL := hL.sel [1, 0, 2, 3, 4, 5, 6] (by decide) rfl
         refine OW.cons (S_appendN Finish hL U95 Try_T101 rfl rfl rfl hc404 (by decide) rfl ?_)
         intro wd401 v402 S403 hL
         refine OV v402 rfl (x_assign) <| OW.nil ?_
         exact ⟨(x391.2.1, x391.2.2, x12.1, s_l1.2.2.1 ++ ([(Race.mk x391.1.Finishes)] : List Race)), hm, ⟨v402, S403, f72, f74, rfl, hL⟩⟩
       refine CSR <| OV (.bool (x283.1 == 2)) rfl (x_eql rfl rfl) <| OV (.bool (x283.1 == 2)) rfl (x_assign) <| OW.nil ?_
       refine CW.condM (t := x283.1 == 2) rfl hm (fun hb405 hm => ?_) (fun hb405 hm => ?_)
       · refine CW.seq ?_
         obtain ⟨o442, ho443, hm⟩ := bndE hm
         refine CW.loopB (fun (s_l2 : Int × Int × (List Race)) (F : Fr) (w : World) => ∃ (v438 : Value) (S439 : Nat → Prop), F 0 = (.pointer (some ⟨b1, 0, none⟩)) ∧ F 2 = (.pointer (some ⟨b6, 0, none⟩)) ∧ F 3 = (.int .i64 x7.1) ∧ F 4 = (.pointer (some ⟨b21, 0, none⟩)) ∧ F 5 = v438 ∧ Hp w0 [Ent.own 101 S439 v438 s_l2.2.2, Ent.blk b21 97 #[(.int .i64 x7.1), (.int .i64 x12.1), v18], Ent.own 101 S19 v18 ([] : List Race), Ent.blk b6 97 #[(.int .i64 0), (.int .i64 0), (.slice none 0 0)], Ent.blk b1 90 #[v2, (.int .i64 s_l2.1), (.int .i64 s_l2.2.1)], Ent.frz w0 (Ent.blk b1 90 #[v2, .int .i64 a0.at_, .int .i64 a0.seed]).S] w) (fun o => outc o (fun x => some x) (fun s => M.spec_l26DrawSeries_a2 a0 x7 x12 s) = some r) ho443 hm ⟨v63, S64, f71, f72, f73, f74, f75, hL⟩ ?_ ?_
         · intro s_l2 F444 wd445 hJ hm
           have hm := outcE hm
           have hm : M.spec_l26DrawSeries_a2 a0 x7 x12 s_l2 = some r := hm
           unfold M.spec_l26DrawSeries_a2 at hm
           obtain ⟨v438, S439, f446, f447, f448, f449, f450, hL⟩ := hJ
           refine CW.regionL <| OV v438 rfl (x_mv f450) <| OV (.pointer (some ⟨b1, 0, none⟩)) rfl (x_mv f446) ?_
           obtain ⟨x451, hx452, hm⟩ := bndE hm
           refine OW.cons (OP.call rfl (x_call (vs := [(.pointer (some ⟨b1, 0, none⟩)), (.int .i64 2)]) Try_C86 ⟨rfl, rfl, trivial⟩) (M.spec_l01Next_ok _ (Src.mk a0.code s_l2.1 s_l2.2.1) (hL.exZ 5 4 (by decide) rfl rfl h3) (hL.get 4 rfl) 2 hx452) ?_)
           rintro e453 wd454 ⟨rfl, hF455⟩
           refine ⟨_, rfl, ?_⟩
           have hL := hL.mut 4 rfl hF455
           simp only [lA, lB, lC, lD] at hL
           refine OV (.int .i64 (w64 (12 + x451.1))) rfl (x_add rfl rfl) ?_
           obtain ⟨hc458, hm⟩ := chkE hm
           obtain ⟨v456, hs457⟩ := subV_of (hL.rdO 0 rfl) hc458
           refine OV v456 rfl (x_slice0 U95 Try_T101 rfl rfl hs457) <| OV v456 rfl (x_assign) <| OW.nil ?_
           have hL := hL.prefix 0 rfl hs457
           exact ⟨(x451.2.1, x451.2.2, x12.1, subL s_l2.2.2 0 (w64 (12 + x451.1))), hm, ⟨v456, S439, f447, f449, rfl, hL⟩⟩
         intro s_l2 F459 wd460 t440 hJ hm hr441
         unfold M.spec_l26DrawSeries_l2 at hm
         obtain ⟨v438, S439, f461, f462, f463, f464, f465, hL⟩ := hJ
         refine CW.seq <| CSR <| OV v438 rfl (x_mv f465) <| OV (.int .i64 (s_l2.2.2.length : Int)) rfl (x_lenR U95 rfl (hL.rdO 0 rfl)) <| OV (.bool (decide ((s_l2.2.2.length : Int) < 13))) rfl (x_lss rfl rfl) <| OW.nil ?_
         refine CW.condM (t := decide ((s_l2.2.2.length : Int) < 13)) rfl hm (fun hb466 hm => ?_) (fun hb466 hm => ?_)
         · refine CW.skip <| CW.block <| CW.regionL <| OV v438 rfl (x_mv f465) <| OV (.pointer (some ⟨b1, 0, none⟩)) rfl (x_mv f461) <| OV (.int .i64 x7.1) rfl (x_mv f463) ?_
           obtain ⟨x467, hx468, hm⟩ := bndE hm
           refine OW.cons (OP.call rfl (x_call (vs := [(.pointer (some ⟨b1, 0, none⟩)), (.int .i64 x7.1)]) Try_C121 ⟨rfl, rfl, trivial⟩) (M.spec_l26DrawRace_ok _ (Src.mk a0.code s_l2.1 s_l2.2.1) (hL.exZ 5 4 (by decide) rfl rfl h3) (hL.get 4 rfl) x7.1 hx468) ?_)
           rintro e471 wd472 ⟨v470, S469, rfl, hF473⟩
           refine ⟨_, rfl, ?_⟩
           have hL := hL.mut 4 rfl hF473
           simp only [lA, lB, lC, lD] at hL
           refine OW.cons (S_lit1 (Race.mk x467.1.Finishes) rfl hL U95 Try_T101 rfl rfl ?_)
           intro wd474 v475 S476 hL
           obtain ⟨hc480, hm⟩ := chkE hm
           have hL := hL.sel [1, 0, 2, 3, 4, 5, 6] (by decide) rfl
           refine OW.cons (S_appendN Finish hL U95 Try_T101 rfl rfl rfl hc480 (by decide) rfl ?_)
           intro wd477 v478 S479 hL
           refine OV v478 rfl (x_assign) <| OW.nil ?_
           obtain rfl := Option.some.inj hm
           exact ⟨_, rfl, ⟨v478, S479, f461, f462, f463, f464, rfl, hL⟩⟩
         refine CW.exit ?_
         refine XJ.hit ?_
         obtain rfl := Option.some.inj hm
         exact ⟨_, rfl, ⟨v438, S439, f461, f462, f463, f464, f465, hL⟩⟩
       refine CW.skip ?_
       exact ⟨(x283.2.1, x283.2.2, x12.1, s_l1.2.2.1), hm, ⟨v63, S64, f72, f74, f75, hL⟩⟩
     intro s_j2 F383 wd384 hJ hm
     unfold M.spec_l26DrawSeries_j2 at hm
     obtain ⟨v381, S382, f385, f386, f387, hL⟩ := hJ
     exact ⟨(s_j2.1, s_j2.2.1, s_j2.2.2.1, s_j2.2.2.2), hm, ⟨v381, S382, f385, f386, f387, hL⟩⟩
   intro s_j1 F277 wd278 hJ hm
   unfold M.spec_l26DrawSeries_j1 at hm
   obtain ⟨v275, S276, f279, f280, f281, hL⟩ := hJ
   refine CSR <| OV (.pointer (some ⟨b21, 0, none⟩)) rfl (x_fieldAddr (fsz := 1) 0 0 0 U97 rfl Try_T2 rfl f280 rfl) <| OV (.int .i64 x7.1) rfl (x_load1 U2 rfl rfl (hL.cellB 1 rfl rfl)) <| OV (.pointer (some ⟨b21, 1, none⟩)) rfl (x_fieldAddr (fsz := 1) 0 1 1 U97 rfl Try_T2 rfl f280 rfl) <| OV (.int .i64 s_j1.2.2.1) rfl (x_load1 U2 rfl rfl (hL.cellB 1 rfl rfl)) <| OV v275 rfl (x_mv f281) <| OV (.agg #[(.int .i64 x7.1), (.int .i64 s_j1.2.2.1), v275]) rfl (x_build Try_B97 (ps := [(0, (.int .i64 x7.1)), (1, (.int .i64 s_j1.2.2.1)), (2, v275)]) ⟨⟨rfl, rfl⟩, ⟨rfl, rfl⟩, ⟨rfl, rfl⟩, trivial⟩ (by simp [Instr.fill, cells_int, cells_bool, cells_string, cells_agg, cells_slice, cells_pointer, (rdL_cells (hL.rdO 0 rfl))])) ?_
   refine OW.cons (S_storeN (l := [(.int .i64 x7.1), (.int .i64 s_j1.2.2.1), v275]) (cs' := #[(.int .i64 x7.1), (.int .i64 s_j1.2.2.1), v275]) hL 3 rfl Try_T97 f279 rfl (List.forall_mem_cons.2 ⟨rfl, (List.forall_mem_cons.2 ⟨rfl, (List.forall_mem_cons.2 ⟨rdL_one (hL.rdO 0 rfl), (fun _ h => by cases h)⟩)⟩)⟩) rfl (Nat.le_of_ble_eq_true rfl) rfl ?_)
   intro wd282 hL
   refine OW.nil <| CW.ret ?_
   obtain rfl := Option.some.inj hm
   exact RRc rfl f279 (run_loadBlk U97 Try_T97 (hL.get 3 rfl) rfl) ⟨v275, S276, rfl, hL.mutOut 5 rfl [4, 0] (by decide) (by decide) rfl⟩
 intro s_l1 F481 wd482 t65 hJ hm hr66
 unfold M.spec_l26DrawSeries_l1 at hm
 obtain ⟨v63, S64, f483, f484, f485, f486, f487, f488, hL⟩ := hJ
 refine CW.seq <| CSR <| OV (.int .i64 s_l1.2.2.2) rfl (x_mv f488) <| OV (.bool (decide (0 < s_l1.2.2.2))) rfl (x_gtr rfl rfl) <| OW.nil ?_
 refine CW.condM (t := decide (0 < s_l1.2.2.2)) rfl hm (fun hb489 hm => ?_) (fun hb489 hm => ?_)
 · refine CW.skip <| CW.seq <| CW.block <| CW.regionL <| OV v63 rfl (x_mv f487) <| OV (.pointer (some ⟨b1, 0, none⟩)) rfl (x_mv f483) <| OV (.int .i64 x7.1) rfl (x_mv f485) ?_
   obtain ⟨x490, hx491, hm⟩ := bndE hm
   refine OW.cons (OP.call rfl (x_call (vs := [(.pointer (some ⟨b1, 0, none⟩)), (.int .i64 x7.1)]) Try_C121 ⟨rfl, rfl, trivial⟩) (M.spec_l26DrawRace_ok _ (Src.mk a0.code s_l1.1 s_l1.2.1) (hL.exZ 5 4 (by decide) rfl rfl h3) (hL.get 4 rfl) x7.1 hx491) ?_)
   rintro e494 wd495 ⟨v493, S492, rfl, hF496⟩
   refine ⟨_, rfl, ?_⟩
   have hL := hL.mut 4 rfl hF496
   simp only [lA, lB, lC, lD] at hL
   refine OW.cons (S_lit1 (Race.mk x490.1.Finishes) rfl hL U95 Try_T101 rfl rfl ?_)
   intro wd497 v498 S499 hL
   obtain ⟨hc503, hm⟩ := chkE hm
   have hL := hL.sel [1, 0, 2, 3, 4, 5, 6] (by decide) rfl
   refine OW.cons (S_appendN Finish hL U95 Try_T101 rfl rfl rfl hc503 (by decide) rfl ?_)
   intro wd500 v501 S502 hL
   refine OV v501 rfl (x_assign) <| OW.nil <| CW.regionL <| OV (.int .i64 s_l1.2.2.2) rfl (x_mv f488) <| OV (.int .i64 (w64 (s_l1.2.2.2 - 1))) rfl (x_sub rfl rfl) <| OV (.int .i64 (w64 (s_l1.2.2.2 - 1))) rfl (x_assign) <| OW.nil ?_
   obtain rfl := Option.some.inj hm
   exact ⟨_, rfl, ⟨v501, S502, f483, f484, f485, f486, rfl, rfl, hL⟩⟩
 refine CW.exit ?_
 refine XJ.hit ?_
 obtain rfl := Option.some.inj hm
 exact ⟨_, rfl, ⟨v63, S64, f483, f484, f485, f486, f487, f488, hL⟩⟩

theorem M.spec_l26Race_ok (w0 : World) (a0 : Int) (a1 : Race) {v1 : Value} (h2 : rdL (· < w0.heap.size) w0 v1 a1.Finishes) {r : Bool} (hm : M.spec_l26Race a0 a1 = some r) :
    Calls Try.prog 136 #[(.int .i64 a0), (.agg #[v1])] w0 fun e w' => e = .returned (.bool r) ∧ Fresh w0 w' [] := by
 unfold M.spec_l26Race at hm
 refine calls_CW (args := [(.int .i64 a0), (.agg #[v1])]) Try.func136 rfl rfl rfl ?_
 have hL := Hp.start w0
 refine CSR ?_
 refine OW.cons (S_box (cs := #[v1]) hL rfl rfl rfl ?_)
 intro wd3 b4 hL
 refine OV (.bool false) rfl (x_assign) <| ONS <| CSR <| OV (.pointer (some ⟨b4, 0, none⟩)) rfl (x_fieldAddr (fsz := 1) 0 0 0 U101 rfl Try_T99 rfl rfl rfl) <| OV v1 rfl (x_load1 U99 rfl rfl (hL.cellB 0 rfl rfl)) <| OV (.int .i64 (a1.Finishes.length : Int)) rfl (x_lenR U99 rfl (hL.rdS 1 rfl h2)) <| OV (.int .i64 a0) rfl (x_move) <| OV (.bool ((a1.Finishes.length : Int) != a0)) rfl (x_neq rfl rfl) <| OW.nil ?_
 refine CW.condM (t := (a1.Finishes.length : Int) != a0) rfl hm (fun hb5 hm => ?_) (fun hb5 hm => ?_)
 · refine CSR <| OV (.bool false) rfl (x_assign) <| OW.nil <| CW.ret ?_
   obtain rfl := Option.some.inj hm
   exact RR1 rfl rfl ⟨rfl, hL.fresh 1 rfl [] (by decide) (by decide) rfl⟩
 refine CW.skip <| CW.seq <| CSR <| OV (.int .i64 0) rfl (x_assign) <| OW.nil ?_
 obtain ⟨o116, ho117, hm⟩ := bndE hm
 refine CW.loopB (fun (s_l1 : Int) (F : Fr) (w : World) => F 3 = (.pointer (some ⟨b4, 0, none⟩)) ∧ F 5 = (.int .i64 s_l1) ∧ Hp w0 [Ent.blk b4 101 #[v1], Ent.snap w0 w0.heap.size] w) (fun o => outc o (fun x => some x) (fun s => M.spec_l26Race_a1 s) = some r) ho117 hm ⟨rfl, rfl, hL⟩ ?_ ?_
 · intro s_l1 F118 wd119 hJ hm
   have hm := outcE hm
   have hm : M.spec_l26Race_a1 s_l1 = some r := hm
   unfold M.spec_l26Race_a1 at hm
   obtain ⟨f120, f121, hL⟩ := hJ
   refine CSR <| OV (.bool true) rfl (x_assign) <| OW.nil <| CW.ret ?_
   obtain rfl := Option.some.inj hm
   exact RR1 rfl rfl ⟨rfl, hL.fresh 1 rfl [] (by decide) (by decide) rfl⟩
 intro s_l1 F122 wd123 t114 hJ hm hr115
 unfold M.spec_l26Race_l1 at hm
 obtain ⟨f124, f125, hL⟩ := hJ
 refine CW.seq <| CSR <| OV (.int .i64 s_l1) rfl (x_mv f125) <| OV (.pointer (some ⟨b4, 0, none⟩)) rfl (x_fieldAddr (fsz := 1) 0 0 0 U101 rfl Try_T99 rfl f124 rfl) <| OV v1 rfl (x_load1 U99 rfl rfl (hL.cellB 0 rfl rfl)) <| OV (.int .i64 (a1.Finishes.length : Int)) rfl (x_lenR U99 rfl (hL.rdS 1 rfl h2)) <| OV (.bool (decide (s_l1 < (a1.Finishes.length : Int)))) rfl (x_lss rfl rfl) <| OW.nil ?_
 refine CW.condM (t := decide (s_l1 < (a1.Finishes.length : Int))) rfl hm (fun hb126 hm => ?_) (fun hb126 hm => ?_)
 · refine CW.skip <| CW.seq <| CW.block <| CSR <| OV (.pointer (some ⟨b4, 0, none⟩)) rfl (x_fieldAddr (fsz := 1) 0 0 0 U101 rfl Try_T99 rfl f124 rfl) <| OV v1 rfl (x_load1 U99 rfl rfl (hL.cellB 0 rfl rfl)) <| OV (.int .i64 s_l1) rfl (x_mv f125) ?_
   obtain ⟨x127, ha128, hm⟩ := bndE hm
   obtain ⟨hz129, ha133⟩ := idxE ha128
   obtain ⟨b130, q131, hix132⟩ := rdL_ix (hL.rdS 1 rfl h2) hz129 ha133
   refine OV (.pointer (some ⟨b130, q131, none⟩)) rfl (x_ix U99 Try_T103 rfl rfl hix132) <| OV (.agg #[(.int .i64 x127.Boat), (.int .i64 x127.Code), (.int .i64 x127.Time)]) rfl (x_loadN (cs := [(.int .i64 x127.Boat), (.int .i64 x127.Code), (.int .i64 x127.Time)]) U103 Try_T103 rfl rfl (rdF_cells (hL.rdS 1 rfl h2) hix132 ha133)) ?_
   refine OW.cons (S_alloc (cs := #[(.int .i64 0), (.int .i64 0), (.int .i64 0)]) hL Try_T103 rfl rfl ?_)
   intro wd134 b135 hL
   refine OW.cons (S_storeN (l := [(.int .i64 x127.Boat), (.int .i64 x127.Code), (.int .i64 x127.Time)]) (cs' := #[(.int .i64 x127.Boat), (.int .i64 x127.Code), (.int .i64 x127.Time)]) hL 0 rfl Try_T103 rfl rfl (List.forall_mem_cons.2 ⟨rfl, (List.forall_mem_cons.2 ⟨rfl, (List.forall_mem_cons.2 ⟨rfl, (fun _ h => by cases h)⟩)⟩)⟩) rfl (Nat.le_of_ble_eq_true rfl) rfl ?_)
   intro wd136 hL
   refine ONS ?_
   refine CW.seqJ (fun (s_j1 : Bool) (F : Fr) (w : World) => F 3 = (.pointer (some ⟨b4, 0, none⟩)) ∧ F 5 = (.int .i64 s_l1) ∧ F 6 = (.pointer (some ⟨b135, 0, none⟩)) ∧ F 33 = (.bool s_j1) ∧ Hp w0 [Ent.blk b135 103 #[(.int .i64 x127.Boat), (.int .i64 x127.Code), (.int .i64 x127.Time)], Ent.blk b4 101 #[v1], Ent.snap w0 w0.heap.size] w) (fun s_j1 => M.spec_l26Race_j1 s_l1 x127 s_j1 = some t114) ?_ ?_
   · refine CW.regionL <| OV (.pointer (some ⟨b135, 0, none⟩)) rfl (x_fieldAddr (fsz := 1) 0 0 0 U103 rfl Try_T2 rfl rfl rfl) <| OV (.int .i64 x127.Boat) rfl (x_load1 U2 rfl rfl (hL.cellB 0 rfl rfl)) <| OV (.int .i64 s_l1) rfl (x_mv f125) <| OV (.bool (x127.Boat != s_l1)) rfl (x_neq rfl rfl) <| OV (.bool (x127.Boat != s_l1)) rfl (x_move) ?_
     refine ifB_elim hm (fun hb174 hm => ?_) (fun hb174 hm => ?_)
     · refine OW.cons (OP.no' rfl rfl hb174 rfl ?_)
       refine OW.cons (OP.no' rfl rfl hb174 rfl ?_)
       refine OW.cons (OP.no' rfl rfl hb174 rfl ?_)
       refine OW.cons (OP.no' rfl rfl hb174 rfl ?_)
       refine OV (.bool true) rfl (x_pickT' rfl hb174 rfl) <| OW.nil ?_
       exact ⟨true, hm, ⟨f124, f125, rfl, rfl, hL⟩⟩
     refine OW.cons (OP.yes' rfl rfl hb174 (OP.val (v := (.pointer (some ⟨b135, 1, none⟩))) rfl (x_fieldAddr (fsz := 1) 0 1 1 U103 rfl Try_T2 rfl rfl rfl) ?_))
     refine OW.cons (OP.yes' rfl rfl hb174 (OP.val (v := (.int .i64 x127.Code)) rfl (x_load1 U2 rfl rfl (hL.cellB 0 rfl rfl)) ?_))
     obtain ⟨x175, hx176, hm⟩ := bndE hm
     refine OW.cons (OP.yes' rfl rfl hb174 (OP.call rfl (x_call (vs := [(.int .i64 x127.Code)]) Try_C109 ⟨rfl, trivial⟩) (M.spec_l26Code_ok _ x127.Code hx176) ?_))
     rintro e177 wd178 ⟨rfl, hF179⟩
     refine ⟨_, rfl, ?_⟩
     have hL := hL.pushAll hF179
     simp only [lA, lB, lC, lD] at hL
     refine OW.cons (OP.yes' rfl rfl hb174 (OP.val (v := (.bool (!x175))) rfl (x_not rfl) ?_))
     refine OV (.bool (!x175)) rfl (x_pickF' rfl hb174 rfl) <| OW.nil ?_
     exact ⟨!x175, hm, ⟨f124, f125, rfl, rfl, hL⟩⟩
   intro s_j1 F143 wd144 hJ hm
   unfold M.spec_l26Race_j1 at hm
   obtain ⟨f145, f146, f147, f148, hL⟩ := hJ
   refine CW.condM (t := s_j1) f148 hm (fun hb149 hm => ?_) (fun hb149 hm => ?_)
   · refine CSR <| OV (.bool false) rfl (x_assign) <| OW.nil <| CW.ret ?_
     obtain rfl := Option.some.inj hm
     have hm := hr115 _ rfl
     obtain rfl := Option.some.inj hm
     exact RR1 rfl rfl ⟨rfl, hL.fresh 2 rfl [] (by decide) (by decide) rfl⟩
   refine CW.skip ?_
   refine CW.seqJ (fun (s_j2 : Bool) (F : Fr) (w : World) => F 3 = (.pointer (some ⟨b4, 0, none⟩)) ∧ F 5 = (.int .i64 s_l1) ∧ F 52 = (.bool s_j2) ∧ Hp w0 [Ent.blk b135 103 #[(.int .i64 x127.Boat), (.int .i64 x127.Code), (.int .i64 x127.Time)], Ent.blk b4 101 #[v1], Ent.snap w0 w0.heap.size] w) (fun s_j2 => M.spec_l26Race_j2 s_l1 s_j2 = some t114) ?_ ?_
   · refine CW.regionL <| OV (.pointer (some ⟨b135, 1, none⟩)) rfl (x_fieldAddr (fsz := 1) 0 1 1 U103 rfl Try_T2 rfl f147 rfl) <| OV (.int .i64 x127.Code) rfl (x_load1 U2 rfl rfl (hL.cellB 0 rfl rfl)) <| OV (.bool (x127.Code == 0)) rfl (x_eql rfl rfl) <| OV (.bool (x127.Code == 0)) rfl (x_move) ?_
     refine ifB_elim hm (fun hb165 hm => ?_) (fun hb165 hm => ?_)
     · refine OW.cons (OP.yes' rfl rfl hb165 (OP.val (v := (.pointer (some ⟨b135, 2, none⟩))) rfl (x_fieldAddr (fsz := 1) 0 2 2 U103 rfl Try_T2 rfl f147 rfl) ?_))
       refine OW.cons (OP.yes' rfl rfl hb165 (OP.val (v := (.int .i64 x127.Time)) rfl (x_load1 U2 rfl rfl (hL.cellB 0 rfl rfl)) ?_))
       obtain ⟨x166, hx167, hm⟩ := bndE hm
       refine OW.cons (OP.yes' rfl rfl hb165 (OP.call rfl (x_call (vs := [(.int .i64 x127.Time), (.int .i64 1), (.int .i64 1000000000)]) Try_C88 ⟨rfl, rfl, rfl, trivial⟩) (M.spec_l01In_ok _ x127.Time 1 1000000000 hx167) ?_))
       rintro e168 wd169 ⟨rfl, hF170⟩
       refine ⟨_, rfl, ?_⟩
       have hL := hL.pushAll hF170
       simp only [lA, lB, lC, lD] at hL
       refine OW.cons (OP.yes' rfl rfl hb165 (OP.val (v := (.bool (!x166))) rfl (x_not rfl) ?_))
       refine OV (.bool (!x166)) rfl (x_pickT' rfl hb165 rfl) <| OV (.bool (!x166)) rfl (x_move) ?_
       refine ifB_elim hm (fun hb171 hm => ?_) (fun hb171 hm => ?_)
       · refine OW.cons (OP.no' rfl rfl hb171 rfl ?_)
         refine OW.cons (OP.no' rfl rfl hb171 rfl ?_)
         refine OW.cons (OP.no' rfl rfl hb171 rfl ?_)
         refine OW.cons (OP.no' rfl rfl hb171 rfl ?_)
         refine OW.cons (OP.noU rfl rfl rfl ?_)
         refine OW.cons (OP.noU rfl rfl rfl ?_)
         refine OW.cons (OP.noU rfl rfl rfl ?_)
         refine OW.cons (OP.no' rfl rfl hb171 rfl ?_)
         refine OV (.bool true) rfl (x_pickT' rfl hb171 rfl) <| OW.nil ?_
         exact ⟨true, hm, ⟨f145, f146, rfl, hL⟩⟩
       refine OW.cons (OP.yes' rfl rfl hb171 (OP.val (v := (.pointer (some ⟨b135, 1, none⟩))) rfl (x_fieldAddr (fsz := 1) 0 1 1 U103 rfl Try_T2 rfl f147 rfl) ?_))
       refine OW.cons (OP.yes' rfl rfl hb171 (OP.val (v := (.int .i64 x127.Code)) rfl (x_load1 U2 rfl rfl (hL.cellB 0 rfl rfl)) ?_))
       refine OW.cons (OP.yes' rfl rfl hb171 (OP.val (v := (.bool (x127.Code != 0))) rfl (x_neq rfl rfl) ?_))
       refine OW.cons (OP.yes' rfl rfl hb171 (OP.val (v := (.bool (x127.Code != 0))) rfl (x_move) ?_))
       refine ifB_elim hm (fun hb172 hm => ?_) (fun hb172 hm => ?_)
       · refine OW.cons (OP.yes' rfl rfl hb172 (OP.val (v := (.pointer (some ⟨b135, 2, none⟩))) rfl (x_fieldAddr (fsz := 1) 0 2 2 U103 rfl Try_T2 rfl f147 rfl) ?_))
         refine OW.cons (OP.yes' rfl rfl hb172 (OP.val (v := (.int .i64 x127.Time)) rfl (x_load1 U2 rfl rfl (hL.cellB 0 rfl rfl)) ?_))
         refine OW.cons (OP.yes' rfl rfl hb172 (OP.val (v := (.bool (x127.Time != 0))) rfl (x_neq rfl rfl) ?_))
         refine OW.cons (OP.yes' rfl rfl hb171 (OP.val (v := (.bool (x127.Time != 0))) rfl (x_pickT' rfl hb172 rfl) ?_))
         refine OV (.bool (x127.Time != 0)) rfl (x_pickF' rfl hb171 rfl) <| OW.nil ?_
         exact ⟨x127.Time != 0, hm, ⟨f145, f146, rfl, hL⟩⟩
       refine OW.cons (OP.no' rfl rfl hb172 rfl ?_)
       refine OW.cons (OP.no' rfl rfl hb172 rfl ?_)
       refine OW.cons (OP.no' rfl rfl hb172 rfl ?_)
       refine OW.cons (OP.yes' rfl rfl hb171 (OP.val (v := (.bool false)) rfl (x_pickF' rfl hb172 rfl) ?_))
       refine OV (.bool false) rfl (x_pickF' rfl hb171 rfl) <| OW.nil ?_
       exact ⟨false, hm, ⟨f145, f146, rfl, hL⟩⟩
     refine OW.cons (OP.no' rfl rfl hb165 rfl ?_)
     refine OW.cons (OP.no' rfl rfl hb165 rfl ?_)
     refine OW.cons (OP.no' rfl rfl hb165 rfl ?_)
     refine OW.cons (OP.no' rfl rfl hb165 rfl ?_)
     refine OV (.bool false) rfl (x_pickF' rfl hb165 rfl) <| OV (.bool false) rfl (x_move) ?_
     refine OW.cons (OP.yes' rfl rfl rfl (OP.val (v := (.pointer (some ⟨b135, 1, none⟩))) rfl (x_fieldAddr (fsz := 1) 0 1 1 U103 rfl Try_T2 rfl f147 rfl) ?_))
     refine OW.cons (OP.yes' rfl rfl rfl (OP.val (v := (.int .i64 x127.Code)) rfl (x_load1 U2 rfl rfl (hL.cellB 0 rfl rfl)) ?_))
     refine OW.cons (OP.yes' rfl rfl rfl (OP.val (v := (.bool (x127.Code != 0))) rfl (x_neq rfl rfl) ?_))
     refine OW.cons (OP.yes' rfl rfl rfl (OP.val (v := (.bool (x127.Code != 0))) rfl (x_move) ?_))
     refine ifB_elim hm (fun hb173 hm => ?_) (fun hb173 hm => ?_)
     · refine OW.cons (OP.yes' rfl rfl hb173 (OP.val (v := (.pointer (some ⟨b135, 2, none⟩))) rfl (x_fieldAddr (fsz := 1) 0 2 2 U103 rfl Try_T2 rfl f147 rfl) ?_))
       refine OW.cons (OP.yes' rfl rfl hb173 (OP.val (v := (.int .i64 x127.Time)) rfl (x_load1 U2 rfl rfl (hL.cellB 0 rfl rfl)) ?_))
       refine OW.cons (OP.yes' rfl rfl hb173 (OP.val (v := (.bool (x127.Time != 0))) rfl (x_neq rfl rfl) ?_))
       refine OW.cons (OP.yes' rfl rfl rfl (OP.val (v := (.bool (x127.Time != 0))) rfl (x_pickT' rfl hb173 rfl) ?_))
       refine OV (.bool (x127.Time != 0)) rfl (x_pickF' rfl rfl rfl) <| OW.nil ?_
       exact ⟨x127.Time != 0, hm, ⟨f145, f146, rfl, hL⟩⟩
     refine OW.cons (OP.no' rfl rfl hb173 rfl ?_)
     refine OW.cons (OP.no' rfl rfl hb173 rfl ?_)
     refine OW.cons (OP.no' rfl rfl hb173 rfl ?_)
     refine OW.cons (OP.yes' rfl rfl rfl (OP.val (v := (.bool false)) rfl (x_pickF' rfl hb173 rfl) ?_))
     refine OV (.bool false) rfl (x_pickF' rfl rfl rfl) <| OW.nil ?_
     exact ⟨false, hm, ⟨f145, f146, rfl, hL⟩⟩
   intro s_j2 F159 wd160 hJ hm
   unfold M.spec_l26Race_j2 at hm
   obtain ⟨f161, f162, f163, hL⟩ := hJ
   refine CW.condM (t := s_j2) f163 hm (fun hb164 hm => ?_) (fun hb164 hm => ?_)
   · refine CSR <| OV (.bool false) rfl (x_assign) <| OW.nil <| CW.ret ?_
     obtain rfl := Option.some.inj hm
     have hm := hr115 _ rfl
     obtain rfl := Option.some.inj hm
     exact RR1 rfl rfl ⟨rfl, hL.fresh 2 rfl [] (by decide) (by decide) rfl⟩
   refine CW.skip <| CW.regionL <| OV (.int .i64 s_l1) rfl (x_mv f162) <| OV (.int .i64 (w64 (s_l1 + 1))) rfl (x_add rfl rfl) <| OV (.int .i64 (w64 (s_l1 + 1))) rfl (x_assign) <| OW.nil ?_
   have hL := hL.sel [1, 2] (by decide) rfl
   obtain rfl := Option.some.inj hm
   exact ⟨_, rfl, ⟨f161, rfl, hL⟩⟩
 refine CW.exit ?_
 refine XJ.hit ?_
 obtain rfl := Option.some.inj hm
 exact ⟨_, rfl, ⟨f124, f125, hL⟩⟩

theorem M.spec_IsSeries_ok (w0 : World) (a0 : Series) {v1 : Value} (h2 : rdL (· < w0.heap.size) w0 v1 a0.Races) {r : Bool} (hm : M.spec_IsSeries a0 = some r) :
    Calls Try.prog 122 #[(.agg #[(.int .i64 a0.Boats), (.int .i64 a0.Scheme), v1])] w0 fun e w' => e = .returned (.bool r) ∧ Fresh w0 w' [] := by
 unfold M.spec_IsSeries at hm
 refine calls_CW (args := [(.agg #[(.int .i64 a0.Boats), (.int .i64 a0.Scheme), v1])]) Try.func122 rfl rfl rfl ?_
 have hL := Hp.start w0
 refine CSR ?_
 refine OW.cons (S_box (cs := #[(.int .i64 a0.Boats), (.int .i64 a0.Scheme), v1]) hL rfl rfl rfl ?_)
 intro wd3 b4 hL
 refine OV (.bool false) rfl (x_assign) <| ONS ?_
 refine CW.seqJ (fun (s_j1 : Bool) (F : Fr) (w : World) => F 1 = (.pointer (some ⟨b4, 0, none⟩)) ∧ F 19 = (.bool s_j1) ∧ Hp w0 [Ent.blk b4 97 #[(.int .i64 a0.Boats), (.int .i64 a0.Scheme), v1], Ent.snap w0 w0.heap.size] w) (fun s_j1 => M.spec_IsSeries_j1 a0 s_j1 = some r) ?_ ?_
 · refine CW.regionL <| OV (.pointer (some ⟨b4, 0, none⟩)) rfl (x_fieldAddr (fsz := 1) 0 0 0 U97 rfl Try_T2 rfl rfl rfl) <| OV (.int .i64 a0.Boats) rfl (x_load1 U2 rfl rfl (hL.cellB 0 rfl rfl)) ?_
   obtain ⟨x82, hx83, hm⟩ := bndE hm
   refine OW.cons (OP.call rfl (x_call (vs := [(.int .i64 a0.Boats), (.int .i64 1), (.int .i64 16)]) Try_C88 ⟨rfl, rfl, rfl, trivial⟩) (M.spec_l01In_ok _ a0.Boats 1 16 hx83) ?_)
   rintro e84 wd85 ⟨rfl, hF86⟩
   refine ⟨_, rfl, ?_⟩
   have hL := hL.pushAll hF86
   simp only [lA, lB, lC, lD] at hL
   refine OV (.bool (!x82)) rfl (x_not rfl) <| OV (.bool (!x82)) rfl (x_move) ?_
   refine ifB_elim hm (fun hb87 hm => ?_) (fun hb87 hm => ?_)
   · refine OW.cons (OP.no' rfl rfl hb87 rfl ?_)
     refine OW.cons (OP.no' rfl rfl hb87 rfl ?_)
     refine OW.cons (OP.no' rfl rfl hb87 rfl ?_)
     refine OW.cons (OP.no' rfl rfl hb87 rfl ?_)
     refine OV (.bool true) rfl (x_pickT' rfl hb87 rfl) <| OV (.bool true) rfl (x_move) ?_
     refine OW.cons (OP.no' rfl rfl rfl rfl ?_)
     refine OW.cons (OP.no' rfl rfl rfl rfl ?_)
     refine OW.cons (OP.no' rfl rfl rfl rfl ?_)
     refine OW.cons (OP.no' rfl rfl rfl rfl ?_)
     refine OV (.bool true) rfl (x_pickT' rfl rfl rfl) <| OW.nil ?_
     exact ⟨true, hm, ⟨rfl, rfl, hL⟩⟩
   refine OW.cons (OP.yes' rfl rfl hb87 (OP.val (v := (.pointer (some ⟨b4, 1, none⟩))) rfl (x_fieldAddr (fsz := 1) 0 1 1 U97 rfl Try_T2 rfl rfl rfl) ?_))
   refine OW.cons (OP.yes' rfl rfl hb87 (OP.val (v := (.int .i64 a0.Scheme)) rfl (x_load1 U2 rfl rfl (hL.cellB 0 rfl rfl)) ?_))
   obtain ⟨x88, hx89, hm⟩ := bndE hm
   refine OW.cons (OP.yes' rfl rfl hb87 (OP.call rfl (x_call (vs := [(.int .i64 a0.Scheme), (.int .i64 0), (.int .i64 1)]) Try_C88 ⟨rfl, rfl, rfl, trivial⟩) (M.spec_l01In_ok _ a0.Scheme 0 1 hx89) ?_))
   rintro e90 wd91 ⟨rfl, hF92⟩
   refine ⟨_, rfl, ?_⟩
   have hL := hL.pushAll hF92
   simp only [lA, lB, lC, lD] at hL
   refine OW.cons (OP.yes' rfl rfl hb87 (OP.val (v := (.bool (!x88))) rfl (x_not rfl) ?_))
   refine OV (.bool (!x88)) rfl (x_pickF' rfl hb87 rfl) <| OV (.bool (!x88)) rfl (x_move) ?_
   refine ifB_elim hm (fun hb93 hm => ?_) (fun hb93 hm => ?_)
   · refine OW.cons (OP.no' rfl rfl hb93 rfl ?_)
     refine OW.cons (OP.no' rfl rfl hb93 rfl ?_)
     refine OW.cons (OP.no' rfl rfl hb93 rfl ?_)
     refine OW.cons (OP.no' rfl rfl hb93 rfl ?_)
     refine OV (.bool true) rfl (x_pickT' rfl hb93 rfl) <| OW.nil ?_
     exact ⟨true, hm, ⟨rfl, rfl, hL⟩⟩
   refine OW.cons (OP.yes' rfl rfl hb93 (OP.val (v := (.pointer (some ⟨b4, 2, none⟩))) rfl (x_fieldAddr (fsz := 1) 0 2 2 U97 rfl Try_T95 rfl rfl rfl) ?_))
   refine OW.cons (OP.yes' rfl rfl hb93 (OP.val (v := v1) rfl (x_load1 U95 rfl rfl (hL.cellB 0 rfl rfl)) ?_))
   refine OW.cons (OP.yes' rfl rfl hb93 (OP.val (v := (.int .i64 (a0.Races.length : Int))) rfl (x_lenR U95 rfl (hL.rdS 1 rfl h2)) ?_))
   refine OW.cons (OP.yes' rfl rfl hb93 (OP.val (v := (.bool (decide (12 < (a0.Races.length : Int))))) rfl (x_gtr rfl rfl) ?_))
   refine OV (.bool (decide (12 < (a0.Races.length : Int)))) rfl (x_pickF' rfl hb93 rfl) <| OW.nil ?_
   exact ⟨decide (12 < (a0.Races.length : Int)), hm, ⟨rfl, rfl, hL⟩⟩
 intro s_j1 F17 wd18 hJ hm
 unfold M.spec_IsSeries_j1 at hm
 obtain ⟨f19, f20, hL⟩ := hJ
 refine CW.condM (t := s_j1) f20 hm (fun hb21 hm => ?_) (fun hb21 hm => ?_)
 · refine CSR <| OV (.bool false) rfl (x_assign) <| OW.nil <| CW.ret ?_
   obtain rfl := Option.some.inj hm
   exact RR1 rfl rfl ⟨rfl, hL.fresh 1 rfl [] (by decide) (by decide) rfl⟩
 refine CW.skip <| CW.seq <| CSR <| OV (.int .i64 0) rfl (x_assign) <| OW.nil ?_
 obtain ⟨o56, ho57, hm⟩ := bndE hm
 refine CW.loopB (fun (s_l1 : Int) (F : Fr) (w : World) => F 1 = (.pointer (some ⟨b4, 0, none⟩)) ∧ F 3 = (.int .i64 s_l1) ∧ Hp w0 [Ent.blk b4 97 #[(.int .i64 a0.Boats), (.int .i64 a0.Scheme), v1], Ent.snap w0 w0.heap.size] w) (fun o => outc o (fun x => some x) (fun s => M.spec_IsSeries_a1 s) = some r) ho57 hm ⟨f19, rfl, hL⟩ ?_ ?_
 · intro s_l1 F58 wd59 hJ hm
   have hm := outcE hm
   have hm : M.spec_IsSeries_a1 s_l1 = some r := hm
   unfold M.spec_IsSeries_a1 at hm
   obtain ⟨f60, f61, hL⟩ := hJ
   refine CSR <| OV (.bool true) rfl (x_assign) <| OW.nil <| CW.ret ?_
   obtain rfl := Option.some.inj hm
   exact RR1 rfl rfl ⟨rfl, hL.fresh 1 rfl [] (by decide) (by decide) rfl⟩
 intro s_l1 F62 wd63 t54 hJ hm hr55
 unfold M.spec_IsSeries_l1 at hm
 obtain ⟨f64, f65, hL⟩ := hJ
 refine CW.seq <| CSR <| OV (.int .i64 s_l1) rfl (x_mv f65) <| OV (.pointer (some ⟨b4, 2, none⟩)) rfl (x_fieldAddr (fsz := 1) 0 2 2 U97 rfl Try_T95 rfl f64 rfl) <| OV v1 rfl (x_load1 U95 rfl rfl (hL.cellB 0 rfl rfl)) <| OV (.int .i64 (a0.Races.length : Int)) rfl (x_lenR U95 rfl (hL.rdS 1 rfl h2)) <| OV (.bool (decide (s_l1 < (a0.Races.length : Int)))) rfl (x_lss rfl rfl) <| OW.nil ?_
 refine CW.condM (t := decide (s_l1 < (a0.Races.length : Int))) rfl hm (fun hb66 hm => ?_) (fun hb66 hm => ?_)
 · refine CW.skip <| CW.seq <| CW.block <| CW.seq ?_
   refine CW.draw Try_mixed ?_
   have hL := hL.call (Mod.drew _)
   refine DW.pre (fuel := 0) (fin := bma 9 511) (C := fun w' => Mod None_ _ w') [0, 1, 2, 3, 4, 5, 6, 7, 8] (Mod.refl _ _) (by kernel_rfl) (by kernel_rfl) ?_
   refine QV (.pointer (some ⟨b4, 0, none⟩)) rfl rfl (fun w' hm' => x_fieldAddr (fsz := 1) 0 0 0 U97 rfl Try_T2 rfl f64 rfl) <| QV (.int .i64 a0.Boats) rfl rfl (fun w' hm' => x_load1 U2 rfl rfl ((hL.call hm').cellB 0 rfl rfl)) <| QV (.pointer (some ⟨b4, 2, none⟩)) rfl rfl (fun w' hm' => x_fieldAddr (fsz := 1) 0 2 2 U97 rfl Try_T95 rfl f64 rfl) <| QV v1 rfl rfl (fun w' hm' => x_load1 U95 rfl rfl ((hL.call hm').cellB 0 rfl rfl)) <| QV (.int .i64 s_l1) rfl rfl (fun w' hm' => x_mv f65) ?_
   obtain ⟨x67, ha68, hm⟩ := bndE hm
   obtain ⟨hz69, ha77⟩ := idxE ha68
   obtain ⟨b70, q71, v72, hix73, hs74, hc75, hr76⟩ := rdN_at h2 hz69 ha77
   refine QV (.pointer (some ⟨b70, q71, none⟩)) rfl rfl (fun w' hm' => x_ix U95 Try_T101 rfl rfl hix73) <| QV (.agg #[v72]) rfl rfl (fun w' hm' => x_loadN (cs := [v72]) U101 Try_T101 rfl rfl (by intro j u hj; match j, hj with | 0, hj => (simp at hj; subst hj; exact ((hL.call hm').cellS 1 rfl hs74 hc75)))) ?_
   obtain ⟨x78, hx79, hm⟩ := bndE hm
   refine QW.cons rfl (QP.call (v := (.bool x78)) rfl (fun w' hm' => x_call (vs := [(.int .i64 a0.Boats), (.agg #[v72])]) Try_C136 ⟨rfl, rfl, trivial⟩) (fun w' hm' => (M.spec_l26Race_ok w' a0.Boats x67 ((hL.call hm').rdS 1 rfl hr76) hx79).mono (fun e w'' h => ⟨h.1, hm'.trans h.2.mod⟩)) ?_)
   refine QV (.bool (!x78)) rfl rfl (fun w' hm' => x_not rfl) ?_
   refine QW.nil ?_
   intro wd80 hmod
   have hL := hL.call hmod
   refine DW.done (by kernel_rfl) ?_
   refine CW.condM (t := !x78) rfl hm (fun hb81 hm => ?_) (fun hb81 hm => ?_)
   · refine CSR <| OV (.bool false) rfl (x_assign) <| OW.nil <| CW.ret ?_
     obtain rfl := Option.some.inj hm
     have hm := hr55 _ rfl
     obtain rfl := Option.some.inj hm
     exact RR1 rfl rfl ⟨rfl, hL.fresh 1 rfl [] (by decide) (by decide) rfl⟩
   refine CW.skip <| CW.regionL <| OV (.int .i64 s_l1) rfl (x_mv f65) <| OV (.int .i64 (w64 (s_l1 + 1))) rfl (x_add rfl rfl) <| OV (.int .i64 (w64 (s_l1 + 1))) rfl (x_assign) <| OW.nil ?_
   obtain rfl := Option.some.inj hm
   exact ⟨_, rfl, ⟨f64, rfl, hL⟩⟩
 refine CW.exit ?_
 refine XJ.hit ?_
 obtain rfl := Option.some.inj hm
 exact ⟨_, rfl, ⟨f64, f65, hL⟩⟩

theorem M.spec_l26Done_ok (w0 : World) (a0 : Finish) {r : Bool} (hm : M.spec_l26Done a0 = some r) :
    Calls Try.prog 145 #[(.agg #[(.int .i64 a0.Boat), (.int .i64 a0.Code), (.int .i64 a0.Time)])] w0 fun e w' => e = .returned (.bool r) ∧ Fresh w0 w' [] := by
 unfold M.spec_l26Done at hm
 refine calls_CW (args := [(.agg #[(.int .i64 a0.Boat), (.int .i64 a0.Code), (.int .i64 a0.Time)])]) Try.func145 rfl rfl rfl ?_
 have hL := Hp.start w0
 refine CSR ?_
 refine OW.cons (S_box (cs := #[(.int .i64 a0.Boat), (.int .i64 a0.Code), (.int .i64 a0.Time)]) hL rfl rfl rfl ?_)
 intro wd1 b2 hL
 refine OV (.bool false) rfl (x_assign) <| ONR <| OV (.pointer (some ⟨b2, 1, none⟩)) rfl (x_fieldAddr (fsz := 1) 0 1 1 U103 rfl Try_T2 rfl rfl rfl) <| OV (.int .i64 a0.Code) rfl (x_load1 U2 rfl rfl (hL.cellB 0 rfl rfl)) <| OV (.bool (a0.Code == 0)) rfl (x_eql rfl rfl) <| OV (.bool (a0.Code == 0)) rfl (x_assign) <| OW.nil <| CW.ret ?_
 obtain rfl := Option.some.inj hm
 exact RR1 rfl rfl ⟨rfl, hL.fresh 1 rfl [] (by decide) (by decide) rfl⟩

end Go.Proofs.Ytpobaajdhfoomaa
