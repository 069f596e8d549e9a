/- Links: each Go function returns what its model computes and leaves what was there. Printed by my generator. -/
import Derived.Test.YtngegaodnokmbaaDoorMod5
import Derived.Test.YtngegaodnokmbaaDoorBase13
import Derived.Test.YtngegaodnokmbaaDoorProg
import Derived.KernelRfl
import Derived.Test.YtngegaodnokmbaaDoorLayFtw
namespace Go.Proofs.YtngegaodnokmbaaDoor
set_option maxRecDepth 10000
open Go Go.RowKit Go.ChangeShapes Go.WideShapes
set_option linter.unusedVariables false
set_option linter.unusedSimpArgs false

theorem Tryd_mixed : Tryd.prog.follows .mixedOrders = true := by kernel_rfl
theorem Tryd_T2 : TyI Tryd.prog 2 1 8 (.int .i64 0) := by unfold TyI; kernel_rfl
theorem Tryd_T3 : TyI Tryd.prog 3 1 8 (.int .i64 0) := by unfold TyI; kernel_rfl
theorem Tryd_T5 : TyI Tryd.prog 5 1 1 (.int .u8 0) := by unfold TyI; kernel_rfl
theorem Tryd_T9 : TyI Tryd.prog 9 1 16 (.string ByteArray.empty) := by unfold TyI; kernel_rfl
theorem Tryd_T22 : TyI Tryd.prog 22 1 24 (.slice none 0 0) := by unfold TyI; kernel_rfl
theorem Tryd_T24 : TyI Tryd.prog 24 1 24 (.slice none 0 0) := by unfold TyI; kernel_rfl
theorem Tryd_T32 : TyI Tryd.prog 32 2 16 (.agg #[.int .i64 0, .int .i64 0]) := by unfold TyI; kernel_rfl
theorem Tryd_B32 : BuildI Tryd.prog 32 [(0, 1), (1, 1)] #[.int .i64 0, .int .i64 0] := by unfold BuildI; kernel_rfl
theorem Tryd_B59 : BuildI Tryd.prog 59 [(0, 1), (1, 1), (2, 1)] #[.slice none 0 0, .int .i64 0, .int .i64 0] := by unfold BuildI; kernel_rfl
theorem Tryd_C4 : CallOK Tryd.prog 4 := ⟨_, _, Tryd.func4, rfl, by kernel_rfl⟩
theorem Tryd_C5 : CallOK Tryd.prog 5 := ⟨_, _, Tryd.func5, rfl, by kernel_rfl⟩
theorem Tryd_C6 : CallOK Tryd.prog 6 := ⟨_, _, Tryd.func6, rfl, by kernel_rfl⟩
theorem Tryd_C7 : CallOK Tryd.prog 7 := ⟨_, _, Tryd.func7, rfl, by kernel_rfl⟩
theorem Tryd_C8 : CallOK Tryd.prog 8 := ⟨_, _, Tryd.func8, rfl, by kernel_rfl⟩
theorem Tryd_C9 : CallOK Tryd.prog 9 := ⟨_, _, Tryd.func9, rfl, by kernel_rfl⟩
theorem Tryd_C10 : CallOK Tryd.prog 10 := ⟨_, _, Tryd.func10, rfl, by kernel_rfl⟩
theorem Tryd_C11 : CallOK Tryd.prog 11 := ⟨_, _, Tryd.func11, rfl, by kernel_rfl⟩
theorem Tryd_C12 : CallOK Tryd.prog 12 := ⟨_, _, Tryd.func12, rfl, by kernel_rfl⟩
theorem Tryd_C13 : CallOK Tryd.prog 13 := ⟨_, _, Tryd.func13, rfl, by kernel_rfl⟩
theorem Tryd_C14 : CallOK Tryd.prog 14 := ⟨_, _, Tryd.func14, rfl, by kernel_rfl⟩
theorem Tryd_C15 : CallOK Tryd.prog 15 := ⟨_, _, Tryd.func15, rfl, by kernel_rfl⟩
theorem Tryd_C16 : CallOK Tryd.prog 16 := ⟨_, _, Tryd.func16, rfl, by kernel_rfl⟩
theorem Tryd_C17 : CallOK Tryd.prog 17 := ⟨_, _, Tryd.func17, rfl, by kernel_rfl⟩
theorem Tryd_C18 : CallOK Tryd.prog 18 := ⟨_, _, Tryd.func18, rfl, by kernel_rfl⟩
theorem Tryd_C19 : CallOK Tryd.prog 19 := ⟨_, _, Tryd.func19, rfl, by kernel_rfl⟩
theorem Tryd_C20 : CallOK Tryd.prog 20 := ⟨_, _, Tryd.func20, rfl, by kernel_rfl⟩
theorem Tryd_C21 : CallOK Tryd.prog 21 := ⟨_, _, Tryd.func21, rfl, by kernel_rfl⟩
theorem Tryd_C22 : CallOK Tryd.prog 22 := ⟨_, _, Tryd.func22, rfl, by kernel_rfl⟩
theorem Tryd_C23 : CallOK Tryd.prog 23 := ⟨_, _, Tryd.func23, rfl, by kernel_rfl⟩
theorem Tryd_C24 : CallOK Tryd.prog 24 := ⟨_, _, Tryd.func24, rfl, by kernel_rfl⟩
theorem Tryd_C25 : CallOK Tryd.prog 25 := ⟨_, _, Tryd.func25, rfl, by kernel_rfl⟩
theorem Tryd_C26 : CallOK Tryd.prog 26 := ⟨_, _, Tryd.func26, rfl, by kernel_rfl⟩
theorem Tryd_C27 : CallOK Tryd.prog 27 := ⟨_, _, Tryd.func27, rfl, by kernel_rfl⟩
theorem Tryd_C28 : CallOK Tryd.prog 28 := ⟨_, _, Tryd.func28, rfl, by kernel_rfl⟩
theorem Tryd_C29 : CallOK Tryd.prog 29 := ⟨_, _, Tryd.func29, rfl, by kernel_rfl⟩
theorem Tryd_C30 : CallOK Tryd.prog 30 := ⟨_, _, Tryd.func30, rfl, by kernel_rfl⟩
theorem Tryd_C32 : CallOK Tryd.prog 32 := ⟨_, _, Tryd.func32, rfl, by kernel_rfl⟩
theorem Tryd_C33 : CallOK Tryd.prog 33 := ⟨_, _, Tryd.func33, rfl, by kernel_rfl⟩
theorem Tryd_C34 : CallOK Tryd.prog 34 := ⟨_, _, Tryd.func34, rfl, by kernel_rfl⟩
theorem Tryd_C35 : CallOK Tryd.prog 35 := ⟨_, _, Tryd.func35, rfl, by kernel_rfl⟩
theorem Tryd_C36 : CallOK Tryd.prog 36 := ⟨_, _, Tryd.func36, rfl, by kernel_rfl⟩
theorem Tryd_C37 : CallOK Tryd.prog 37 := ⟨_, _, Tryd.func37, rfl, by kernel_rfl⟩
theorem Tryd_C41 : CallOK Tryd.prog 41 := ⟨_, _, Tryd.func41, rfl, by kernel_rfl⟩
theorem Tryd_C43 : CallOK Tryd.prog 43 := ⟨_, _, Tryd.func43, rfl, by kernel_rfl⟩
theorem Tryd_C44 : CallOK Tryd.prog 44 := ⟨_, _, Tryd.func44, rfl, by kernel_rfl⟩
abbrev U2 := @Tryd.underlying2
abbrev U3 := @Tryd.underlying3
abbrev U5 := @Tryd.underlying5
abbrev U9 := @Tryd.underlying9
abbrev U22 := @Tryd.underlying22
abbrev U24 := @Tryd.underlying24
abbrev U32 := @Tryd.underlying32
abbrev U39 := @Tryd.underlying39
abbrev U43 := @Tryd.underlying43
abbrev U47 := @Tryd.underlying47
abbrev U49 := @Tryd.underlying49
abbrev U59 := @Tryd.underlying59
abbrev U63 := @Tryd.underlying63

theorem M.laws_big_ok (w0 : World) (a0 : List UInt8) {v1 : Value} (h2 : rdL (· < w0.heap.size) w0 v1 a0) {r : Bool} (hm : M.laws_big a0 = some r) :
    Calls Tryd.prog 4 #[v1] w0 fun e w' => e = .returned (.bool r) ∧ Fresh w0 w' [] := by
 unfold M.laws_big at hm
 refine calls_CW (args := [v1]) Tryd.func4 rfl rfl rfl ?_
 have hL := Hp.start w0
 refine CSR ?_
 refine OV (.bool false) rfl (x_assign) ?_
 refine ONR ?_
 refine OV v1 rfl (x_move) ?_
 refine OV (.int .i64 (a0.length : Int)) rfl (x_lenR U22 rfl (hL.rdS 0 rfl h2)) ?_
 refine OV (.bool (decide (4096 < (a0.length : Int)))) rfl (x_gtr rfl rfl) ?_
 refine OV (.bool (decide (4096 < (a0.length : Int)))) rfl (x_assign) ?_
 refine OW.nil ?_
 refine CW.ret ?_
 obtain rfl := Option.some.inj hm
 exact RR1 rfl rfl ⟨rfl, hL.fresh 0 rfl [] (by decide) (by decide) rfl⟩

theorem M.spec_l01From_ok (w0 : World) (a0 : List UInt8) {v1 : Value} (h2 : rdL (· < w0.heap.size) w0 v1 a0) {r : (Int × Int)} (hm : M.spec_l01From a0 = some r) :
    Calls Tryd.prog 12 #[v1] w0 fun e w' => ∃ rb : Nat, e = .returned (.pointer (some ⟨rb, 0, none⟩)) ∧ Fresh w0 w' [Ent.blk rb 59 #[v1, .int .i64 r.1, .int .i64 r.2]] := by
 unfold M.spec_l01From at hm
 refine calls_CW (args := [v1]) Tryd.func12 rfl rfl rfl ?_
 have hL := Hp.start w0
 refine CSR ?_
 refine OV (.pointer none) rfl (x_assign) ?_
 refine ONR ?_
 refine OV v1 rfl (x_move) ?_
 refine OV (.agg #[v1, (.int .i64 0), (.int .i64 61657)]) rfl (x_build Tryd_B59 (ps := [(0, v1), (2, (.int .i64 61657))]) ⟨⟨rfl, rfl⟩, ⟨rfl, rfl⟩, trivial⟩ (by simp [Instr.fill, cells_int, cells_bool, cells_string, cells_agg, cells_slice, cells_pointer, (rdL_cells (hL.rdS 0 rfl h2))])) ?_
 refine OW.cons (S_box (cs := #[v1, (.int .i64 0), (.int .i64 61657)]) hL rfl rfl rfl ?_)
 intro wd3 b4 hL
 refine OV (.pointer (some ⟨b4, 0, none⟩)) rfl (x_assign) ?_
 refine ONS ?_
 refine CSR ?_
 refine OV (.int .i64 0) rfl (x_assign) ?_
 refine OW.nil ?_
 obtain ⟨o57, ho58, hm⟩ := bndE hm
 refine CW.loopB (fun (s_l1 : Int × Int) (F : Fr) (w : World) => F 0 = v1 ∧ F 3 = (.pointer (some ⟨b4, 0, none⟩)) ∧ F 4 = (.int .i64 s_l1.2) ∧ Hp w0 [Ent.blk b4 59 #[v1, (.int .i64 0), (.int .i64 s_l1.1)], Ent.snap w0 w0.heap.size] w) (fun o => outc o (fun x => some x) (fun s => M.spec_l01From_a1 s) = some r) ho58 hm ⟨rfl, rfl, rfl, hL⟩ ?_ ?_
 · intro s_l1 F59 wd60 hJ hm
   have hm := outcE hm
   have hm : M.spec_l01From_a1 s_l1 = some r := hm
   unfold M.spec_l01From_a1 at hm
   obtain ⟨f61, f62, f63, hL⟩ := hJ
   refine CSR ?_
   refine OV (.pointer (some ⟨b4, 0, none⟩)) rfl (x_mv f62) ?_
   refine OV (.pointer (some ⟨b4, 0, none⟩)) rfl (x_assign) ?_
   refine OW.nil ?_
   refine CW.ret ?_
   obtain rfl := Option.some.inj hm
   exact RR1 rfl rfl ⟨b4, rfl, hL.fresh 1 rfl [0] (by decide) (by decide) rfl⟩
 intro s_l1 F64 wd65 t55 hJ hm hr56
 unfold M.spec_l01From_l1 at hm
 obtain ⟨f66, f67, f68, hL⟩ := hJ
 refine CW.seq ?_
 refine CW.seqJ (fun (s_j1 : Bool) (F : Fr) (w : World) => F 0 = v1 ∧ F 3 = (.pointer (some ⟨b4, 0, none⟩)) ∧ F 4 = (.int .i64 s_l1.2) ∧ F 15 = (.bool s_j1) ∧ Hp w0 [Ent.blk b4 59 #[v1, (.int .i64 0), (.int .i64 s_l1.1)], Ent.snap w0 w0.heap.size] w) (fun s_j1 => M.spec_l01From_j1 a0 s_l1 s_j1 = some t55) ?_ ?_
 · refine CW.regionL ?_
   refine OV (.int .i64 s_l1.2) rfl (x_mv f68) ?_
   refine OV v1 rfl (x_mv f66) ?_
   refine OV (.int .i64 (a0.length : Int)) rfl (x_lenR U22 rfl (hL.rdS 1 rfl h2)) ?_
   refine OV (.bool (decide (s_l1.2 < (a0.length : Int)))) rfl (x_lss rfl rfl) ?_
   refine OV (.bool (decide (s_l1.2 < (a0.length : Int)))) rfl (x_move) ?_
   refine ifB_elim hm (fun hb93 hm => ?_) (fun hb93 hm => ?_)
   · refine OW.cons (OP.yes' rfl rfl hb93 (OP.val (v := (.int .i64 s_l1.2)) rfl (x_mv f68) ?_))
     refine OW.cons (OP.yes' rfl rfl hb93 (OP.val (v := (.bool (decide (s_l1.2 < 64)))) rfl (x_lss rfl rfl) ?_))
     refine OV (.bool (decide (s_l1.2 < 64))) rfl (x_pickT' rfl hb93 rfl) ?_
     refine OW.nil ?_
     exact ⟨decide (s_l1.2 < 64), hm, ⟨f66, f67, f68, rfl, hL⟩⟩
   refine OW.cons (OP.no' rfl rfl hb93 rfl ?_)
   refine OW.cons (OP.no' rfl rfl hb93 rfl ?_)
   refine OV (.bool false) rfl (x_pickF' rfl hb93 rfl) ?_
   refine OW.nil ?_
   exact ⟨false, hm, ⟨f66, f67, f68, rfl, hL⟩⟩
 intro s_j1 F70 wd71 hJ hm
 unfold M.spec_l01From_j1 at hm
 obtain ⟨f72, f73, f74, f75, hL⟩ := hJ
 refine CW.condM (t := s_j1) f75 hm (fun hb76 hm => ?_) (fun hb76 hm => ?_)
 · refine CW.skip ?_
   refine CW.seq ?_
   refine CW.block ?_
   refine CW.drawH (fun w' => Hp w0 [Ent.snap w0 w0.heap.size] w') Tryd_mixed ?_
   have hL := hL.call (Mod.drew _)
   have hS := (hL.sel [1] (by decide) rfl)
   refine DH.take 0 rfl (by kernel_rfl) (by kernel_rfl) (by kernel_rfl) rfl rfl hS (YH.val (v := (.pointer (some ⟨b4, 0, none⟩))) (fun w' hS' => x_mv f73)) ?_
   have hS := (hL.sel [1] (by decide) rfl)
   refine DH.take 1 rfl (by kernel_rfl) (by kernel_rfl) (by kernel_rfl) rfl rfl hS (YH.val (v := (.pointer (some ⟨b4, 0, none⟩))) (fun w' hS' => x_mv f73)) ?_
   have hS := (hL.sel [1] (by decide) rfl)
   refine DH.take 2 rfl (by kernel_rfl) (by kernel_rfl) (by kernel_rfl) rfl rfl hS (YH.val (v := (.pointer (some ⟨b4, 0, none⟩))) (fun w' hS' => x_nilCheck rfl)) ?_
   have hS := (hL.sel [1] (by decide) rfl)
   refine DH.take 3 rfl (by kernel_rfl) (by kernel_rfl) (by kernel_rfl) rfl rfl hS (YH.val (v := (.pointer (some ⟨b4, 2, none⟩))) (fun w' hS' => x_fieldAddr (fsz := 1) 0 2 2 U59 rfl Tryd_T2 rfl rfl rfl)) ?_
   have hS := (hL.sel [1] (by decide) rfl)
   refine DH.take 6 rfl (by kernel_rfl) (by kernel_rfl) (by kernel_rfl) rfl rfl hS (YH.val (v := v1) (fun w' hS' => x_mv f72)) ?_
   have hS := (hL.sel [1] (by decide) rfl)
   refine DH.take 7 rfl (by kernel_rfl) (by kernel_rfl) (by kernel_rfl) rfl rfl hS (YH.val (v := (.int .i64 s_l1.2)) (fun w' hS' => x_mv f74)) ?_
   have hS := (hL.sel [1] (by decide) rfl)
   obtain ⟨x85, ha86, hm⟩ := bndE hm
   obtain ⟨hz87, ha91⟩ := idxE ha86
   obtain ⟨b88, q89, hix90⟩ := rdL_ix (hL.rdS 1 rfl h2) hz87 ha91
   refine DH.take 8 rfl (by kernel_rfl) (by kernel_rfl) (by kernel_rfl) rfl rfl hS (YH.val (v := (.pointer (some ⟨b88, q89, none⟩))) (fun w' hS' => x_ix U22 Tryd_T5 rfl rfl hix90)) ?_
   have hS := (hL.sel [1] (by decide) rfl)
   refine DH.take 9 rfl (by kernel_rfl) (by kernel_rfl) (by kernel_rfl) rfl rfl hS (YH.val (v := (.int .u8 (x85.toNat : Int))) (fun w' hS' => x_load1 U5 rfl rfl (rdF_cells (hS'.rdS 0 rfl h2) hix90 ha91 0 _ rfl))) ?_
   have hS := (hL.sel [1] (by decide) rfl)
   refine DH.take 10 rfl (by kernel_rfl) (by kernel_rfl) (by kernel_rfl) rfl rfl hS (YH.val (v := (.int .i64 (IntKind.i64.wrap (x85.toNat : Int)))) (fun w' hS' => x_conv U5 U2 rfl)) ?_
   refine DH.only 4 rfl (by kernel_rfl) (OP.val (v := (.int .i64 s_l1.1)) rfl (x_load1 U2 rfl rfl (hL.cellB 0 rfl rfl)) ?_)
   refine ⟨(hL.sel [1] (by decide) rfl), ?_⟩
   have hS := (hL.sel [1] (by decide) rfl)
   refine DH.take 5 rfl (by kernel_rfl) (by kernel_rfl) (by kernel_rfl) rfl rfl hS (YH.val (v := (.int .i64 (w64 (s_l1.1 * 53)))) (fun w' hS' => x_mul rfl rfl)) ?_
   have hS := (hL.sel [1] (by decide) rfl)
   refine DH.take 11 rfl (by kernel_rfl) (by kernel_rfl) (by kernel_rfl) rfl rfl hS (YH.val (v := (.int .i64 (w64 ((w64 (s_l1.1 * 53)) + (IntKind.i64.wrap (x85.toNat : Int)))))) (fun w' hS' => x_add rfl rfl)) ?_
   have hS := (hL.sel [1] (by decide) rfl)
   refine DH.take 12 rfl (by kernel_rfl) (by kernel_rfl) (by kernel_rfl) rfl rfl hS (YH.val (v := (.int .i64 ((w64 ((w64 (s_l1.1 * 53)) + (IntKind.i64.wrap (x85.toNat : Int)))).tmod 2147483647))) (fun w' hS' => x_rem rfl rfl (by decide))) ?_
   have hS := (hL.sel [1] (by decide) rfl)
   refine DH.take 13 rfl (by kernel_rfl) (by kernel_rfl) (by kernel_rfl) rfl rfl hS (YH.val (v := (.pointer (some ⟨b4, 0, none⟩))) (fun w' hS' => x_nilCheck rfl)) ?_
   have hS := (hL.sel [1] (by decide) rfl)
   refine DH.take 14 rfl (by kernel_rfl) (by kernel_rfl) (by kernel_rfl) rfl rfl hS (YH.val (v := (.pointer (some ⟨b4, 2, none⟩))) (fun w' hS' => x_fieldAddr (fsz := 1) 0 2 2 U59 rfl Tryd_T2 rfl rfl rfl)) ?_
   refine DH.only 15 rfl (by kernel_rfl) (S_store (cs' := #[v1, (.int .i64 0), (.int .i64 ((w64 ((w64 (s_l1.1 * 53)) + (IntKind.i64.wrap (x85.toNat : Int)))).tmod 2147483647))]) hL 0 rfl Tryd_T2 rfl rfl rfl rfl rfl ?_)
   intro wd92 hL
   refine ⟨(hL.sel [1] (by decide) rfl), ?_⟩
   refine DH.done (by kernel_rfl) ?_
   refine CW.regionL ?_
   refine OV (.int .i64 s_l1.2) rfl (x_mv f74) ?_
   refine OV (.int .i64 (w64 (s_l1.2 + 1))) rfl (x_add rfl rfl) ?_
   refine OV (.int .i64 (w64 (s_l1.2 + 1))) rfl (x_assign) ?_
   refine OW.nil ?_
   obtain rfl := Option.some.inj hm
   exact ⟨_, rfl, ⟨f72, f73, rfl, hL⟩⟩
 refine CW.exit ?_
 refine XJ.hit ?_
 obtain rfl := Option.some.inj hm
 exact ⟨_, rfl, ⟨f72, f73, f74, hL⟩⟩

theorem M.spec_l01Next_ok (w0 : World) {b1 : Nat} {v2 : Value} (a0 : Src) (h3 : rdL (fun k => k < w0.heap.size ∧ ¬ (Ent.blk b1 59 #[v2, .int .i64 a0.at_, .int .i64 a0.seed]).S k) w0 v2 a0.code) (he4 : (Ent.blk b1 59 #[v2, .int .i64 a0.at_, .int .i64 a0.seed]).H w0) (a1 : Int) {r : (Int) × (Int × Int)} (hm : M.spec_l01Next a0 a1 = some r) :
    Calls Tryd.prog 14 #[(.pointer (some ⟨b1, 0, none⟩)), (.int .i64 a1)] w0 fun e w' => e = .returned (.int .i64 r.1) ∧ Mut w0 w' (Ent.blk b1 59 #[v2, .int .i64 a0.at_, .int .i64 a0.seed]).S [Ent.blk b1 59 #[v2, .int .i64 r.2.1, .int .i64 r.2.2]] := by
 unfold M.spec_l01Next at hm
 refine calls_CW (args := [(.pointer (some ⟨b1, 0, none⟩)), (.int .i64 a1)]) Tryd.func14 rfl rfl rfl ?_
 have hL := Hp.startIO he4
 refine CSR ?_
 refine OV (.int .i64 0) rfl (x_assign) ?_
 refine ONS ?_
 refine CSR ?_
 refine OV (.int .i64 a1) rfl (x_move) ?_
 refine OV (.bool (decide (a1 ≤ 1))) rfl (x_leq rfl rfl) ?_
 refine OW.nil ?_
 refine CW.condM (t := decide (a1 ≤ 1)) rfl hm (fun hb5 hm => ?_) (fun hb5 hm => ?_)
 · refine CSR ?_
   refine OV (.int .i64 0) rfl (x_assign) ?_
   refine OW.nil ?_
   refine CW.ret ?_
   obtain rfl := Option.some.inj hm
   exact RR1 rfl rfl ⟨rfl, hL.mutOut 1 rfl [0] (by decide) (by decide) rfl⟩
 refine CW.skip ?_
 refine CSR ?_
 refine OV (.pointer (some ⟨b1, 0, none⟩)) rfl (x_move) ?_
 refine OV (.pointer (some ⟨b1, 0, none⟩)) rfl (x_move) ?_
 refine OV (.pointer (some ⟨b1, 0, none⟩)) rfl (x_nilCheck rfl) ?_
 refine OV (.pointer (some ⟨b1, 2, none⟩)) rfl (x_fieldAddr (fsz := 1) 0 2 2 U59 rfl Tryd_T2 rfl rfl rfl) ?_
 refine OV (.int .i64 a0.seed) rfl (x_load1 U2 rfl rfl (hL.cellB 0 rfl rfl)) ?_
 refine OV (.int .i64 (w64 (a0.seed * 48271))) rfl (x_mul rfl rfl) ?_
 refine OV (.int .i64 (w64 ((w64 (a0.seed * 48271)) + 23))) rfl (x_add rfl rfl) ?_
 refine OV (.int .i64 ((w64 ((w64 (a0.seed * 48271)) + 23)).tmod 2147483647)) rfl (x_rem rfl rfl (by decide)) ?_
 refine OV (.pointer (some ⟨b1, 0, none⟩)) rfl (x_nilCheck rfl) ?_
 refine OV (.pointer (some ⟨b1, 2, none⟩)) rfl (x_fieldAddr (fsz := 1) 0 2 2 U59 rfl Tryd_T2 rfl rfl rfl) ?_
 refine OW.cons (S_store (cs' := #[v2, (.int .i64 a0.at_), (.int .i64 ((w64 ((w64 (a0.seed * 48271)) + 23)).tmod 2147483647))]) hL 0 rfl Tryd_T2 rfl rfl rfl rfl rfl ?_)
 intro wd6 hL
 refine ONR ?_
 refine OV (.pointer (some ⟨b1, 0, none⟩)) rfl (x_move) ?_
 refine OV (.pointer (some ⟨b1, 0, none⟩)) rfl (x_nilCheck rfl) ?_
 refine OV (.pointer (some ⟨b1, 2, none⟩)) rfl (x_fieldAddr (fsz := 1) 0 2 2 U59 rfl Tryd_T2 rfl rfl rfl) ?_
 refine OV (.int .i64 ((w64 ((w64 (a0.seed * 48271)) + 23)).tmod 2147483647)) rfl (x_load1 U2 rfl rfl (hL.cellB 0 rfl rfl)) ?_
 refine OV (.int .i64 (w64 (((w64 ((w64 (a0.seed * 48271)) + 23)).tmod 2147483647).tdiv 17))) rfl (x_quo rfl rfl (by decide)) ?_
 refine OV (.int .i64 (w64 (((w64 ((w64 (a0.seed * 48271)) + 23)).tmod 2147483647).tdiv 17))) rfl (x_assign) ?_
 refine OW.nil ?_
 refine CW.seqJ (fun (s_j1 : Int × Int) (F : Fr) (w : World) => F 1 = (.int .i64 a1) ∧ F 5 = (.int .i64 s_j1.2) ∧ Hp w0 [Ent.blk b1 59 #[v2, (.int .i64 s_j1.1), (.int .i64 ((w64 ((w64 (a0.seed * 48271)) + 23)).tmod 2147483647))], Ent.frz w0 (Ent.blk b1 59 #[v2, .int .i64 a0.at_, .int .i64 a0.seed]).S] w) (fun s_j1 => M.spec_l01Next_j1 a0 a1 s_j1 = some r) ?_ ?_
 · refine CW.seq ?_
   refine CW.draw Tryd_mixed ?_
   have hL := hL.call (Mod.drew _)
   refine DW.pre (fuel := 0) (fin := bma 10 1023) (C := fun w' => Mod None_ _ w') [0, 1, 2, 3, 4, 5, 6, 7, 8, 9] (Mod.refl _ _) (by kernel_rfl) (by kernel_rfl) ?_
   refine QW.cons rfl (QP.val (v := (.pointer (some ⟨b1, 0, none⟩))) rfl (fun w' hm' => x_move) ?_)
   refine QW.cons rfl (QP.val (v := (.pointer (some ⟨b1, 0, none⟩))) rfl (fun w' hm' => x_nilCheck rfl) ?_)
   refine QW.cons rfl (QP.val (v := (.pointer (some ⟨b1, 1, none⟩))) rfl (fun w' hm' => x_fieldAddr (fsz := 1) 0 1 1 U59 rfl Tryd_T3 rfl rfl rfl) ?_)
   refine QW.cons rfl (QP.val (v := (.int .i64 a0.at_)) rfl (fun w' hm' => x_load1 U3 rfl rfl ((hL.call hm').cellB 0 rfl rfl)) ?_)
   refine QW.cons rfl (QP.val (v := (.pointer (some ⟨b1, 0, none⟩))) rfl (fun w' hm' => x_move) ?_)
   refine QW.cons rfl (QP.val (v := (.pointer (some ⟨b1, 0, none⟩))) rfl (fun w' hm' => x_nilCheck rfl) ?_)
   refine QW.cons rfl (QP.val (v := (.pointer (some ⟨b1, 0, none⟩))) rfl (fun w' hm' => x_fieldAddr (fsz := 1) 0 0 0 U59 rfl Tryd_T22 rfl rfl rfl) ?_)
   refine QW.cons rfl (QP.val (v := v2) rfl (fun w' hm' => x_load1 U22 rfl rfl ((hL.call hm').cellB 0 rfl rfl)) ?_)
   refine QW.cons rfl (QP.val (v := (.int .i64 (a0.code.length : Int))) rfl (fun w' hm' => x_lenR U22 rfl ((hL.call hm').rdZ 1 rfl h3)) ?_)
   refine QW.cons rfl (QP.val (v := (.bool (decide (a0.at_ < (a0.code.length : Int))))) rfl (fun w' hm' => x_lss rfl rfl) ?_)
   refine QW.nil ?_
   intro wd40 hmod
   have hL := hL.call hmod
   refine DW.done (by kernel_rfl) ?_
   refine CW.condM (t := decide (a0.at_ < (a0.code.length : Int))) rfl hm (fun hb41 hm => ?_) (fun hb41 hm => ?_)
   · refine CW.seq ?_
     refine CW.draw Tryd_mixed ?_
     have hL := hL.call (Mod.drew _)
     refine DW.pre (fuel := 0) (fin := bma 14 16383) (C := fun w' => Mod None_ _ w') [0, 1, 2, 3, 4, 5, 6, 7, 8, 9, 10, 11, 12, 13] (Mod.refl _ _) (by kernel_rfl) (by kernel_rfl) ?_
     refine QW.cons rfl (QP.val (v := (.int .i64 (w64 (((w64 ((w64 (a0.seed * 48271)) + 23)).tmod 2147483647).tdiv 17)))) rfl (fun w' hm' => x_move) ?_)
     refine QW.cons rfl (QP.val (v := (.pointer (some ⟨b1, 0, none⟩))) rfl (fun w' hm' => x_move) ?_)
     refine QW.cons rfl (QP.val (v := (.pointer (some ⟨b1, 0, none⟩))) rfl (fun w' hm' => x_nilCheck rfl) ?_)
     refine QW.cons rfl (QP.val (v := (.pointer (some ⟨b1, 0, none⟩))) rfl (fun w' hm' => x_fieldAddr (fsz := 1) 0 0 0 U59 rfl Tryd_T22 rfl rfl rfl) ?_)
     refine QW.cons rfl (QP.val (v := v2) rfl (fun w' hm' => x_load1 U22 rfl rfl ((hL.call hm').cellB 0 rfl rfl)) ?_)
     refine QW.cons rfl (QP.val (v := (.pointer (some ⟨b1, 0, none⟩))) rfl (fun w' hm' => x_move) ?_)
     refine QW.cons rfl (QP.val (v := (.pointer (some ⟨b1, 0, none⟩))) rfl (fun w' hm' => x_nilCheck rfl) ?_)
     refine QW.cons rfl (QP.val (v := (.pointer (some ⟨b1, 1, none⟩))) rfl (fun w' hm' => x_fieldAddr (fsz := 1) 0 1 1 U59 rfl Tryd_T3 rfl rfl rfl) ?_)
     refine QW.cons rfl (QP.val (v := (.int .i64 a0.at_)) rfl (fun w' hm' => x_load1 U3 rfl rfl ((hL.call hm').cellB 0 rfl rfl)) ?_)
     obtain ⟨x42, ha43, hm⟩ := bndE hm
     obtain ⟨hz44, ha48⟩ := idxE ha43
     obtain ⟨b45, q46, hix47⟩ := rdL_ix (hL.rdZ 1 rfl h3) hz44 ha48
     refine QW.cons rfl (QP.val (v := (.pointer (some ⟨b45, q46, none⟩))) rfl (fun w' hm' => x_ix U22 Tryd_T5 rfl rfl hix47) ?_)
     refine QW.cons rfl (QP.val (v := (.int .u8 (x42.toNat : Int))) rfl (fun w' hm' => x_load1 U5 rfl rfl (rdF_cells ((hL.call hm').rdZ 1 rfl h3) hix47 ha48 0 _ rfl)) ?_)
     refine QW.cons rfl (QP.val (v := (.int .i64 (IntKind.i64.wrap (x42.toNat : Int)))) rfl (fun w' hm' => x_conv U5 U2 rfl) ?_)
     refine QW.cons rfl (QP.val (v := (.int .i64 (w64 ((w64 (((w64 ((w64 (a0.seed * 48271)) + 23)).tmod 2147483647).tdiv 17)) + (IntKind.i64.wrap (x42.toNat : Int)))))) rfl (fun w' hm' => x_add rfl rfl) ?_)
     refine QW.cons rfl (QP.val (v := (.int .i64 (w64 ((w64 (((w64 ((w64 (a0.seed * 48271)) + 23)).tmod 2147483647).tdiv 17)) + (IntKind.i64.wrap (x42.toNat : Int)))))) rfl (fun w' hm' => x_assign) ?_)
     refine QW.nil ?_
     intro wd49 hmod
     have hL := hL.call hmod
     refine DW.done (by kernel_rfl) ?_
     refine CSR ?_
     refine OV (.pointer (some ⟨b1, 0, none⟩)) rfl (x_move) ?_
     refine OV (.pointer (some ⟨b1, 0, none⟩)) rfl (x_nilCheck rfl) ?_
     refine OV (.pointer (some ⟨b1, 1, none⟩)) rfl (x_fieldAddr (fsz := 1) 0 1 1 U59 rfl Tryd_T3 rfl rfl rfl) ?_
     refine OV (.int .i64 a0.at_) rfl (x_load1 U3 rfl rfl (hL.cellB 0 rfl rfl)) ?_
     refine OV (.int .i64 (w64 (a0.at_ + 1))) rfl (x_add rfl rfl) ?_
     refine OV (.pointer (some ⟨b1, 0, none⟩)) rfl (x_nilCheck rfl) ?_
     refine OV (.pointer (some ⟨b1, 1, none⟩)) rfl (x_fieldAddr (fsz := 1) 0 1 1 U59 rfl Tryd_T3 rfl rfl rfl) ?_
     refine OW.cons (S_store (cs' := #[v2, (.int .i64 (w64 (a0.at_ + 1))), (.int .i64 ((w64 ((w64 (a0.seed * 48271)) + 23)).tmod 2147483647))]) hL 0 rfl Tryd_T3 rfl rfl rfl rfl rfl ?_)
     intro wd50 hL
     refine OW.nil ?_
     refine CW.seqJ (fun (s_j2 : Bool) (F : Fr) (w : World) => F 0 = (.pointer (some ⟨b1, 0, none⟩)) ∧ F 1 = (.int .i64 a1) ∧ F 5 = (.int .i64 (w64 ((w64 (((w64 ((w64 (a0.seed * 48271)) + 23)).tmod 2147483647).tdiv 17)) + (IntKind.i64.wrap (x42.toNat : Int))))) ∧ F 62 = (.bool s_j2) ∧ Hp w0 [Ent.blk b1 59 #[v2, (.int .i64 (w64 (a0.at_ + 1))), (.int .i64 ((w64 ((w64 (a0.seed * 48271)) + 23)).tmod 2147483647))], Ent.frz w0 (Ent.blk b1 59 #[v2, .int .i64 a0.at_, .int .i64 a0.seed]).S] w) (fun s_j2 => M.spec_l01Next_j2 a0 a1 x42 s_j2 = some r) ?_ ?_
     · refine CW.regionL ?_
       refine OV (.int .i64 a1) rfl (x_move) ?_
       refine OV (.bool (decide (a1 ≤ 256))) rfl (x_leq rfl rfl) ?_
       refine OV (.bool (decide (a1 ≤ 256))) rfl (x_move) ?_
       refine ifB_elim hm (fun hb67 hm => ?_) (fun hb67 hm => ?_)
       · refine OW.cons (OP.yes' rfl rfl hb67 (OP.val (v := (.pointer (some ⟨b1, 0, none⟩))) rfl (x_move) ?_))
         refine OW.cons (OP.yes' rfl rfl hb67 (OP.val (v := (.pointer (some ⟨b1, 0, none⟩))) rfl (x_nilCheck rfl) ?_))
         refine OW.cons (OP.yes' rfl rfl hb67 (OP.val (v := (.pointer (some ⟨b1, 1, none⟩))) rfl (x_fieldAddr (fsz := 1) 0 1 1 U59 rfl Tryd_T3 rfl rfl rfl) ?_))
         refine OW.cons (OP.yes' rfl rfl hb67 (OP.val (v := (.int .i64 (w64 (a0.at_ + 1)))) rfl (x_load1 U3 rfl rfl (hL.cellB 0 rfl rfl)) ?_))
         refine OW.cons (OP.yes' rfl rfl hb67 (OP.val (v := (.int .i64 ((w64 (a0.at_ + 1)).tmod 2))) rfl (x_rem rfl rfl (by decide)) ?_))
         refine OW.cons (OP.yes' rfl rfl hb67 (OP.val (v := (.bool (((w64 (a0.at_ + 1)).tmod 2) == 0))) rfl (x_eql rfl rfl) ?_))
         refine OV (.bool (((w64 (a0.at_ + 1)).tmod 2) == 0)) rfl (x_pickT' rfl hb67 rfl) ?_
         refine OW.nil ?_
         exact ⟨((w64 (a0.at_ + 1)).tmod 2) == 0, hm, ⟨rfl, rfl, rfl, rfl, hL⟩⟩
       refine OW.cons (OP.no' rfl rfl hb67 rfl ?_)
       refine OW.cons (OP.no' rfl rfl hb67 rfl ?_)
       refine OW.cons (OP.no' rfl rfl hb67 rfl ?_)
       refine OW.cons (OP.no' rfl rfl hb67 rfl ?_)
       refine OW.cons (OP.no' rfl rfl hb67 rfl ?_)
       refine OW.cons (OP.no' rfl rfl hb67 rfl ?_)
       refine OV (.bool false) rfl (x_pickF' rfl hb67 rfl) ?_
       refine OW.nil ?_
       exact ⟨false, hm, ⟨rfl, rfl, rfl, rfl, hL⟩⟩
     intro s_j2 F52 wd53 hJ hm
     unfold M.spec_l01Next_j2 at hm
     obtain ⟨f54, f55, f56, f57, hL⟩ := hJ
     refine CW.condM (t := s_j2) f57 hm (fun hb58 hm => ?_) (fun hb58 hm => ?_)
     · refine CW.draw Tryd_mixed ?_
       have hL := hL.call (Mod.drew _)
       refine DW.pre (fuel := 0) (fin := bma 13 8191) (C := fun w' => Mod None_ _ w') [0, 1, 2, 3, 4, 5, 6, 7, 8, 9, 10, 11, 12] (Mod.refl _ _) (by kernel_rfl) (by kernel_rfl) ?_
       refine QW.cons rfl (QP.val (v := (.pointer (some ⟨b1, 0, none⟩))) rfl (fun w' hm' => x_mv f54) ?_)
       refine QW.cons rfl (QP.val (v := (.pointer (some ⟨b1, 0, none⟩))) rfl (fun w' hm' => x_nilCheck rfl) ?_)
       refine QW.cons rfl (QP.val (v := (.pointer (some ⟨b1, 0, none⟩))) rfl (fun w' hm' => x_fieldAddr (fsz := 1) 0 0 0 U59 rfl Tryd_T22 rfl rfl rfl) ?_)
       refine QW.cons rfl (QP.val (v := v2) rfl (fun w' hm' => x_load1 U22 rfl rfl ((hL.call hm').cellB 0 rfl rfl)) ?_)
       refine QW.cons rfl (QP.val (v := (.pointer (some ⟨b1, 0, none⟩))) rfl (fun w' hm' => x_mv f54) ?_)
       refine QW.cons rfl (QP.val (v := (.pointer (some ⟨b1, 0, none⟩))) rfl (fun w' hm' => x_nilCheck rfl) ?_)
       refine QW.cons rfl (QP.val (v := (.pointer (some ⟨b1, 1, none⟩))) rfl (fun w' hm' => x_fieldAddr (fsz := 1) 0 1 1 U59 rfl Tryd_T3 rfl rfl rfl) ?_)
       refine QW.cons rfl (QP.val (v := (.int .i64 (w64 (a0.at_ + 1)))) rfl (fun w' hm' => x_load1 U3 rfl rfl ((hL.call hm').cellB 0 rfl rfl)) ?_)
       refine QW.cons rfl (QP.val (v := (.int .i64 (w64 ((w64 (a0.at_ + 1)) - 1)))) rfl (fun w' hm' => x_sub rfl rfl) ?_)
       obtain ⟨x59, ha60, hm⟩ := bndE hm
       obtain ⟨hz61, ha65⟩ := idxE ha60
       obtain ⟨b62, q63, hix64⟩ := rdL_ix (hL.rdZ 1 rfl h3) hz61 ha65
       refine QW.cons rfl (QP.val (v := (.pointer (some ⟨b62, q63, none⟩))) rfl (fun w' hm' => x_ix U22 Tryd_T5 rfl rfl hix64) ?_)
       refine QW.cons rfl (QP.val (v := (.int .u8 (x59.toNat : Int))) rfl (fun w' hm' => x_load1 U5 rfl rfl (rdF_cells ((hL.call hm').rdZ 1 rfl h3) hix64 ha65 0 _ rfl)) ?_)
       refine QW.cons rfl (QP.val (v := (.int .i64 (IntKind.i64.wrap (x59.toNat : Int)))) rfl (fun w' hm' => x_conv U5 U2 rfl) ?_)
       refine QW.cons rfl (QP.val (v := (.int .i64 (IntKind.i64.wrap (x59.toNat : Int)))) rfl (fun w' hm' => x_assign) ?_)
       refine QW.nil ?_
       intro wd66 hmod
       have hL := hL.call hmod
       refine DW.done (by kernel_rfl) ?_
       exact ⟨(w64 (a0.at_ + 1), IntKind.i64.wrap (x59.toNat : Int)), hm, ⟨f55, rfl, hL⟩⟩
     refine CW.skip ?_
     exact ⟨(w64 (a0.at_ + 1), w64 ((w64 (((w64 ((w64 (a0.seed * 48271)) + 23)).tmod 2147483647).tdiv 17)) + (IntKind.i64.wrap (x42.toNat : Int)))), hm, ⟨f55, f56, hL⟩⟩
   refine CW.skip ?_
   exact ⟨(a0.at_, w64 (((w64 ((w64 (a0.seed * 48271)) + 23)).tmod 2147483647).tdiv 17)), hm, ⟨rfl, rfl, hL⟩⟩
 intro s_j1 F35 wd36 hJ hm
 unfold M.spec_l01Next_j1 at hm
 obtain ⟨f37, f38, hL⟩ := hJ
 refine CSR ?_
 refine OV (.int .i64 s_j1.2) rfl (x_mv f38) ?_
 refine OV (.int .i64 a1) rfl (x_mv f37) ?_
 obtain ⟨hc39, hm⟩ := chkE hm
 refine OV (.int .i64 (s_j1.2.tmod a1)) rfl (x_rem rfl rfl hc39) ?_
 refine OV (.int .i64 (s_j1.2.tmod a1)) rfl (x_assign) ?_
 refine OW.nil ?_
 refine CW.ret ?_
 obtain rfl := Option.some.inj hm
 exact RR1 rfl rfl ⟨rfl, hL.mutOut 1 rfl [0] (by decide) (by decide) rfl⟩

theorem M.spec_l24Draw_ok (w0 : World) {b1 : Nat} {v2 : Value} (a0 : Src) (h3 : rdL (fun k => k < w0.heap.size ∧ ¬ (Ent.blk b1 59 #[v2, .int .i64 a0.at_, .int .i64 a0.seed]).S k) w0 v2 a0.code) (he4 : (Ent.blk b1 59 #[v2, .int .i64 a0.at_, .int .i64 a0.seed]).H w0) {r : ((List CurvePoint)) × (Int × Int)} (hm : M.spec_l24Draw a0 = some r) :
    Calls Tryd.prog 13 #[(.pointer (some ⟨b1, 0, none⟩))] w0 fun e w' => ∃ (rv0 : Value) (rS0 : Nat → Prop), e = .returned rv0 ∧ Mut w0 w' (Ent.blk b1 59 #[v2, .int .i64 a0.at_, .int .i64 a0.seed]).S [Ent.blk b1 59 #[v2, .int .i64 r.2.1, .int .i64 r.2.2], Ent.own 32 rS0 rv0 r.1] := by
 unfold M.spec_l24Draw at hm
 refine calls_CW (args := [(.pointer (some ⟨b1, 0, none⟩))]) Tryd.func13 rfl rfl rfl ?_
 have hL := Hp.startIO he4
 refine CSR ?_
 refine OV (.slice none 0 0) rfl (x_assign) ?_
 refine ONR ?_
 refine OW.cons (S_lit ([] : List CurvePoint) hL U24 Tryd_T32 rfl (by decide) (by first | (simp [Instr.fill, madeCells, Value.cells, ev, upd, Flat.enc, Flat.sz]; done) | rfl | kernel_rfl) rfl rfl ?_)
 intro wd5 v6 S7 hL
 refine OV v6 rfl (x_assign) ?_
 refine ONR ?_
 refine OV (.pointer (some ⟨b1, 0, none⟩)) rfl (x_move) ?_
 obtain ⟨x8, hx9, hm⟩ := bndE hm
 refine OW.cons (OP.call rfl (x_call (vs := [(.pointer (some ⟨b1, 0, none⟩)), (.int .i64 60)]) Tryd_C14 ⟨rfl, rfl, trivial⟩) (M.spec_l01Next_ok _ (Src.mk a0.code a0.at_ a0.seed) (hL.exZ 2 1 (by decide) rfl rfl h3) (hL.get 1 rfl) 60 hx9) ?_)
 rintro e10 wd11 ⟨rfl, hF12⟩
 refine ⟨_, rfl, ?_⟩
 have hL := hL.mut 1 rfl hF12
 simp only [lA, lB, lC, lD] at hL
 refine OV (.pointer (some ⟨b1, 0, none⟩)) rfl (x_move) ?_
 obtain ⟨x13, hx14, hm⟩ := bndE hm
 refine OW.cons (OP.call rfl (x_call (vs := [(.pointer (some ⟨b1, 0, none⟩)), (.int .i64 4000)]) Tryd_C14 ⟨rfl, rfl, trivial⟩) (M.spec_l01Next_ok _ (Src.mk a0.code x8.2.1 x8.2.2) (hL.exZ 2 1 (by decide) rfl rfl h3) (hL.get 1 rfl) 4000 hx14) ?_)
 rintro e15 wd16 ⟨rfl, hF17⟩
 refine ⟨_, rfl, ?_⟩
 have hL := hL.mut 1 rfl hF17
 simp only [lA, lB, lC, lD] at hL
 refine OV (.int .i64 (w64 (3000 + x13.1))) rfl (x_add rfl rfl) ?_
 refine OV (.int .i64 x8.1) rfl (x_assign) ?_
 refine OV (.int .i64 (w64 (3000 + x13.1))) rfl (x_assign) ?_
 refine ONS ?_
 refine CSR ?_
 refine OV (.pointer (some ⟨b1, 0, none⟩)) rfl (x_move) ?_
 obtain ⟨x18, hx19, hm⟩ := bndE hm
 refine OW.cons (OP.call rfl (x_call (vs := [(.pointer (some ⟨b1, 0, none⟩)), (.int .i64 5)]) Tryd_C14 ⟨rfl, rfl, trivial⟩) (M.spec_l01Next_ok _ (Src.mk a0.code x13.2.1 x13.2.2) (hL.exZ 2 1 (by decide) rfl rfl h3) (hL.get 1 rfl) 5 hx19) ?_)
 rintro e20 wd21 ⟨rfl, hF22⟩
 refine ⟨_, rfl, ?_⟩
 have hL := hL.mut 1 rfl hF22
 simp only [lA, lB, lC, lD] at hL
 refine OV (.int .i64 (w64 (2 + x18.1))) rfl (x_add rfl rfl) ?_
 refine OV (.int .i64 (w64 (2 + x18.1))) rfl (x_assign) ?_
 refine OW.nil ?_
 obtain ⟨o65, ho66, hm⟩ := bndE hm
 refine CW.loopB (fun (s_l1 : Int × Int × (List CurvePoint) × Int × Int × Int) (F : Fr) (w : World) => ∃ (v61 : Value) (S62 : Nat → Prop), F 0 = (.pointer (some ⟨b1, 0, none⟩)) ∧ F 3 = v61 ∧ F 4 = (.int .i64 s_l1.2.2.2.1) ∧ F 5 = (.int .i64 s_l1.2.2.2.2.1) ∧ F 6 = (.int .i64 s_l1.2.2.2.2.2) ∧ Hp w0 [Ent.own 32 S62 v61 s_l1.2.2.1, Ent.blk b1 59 #[v2, (.int .i64 s_l1.1), (.int .i64 s_l1.2.1)], Ent.frz w0 (Ent.blk b1 59 #[v2, .int .i64 a0.at_, .int .i64 a0.seed]).S] w) (fun o => outc o (fun x => some x) (fun s => M.spec_l24Draw_a1 a0 s) = some r) ho66 hm ⟨v6, S7, rfl, rfl, rfl, rfl, rfl, hL⟩ ?_ ?_
 · intro s_l1 F67 wd68 hJ hm
   have hm := outcE hm
   have hm : M.spec_l24Draw_a1 a0 s_l1 = some r := hm
   unfold M.spec_l24Draw_a1 at hm
   obtain ⟨v61, S62, f69, f70, f71, f72, f73, hL⟩ := hJ
   refine CSR ?_
   refine OV (.pointer (some ⟨b1, 0, none⟩)) rfl (x_mv f69) ?_
   refine OV v61 rfl (x_mv f70) ?_
   refine OV (.int .i64 (s_l1.2.2.1.length : Int)) rfl (x_lenR U24 rfl (hL.rdO 0 rfl)) ?_
   obtain ⟨x74, hx75, hm⟩ := bndE hm
   refine OW.cons (OP.call rfl (x_call (vs := [(.pointer (some ⟨b1, 0, none⟩)), (.int .i64 (s_l1.2.2.1.length : Int))]) Tryd_C14 ⟨rfl, rfl, trivial⟩) (M.spec_l01Next_ok _ (Src.mk a0.code s_l1.1 s_l1.2.1) (hL.exZ 2 1 (by decide) rfl rfl h3) (hL.get 1 rfl) (s_l1.2.2.1.length : Int) hx75) ?_)
   rintro e76 wd77 ⟨rfl, hF78⟩
   refine ⟨_, rfl, ?_⟩
   have hL := hL.mut 1 rfl hF78
   simp only [lA, lB, lC, lD] at hL
   refine OV (.int .i64 x74.1) rfl (x_assign) ?_
   refine OW.nil ?_
   refine CW.seqJ (fun (s_j1 : Int × Int × (List CurvePoint)) (F : Fr) (w : World) => ∃ (S192 : Nat → Prop), F 3 = v61 ∧ Hp w0 [Ent.own 32 S192 v61 s_j1.2.2, Ent.blk b1 59 #[v2, (.int .i64 s_j1.1), (.int .i64 s_j1.2.1)], Ent.frz w0 (Ent.blk b1 59 #[v2, .int .i64 a0.at_, .int .i64 a0.seed]).S] w) (fun s_j1 => M.spec_l24Draw_j1 s_j1 = some r) ?_ ?_
   · refine CSR ?_
     refine OV (.pointer (some ⟨b1, 0, none⟩)) rfl (x_mv f69) ?_
     obtain ⟨x196, hx197, hm⟩ := bndE hm
     refine OW.cons (OP.call rfl (x_call (vs := [(.pointer (some ⟨b1, 0, none⟩)), (.int .i64 30)]) Tryd_C14 ⟨rfl, rfl, trivial⟩) (M.spec_l01Next_ok _ (Src.mk a0.code x74.2.1 x74.2.2) (hL.exZ 2 1 (by decide) rfl rfl h3) (hL.get 1 rfl) 30 hx197) ?_)
     rintro e198 wd199 ⟨rfl, hF200⟩
     refine ⟨_, rfl, ?_⟩
     have hL := hL.mut 1 rfl hF200
     simp only [lA, lB, lC, lD] at hL
     refine OW.nil ?_
     refine CW.blockJ (fun (s_j2 : Int × Int × (List CurvePoint)) (F : Fr) (w : World) => ∃ (S253 : Nat → Prop), F 3 = v61 ∧ Hp w0 [Ent.own 32 S253 v61 s_j2.2.2, Ent.blk b1 59 #[v2, (.int .i64 s_j2.1), (.int .i64 s_j2.2.1)], Ent.frz w0 (Ent.blk b1 59 #[v2, .int .i64 a0.at_, .int .i64 a0.seed]).S] w) (fun s_j2 => M.spec_l24Draw_j2 s_j2 = some r) ?_ ?_
     · refine CSR ?_
       refine OV (.bool (x196.1 == 0)) rfl (x_eql rfl rfl) ?_
       refine OV (.bool (x196.1 == 0)) rfl (x_assign) ?_
       refine OW.nil ?_
       refine CW.condM (t := x196.1 == 0) rfl hm (fun hb257 hm => ?_) (fun hb257 hm => ?_)
       · refine CW.regionL ?_
         refine OV v61 rfl (x_mv f70) ?_
         refine OV (.int .i64 x74.1) rfl (x_move) ?_
         refine OW.cons (S_lit ([(-1), 0, 1000, 1001] : List Int) hL U39 Tryd_T2 rfl (by decide) (by first | (simp [Instr.fill, madeCells, Value.cells, ev, upd, Flat.enc, Flat.sz]; done) | rfl | kernel_rfl) rfl rfl ?_)
         intro wd258 v259 S260 hL
         refine OV (.pointer (some ⟨b1, 0, none⟩)) rfl (x_mv f69) ?_
         obtain ⟨x261, hx262, hm⟩ := bndE hm
         refine OW.cons (OP.call rfl (x_call (vs := [(.pointer (some ⟨b1, 0, none⟩)), (.int .i64 4)]) Tryd_C14 ⟨rfl, rfl, trivial⟩) (M.spec_l01Next_ok _ (Src.mk a0.code x196.2.1 x196.2.2) (hL.exZ 3 2 (by decide) rfl rfl h3) (hL.get 2 rfl) 4 hx262) ?_)
         rintro e263 wd264 ⟨rfl, hF265⟩
         refine ⟨_, rfl, ?_⟩
         have hL := hL.mut 2 rfl hF265
         simp only [lA, lB, lC, lD] at hL
         obtain ⟨x266, ha267, hm⟩ := bndE hm
         obtain ⟨hz268, ha272⟩ := idxE ha267
         obtain ⟨b269, q270, hix271⟩ := rdL_ix (hL.rdO 0 rfl) hz268 ha272
         refine OV (.pointer (some ⟨b269, q270, none⟩)) rfl (x_ix U39 Tryd_T2 rfl rfl hix271) ?_
         refine OV (.int .i64 x266) rfl (x_load1 U2 rfl rfl (rdF_cells (hL.rdO 0 rfl) hix271 ha272 0 _ rfl)) ?_
         obtain ⟨x273, ha274, hm⟩ := bndE hm
         obtain ⟨hz275, ha279⟩ := idxE ha274
         obtain ⟨b276, q277, hix278⟩ := rdL_ix (hL.rdO 1 rfl) hz275 ha279
         refine OV (.pointer (some ⟨b276, q277, none⟩)) rfl (x_ix U24 Tryd_T32 rfl rfl hix278) ?_
         refine OV (.pointer (some ⟨b276, q277, none⟩)) rfl (x_fieldAddr (fsz := 1) q277 0 q277 U32 rfl Tryd_T2 rfl rfl rfl) ?_
         refine OW.cons (S_storeX (j := 0) (CurvePoint.mk x266 x273.Pace) hL 1 rfl Tryd_T2 hix278 ha279 rfl rfl rfl rfl rfl rfl ?_)
         intro wd280 hL
         refine OW.nil ?_
         have hL := hL.sel [1, 2, 3] (by decide) rfl
         exact ⟨(x261.2.1, x261.2.2, s_l1.2.2.1.set (x74.1 : Int).toNat (CurvePoint.mk x266 x273.Pace)), hm, ⟨S62, f70, hL⟩⟩
       refine CSR ?_
       refine OV (.bool (x196.1 == 1)) rfl (x_eql rfl rfl) ?_
       refine OV (.bool (x196.1 == 1)) rfl (x_assign) ?_
       refine OW.nil ?_
       refine CW.condM (t := x196.1 == 1) rfl hm (fun hb281 hm => ?_) (fun hb281 hm => ?_)
       · refine CW.regionL ?_
         refine OV v61 rfl (x_mv f70) ?_
         refine OV (.int .i64 x74.1) rfl (x_move) ?_
         refine OW.cons (S_lit ([0, 1, 1000000, 1000001] : List Int) hL U39 Tryd_T2 rfl (by decide) (by first | (simp [Instr.fill, madeCells, Value.cells, ev, upd, Flat.enc, Flat.sz]; done) | rfl | kernel_rfl) rfl rfl ?_)
         intro wd282 v283 S284 hL
         refine OV (.pointer (some ⟨b1, 0, none⟩)) rfl (x_mv f69) ?_
         obtain ⟨x285, hx286, hm⟩ := bndE hm
         refine OW.cons (OP.call rfl (x_call (vs := [(.pointer (some ⟨b1, 0, none⟩)), (.int .i64 4)]) Tryd_C14 ⟨rfl, rfl, trivial⟩) (M.spec_l01Next_ok _ (Src.mk a0.code x196.2.1 x196.2.2) (hL.exZ 3 2 (by decide) rfl rfl h3) (hL.get 2 rfl) 4 hx286) ?_)
         rintro e287 wd288 ⟨rfl, hF289⟩
         refine ⟨_, rfl, ?_⟩
         have hL := hL.mut 2 rfl hF289
         simp only [lA, lB, lC, lD] at hL
         obtain ⟨x290, ha291, hm⟩ := bndE hm
         obtain ⟨hz292, ha296⟩ := idxE ha291
         obtain ⟨b293, q294, hix295⟩ := rdL_ix (hL.rdO 0 rfl) hz292 ha296
         refine OV (.pointer (some ⟨b293, q294, none⟩)) rfl (x_ix U39 Tryd_T2 rfl rfl hix295) ?_
         refine OV (.int .i64 x290) rfl (x_load1 U2 rfl rfl (rdF_cells (hL.rdO 0 rfl) hix295 ha296 0 _ rfl)) ?_
         obtain ⟨x297, ha298, hm⟩ := bndE hm
         obtain ⟨hz299, ha303⟩ := idxE ha298
         obtain ⟨b300, q301, hix302⟩ := rdL_ix (hL.rdO 1 rfl) hz299 ha303
         refine OV (.pointer (some ⟨b300, q301, none⟩)) rfl (x_ix U24 Tryd_T32 rfl rfl hix302) ?_
         refine OV (.pointer (some ⟨b300, q301 + 1, none⟩)) rfl (x_fieldAddr (fsz := 1) q301 1 (q301 + 1) U32 rfl Tryd_T2 rfl rfl rfl) ?_
         refine OW.cons (S_storeX (j := 1) (CurvePoint.mk x297.Wind x290) hL 1 rfl Tryd_T2 hix302 ha303 rfl rfl rfl rfl rfl rfl ?_)
         intro wd304 hL
         refine OW.nil ?_
         have hL := hL.sel [1, 2, 3] (by decide) rfl
         exact ⟨(x285.2.1, x285.2.2, s_l1.2.2.1.set (x74.1 : Int).toNat (CurvePoint.mk x297.Wind x290)), hm, ⟨S62, f70, hL⟩⟩
       refine CSR ?_
       refine OV (.bool (x196.1 == 2)) rfl (x_eql rfl rfl) ?_
       refine OV (.bool (x196.1 == 2)) rfl (x_assign) ?_
       refine OW.nil ?_
       refine CW.condM (t := x196.1 == 2) rfl hm (fun hb305 hm => ?_) (fun hb305 hm => ?_)
       · refine CSR ?_
         refine OV v61 rfl (x_mv f70) ?_
         obtain ⟨hc308, hm⟩ := chkE hm
         obtain ⟨v306, hs307⟩ := subV_of (hL.rdO 0 rfl) hc308
         refine OV v306 rfl (x_slice0 U24 Tryd_T32 rfl rfl hs307) ?_
         refine OV v306 rfl (x_assign) ?_
         refine OW.nil ?_
         refine CW.ret ?_
         have hL := hL.prefix 0 rfl hs307
         obtain rfl := Option.some.inj hm
         exact RR1 rfl rfl ⟨v306, S62, rfl, hL.mutOut 2 rfl [1, 0] (by decide) (by decide) rfl⟩
       refine CW.skip ?_
       exact ⟨(x196.2.1, x196.2.2, s_l1.2.2.1), hm, ⟨S62, f70, hL⟩⟩
     intro s_j2 F254 wd255 hJ hm
     unfold M.spec_l24Draw_j2 at hm
     obtain ⟨S253, f256, hL⟩ := hJ
     exact ⟨(s_j2.1, s_j2.2.1, s_j2.2.2), hm, ⟨S253, f256, hL⟩⟩
   intro s_j1 F193 wd194 hJ hm
   unfold M.spec_l24Draw_j1 at hm
   obtain ⟨S192, f195, hL⟩ := hJ
   refine CSR ?_
   refine OV v61 rfl (x_mv f195) ?_
   refine OV v61 rfl (x_assign) ?_
   refine OW.nil ?_
   refine CW.ret ?_
   obtain rfl := Option.some.inj hm
   exact RR1 rfl rfl ⟨v61, S192, rfl, hL.mutOut 2 rfl [1, 0] (by decide) (by decide) rfl⟩
 intro s_l1 F309 wd310 t63 hJ hm hr64
 unfold M.spec_l24Draw_l1 at hm
 obtain ⟨v61, S62, f311, f312, f313, f314, f315, hL⟩ := hJ
 refine CW.seq ?_
 refine CSR ?_
 refine OV (.int .i64 s_l1.2.2.2.2.2) rfl (x_mv f315) ?_
 refine OV (.bool (decide (0 < s_l1.2.2.2.2.2))) rfl (x_gtr rfl rfl) ?_
 refine OW.nil ?_
 refine CW.condM (t := decide (0 < s_l1.2.2.2.2.2)) rfl hm (fun hb316 hm => ?_) (fun hb316 hm => ?_)
 · refine CW.skip ?_
   refine CW.seq ?_
   refine CW.block ?_
   refine CSR ?_
   refine OV v61 rfl (x_mv f312) ?_
   refine OV (.int .i64 s_l1.2.2.2.1) rfl (x_mv f313) ?_
   refine OV (.int .i64 s_l1.2.2.2.2.1) rfl (x_mv f314) ?_
   refine OV (.agg #[(.int .i64 s_l1.2.2.2.1), (.int .i64 s_l1.2.2.2.2.1)]) rfl (x_build Tryd_B32 (ps := [(0, (.int .i64 s_l1.2.2.2.1)), (1, (.int .i64 s_l1.2.2.2.2.1))]) ⟨⟨rfl, rfl⟩, ⟨rfl, rfl⟩, trivial⟩ (by simp [Instr.fill, cells_int, cells_bool, cells_string, cells_agg, cells_slice, cells_pointer])) ?_
   refine OW.cons (S_lit ([(CurvePoint.mk s_l1.2.2.2.1 s_l1.2.2.2.2.1)] : List CurvePoint) hL U24 Tryd_T32 rfl (by decide) (by first | (simp [Instr.fill, madeCells, Value.cells, ev, upd, Flat.enc, Flat.sz]; done) | rfl | kernel_rfl) rfl rfl ?_)
   intro wd317 v318 S319 hL
   obtain ⟨hc323, hm⟩ := chkE hm
   refine OW.cons (S_append (ys := ([(CurvePoint.mk s_l1.2.2.2.1 s_l1.2.2.2.2.1)] : List CurvePoint)) hL 1 rfl U24 Tryd_T32 rfl rfl rfl (hL.rdO 0 rfl) hc323 (by decide) rfl ?_)
   intro wd320 v321 S322 hL
   refine OV v321 rfl (x_assign) ?_
   refine ONR ?_
   refine OV (.int .i64 s_l1.2.2.2.1) rfl (x_mv f313) ?_
   refine OV (.int .i64 (w64 (s_l1.2.2.2.1 + 1))) rfl (x_add rfl rfl) ?_
   refine OV (.pointer (some ⟨b1, 0, none⟩)) rfl (x_mv f311) ?_
   obtain ⟨x324, hx325, hm⟩ := bndE hm
   refine OW.cons (OP.call rfl (x_call (vs := [(.pointer (some ⟨b1, 0, none⟩)), (.int .i64 60)]) Tryd_C14 ⟨rfl, rfl, trivial⟩) (M.spec_l01Next_ok _ (Src.mk a0.code s_l1.1 s_l1.2.1) (hL.exZ 3 2 (by decide) rfl rfl h3) (hL.get 2 rfl) 60 hx325) ?_)
   rintro e326 wd327 ⟨rfl, hF328⟩
   refine ⟨_, rfl, ?_⟩
   have hL := hL.mut 2 rfl hF328
   simp only [lA, lB, lC, lD] at hL
   refine OV (.int .i64 (w64 ((w64 (s_l1.2.2.2.1 + 1)) + x324.1))) rfl (x_add rfl rfl) ?_
   refine OV (.int .i64 (w64 ((w64 (s_l1.2.2.2.1 + 1)) + x324.1))) rfl (x_assign) ?_
   refine OW.nil ?_
   refine CW.regionL ?_
   refine OV (.int .i64 s_l1.2.2.2.2.1) rfl (x_mv f314) ?_
   refine OV (.int .i64 (w64 (s_l1.2.2.2.2.1 - 1))) rfl (x_sub rfl rfl) ?_
   refine OV (.pointer (some ⟨b1, 0, none⟩)) rfl (x_mv f311) ?_
   obtain ⟨x329, hx330, hm⟩ := bndE hm
   refine OW.cons (OP.call rfl (x_call (vs := [(.pointer (some ⟨b1, 0, none⟩)), (.int .i64 500)]) Tryd_C14 ⟨rfl, rfl, trivial⟩) (M.spec_l01Next_ok _ (Src.mk a0.code x324.2.1 x324.2.2) (hL.exZ 3 2 (by decide) rfl rfl h3) (hL.get 2 rfl) 500 hx330) ?_)
   rintro e331 wd332 ⟨rfl, hF333⟩
   refine ⟨_, rfl, ?_⟩
   have hL := hL.mut 2 rfl hF333
   simp only [lA, lB, lC, lD] at hL
   refine OV (.int .i64 (w64 ((w64 (s_l1.2.2.2.2.1 - 1)) - x329.1))) rfl (x_sub rfl rfl) ?_
   refine OV (.int .i64 (max 1 (w64 ((w64 (s_l1.2.2.2.2.1 - 1)) - x329.1)))) rfl (x_max2 rfl rfl) ?_
   refine OV (.int .i64 (max 1 (w64 ((w64 (s_l1.2.2.2.2.1 - 1)) - x329.1)))) rfl (x_assign) ?_
   refine OW.nil ?_
   refine CW.regionL ?_
   refine OV (.int .i64 s_l1.2.2.2.2.2) rfl (x_mv f315) ?_
   refine OV (.int .i64 (w64 (s_l1.2.2.2.2.2 - 1))) rfl (x_sub rfl rfl) ?_
   refine OV (.int .i64 (w64 (s_l1.2.2.2.2.2 - 1))) rfl (x_assign) ?_
   refine OW.nil ?_
   have hL := hL.sel [1, 2, 3] (by decide) rfl
   obtain rfl := Option.some.inj hm
   exact ⟨_, rfl, ⟨v321, S322, f311, rfl, rfl, rfl, rfl, hL⟩⟩
 refine CW.exit ?_
 refine XJ.hit ?_
 obtain rfl := Option.some.inj hm
 exact ⟨_, rfl, ⟨v61, S62, f311, f312, f313, f314, f315, hL⟩⟩

theorem M.spec_DrawSimplifyCurve_ok (w0 : World) (a0 : List UInt8) {v1 : Value} (h2 : rdL (· < w0.heap.size) w0 v1 a0) {r : (List CurvePoint) × Int} (hm : M.spec_DrawSimplifyCurve a0 = some r) :
    Calls Tryd.prog 5 #[v1] w0 fun e w' => ∃ (rv0 : Value) (rS0 : Nat → Prop), e = .returned (.tuple #[rv0, (.int .i64 r.2)]) ∧ Fresh w0 w' [Ent.own 32 rS0 rv0 r.1] := by
 unfold M.spec_DrawSimplifyCurve at hm
 refine calls_CW (args := [v1]) Tryd.func5 rfl rfl rfl ?_
 have hL := Hp.start w0
 refine CSR ?_
 refine OV (.slice none 0 0) rfl (x_assign) ?_
 refine OV (.int .i64 0) rfl (x_assign) ?_
 refine ONR ?_
 refine OV v1 rfl (x_move) ?_
 obtain ⟨x3, hx4, hm⟩ := bndE hm
 refine OW.cons (OP.call rfl (x_call (vs := [v1]) Tryd_C12 ⟨rfl, trivial⟩) (M.spec_l01From_ok _ a0 (hL.rdS 0 rfl h2) hx4) ?_)
 rintro e6 wd7 ⟨b5, rfl, hF8⟩
 refine ⟨_, rfl, ?_⟩
 have hL := hL.pushAll hF8
 simp only [lA, lB, lC, lD] at hL
 refine OV (.pointer (some ⟨b5, 0, none⟩)) rfl (x_assign) ?_
 refine ONR ?_
 refine OV (.pointer (some ⟨b5, 0, none⟩)) rfl (x_move) ?_
 obtain ⟨x9, hx10, hm⟩ := bndE hm
 refine OW.cons (OP.call rfl (x_call (vs := [(.pointer (some ⟨b5, 0, none⟩))]) Tryd_C13 ⟨rfl, trivial⟩) (M.spec_l24Draw_ok _ (Src.mk a0 x3.1 x3.2) (hL.exS 1 0 (by decide) rfl rfl h2) (hL.get 0 rfl) hx10) ?_)
 rintro e13 wd14 ⟨v12, S11, rfl, hF15⟩
 refine ⟨_, rfl, ?_⟩
 have hL := hL.mut 0 rfl hF15
 simp only [lA, lB, lC, lD] at hL
 refine OV v12 rfl (x_assign) ?_
 refine ONS ?_
 refine CSR ?_
 refine OV (.pointer (some ⟨b5, 0, none⟩)) rfl (x_move) ?_
 obtain ⟨x16, hx17, hm⟩ := bndE hm
 refine OW.cons (OP.call rfl (x_call (vs := [(.pointer (some ⟨b5, 0, none⟩)), (.int .i64 16)]) Tryd_C14 ⟨rfl, rfl, trivial⟩) (M.spec_l01Next_ok _ (Src.mk a0 x9.2.1 x9.2.2) (hL.exS 2 1 (by decide) rfl rfl h2) (hL.get 1 rfl) 16 hx17) ?_)
 rintro e18 wd19 ⟨rfl, hF20⟩
 refine ⟨_, rfl, ?_⟩
 have hL := hL.mut 1 rfl hF20
 simp only [lA, lB, lC, lD] at hL
 refine OV (.bool (x16.1 == 0)) rfl (x_eql rfl rfl) ?_
 refine OW.nil ?_
 refine CW.condM (t := x16.1 == 0) rfl hm (fun hb21 hm => ?_) (fun hb21 hm => ?_)
 · refine CW.seq ?_
   refine CW.drawH (fun w' => Hp w0 [Ent.own 32 S11 v12 x9.1, Ent.snap w0 w0.heap.size] w') Tryd_mixed ?_
   have hL := hL.call (Mod.drew _)
   have hS := (hL.sel [0, 2] (by decide) rfl)
   refine DH.take 0 rfl (by kernel_rfl) (by kernel_rfl) (by kernel_rfl) rfl rfl hS (YH.val (v := v12) (fun w' hS' => x_move)) ?_
   have hS := (hL.sel [0, 2] (by decide) rfl)
   refine DH.take 2 rfl (by kernel_rfl) (by kernel_rfl) (by kernel_rfl) rfl rfl hS (YH.val (v := (.pointer (some ⟨b5, 0, none⟩))) (fun w' hS' => x_move)) ?_
   refine DH.all (rs := [1, 3]) (by kernel_rfl) (by simp) ?_
   intro i37 hi38
   simp only [List.mem_cons, List.not_mem_nil, or_false] at hi38
   rcases hi38 with rfl | rfl
   · refine ⟨_, rfl, ?_⟩
     refine S_lit ([(-1), 0, 1000000, 1000001] : List Int) hL U39 Tryd_T2 rfl (by decide) (by first | (simp [Instr.fill, madeCells, Value.cells, ev, upd, Flat.enc, Flat.sz]; done) | rfl | kernel_rfl) rfl rfl ?_
     intro wd39 v40 S41 hL
     refine ⟨(hL.sel [1, 3] (by decide) rfl), ?_⟩
     obtain ⟨x42, hx43, hm⟩ := bndE hm
     refine DH.only 3 rfl (by kernel_rfl) (OP.call rfl (x_call (vs := [(.pointer (some ⟨b5, 0, none⟩)), (.int .i64 4)]) Tryd_C14 ⟨rfl, rfl, trivial⟩) (M.spec_l01Next_ok _ (Src.mk a0 x16.2.1 x16.2.2) (hL.exS 3 2 (by decide) rfl rfl h2) (hL.get 2 rfl) 4 hx43) ?_)
     rintro e44 wd45 ⟨rfl, hF46⟩
     refine ⟨_, rfl, ?_⟩
     have hL := hL.mut 2 rfl hF46
     simp only [lA, lB, lC, lD] at hL
     refine ⟨(hL.sel [1, 3] (by decide) rfl), ?_⟩
     have hS := (hL.sel [1, 3] (by decide) rfl)
     obtain ⟨x47, ha48, hm⟩ := bndE hm
     obtain ⟨hz49, ha53⟩ := idxE ha48
     obtain ⟨b50, q51, hix52⟩ := rdL_ix (hL.rdO 0 rfl) hz49 ha53
     refine DH.take 4 rfl (by kernel_rfl) (by kernel_rfl) (by kernel_rfl) rfl rfl hS (YH.val (v := (.pointer (some ⟨b50, q51, none⟩))) (fun w' hS' => x_ix U39 Tryd_T2 rfl rfl hix52)) ?_
     have hS := (hL.sel [1, 3] (by decide) rfl)
     refine DH.take 6 rfl (by kernel_rfl) (by kernel_rfl) (by kernel_rfl) rfl rfl hS (YH.val (v := v12) (fun w' hS' => x_assign)) ?_
     refine DH.only 5 rfl (by kernel_rfl) (OP.val (v := (.int .i64 x47)) rfl (x_load1 U2 rfl rfl (rdF_cells (hL.rdO 0 rfl) hix52 ha53 0 _ rfl)) ?_)
     refine ⟨(hL.sel [1, 3] (by decide) rfl), ?_⟩
     have hS := (hL.sel [1, 3] (by decide) rfl)
     refine DH.take 7 rfl (by kernel_rfl) (by kernel_rfl) (by kernel_rfl) rfl rfl hS (YH.val (v := (.int .i64 x47)) (fun w' hS' => x_assign)) ?_
     refine DH.done (by kernel_rfl) ?_
     refine CW.ret ?_
     obtain rfl := Option.some.inj hm
     exact RR2 rfl rfl rfl ⟨v12, S11, rfl, hL.fresh 3 rfl [1] (by decide) (by decide) rfl⟩
   refine ⟨_, rfl, ?_⟩
   obtain ⟨x54, hx55, hm⟩ := bndE hm
   refine OP.call rfl (x_call (vs := [(.pointer (some ⟨b5, 0, none⟩)), (.int .i64 4)]) Tryd_C14 ⟨rfl, rfl, trivial⟩) (M.spec_l01Next_ok _ (Src.mk a0 x16.2.1 x16.2.2) (hL.exS 2 1 (by decide) rfl rfl h2) (hL.get 1 rfl) 4 hx55) ?_
   rintro e56 wd57 ⟨rfl, hF58⟩
   refine ⟨_, rfl, ?_⟩
   have hL := hL.mut 1 rfl hF58
   simp only [lA, lB, lC, lD] at hL
   refine ⟨(hL.sel [0, 2] (by decide) rfl), ?_⟩
   have hS := (hL.sel [0, 2] (by decide) rfl)
   refine DH.take 6 rfl (by kernel_rfl) (by kernel_rfl) (by kernel_rfl) rfl rfl hS (YH.val (v := v12) (fun w' hS' => x_assign)) ?_
   refine DH.only 1 rfl (by kernel_rfl) (S_lit ([(-1), 0, 1000000, 1000001] : List Int) hL U39 Tryd_T2 rfl (by decide) (by first | (simp [Instr.fill, madeCells, Value.cells, ev, upd, Flat.enc, Flat.sz]; done) | rfl | kernel_rfl) rfl rfl ?_)
   intro wd59 v60 S61 hL
   refine ⟨(hL.sel [1, 3] (by decide) rfl), ?_⟩
   have hS := (hL.sel [1, 3] (by decide) rfl)
   obtain ⟨x62, ha63, hm⟩ := bndE hm
   obtain ⟨hz64, ha68⟩ := idxE ha63
   obtain ⟨b65, q66, hix67⟩ := rdL_ix (hL.rdO 0 rfl) hz64 ha68
   refine DH.take 4 rfl (by kernel_rfl) (by kernel_rfl) (by kernel_rfl) rfl rfl hS (YH.val (v := (.pointer (some ⟨b65, q66, none⟩))) (fun w' hS' => x_ix U39 Tryd_T2 rfl rfl hix67)) ?_
   refine DH.only 5 rfl (by kernel_rfl) (OP.val (v := (.int .i64 x62)) rfl (x_load1 U2 rfl rfl (rdF_cells (hL.rdO 0 rfl) hix67 ha68 0 _ rfl)) ?_)
   refine ⟨(hL.sel [1, 3] (by decide) rfl), ?_⟩
   have hS := (hL.sel [1, 3] (by decide) rfl)
   refine DH.take 7 rfl (by kernel_rfl) (by kernel_rfl) (by kernel_rfl) rfl rfl hS (YH.val (v := (.int .i64 x62)) (fun w' hS' => x_assign)) ?_
   refine DH.done (by kernel_rfl) ?_
   refine CW.ret ?_
   obtain rfl := Option.some.inj hm
   exact RR2 rfl rfl rfl ⟨v12, S11, rfl, hL.fresh 3 rfl [1] (by decide) (by decide) rfl⟩
 refine CW.skip ?_
 refine CSR ?_
 refine OV v12 rfl (x_move) ?_
 refine OV (.pointer (some ⟨b5, 0, none⟩)) rfl (x_move) ?_
 obtain ⟨x69, hx70, hm⟩ := bndE hm
 refine OW.cons (OP.call rfl (x_call (vs := [(.pointer (some ⟨b5, 0, none⟩)), (.int .i64 200)]) Tryd_C14 ⟨rfl, rfl, trivial⟩) (M.spec_l01Next_ok _ (Src.mk a0 x16.2.1 x16.2.2) (hL.exS 2 1 (by decide) rfl rfl h2) (hL.get 1 rfl) 200 hx70) ?_)
 rintro e71 wd72 ⟨rfl, hF73⟩
 refine ⟨_, rfl, ?_⟩
 have hL := hL.mut 1 rfl hF73
 simp only [lA, lB, lC, lD] at hL
 refine OV v12 rfl (x_assign) ?_
 refine OV (.int .i64 x69.1) rfl (x_assign) ?_
 refine OW.nil ?_
 refine CW.ret ?_
 obtain rfl := Option.some.inj hm
 exact RR2 rfl rfl rfl ⟨v12, S11, rfl, hL.fresh 2 rfl [0] (by decide) (by decide) rfl⟩

theorem M.impl_within_ok (w0 : World) (a0 : Int) (a1 : Int) (a2 : Int) {r : Bool} (hm : M.impl_within a0 a1 a2 = some r) :
    Calls Tryd.prog 16 #[(.int .i64 a0), (.int .i64 a1), (.int .i64 a2)] w0 fun e w' => e = .returned (.bool r) ∧ Fresh w0 w' [] := by
 unfold M.impl_within at hm
 refine calls_CW (args := [(.int .i64 a0), (.int .i64 a1), (.int .i64 a2)]) Tryd.func16 rfl rfl rfl ?_
 have hL := Hp.start w0
 refine CSR ?_
 refine OV (.bool false) rfl (x_assign) ?_
 refine OW.nil ?_
 refine CW.seqJ (fun (s_j1 : Bool) (F : Fr) (w : World) => F 6 = (.bool s_j1) ∧ Hp w0 [Ent.snap w0 w0.heap.size] w) (fun s_j1 => M.impl_within_j1 s_j1 = some r) ?_ ?_
 · refine CW.regionL ?_
   refine OV (.int .i64 a0) rfl (x_move) ?_
   refine OV (.int .i64 a1) rfl (x_move) ?_
   refine OV (.bool (decide (a1 ≤ a0))) rfl (x_geq rfl rfl) ?_
   refine OV (.bool (decide (a1 ≤ a0))) rfl (x_move) ?_
   refine ifB_elim hm (fun hb5 hm => ?_) (fun hb5 hm => ?_)
   · refine OW.cons (OP.yes' rfl rfl hb5 (OP.val (v := (.int .i64 a0)) rfl (x_move) ?_))
     refine OW.cons (OP.yes' rfl rfl hb5 (OP.val (v := (.int .i64 a2)) rfl (x_move) ?_))
     refine OW.cons (OP.yes' rfl rfl hb5 (OP.val (v := (.bool (decide (a0 ≤ a2)))) rfl (x_leq rfl rfl) ?_))
     refine OV (.bool (decide (a0 ≤ a2))) rfl (x_pickT' rfl hb5 rfl) ?_
     refine OV (.bool (decide (a0 ≤ a2))) rfl (x_assign) ?_
     refine OW.nil ?_
     exact ⟨decide (a0 ≤ a2), hm, ⟨rfl, hL⟩⟩
   refine OW.cons (OP.no' rfl rfl hb5 rfl ?_)
   refine OW.cons (OP.no' rfl rfl hb5 rfl ?_)
   refine OW.cons (OP.no' rfl rfl hb5 rfl ?_)
   refine OV (.bool false) rfl (x_pickF' rfl hb5 rfl) ?_
   refine OV (.bool false) rfl (x_assign) ?_
   refine OW.nil ?_
   exact ⟨false, hm, ⟨rfl, hL⟩⟩
 intro s_j1 F2 wd3 hJ hm
 unfold M.impl_within_j1 at hm
 obtain ⟨f4, hL⟩ := hJ
 refine CW.ret ?_
 obtain rfl := Option.some.inj hm
 exact RR1 rfl f4 ⟨rfl, hL.fresh 0 rfl [] (by decide) (by decide) rfl⟩

theorem M.impl_IsCurve_ok (w0 : World) (a0 : List CurvePoint) {v1 : Value} (h2 : rdL (· < w0.heap.size) w0 v1 a0) {r : Bool} (hm : M.impl_IsCurve a0 = some r) :
    Calls Tryd.prog 15 #[v1] w0 fun e w' => e = .returned (.bool r) ∧ Fresh w0 w' [] := by
 unfold M.impl_IsCurve at hm
 refine calls_CW (args := [v1]) Tryd.func15 rfl rfl rfl ?_
 have hL := Hp.start w0
 refine CSR ?_
 refine OV (.bool false) rfl (x_assign) ?_
 refine ONS ?_
 refine CSR ?_
 refine OV v1 rfl (x_move) ?_
 refine OV (.int .i64 (a0.length : Int)) rfl (x_lenR U24 rfl (hL.rdS 0 rfl h2)) ?_
 refine OV (.int .i64 0) rfl (x_move) ?_
 refine OW.nil ?_
 obtain ⟨o151, ho152, hm⟩ := bndE hm
 refine CW.loopB (fun (s_l1 : Int) (F : Fr) (w : World) => F 0 = v1 ∧ F 5 = v1 ∧ F 6 = (.int .i64 (a0.length : Int)) ∧ F 7 = (.int .i64 s_l1) ∧ Hp w0 [Ent.snap w0 w0.heap.size] w) (fun o => outc o (fun x => some x) (fun s => M.impl_IsCurve_a1 a0 s) = some r) ho152 hm ⟨rfl, rfl, rfl, rfl, hL⟩ ?_ ?_
 · intro s_l1 F153 wd154 hJ hm
   have hm := outcE hm
   have hm : M.impl_IsCurve_a1 a0 s_l1 = some r := hm
   unfold M.impl_IsCurve_a1 at hm
   obtain ⟨f155, f156, f157, f158, hL⟩ := hJ
   refine CW.seqJ (fun (s_j1 : Bool) (F : Fr) (w : World) => F 2 = (.bool s_j1) ∧ Hp w0 [Ent.snap w0 w0.heap.size] w) (fun s_j1 => M.impl_IsCurve_j1 s_j1 = some r) ?_ ?_
   · refine CW.regionL ?_
     refine OV v1 rfl (x_mv f155) ?_
     refine OV (.int .i64 (a0.length : Int)) rfl (x_lenR U24 rfl (hL.rdS 0 rfl h2)) ?_
     refine OV (.bool (decide (2 ≤ (a0.length : Int)))) rfl (x_geq rfl rfl) ?_
     refine OV (.bool (decide (2 ≤ (a0.length : Int)))) rfl (x_move) ?_
     refine ifB_elim hm (fun hb163 hm => ?_) (fun hb163 hm => ?_)
     · refine OW.cons (OP.yes' rfl rfl hb163 (OP.val (v := v1) rfl (x_mv f155) ?_))
       refine OW.cons (OP.yes' rfl rfl hb163 (OP.val (v := (.int .i64 (a0.length : Int))) rfl (x_lenR U24 rfl (hL.rdS 0 rfl h2)) ?_))
       refine OW.cons (OP.yes' rfl rfl hb163 (OP.val (v := (.bool (decide ((a0.length : Int) ≤ 12)))) rfl (x_leq rfl rfl) ?_))
       refine OV (.bool (decide ((a0.length : Int) ≤ 12))) rfl (x_pickT' rfl hb163 rfl) ?_
       refine OV (.bool (decide ((a0.length : Int) ≤ 12))) rfl (x_assign) ?_
       refine OW.nil ?_
       exact ⟨decide ((a0.length : Int) ≤ 12), hm, ⟨rfl, hL⟩⟩
     refine OW.cons (OP.no' rfl rfl hb163 rfl ?_)
     refine OW.cons (OP.no' rfl rfl hb163 rfl ?_)
     refine OW.cons (OP.no' rfl rfl hb163 rfl ?_)
     refine OV (.bool false) rfl (x_pickF' rfl hb163 rfl) ?_
     refine OV (.bool false) rfl (x_assign) ?_
     refine OW.nil ?_
     exact ⟨false, hm, ⟨rfl, hL⟩⟩
   intro s_j1 F160 wd161 hJ hm
   unfold M.impl_IsCurve_j1 at hm
   obtain ⟨f162, hL⟩ := hJ
   refine CW.ret ?_
   obtain rfl := Option.some.inj hm
   exact RR1 rfl f162 ⟨rfl, hL.fresh 0 rfl [] (by decide) (by decide) rfl⟩
 intro s_l1 F164 wd165 t149 hJ hm hr150
 unfold M.impl_IsCurve_l1 at hm
 obtain ⟨f166, f167, f168, f169, hL⟩ := hJ
 refine CSR ?_
 refine OV (.bool (decide (s_l1 < (a0.length : Int)))) rfl (x_lss f169 f168) ?_
 refine ONS ?_
 refine CW.condM (t := decide (s_l1 < (a0.length : Int))) rfl hm (fun hb170 hm => ?_) (fun hb170 hm => ?_)
 · refine CW.skip ?_
   refine CW.seq ?_
   refine CW.block ?_
   refine CSR ?_
   refine OV (.int .i64 s_l1) rfl (x_mv f169) ?_
   obtain ⟨x171, ha172, hm⟩ := bndE hm
   obtain ⟨hz173, ha177⟩ := idxE ha172
   obtain ⟨b174, q175, hix176⟩ := rdL_ix (hL.rdS 0 rfl h2) hz173 ha177
   refine OV (.pointer (some ⟨b174, q175, none⟩)) rfl (x_ix U24 Tryd_T32 f167 f169 hix176) ?_
   refine OV (.agg #[(.int .i64 x171.Wind), (.int .i64 x171.Pace)]) rfl (x_loadN (cs := [(.int .i64 x171.Wind), (.int .i64 x171.Pace)]) U32 Tryd_T32 rfl rfl (rdF_cells (hL.rdS 0 rfl h2) hix176 ha177)) ?_
   refine OW.cons (S_alloc (cs := #[(.int .i64 0), (.int .i64 0)]) hL Tryd_T32 rfl rfl ?_)
   intro wd178 b179 hL
   refine OV (.int .i64 s_l1) rfl (x_assign) ?_
   refine OW.cons (S_storeN (l := [(.int .i64 x171.Wind), (.int .i64 x171.Pace)]) (cs' := #[(.int .i64 x171.Wind), (.int .i64 x171.Pace)]) hL 0 rfl Tryd_T32 rfl rfl (List.forall_mem_cons.2 ⟨rfl, (List.forall_mem_cons.2 ⟨rfl, (fun _ h => by cases h)⟩)⟩) rfl (Nat.le_of_ble_eq_true rfl) rfl ?_)
   intro wd180 hL
   refine OW.nil ?_
   refine CW.seqJ (fun (s_j2 : Bool) (F : Fr) (w : World) => F 0 = v1 ∧ F 5 = v1 ∧ F 6 = (.int .i64 (a0.length : Int)) ∧ F 7 = (.int .i64 s_l1) ∧ F 47 = (.bool s_j2) ∧ Hp w0 [Ent.blk b179 32 #[(.int .i64 x171.Wind), (.int .i64 x171.Pace)], Ent.snap w0 w0.heap.size] w) (fun s_j2 => M.impl_IsCurve_j2 s_l1 s_j2 = some t149) ?_ ?_
   · refine CW.draw Tryd_mixed ?_
     have hL := hL.call (Mod.drew _)
     refine DW.pre (fuel := 0) (fin := bma 36 68719476735) (C := fun w' => Mod None_ _ w') [0, 1, 2, 3, 4, 5, 6, 7, 8, 9, 10, 11, 12, 13, 14, 15, 16, 17, 18, 19, 20, 21, 22, 23, 24, 25, 26, 27, 28, 29, 30, 31, 32, 33, 34, 35] (Mod.refl _ _) (by kernel_rfl) (by kernel_rfl) ?_
     refine QW.cons rfl (QP.val (v := (.pointer (some ⟨b179, 0, none⟩))) rfl (fun w' hm' => x_fieldAddr (fsz := 1) 0 0 0 U32 rfl Tryd_T2 rfl rfl rfl) ?_)
     refine QW.cons rfl (QP.val (v := (.int .i64 x171.Wind)) rfl (fun w' hm' => x_load1 U2 rfl rfl ((hL.call hm').cellB 0 rfl rfl)) ?_)
     obtain ⟨x216, hx217, hm⟩ := bndE hm
     refine QW.cons rfl (QP.call (v := (.bool x216)) rfl (fun w' hm' => x_call (vs := [(.int .i64 x171.Wind), (.int .i64 0), (.int .i64 1000)]) Tryd_C16 ⟨rfl, rfl, rfl, trivial⟩) (fun w' hm' => (M.impl_within_ok w' x171.Wind 0 1000 hx217).mono (fun e w'' h => ⟨h.1, hm'.trans h.2.mod⟩)) ?_)
     refine QW.cons rfl (QP.val (v := (.bool (!x216))) rfl (fun w' hm' => x_not rfl) ?_)
     refine QW.cons rfl (QP.val (v := (.bool (!x216))) rfl (fun w' hm' => x_move) ?_)
     refine ifB_elim hm (fun hb218 hm => ?_) (fun hb218 hm => ?_)
     · refine QW.cons rfl (QP.no' rfl rfl hb218 rfl ?_)
       refine QW.cons rfl (QP.no' rfl rfl hb218 rfl ?_)
       refine QW.cons rfl (QP.no' rfl rfl hb218 rfl ?_)
       refine QW.cons rfl (QP.no' rfl rfl hb218 rfl ?_)
       refine QW.cons rfl (QP.val (v := (.bool true)) rfl (fun w' hm' => x_pickT' rfl hb218 rfl) ?_)
       refine QW.cons rfl (QP.val (v := (.bool true)) rfl (fun w' hm' => x_move) ?_)
       refine QW.cons rfl (QP.no' rfl rfl rfl rfl ?_)
       refine QW.cons rfl (QP.no' rfl rfl rfl rfl ?_)
       refine QW.cons rfl (QP.no' rfl rfl rfl rfl ?_)
       refine QW.cons rfl (QP.noU rfl rfl rfl ?_)
       refine QW.cons rfl (QP.noU rfl rfl rfl ?_)
       refine QW.cons rfl (QP.noU rfl rfl rfl ?_)
       refine QW.cons rfl (QP.noU rfl rfl rfl ?_)
       refine QW.cons rfl (QP.noU rfl rfl rfl ?_)
       refine QW.cons rfl (QP.noU rfl rfl rfl ?_)
       refine QW.cons rfl (QP.noU rfl rfl rfl ?_)
       refine QW.cons rfl (QP.noU rfl rfl rfl ?_)
       refine QW.cons rfl (QP.noU rfl rfl rfl ?_)
       refine QW.cons rfl (QP.noU rfl rfl rfl ?_)
       refine QW.cons rfl (QP.noU rfl rfl rfl ?_)
       refine QW.cons rfl (QP.noU rfl rfl rfl ?_)
       refine QW.cons rfl (QP.noU rfl rfl rfl ?_)
       refine QW.cons rfl (QP.noU rfl rfl rfl ?_)
       refine QW.cons rfl (QP.noU rfl rfl rfl ?_)
       refine QW.cons rfl (QP.noU rfl rfl rfl ?_)
       refine QW.cons rfl (QP.noU rfl rfl rfl ?_)
       refine QW.cons rfl (QP.noU rfl rfl rfl ?_)
       refine QW.cons rfl (QP.noU rfl rfl rfl ?_)
       refine QW.cons rfl (QP.noU rfl rfl rfl ?_)
       refine QW.cons rfl (QP.no' rfl rfl rfl rfl ?_)
       refine QW.cons rfl (QP.val (v := (.bool true)) rfl (fun w' hm' => x_pickT' rfl rfl rfl) ?_)
       refine QW.nil ?_
       intro wd219 hmod
       have hL := hL.call hmod
       refine DW.done (by kernel_rfl) ?_
       exact ⟨true, hm, ⟨f166, f167, f168, f169, rfl, hL⟩⟩
     refine QW.cons rfl (QP.yes' rfl rfl hb218 (QP.val (v := (.pointer (some ⟨b179, 1, none⟩))) rfl (fun w' hm' => x_fieldAddr (fsz := 1) 0 1 1 U32 rfl Tryd_T2 rfl rfl rfl) ?_))
     refine QW.cons rfl (QP.yes' rfl rfl hb218 (QP.val (v := (.int .i64 x171.Pace)) rfl (fun w' hm' => x_load1 U2 rfl rfl ((hL.call hm').cellB 0 rfl rfl)) ?_))
     obtain ⟨x220, hx221, hm⟩ := bndE hm
     refine QW.cons rfl (QP.yes' rfl rfl hb218 (QP.call (v := (.bool x220)) rfl (fun w' hm' => x_call (vs := [(.int .i64 x171.Pace), (.int .i64 1), (.int .i64 1000000)]) Tryd_C16 ⟨rfl, rfl, rfl, trivial⟩) (fun w' hm' => (M.impl_within_ok w' x171.Pace 1 1000000 hx221).mono (fun e w'' h => ⟨h.1, hm'.trans h.2.mod⟩)) ?_))
     refine QW.cons rfl (QP.yes' rfl rfl hb218 (QP.val (v := (.bool (!x220))) rfl (fun w' hm' => x_not rfl) ?_))
     refine QW.cons rfl (QP.val (v := (.bool (!x220))) rfl (fun w' hm' => x_pickF' rfl hb218 rfl) ?_)
     refine QW.cons rfl (QP.val (v := (.bool (!x220))) rfl (fun w' hm' => x_move) ?_)
     refine ifB_elim hm (fun hb222 hm => ?_) (fun hb222 hm => ?_)
     · refine QW.cons rfl (QP.no' rfl rfl hb222 rfl ?_)
       refine QW.cons rfl (QP.no' rfl rfl hb222 rfl ?_)
       refine QW.cons rfl (QP.no' rfl rfl hb222 rfl ?_)
       refine QW.cons rfl (QP.noU rfl rfl rfl ?_)
       refine QW.cons rfl (QP.noU rfl rfl rfl ?_)
       refine QW.cons rfl (QP.noU rfl rfl rfl ?_)
       refine QW.cons rfl (QP.noU rfl rfl rfl ?_)
       refine QW.cons rfl (QP.noU rfl rfl rfl ?_)
       refine QW.cons rfl (QP.noU rfl rfl rfl ?_)
       refine QW.cons rfl (QP.noU rfl rfl rfl ?_)
       refine QW.cons rfl (QP.noU rfl rfl rfl ?_)
       refine QW.cons rfl (QP.noU rfl rfl rfl ?_)
       refine QW.cons rfl (QP.noU rfl rfl rfl ?_)
       refine QW.cons rfl (QP.noU rfl rfl rfl ?_)
       refine QW.cons rfl (QP.noU rfl rfl rfl ?_)
       refine QW.cons rfl (QP.noU rfl rfl rfl ?_)
       refine QW.cons rfl (QP.noU rfl rfl rfl ?_)
       refine QW.cons rfl (QP.noU rfl rfl rfl ?_)
       refine QW.cons rfl (QP.noU rfl rfl rfl ?_)
       refine QW.cons rfl (QP.noU rfl rfl rfl ?_)
       refine QW.cons rfl (QP.noU rfl rfl rfl ?_)
       refine QW.cons rfl (QP.noU rfl rfl rfl ?_)
       refine QW.cons rfl (QP.noU rfl rfl rfl ?_)
       refine QW.cons rfl (QP.no' rfl rfl hb222 rfl ?_)
       refine QW.cons rfl (QP.val (v := (.bool true)) rfl (fun w' hm' => x_pickT' rfl hb222 rfl) ?_)
       refine QW.nil ?_
       intro wd223 hmod
       have hL := hL.call hmod
       refine DW.done (by kernel_rfl) ?_
       exact ⟨true, hm, ⟨f166, f167, f168, f169, rfl, hL⟩⟩
     refine QW.cons rfl (QP.yes' rfl rfl hb222 (QP.val (v := (.int .i64 s_l1)) rfl (fun w' hm' => x_move) ?_))
     refine QW.cons rfl (QP.yes' rfl rfl hb222 (QP.val (v := (.bool (decide (0 < s_l1)))) rfl (fun w' hm' => x_gtr rfl rfl) ?_))
     refine QW.cons rfl (QP.yes' rfl rfl hb222 (QP.val (v := (.bool (decide (0 < s_l1)))) rfl (fun w' hm' => x_move) ?_))
     refine ifB_elim hm (fun hb224 hm => ?_) (fun hb224 hm => ?_)
     · refine QW.cons rfl (QP.yes' rfl rfl hb224 (QP.val (v := v1) rfl (fun w' hm' => x_mv f166) ?_))
       refine QW.cons rfl (QP.yes' rfl rfl hb224 (QP.val (v := (.int .i64 s_l1)) rfl (fun w' hm' => x_move) ?_))
       refine QW.cons rfl (QP.yes' rfl rfl hb224 (QP.val (v := (.int .i64 (w64 (s_l1 - 1)))) rfl (fun w' hm' => x_sub rfl rfl) ?_))
       obtain ⟨x225, ha226, hm⟩ := bndE hm
       obtain ⟨hz227, ha231⟩ := idxE ha226
       obtain ⟨b228, q229, hix230⟩ := rdL_ix (hL.rdS 1 rfl h2) hz227 ha231
       refine QW.cons rfl (QP.yes' rfl rfl hb224 (QP.val (v := (.pointer (some ⟨b228, q229, none⟩))) rfl (fun w' hm' => x_ix U24 Tryd_T32 rfl rfl hix230) ?_))
       refine QW.cons rfl (QP.yes' rfl rfl hb224 (QP.val (v := (.pointer (some ⟨b228, q229, none⟩))) rfl (fun w' hm' => x_fieldAddr (fsz := 1) q229 0 q229 U32 rfl Tryd_T2 rfl rfl rfl) ?_))
       refine QW.cons rfl (QP.yes' rfl rfl hb224 (QP.val (v := (.int .i64 x225.Wind)) rfl (fun w' hm' => x_load1 U2 rfl rfl (rdF_cells ((hL.call hm').rdS 1 rfl h2) hix230 ha231 0 _ rfl)) ?_))
       refine QW.cons rfl (QP.yes' rfl rfl hb224 (QP.val (v := (.pointer (some ⟨b179, 0, none⟩))) rfl (fun w' hm' => x_fieldAddr (fsz := 1) 0 0 0 U32 rfl Tryd_T2 rfl rfl rfl) ?_))
       refine QW.cons rfl (QP.yes' rfl rfl hb224 (QP.val (v := (.int .i64 x171.Wind)) rfl (fun w' hm' => x_load1 U2 rfl rfl ((hL.call hm').cellB 0 rfl rfl)) ?_))
       refine QW.cons rfl (QP.yes' rfl rfl hb224 (QP.val (v := (.bool (decide (x171.Wind ≤ x225.Wind)))) rfl (fun w' hm' => x_geq rfl rfl) ?_))
       refine QW.cons rfl (QP.yes' rfl rfl hb224 (QP.val (v := (.bool (decide (x171.Wind ≤ x225.Wind)))) rfl (fun w' hm' => x_move) ?_))
       refine ifB_elim hm (fun hb232 hm => ?_) (fun hb232 hm => ?_)
       · refine QW.cons rfl (QP.no' rfl rfl hb232 rfl ?_)
         refine QW.cons rfl (QP.no' rfl rfl hb232 rfl ?_)
         refine QW.cons rfl (QP.no' rfl rfl hb232 rfl ?_)
         refine QW.cons rfl (QP.no' rfl rfl hb232 rfl ?_)
         refine QW.cons rfl (QP.no' rfl rfl hb232 rfl ?_)
         refine QW.cons rfl (QP.no' rfl rfl hb232 rfl ?_)
         refine QW.cons rfl (QP.no' rfl rfl hb232 rfl ?_)
         refine QW.cons rfl (QP.no' rfl rfl hb232 rfl ?_)
         refine QW.cons rfl (QP.no' rfl rfl hb232 rfl ?_)
         refine QW.cons rfl (QP.yes' rfl rfl hb224 (QP.val (v := (.bool true)) rfl (fun w' hm' => x_pickT' rfl hb232 rfl) ?_))
         refine QW.cons rfl (QP.yes' rfl rfl hb222 (QP.val (v := (.bool true)) rfl (fun w' hm' => x_pickT' rfl hb224 rfl) ?_))
         refine QW.cons rfl (QP.val (v := (.bool true)) rfl (fun w' hm' => x_pickF' rfl hb222 rfl) ?_)
         refine QW.nil ?_
         intro wd233 hmod
         have hL := hL.call hmod
         refine DW.done (by kernel_rfl) ?_
         exact ⟨true, hm, ⟨f166, f167, f168, f169, rfl, hL⟩⟩
       refine QW.cons rfl (QP.yes' rfl rfl hb232 (QP.val (v := v1) rfl (fun w' hm' => x_mv f166) ?_))
       refine QW.cons rfl (QP.yes' rfl rfl hb232 (QP.val (v := (.int .i64 s_l1)) rfl (fun w' hm' => x_move) ?_))
       refine QW.cons rfl (QP.yes' rfl rfl hb232 (QP.val (v := (.int .i64 (w64 (s_l1 - 1)))) rfl (fun w' hm' => x_sub rfl rfl) ?_))
       obtain ⟨x234, ha235, hm⟩ := bndE hm
       obtain ⟨hz236, ha240⟩ := idxE ha235
       obtain ⟨b237, q238, hix239⟩ := rdL_ix (hL.rdS 1 rfl h2) hz236 ha240
       refine QW.cons rfl (QP.yes' rfl rfl hb232 (QP.val (v := (.pointer (some ⟨b237, q238, none⟩))) rfl (fun w' hm' => x_ix U24 Tryd_T32 rfl rfl hix239) ?_))
       refine QW.cons rfl (QP.yes' rfl rfl hb232 (QP.val (v := (.pointer (some ⟨b237, q238 + 1, none⟩))) rfl (fun w' hm' => x_fieldAddr (fsz := 1) q238 1 (q238 + 1) U32 rfl Tryd_T2 rfl rfl rfl) ?_))
       refine QW.cons rfl (QP.yes' rfl rfl hb232 (QP.val (v := (.int .i64 x234.Pace)) rfl (fun w' hm' => x_load1 U2 rfl rfl (rdF_cells ((hL.call hm').rdS 1 rfl h2) hix239 ha240 1 _ rfl)) ?_))
       refine QW.cons rfl (QP.yes' rfl rfl hb232 (QP.val (v := (.pointer (some ⟨b179, 1, none⟩))) rfl (fun w' hm' => x_fieldAddr (fsz := 1) 0 1 1 U32 rfl Tryd_T2 rfl rfl rfl) ?_))
       refine QW.cons rfl (QP.yes' rfl rfl hb232 (QP.val (v := (.int .i64 x171.Pace)) rfl (fun w' hm' => x_load1 U2 rfl rfl ((hL.call hm').cellB 0 rfl rfl)) ?_))
       refine QW.cons rfl (QP.yes' rfl rfl hb232 (QP.val (v := (.bool (decide (x234.Pace ≤ x171.Pace)))) rfl (fun w' hm' => x_leq rfl rfl) ?_))
       refine QW.cons rfl (QP.yes' rfl rfl hb224 (QP.val (v := (.bool (decide (x234.Pace ≤ x171.Pace)))) rfl (fun w' hm' => x_pickF' rfl hb232 rfl) ?_))
       refine QW.cons rfl (QP.yes' rfl rfl hb222 (QP.val (v := (.bool (decide (x234.Pace ≤ x171.Pace)))) rfl (fun w' hm' => x_pickT' rfl hb224 rfl) ?_))
       refine QW.cons rfl (QP.val (v := (.bool (decide (x234.Pace ≤ x171.Pace)))) rfl (fun w' hm' => x_pickF' rfl hb222 rfl) ?_)
       refine QW.nil ?_
       intro wd241 hmod
       have hL := hL.call hmod
       refine DW.done (by kernel_rfl) ?_
       exact ⟨decide (x234.Pace ≤ x171.Pace), hm, ⟨f166, f167, f168, f169, rfl, hL⟩⟩
     refine QW.cons rfl (QP.no' rfl rfl hb224 rfl ?_)
     refine QW.cons rfl (QP.no' rfl rfl hb224 rfl ?_)
     refine QW.cons rfl (QP.no' rfl rfl hb224 rfl ?_)
     refine QW.cons rfl (QP.no' rfl rfl hb224 rfl ?_)
     refine QW.cons rfl (QP.no' rfl rfl hb224 rfl ?_)
     refine QW.cons rfl (QP.no' rfl rfl hb224 rfl ?_)
     refine QW.cons rfl (QP.no' rfl rfl hb224 rfl ?_)
     refine QW.cons rfl (QP.no' rfl rfl hb224 rfl ?_)
     refine QW.cons rfl (QP.no' rfl rfl hb224 rfl ?_)
     refine QW.cons rfl (QP.no' rfl rfl hb224 rfl ?_)
     refine QW.cons rfl (QP.noU rfl rfl rfl ?_)
     refine QW.cons rfl (QP.noU rfl rfl rfl ?_)
     refine QW.cons rfl (QP.noU rfl rfl rfl ?_)
     refine QW.cons rfl (QP.noU rfl rfl rfl ?_)
     refine QW.cons rfl (QP.noU rfl rfl rfl ?_)
     refine QW.cons rfl (QP.noU rfl rfl rfl ?_)
     refine QW.cons rfl (QP.noU rfl rfl rfl ?_)
     refine QW.cons rfl (QP.noU rfl rfl rfl ?_)
     refine QW.cons rfl (QP.noU rfl rfl rfl ?_)
     refine QW.cons rfl (QP.no' rfl rfl hb224 rfl ?_)
     refine QW.cons rfl (QP.yes' rfl rfl hb222 (QP.val (v := (.bool false)) rfl (fun w' hm' => x_pickF' rfl hb224 rfl) ?_))
     refine QW.cons rfl (QP.val (v := (.bool false)) rfl (fun w' hm' => x_pickF' rfl hb222 rfl) ?_)
     refine QW.nil ?_
     intro wd242 hmod
     have hL := hL.call hmod
     refine DW.done (by kernel_rfl) ?_
     exact ⟨false, hm, ⟨f166, f167, f168, f169, rfl, hL⟩⟩
   intro s_j2 F208 wd209 hJ hm
   unfold M.impl_IsCurve_j2 at hm
   obtain ⟨f210, f211, f212, f213, f214, hL⟩ := hJ
   refine CW.condM (t := s_j2) f214 hm (fun hb215 hm => ?_) (fun hb215 hm => ?_)
   · refine CSR ?_
     refine OV (.bool false) rfl (x_assign) ?_
     refine OW.nil ?_
     refine CW.ret ?_
     obtain rfl := Option.some.inj hm
     have hm := hr150 _ rfl
     obtain rfl := Option.some.inj hm
     exact RR1 rfl rfl ⟨rfl, hL.fresh 1 rfl [] (by decide) (by decide) rfl⟩
   refine CW.skip ?_
   refine CW.regionL ?_
   refine OV (.int .i64 (w64 (s_l1 + 1))) rfl (x_add f213 rfl) ?_
   refine OV (.int .i64 (w64 (s_l1 + 1))) rfl (x_move) ?_
   refine OW.nil ?_
   have hL := hL.sel [1] (by decide) rfl
   obtain rfl := Option.some.inj hm
   exact ⟨_, rfl, ⟨f210, f211, f212, rfl, hL⟩⟩
 refine CW.exit ?_
 refine XJ.hit ?_
 obtain rfl := Option.some.inj hm
 exact ⟨_, rfl, ⟨f166, f167, f168, f169, hL⟩⟩

theorem M.math_bits_OnesCount64_ok (w0 : World) (a0 : Int) {r : Int} (hm : M.math_bits_OnesCount64 a0 = some r) :
    Calls Tryd.prog 32 #[(.int .u64 a0)] w0 fun e w' => e = .returned (.int .i64 r) ∧ Fresh w0 w' [] := by
 unfold M.math_bits_OnesCount64 at hm
 refine calls_CW (args := [(.int .u64 a0)]) Tryd.func32 rfl rfl rfl ?_
 have hL := Hp.start w0
 refine CSR ?_
 refine OV (.int .i64 0) rfl (x_assign) ?_
 refine ONR ?_
 refine OV (.int .u64 a0) rfl (x_move) ?_
 refine OV (.int .u64 (shrI .u64 a0 1)) rfl (x_shr rfl rfl (by decide)) ?_
 refine OV (.int .u64 (andI .u64 (shrI .u64 a0 1) 6148914691236517205)) rfl (x_and rfl rfl) ?_
 refine OV (.int .u64 a0) rfl (x_move) ?_
 refine OV (.int .u64 (andI .u64 a0 6148914691236517205)) rfl (x_and rfl rfl) ?_
 refine OV (.int .u64 (IntKind.u64.wrap ((andI .u64 (shrI .u64 a0 1) 6148914691236517205) + (andI .u64 a0 6148914691236517205)))) rfl (x_add rfl rfl) ?_
 refine OV (.int .u64 (IntKind.u64.wrap ((andI .u64 (shrI .u64 a0 1) 6148914691236517205) + (andI .u64 a0 6148914691236517205)))) rfl (x_assign) ?_
 refine ONR ?_
 refine OV (.int .u64 (IntKind.u64.wrap ((andI .u64 (shrI .u64 a0 1) 6148914691236517205) + (andI .u64 a0 6148914691236517205)))) rfl (x_move) ?_
 refine OV (.int .u64 (shrI .u64 (IntKind.u64.wrap ((andI .u64 (shrI .u64 a0 1) 6148914691236517205) + (andI .u64 a0 6148914691236517205))) 2)) rfl (x_shr rfl rfl (by decide)) ?_
 refine OV (.int .u64 (andI .u64 (shrI .u64 (IntKind.u64.wrap ((andI .u64 (shrI .u64 a0 1) 6148914691236517205) + (andI .u64 a0 6148914691236517205))) 2) 3689348814741910323)) rfl (x_and rfl rfl) ?_
 refine OV (.int .u64 (IntKind.u64.wrap ((andI .u64 (shrI .u64 a0 1) 6148914691236517205) + (andI .u64 a0 6148914691236517205)))) rfl (x_move) ?_
 refine OV (.int .u64 (andI .u64 (IntKind.u64.wrap ((andI .u64 (shrI .u64 a0 1) 6148914691236517205) + (andI .u64 a0 6148914691236517205))) 3689348814741910323)) rfl (x_and rfl rfl) ?_
 refine OV (.int .u64 (IntKind.u64.wrap ((andI .u64 (shrI .u64 (IntKind.u64.wrap ((andI .u64 (shrI .u64 a0 1) 6148914691236517205) + (andI .u64 a0 6148914691236517205))) 2) 3689348814741910323) + (andI .u64 (IntKind.u64.wrap ((andI .u64 (shrI .u64 a0 1) 6148914691236517205) + (andI .u64 a0 6148914691236517205))) 3689348814741910323)))) rfl (x_add rfl rfl) ?_
 refine OV (.int .u64 (IntKind.u64.wrap ((andI .u64 (shrI .u64 (IntKind.u64.wrap ((andI .u64 (shrI .u64 a0 1) 6148914691236517205) + (andI .u64 a0 6148914691236517205))) 2) 3689348814741910323) + (andI .u64 (IntKind.u64.wrap ((andI .u64 (shrI .u64 a0 1) 6148914691236517205) + (andI .u64 a0 6148914691236517205))) 3689348814741910323)))) rfl (x_assign) ?_
 refine ONR ?_
 refine OV (.int .u64 (IntKind.u64.wrap ((andI .u64 (shrI .u64 (IntKind.u64.wrap ((andI .u64 (shrI .u64 a0 1) 6148914691236517205) + (andI .u64 a0 6148914691236517205))) 2) 3689348814741910323) + (andI .u64 (IntKind.u64.wrap ((andI .u64 (shrI .u64 a0 1) 6148914691236517205) + (andI .u64 a0 6148914691236517205))) 3689348814741910323)))) rfl (x_move) ?_
 refine OV (.int .u64 (shrI .u64 (IntKind.u64.wrap ((andI .u64 (shrI .u64 (IntKind.u64.wrap ((andI .u64 (shrI .u64 a0 1) 6148914691236517205) + (andI .u64 a0 6148914691236517205))) 2) 3689348814741910323) + (andI .u64 (IntKind.u64.wrap ((andI .u64 (shrI .u64 a0 1) 6148914691236517205) + (andI .u64 a0 6148914691236517205))) 3689348814741910323))) 4)) rfl (x_shr rfl rfl (by decide)) ?_
 refine OV (.int .u64 (IntKind.u64.wrap ((andI .u64 (shrI .u64 (IntKind.u64.wrap ((andI .u64 (shrI .u64 a0 1) 6148914691236517205) + (andI .u64 a0 6148914691236517205))) 2) 3689348814741910323) + (andI .u64 (IntKind.u64.wrap ((andI .u64 (shrI .u64 a0 1) 6148914691236517205) + (andI .u64 a0 6148914691236517205))) 3689348814741910323)))) rfl (x_move) ?_
 refine OV (.int .u64 (IntKind.u64.wrap ((shrI .u64 (IntKind.u64.wrap ((andI .u64 (shrI .u64 (IntKind.u64.wrap ((andI .u64 (shrI .u64 a0 1) 6148914691236517205) + (andI .u64 a0 6148914691236517205))) 2) 3689348814741910323) + (andI .u64 (IntKind.u64.wrap ((andI .u64 (shrI .u64 a0 1) 6148914691236517205) + (andI .u64 a0 6148914691236517205))) 3689348814741910323))) 4) + (IntKind.u64.wrap ((andI .u64 (shrI .u64 (IntKind.u64.wrap ((andI .u64 (shrI .u64 a0 1) 6148914691236517205) + (andI .u64 a0 6148914691236517205))) 2) 3689348814741910323) + (andI .u64 (IntKind.u64.wrap ((andI .u64 (shrI .u64 a0 1) 6148914691236517205) + (andI .u64 a0 6148914691236517205))) 3689348814741910323)))))) rfl (x_add rfl rfl) ?_
 refine OV (.int .u64 (andI .u64 (IntKind.u64.wrap ((shrI .u64 (IntKind.u64.wrap ((andI .u64 (shrI .u64 (IntKind.u64.wrap ((andI .u64 (shrI .u64 a0 1) 6148914691236517205) + (andI .u64 a0 6148914691236517205))) 2) 3689348814741910323) + (andI .u64 (IntKind.u64.wrap ((andI .u64 (shrI .u64 a0 1) 6148914691236517205) + (andI .u64 a0 6148914691236517205))) 3689348814741910323))) 4) + (IntKind.u64.wrap ((andI .u64 (shrI .u64 (IntKind.u64.wrap ((andI .u64 (shrI .u64 a0 1) 6148914691236517205) + (andI .u64 a0 6148914691236517205))) 2) 3689348814741910323) + (andI .u64 (IntKind.u64.wrap ((andI .u64 (shrI .u64 a0 1) 6148914691236517205) + (andI .u64 a0 6148914691236517205))) 3689348814741910323))))) 1085102592571150095)) rfl (x_and rfl rfl) ?_
 refine OV (.int .u64 (andI .u64 (IntKind.u64.wrap ((shrI .u64 (IntKind.u64.wrap ((andI .u64 (shrI .u64 (IntKind.u64.wrap ((andI .u64 (shrI .u64 a0 1) 6148914691236517205) + (andI .u64 a0 6148914691236517205))) 2) 3689348814741910323) + (andI .u64 (IntKind.u64.wrap ((andI .u64 (shrI .u64 a0 1) 6148914691236517205) + (andI .u64 a0 6148914691236517205))) 3689348814741910323))) 4) + (IntKind.u64.wrap ((andI .u64 (shrI .u64 (IntKind.u64.wrap ((andI .u64 (shrI .u64 a0 1) 6148914691236517205) + (andI .u64 a0 6148914691236517205))) 2) 3689348814741910323) + (andI .u64 (IntKind.u64.wrap ((andI .u64 (shrI .u64 a0 1) 6148914691236517205) + (andI .u64 a0 6148914691236517205))) 3689348814741910323))))) 1085102592571150095)) rfl (x_assign) ?_
 refine ONR ?_
 refine OV (.int .u64 (andI .u64 (IntKind.u64.wrap ((shrI .u64 (IntKind.u64.wrap ((andI .u64 (shrI .u64 (IntKind.u64.wrap ((andI .u64 (shrI .u64 a0 1) 6148914691236517205) + (andI .u64 a0 6148914691236517205))) 2) 3689348814741910323) + (andI .u64 (IntKind.u64.wrap ((andI .u64 (shrI .u64 a0 1) 6148914691236517205) + (andI .u64 a0 6148914691236517205))) 3689348814741910323))) 4) + (IntKind.u64.wrap ((andI .u64 (shrI .u64 (IntKind.u64.wrap ((andI .u64 (shrI .u64 a0 1) 6148914691236517205) + (andI .u64 a0 6148914691236517205))) 2) 3689348814741910323) + (andI .u64 (IntKind.u64.wrap ((andI .u64 (shrI .u64 a0 1) 6148914691236517205) + (andI .u64 a0 6148914691236517205))) 3689348814741910323))))) 1085102592571150095)) rfl (x_move) ?_
 refine OV (.int .u64 (andI .u64 (IntKind.u64.wrap ((shrI .u64 (IntKind.u64.wrap ((andI .u64 (shrI .u64 (IntKind.u64.wrap ((andI .u64 (shrI .u64 a0 1) 6148914691236517205) + (andI .u64 a0 6148914691236517205))) 2) 3689348814741910323) + (andI .u64 (IntKind.u64.wrap ((andI .u64 (shrI .u64 a0 1) 6148914691236517205) + (andI .u64 a0 6148914691236517205))) 3689348814741910323))) 4) + (IntKind.u64.wrap ((andI .u64 (shrI .u64 (IntKind.u64.wrap ((andI .u64 (shrI .u64 a0 1) 6148914691236517205) + (andI .u64 a0 6148914691236517205))) 2) 3689348814741910323) + (andI .u64 (IntKind.u64.wrap ((andI .u64 (shrI .u64 a0 1) 6148914691236517205) + (andI .u64 a0 6148914691236517205))) 3689348814741910323))))) 1085102592571150095)) rfl (x_move) ?_
 refine OV (.int .u64 (shrI .u64 (andI .u64 (IntKind.u64.wrap ((shrI .u64 (IntKind.u64.wrap ((andI .u64 (shrI .u64 (IntKind.u64.wrap ((andI .u64 (shrI .u64 a0 1) 6148914691236517205) + (andI .u64 a0 6148914691236517205))) 2) 3689348814741910323) + (andI .u64 (IntKind.u64.wrap ((andI .u64 (shrI .u64 a0 1) 6148914691236517205) + (andI .u64 a0 6148914691236517205))) 3689348814741910323))) 4) + (IntKind.u64.wrap ((andI .u64 (shrI .u64 (IntKind.u64.wrap ((andI .u64 (shrI .u64 a0 1) 6148914691236517205) + (andI .u64 a0 6148914691236517205))) 2) 3689348814741910323) + (andI .u64 (IntKind.u64.wrap ((andI .u64 (shrI .u64 a0 1) 6148914691236517205) + (andI .u64 a0 6148914691236517205))) 3689348814741910323))))) 1085102592571150095) 8)) rfl (x_shr rfl rfl (by decide)) ?_
 refine OV (.int .u64 (IntKind.u64.wrap ((andI .u64 (IntKind.u64.wrap ((shrI .u64 (IntKind.u64.wrap ((andI .u64 (shrI .u64 (IntKind.u64.wrap ((andI .u64 (shrI .u64 a0 1) 6148914691236517205) + (andI .u64 a0 6148914691236517205))) 2) 3689348814741910323) + (andI .u64 (IntKind.u64.wrap ((andI .u64 (shrI .u64 a0 1) 6148914691236517205) + (andI .u64 a0 6148914691236517205))) 3689348814741910323))) 4) + (IntKind.u64.wrap ((andI .u64 (shrI .u64 (IntKind.u64.wrap ((andI .u64 (shrI .u64 a0 1) 6148914691236517205) + (andI .u64 a0 6148914691236517205))) 2) 3689348814741910323) + (andI .u64 (IntKind.u64.wrap ((andI .u64 (shrI .u64 a0 1) 6148914691236517205) + (andI .u64 a0 6148914691236517205))) 3689348814741910323))))) 1085102592571150095) + (shrI .u64 (andI .u64 (IntKind.u64.wrap ((shrI .u64 (IntKind.u64.wrap ((andI .u64 (shrI .u64 (IntKind.u64.wrap ((andI .u64 (shrI .u64 a0 1) 6148914691236517205) + (andI .u64 a0 6148914691236517205))) 2) 3689348814741910323) + (andI .u64 (IntKind.u64.wrap ((andI .u64 (shrI .u64 a0 1) 6148914691236517205) + (andI .u64 a0 6148914691236517205))) 3689348814741910323))) 4) + (IntKind.u64.wrap ((andI .u64 (shrI .u64 (IntKind.u64.wrap ((andI .u64 (shrI .u64 a0 1) 6148914691236517205) + (andI .u64 a0 6148914691236517205))) 2) 3689348814741910323) + (andI .u64 (IntKind.u64.wrap ((andI .u64 (shrI .u64 a0 1) 6148914691236517205) + (andI .u64 a0 6148914691236517205))) 3689348814741910323))))) 1085102592571150095) 8)))) rfl (x_add rfl rfl) ?_
 refine OV (.int .u64 (IntKind.u64.wrap ((andI .u64 (IntKind.u64.wrap ((shrI .u64 (IntKind.u64.wrap ((andI .u64 (shrI .u64 (IntKind.u64.wrap ((andI .u64 (shrI .u64 a0 1) 6148914691236517205) + (andI .u64 a0 6148914691236517205))) 2) 3689348814741910323) + (andI .u64 (IntKind.u64.wrap ((andI .u64 (shrI .u64 a0 1) 6148914691236517205) + (andI .u64 a0 6148914691236517205))) 3689348814741910323))) 4) + (IntKind.u64.wrap ((andI .u64 (shrI .u64 (IntKind.u64.wrap ((andI .u64 (shrI .u64 a0 1) 6148914691236517205) + (andI .u64 a0 6148914691236517205))) 2) 3689348814741910323) + (andI .u64 (IntKind.u64.wrap ((andI .u64 (shrI .u64 a0 1) 6148914691236517205) + (andI .u64 a0 6148914691236517205))) 3689348814741910323))))) 1085102592571150095) + (shrI .u64 (andI .u64 (IntKind.u64.wrap ((shrI .u64 (IntKind.u64.wrap ((andI .u64 (shrI .u64 (IntKind.u64.wrap ((andI .u64 (shrI .u64 a0 1) 6148914691236517205) + (andI .u64 a0 6148914691236517205))) 2) 3689348814741910323) + (andI .u64 (IntKind.u64.wrap ((andI .u64 (shrI .u64 a0 1) 6148914691236517205) + (andI .u64 a0 6148914691236517205))) 3689348814741910323))) 4) + (IntKind.u64.wrap ((andI .u64 (shrI .u64 (IntKind.u64.wrap ((andI .u64 (shrI .u64 a0 1) 6148914691236517205) + (andI .u64 a0 6148914691236517205))) 2) 3689348814741910323) + (andI .u64 (IntKind.u64.wrap ((andI .u64 (shrI .u64 a0 1) 6148914691236517205) + (andI .u64 a0 6148914691236517205))) 3689348814741910323))))) 1085102592571150095) 8)))) rfl (x_assign) ?_
 refine ONR ?_
 refine OV (.int .u64 (IntKind.u64.wrap ((andI .u64 (IntKind.u64.wrap ((shrI .u64 (IntKind.u64.wrap ((andI .u64 (shrI .u64 (IntKind.u64.wrap ((andI .u64 (shrI .u64 a0 1) 6148914691236517205) + (andI .u64 a0 6148914691236517205))) 2) 3689348814741910323) + (andI .u64 (IntKind.u64.wrap ((andI .u64 (shrI .u64 a0 1) 6148914691236517205) + (andI .u64 a0 6148914691236517205))) 3689348814741910323))) 4) + (IntKind.u64.wrap ((andI .u64 (shrI .u64 (IntKind.u64.wrap ((andI .u64 (shrI .u64 a0 1) 6148914691236517205) + (andI .u64 a0 6148914691236517205))) 2) 3689348814741910323) + (andI .u64 (IntKind.u64.wrap ((andI .u64 (shrI .u64 a0 1) 6148914691236517205) + (andI .u64 a0 6148914691236517205))) 3689348814741910323))))) 1085102592571150095) + (shrI .u64 (andI .u64 (IntKind.u64.wrap ((shrI .u64 (IntKind.u64.wrap ((andI .u64 (shrI .u64 (IntKind.u64.wrap ((andI .u64 (shrI .u64 a0 1) 6148914691236517205) + (andI .u64 a0 6148914691236517205))) 2) 3689348814741910323) + (andI .u64 (IntKind.u64.wrap ((andI .u64 (shrI .u64 a0 1) 6148914691236517205) + (andI .u64 a0 6148914691236517205))) 3689348814741910323))) 4) + (IntKind.u64.wrap ((andI .u64 (shrI .u64 (IntKind.u64.wrap ((andI .u64 (shrI .u64 a0 1) 6148914691236517205) + (andI .u64 a0 6148914691236517205))) 2) 3689348814741910323) + (andI .u64 (IntKind.u64.wrap ((andI .u64 (shrI .u64 a0 1) 6148914691236517205) + (andI .u64 a0 6148914691236517205))) 3689348814741910323))))) 1085102592571150095) 8)))) rfl (x_move) ?_
 refine OV (.int .u64 (IntKind.u64.wrap ((andI .u64 (IntKind.u64.wrap ((shrI .u64 (IntKind.u64.wrap ((andI .u64 (shrI .u64 (IntKind.u64.wrap ((andI .u64 (shrI .u64 a0 1) 6148914691236517205) + (andI .u64 a0 6148914691236517205))) 2) 3689348814741910323) + (andI .u64 (IntKind.u64.wrap ((andI .u64 (shrI .u64 a0 1) 6148914691236517205) + (andI .u64 a0 6148914691236517205))) 3689348814741910323))) 4) + (IntKind.u64.wrap ((andI .u64 (shrI .u64 (IntKind.u64.wrap ((andI .u64 (shrI .u64 a0 1) 6148914691236517205) + (andI .u64 a0 6148914691236517205))) 2) 3689348814741910323) + (andI .u64 (IntKind.u64.wrap ((andI .u64 (shrI .u64 a0 1) 6148914691236517205) + (andI .u64 a0 6148914691236517205))) 3689348814741910323))))) 1085102592571150095) + (shrI .u64 (andI .u64 (IntKind.u64.wrap ((shrI .u64 (IntKind.u64.wrap ((andI .u64 (shrI .u64 (IntKind.u64.wrap ((andI .u64 (shrI .u64 a0 1) 6148914691236517205) + (andI .u64 a0 6148914691236517205))) 2) 3689348814741910323) + (andI .u64 (IntKind.u64.wrap ((andI .u64 (shrI .u64 a0 1) 6148914691236517205) + (andI .u64 a0 6148914691236517205))) 3689348814741910323))) 4) + (IntKind.u64.wrap ((andI .u64 (shrI .u64 (IntKind.u64.wrap ((andI .u64 (shrI .u64 a0 1) 6148914691236517205) + (andI .u64 a0 6148914691236517205))) 2) 3689348814741910323) + (andI .u64 (IntKind.u64.wrap ((andI .u64 (shrI .u64 a0 1) 6148914691236517205) + (andI .u64 a0 6148914691236517205))) 3689348814741910323))))) 1085102592571150095) 8)))) rfl (x_move) ?_
 refine OV (.int .u64 (shrI .u64 (IntKind.u64.wrap ((andI .u64 (IntKind.u64.wrap ((shrI .u64 (IntKind.u64.wrap ((andI .u64 (shrI .u64 (IntKind.u64.wrap ((andI .u64 (shrI .u64 a0 1) 6148914691236517205) + (andI .u64 a0 6148914691236517205))) 2) 3689348814741910323) + (andI .u64 (IntKind.u64.wrap ((andI .u64 (shrI .u64 a0 1) 6148914691236517205) + (andI .u64 a0 6148914691236517205))) 3689348814741910323))) 4) + (IntKind.u64.wrap ((andI .u64 (shrI .u64 (IntKind.u64.wrap ((andI .u64 (shrI .u64 a0 1) 6148914691236517205) + (andI .u64 a0 6148914691236517205))) 2) 3689348814741910323) + (andI .u64 (IntKind.u64.wrap ((andI .u64 (shrI .u64 a0 1) 6148914691236517205) + (andI .u64 a0 6148914691236517205))) 3689348814741910323))))) 1085102592571150095) + (shrI .u64 (andI .u64 (IntKind.u64.wrap ((shrI .u64 (IntKind.u64.wrap ((andI .u64 (shrI .u64 (IntKind.u64.wrap ((andI .u64 (shrI .u64 a0 1) 6148914691236517205) + (andI .u64 a0 6148914691236517205))) 2) 3689348814741910323) + (andI .u64 (IntKind.u64.wrap ((andI .u64 (shrI .u64 a0 1) 6148914691236517205) + (andI .u64 a0 6148914691236517205))) 3689348814741910323))) 4) + (IntKind.u64.wrap ((andI .u64 (shrI .u64 (IntKind.u64.wrap ((andI .u64 (shrI .u64 a0 1) 6148914691236517205) + (andI .u64 a0 6148914691236517205))) 2) 3689348814741910323) + (andI .u64 (IntKind.u64.wrap ((andI .u64 (shrI .u64 a0 1) 6148914691236517205) + (andI .u64 a0 6148914691236517205))) 3689348814741910323))))) 1085102592571150095) 8))) 16)) rfl (x_shr rfl rfl (by decide)) ?_
 refine OV (.int .u64 (IntKind.u64.wrap ((IntKind.u64.wrap ((andI .u64 (IntKind.u64.wrap ((shrI .u64 (IntKind.u64.wrap ((andI .u64 (shrI .u64 (IntKind.u64.wrap ((andI .u64 (shrI .u64 a0 1) 6148914691236517205) + (andI .u64 a0 6148914691236517205))) 2) 3689348814741910323) + (andI .u64 (IntKind.u64.wrap ((andI .u64 (shrI .u64 a0 1) 6148914691236517205) + (andI .u64 a0 6148914691236517205))) 3689348814741910323))) 4) + (IntKind.u64.wrap ((andI .u64 (shrI .u64 (IntKind.u64.wrap ((andI .u64 (shrI .u64 a0 1) 6148914691236517205) + (andI .u64 a0 6148914691236517205))) 2) 3689348814741910323) + (andI .u64 (IntKind.u64.wrap ((andI .u64 (shrI .u64 a0 1) 6148914691236517205) + (andI .u64 a0 6148914691236517205))) 3689348814741910323))))) 1085102592571150095) + (shrI .u64 (andI .u64 (IntKind.u64.wrap ((shrI .u64 (IntKind.u64.wrap ((andI .u64 (shrI .u64 (IntKind.u64.wrap ((andI .u64 (shrI .u64 a0 1) 6148914691236517205) + (andI .u64 a0 6148914691236517205))) 2) 3689348814741910323) + (andI .u64 (IntKind.u64.wrap ((andI .u64 (shrI .u64 a0 1) 6148914691236517205) + (andI .u64 a0 6148914691236517205))) 3689348814741910323))) 4) + (IntKind.u64.wrap ((andI .u64 (shrI .u64 (IntKind.u64.wrap ((andI .u64 (shrI .u64 a0 1) 6148914691236517205) + (andI .u64 a0 6148914691236517205))) 2) 3689348814741910323) + (andI .u64 (IntKind.u64.wrap ((andI .u64 (shrI .u64 a0 1) 6148914691236517205) + (andI .u64 a0 6148914691236517205))) 3689348814741910323))))) 1085102592571150095) 8))) + (shrI .u64 (IntKind.u64.wrap ((andI .u64 (IntKind.u64.wrap ((shrI .u64 (IntKind.u64.wrap ((andI .u64 (shrI .u64 (IntKind.u64.wrap ((andI .u64 (shrI .u64 a0 1) 6148914691236517205) + (andI .u64 a0 6148914691236517205))) 2) 3689348814741910323) + (andI .u64 (IntKind.u64.wrap ((andI .u64 (shrI .u64 a0 1) 6148914691236517205) + (andI .u64 a0 6148914691236517205))) 3689348814741910323))) 4) + (IntKind.u64.wrap ((andI .u64 (shrI .u64 (IntKind.u64.wrap ((andI .u64 (shrI .u64 a0 1) 6148914691236517205) + (andI .u64 a0 6148914691236517205))) 2) 3689348814741910323) + (andI .u64 (IntKind.u64.wrap ((andI .u64 (shrI .u64 a0 1) 6148914691236517205) + (andI .u64 a0 6148914691236517205))) 3689348814741910323))))) 1085102592571150095) + (shrI .u64 (andI .u64 (IntKind.u64.wrap ((shrI .u64 (IntKind.u64.wrap ((andI .u64 (shrI .u64 (IntKind.u64.wrap ((andI .u64 (shrI .u64 a0 1) 6148914691236517205) + (andI .u64 a0 6148914691236517205))) 2) 3689348814741910323) + (andI .u64 (IntKind.u64.wrap ((andI .u64 (shrI .u64 a0 1) 6148914691236517205) + (andI .u64 a0 6148914691236517205))) 3689348814741910323))) 4) + (IntKind.u64.wrap ((andI .u64 (shrI .u64 (IntKind.u64.wrap ((andI .u64 (shrI .u64 a0 1) 6148914691236517205) + (andI .u64 a0 6148914691236517205))) 2) 3689348814741910323) + (andI .u64 (IntKind.u64.wrap ((andI .u64 (shrI .u64 a0 1) 6148914691236517205) + (andI .u64 a0 6148914691236517205))) 3689348814741910323))))) 1085102592571150095) 8))) 16)))) rfl (x_add rfl rfl) ?_
 refine OV (.int .u64 (IntKind.u64.wrap ((IntKind.u64.wrap ((andI .u64 (IntKind.u64.wrap ((shrI .u64 (IntKind.u64.wrap ((andI .u64 (shrI .u64 (IntKind.u64.wrap ((andI .u64 (shrI .u64 a0 1) 6148914691236517205) + (andI .u64 a0 6148914691236517205))) 2) 3689348814741910323) + (andI .u64 (IntKind.u64.wrap ((andI .u64 (shrI .u64 a0 1) 6148914691236517205) + (andI .u64 a0 6148914691236517205))) 3689348814741910323))) 4) + (IntKind.u64.wrap ((andI .u64 (shrI .u64 (IntKind.u64.wrap ((andI .u64 (shrI .u64 a0 1) 6148914691236517205) + (andI .u64 a0 6148914691236517205))) 2) 3689348814741910323) + (andI .u64 (IntKind.u64.wrap ((andI .u64 (shrI .u64 a0 1) 6148914691236517205) + (andI .u64 a0 6148914691236517205))) 3689348814741910323))))) 1085102592571150095) + (shrI .u64 (andI .u64 (IntKind.u64.wrap ((shrI .u64 (IntKind.u64.wrap ((andI .u64 (shrI .u64 (IntKind.u64.wrap ((andI .u64 (shrI .u64 a0 1) 6148914691236517205) + (andI .u64 a0 6148914691236517205))) 2) 3689348814741910323) + (andI .u64 (IntKind.u64.wrap ((andI .u64 (shrI .u64 a0 1) 6148914691236517205) + (andI .u64 a0 6148914691236517205))) 3689348814741910323))) 4) + (IntKind.u64.wrap ((andI .u64 (shrI .u64 (IntKind.u64.wrap ((andI .u64 (shrI .u64 a0 1) 6148914691236517205) + (andI .u64 a0 6148914691236517205))) 2) 3689348814741910323) + (andI .u64 (IntKind.u64.wrap ((andI .u64 (shrI .u64 a0 1) 6148914691236517205) + (andI .u64 a0 6148914691236517205))) 3689348814741910323))))) 1085102592571150095) 8))) + (shrI .u64 (IntKind.u64.wrap ((andI .u64 (IntKind.u64.wrap ((shrI .u64 (IntKind.u64.wrap ((andI .u64 (shrI .u64 (IntKind.u64.wrap ((andI .u64 (shrI .u64 a0 1) 6148914691236517205) + (andI .u64 a0 6148914691236517205))) 2) 3689348814741910323) + (andI .u64 (IntKind.u64.wrap ((andI .u64 (shrI .u64 a0 1) 6148914691236517205) + (andI .u64 a0 6148914691236517205))) 3689348814741910323))) 4) + (IntKind.u64.wrap ((andI .u64 (shrI .u64 (IntKind.u64.wrap ((andI .u64 (shrI .u64 a0 1) 6148914691236517205) + (andI .u64 a0 6148914691236517205))) 2) 3689348814741910323) + (andI .u64 (IntKind.u64.wrap ((andI .u64 (shrI .u64 a0 1) 6148914691236517205) + (andI .u64 a0 6148914691236517205))) 3689348814741910323))))) 1085102592571150095) + (shrI .u64 (andI .u64 (IntKind.u64.wrap ((shrI .u64 (IntKind.u64.wrap ((andI .u64 (shrI .u64 (IntKind.u64.wrap ((andI .u64 (shrI .u64 a0 1) 6148914691236517205) + (andI .u64 a0 6148914691236517205))) 2) 3689348814741910323) + (andI .u64 (IntKind.u64.wrap ((andI .u64 (shrI .u64 a0 1) 6148914691236517205) + (andI .u64 a0 6148914691236517205))) 3689348814741910323))) 4) + (IntKind.u64.wrap ((andI .u64 (shrI .u64 (IntKind.u64.wrap ((andI .u64 (shrI .u64 a0 1) 6148914691236517205) + (andI .u64 a0 6148914691236517205))) 2) 3689348814741910323) + (andI .u64 (IntKind.u64.wrap ((andI .u64 (shrI .u64 a0 1) 6148914691236517205) + (andI .u64 a0 6148914691236517205))) 3689348814741910323))))) 1085102592571150095) 8))) 16)))) rfl (x_assign) ?_
 refine ONR ?_
 refine OV (.int .u64 (IntKind.u64.wrap ((IntKind.u64.wrap ((andI .u64 (IntKind.u64.wrap ((shrI .u64 (IntKind.u64.wrap ((andI .u64 (shrI .u64 (IntKind.u64.wrap ((andI .u64 (shrI .u64 a0 1) 6148914691236517205) + (andI .u64 a0 6148914691236517205))) 2) 3689348814741910323) + (andI .u64 (IntKind.u64.wrap ((andI .u64 (shrI .u64 a0 1) 6148914691236517205) + (andI .u64 a0 6148914691236517205))) 3689348814741910323))) 4) + (IntKind.u64.wrap ((andI .u64 (shrI .u64 (IntKind.u64.wrap ((andI .u64 (shrI .u64 a0 1) 6148914691236517205) + (andI .u64 a0 6148914691236517205))) 2) 3689348814741910323) + (andI .u64 (IntKind.u64.wrap ((andI .u64 (shrI .u64 a0 1) 6148914691236517205) + (andI .u64 a0 6148914691236517205))) 3689348814741910323))))) 1085102592571150095) + (shrI .u64 (andI .u64 (IntKind.u64.wrap ((shrI .u64 (IntKind.u64.wrap ((andI .u64 (shrI .u64 (IntKind.u64.wrap ((andI .u64 (shrI .u64 a0 1) 6148914691236517205) + (andI .u64 a0 6148914691236517205))) 2) 3689348814741910323) + (andI .u64 (IntKind.u64.wrap ((andI .u64 (shrI .u64 a0 1) 6148914691236517205) + (andI .u64 a0 6148914691236517205))) 3689348814741910323))) 4) + (IntKind.u64.wrap ((andI .u64 (shrI .u64 (IntKind.u64.wrap ((andI .u64 (shrI .u64 a0 1) 6148914691236517205) + (andI .u64 a0 6148914691236517205))) 2) 3689348814741910323) + (andI .u64 (IntKind.u64.wrap ((andI .u64 (shrI .u64 a0 1) 6148914691236517205) + (andI .u64 a0 6148914691236517205))) 3689348814741910323))))) 1085102592571150095) 8))) + (shrI .u64 (IntKind.u64.wrap ((andI .u64 (IntKind.u64.wrap ((shrI .u64 (IntKind.u64.wrap ((andI .u64 (shrI .u64 (IntKind.u64.wrap ((andI .u64 (shrI .u64 a0 1) 6148914691236517205) + (andI .u64 a0 6148914691236517205))) 2) 3689348814741910323) + (andI .u64 (IntKind.u64.wrap ((andI .u64 (shrI .u64 a0 1) 6148914691236517205) + (andI .u64 a0 6148914691236517205))) 3689348814741910323))) 4) + (IntKind.u64.wrap ((andI .u64 (shrI .u64 (IntKind.u64.wrap ((andI .u64 (shrI .u64 a0 1) 6148914691236517205) + (andI .u64 a0 6148914691236517205))) 2) 3689348814741910323) + (andI .u64 (IntKind.u64.wrap ((andI .u64 (shrI .u64 a0 1) 6148914691236517205) + (andI .u64 a0 6148914691236517205))) 3689348814741910323))))) 1085102592571150095) + (shrI .u64 (andI .u64 (IntKind.u64.wrap ((shrI .u64 (IntKind.u64.wrap ((andI .u64 (shrI .u64 (IntKind.u64.wrap ((andI .u64 (shrI .u64 a0 1) 6148914691236517205) + (andI .u64 a0 6148914691236517205))) 2) 3689348814741910323) + (andI .u64 (IntKind.u64.wrap ((andI .u64 (shrI .u64 a0 1) 6148914691236517205) + (andI .u64 a0 6148914691236517205))) 3689348814741910323))) 4) + (IntKind.u64.wrap ((andI .u64 (shrI .u64 (IntKind.u64.wrap ((andI .u64 (shrI .u64 a0 1) 6148914691236517205) + (andI .u64 a0 6148914691236517205))) 2) 3689348814741910323) + (andI .u64 (IntKind.u64.wrap ((andI .u64 (shrI .u64 a0 1) 6148914691236517205) + (andI .u64 a0 6148914691236517205))) 3689348814741910323))))) 1085102592571150095) 8))) 16)))) rfl (x_move) ?_
 refine OV (.int .u64 (IntKind.u64.wrap ((IntKind.u64.wrap ((andI .u64 (IntKind.u64.wrap ((shrI .u64 (IntKind.u64.wrap ((andI .u64 (shrI .u64 (IntKind.u64.wrap ((andI .u64 (shrI .u64 a0 1) 6148914691236517205) + (andI .u64 a0 6148914691236517205))) 2) 3689348814741910323) + (andI .u64 (IntKind.u64.wrap ((andI .u64 (shrI .u64 a0 1) 6148914691236517205) + (andI .u64 a0 6148914691236517205))) 3689348814741910323))) 4) + (IntKind.u64.wrap ((andI .u64 (shrI .u64 (IntKind.u64.wrap ((andI .u64 (shrI .u64 a0 1) 6148914691236517205) + (andI .u64 a0 6148914691236517205))) 2) 3689348814741910323) + (andI .u64 (IntKind.u64.wrap ((andI .u64 (shrI .u64 a0 1) 6148914691236517205) + (andI .u64 a0 6148914691236517205))) 3689348814741910323))))) 1085102592571150095) + (shrI .u64 (andI .u64 (IntKind.u64.wrap ((shrI .u64 (IntKind.u64.wrap ((andI .u64 (shrI .u64 (IntKind.u64.wrap ((andI .u64 (shrI .u64 a0 1) 6148914691236517205) + (andI .u64 a0 6148914691236517205))) 2) 3689348814741910323) + (andI .u64 (IntKind.u64.wrap ((andI .u64 (shrI .u64 a0 1) 6148914691236517205) + (andI .u64 a0 6148914691236517205))) 3689348814741910323))) 4) + (IntKind.u64.wrap ((andI .u64 (shrI .u64 (IntKind.u64.wrap ((andI .u64 (shrI .u64 a0 1) 6148914691236517205) + (andI .u64 a0 6148914691236517205))) 2) 3689348814741910323) + (andI .u64 (IntKind.u64.wrap ((andI .u64 (shrI .u64 a0 1) 6148914691236517205) + (andI .u64 a0 6148914691236517205))) 3689348814741910323))))) 1085102592571150095) 8))) + (shrI .u64 (IntKind.u64.wrap ((andI .u64 (IntKind.u64.wrap ((shrI .u64 (IntKind.u64.wrap ((andI .u64 (shrI .u64 (IntKind.u64.wrap ((andI .u64 (shrI .u64 a0 1) 6148914691236517205) + (andI .u64 a0 6148914691236517205))) 2) 3689348814741910323) + (andI .u64 (IntKind.u64.wrap ((andI .u64 (shrI .u64 a0 1) 6148914691236517205) + (andI .u64 a0 6148914691236517205))) 3689348814741910323))) 4) + (IntKind.u64.wrap ((andI .u64 (shrI .u64 (IntKind.u64.wrap ((andI .u64 (shrI .u64 a0 1) 6148914691236517205) + (andI .u64 a0 6148914691236517205))) 2) 3689348814741910323) + (andI .u64 (IntKind.u64.wrap ((andI .u64 (shrI .u64 a0 1) 6148914691236517205) + (andI .u64 a0 6148914691236517205))) 3689348814741910323))))) 1085102592571150095) + (shrI .u64 (andI .u64 (IntKind.u64.wrap ((shrI .u64 (IntKind.u64.wrap ((andI .u64 (shrI .u64 (IntKind.u64.wrap ((andI .u64 (shrI .u64 a0 1) 6148914691236517205) + (andI .u64 a0 6148914691236517205))) 2) 3689348814741910323) + (andI .u64 (IntKind.u64.wrap ((andI .u64 (shrI .u64 a0 1) 6148914691236517205) + (andI .u64 a0 6148914691236517205))) 3689348814741910323))) 4) + (IntKind.u64.wrap ((andI .u64 (shrI .u64 (IntKind.u64.wrap ((andI .u64 (shrI .u64 a0 1) 6148914691236517205) + (andI .u64 a0 6148914691236517205))) 2) 3689348814741910323) + (andI .u64 (IntKind.u64.wrap ((andI .u64 (shrI .u64 a0 1) 6148914691236517205) + (andI .u64 a0 6148914691236517205))) 3689348814741910323))))) 1085102592571150095) 8))) 16)))) rfl (x_move) ?_
 refine OV (.int .u64 (shrI .u64 (IntKind.u64.wrap ((IntKind.u64.wrap ((andI .u64 (IntKind.u64.wrap ((shrI .u64 (IntKind.u64.wrap ((andI .u64 (shrI .u64 (IntKind.u64.wrap ((andI .u64 (shrI .u64 a0 1) 6148914691236517205) + (andI .u64 a0 6148914691236517205))) 2) 3689348814741910323) + (andI .u64 (IntKind.u64.wrap ((andI .u64 (shrI .u64 a0 1) 6148914691236517205) + (andI .u64 a0 6148914691236517205))) 3689348814741910323))) 4) + (IntKind.u64.wrap ((andI .u64 (shrI .u64 (IntKind.u64.wrap ((andI .u64 (shrI .u64 a0 1) 6148914691236517205) + (andI .u64 a0 6148914691236517205))) 2) 3689348814741910323) + (andI .u64 (IntKind.u64.wrap ((andI .u64 (shrI .u64 a0 1) 6148914691236517205) + (andI .u64 a0 6148914691236517205))) 3689348814741910323))))) 1085102592571150095) + (shrI .u64 (andI .u64 (IntKind.u64.wrap ((shrI .u64 (IntKind.u64.wrap ((andI .u64 (shrI .u64 (IntKind.u64.wrap ((andI .u64 (shrI .u64 a0 1) 6148914691236517205) + (andI .u64 a0 6148914691236517205))) 2) 3689348814741910323) + (andI .u64 (IntKind.u64.wrap ((andI .u64 (shrI .u64 a0 1) 6148914691236517205) + (andI .u64 a0 6148914691236517205))) 3689348814741910323))) 4) + (IntKind.u64.wrap ((andI .u64 (shrI .u64 (IntKind.u64.wrap ((andI .u64 (shrI .u64 a0 1) 6148914691236517205) + (andI .u64 a0 6148914691236517205))) 2) 3689348814741910323) + (andI .u64 (IntKind.u64.wrap ((andI .u64 (shrI .u64 a0 1) 6148914691236517205) + (andI .u64 a0 6148914691236517205))) 3689348814741910323))))) 1085102592571150095) 8))) + (shrI .u64 (IntKind.u64.wrap ((andI .u64 (IntKind.u64.wrap ((shrI .u64 (IntKind.u64.wrap ((andI .u64 (shrI .u64 (IntKind.u64.wrap ((andI .u64 (shrI .u64 a0 1) 6148914691236517205) + (andI .u64 a0 6148914691236517205))) 2) 3689348814741910323) + (andI .u64 (IntKind.u64.wrap ((andI .u64 (shrI .u64 a0 1) 6148914691236517205) + (andI .u64 a0 6148914691236517205))) 3689348814741910323))) 4) + (IntKind.u64.wrap ((andI .u64 (shrI .u64 (IntKind.u64.wrap ((andI .u64 (shrI .u64 a0 1) 6148914691236517205) + (andI .u64 a0 6148914691236517205))) 2) 3689348814741910323) + (andI .u64 (IntKind.u64.wrap ((andI .u64 (shrI .u64 a0 1) 6148914691236517205) + (andI .u64 a0 6148914691236517205))) 3689348814741910323))))) 1085102592571150095) + (shrI .u64 (andI .u64 (IntKind.u64.wrap ((shrI .u64 (IntKind.u64.wrap ((andI .u64 (shrI .u64 (IntKind.u64.wrap ((andI .u64 (shrI .u64 a0 1) 6148914691236517205) + (andI .u64 a0 6148914691236517205))) 2) 3689348814741910323) + (andI .u64 (IntKind.u64.wrap ((andI .u64 (shrI .u64 a0 1) 6148914691236517205) + (andI .u64 a0 6148914691236517205))) 3689348814741910323))) 4) + (IntKind.u64.wrap ((andI .u64 (shrI .u64 (IntKind.u64.wrap ((andI .u64 (shrI .u64 a0 1) 6148914691236517205) + (andI .u64 a0 6148914691236517205))) 2) 3689348814741910323) + (andI .u64 (IntKind.u64.wrap ((andI .u64 (shrI .u64 a0 1) 6148914691236517205) + (andI .u64 a0 6148914691236517205))) 3689348814741910323))))) 1085102592571150095) 8))) 16))) 32)) rfl (x_shr rfl rfl (by decide)) ?_
 refine OV (.int .u64 (IntKind.u64.wrap ((IntKind.u64.wrap ((IntKind.u64.wrap ((andI .u64 (IntKind.u64.wrap ((shrI .u64 (IntKind.u64.wrap ((andI .u64 (shrI .u64 (IntKind.u64.wrap ((andI .u64 (shrI .u64 a0 1) 6148914691236517205) + (andI .u64 a0 6148914691236517205))) 2) 3689348814741910323) + (andI .u64 (IntKind.u64.wrap ((andI .u64 (shrI .u64 a0 1) 6148914691236517205) + (andI .u64 a0 6148914691236517205))) 3689348814741910323))) 4) + (IntKind.u64.wrap ((andI .u64 (shrI .u64 (IntKind.u64.wrap ((andI .u64 (shrI .u64 a0 1) 6148914691236517205) + (andI .u64 a0 6148914691236517205))) 2) 3689348814741910323) + (andI .u64 (IntKind.u64.wrap ((andI .u64 (shrI .u64 a0 1) 6148914691236517205) + (andI .u64 a0 6148914691236517205))) 3689348814741910323))))) 1085102592571150095) + (shrI .u64 (andI .u64 (IntKind.u64.wrap ((shrI .u64 (IntKind.u64.wrap ((andI .u64 (shrI .u64 (IntKind.u64.wrap ((andI .u64 (shrI .u64 a0 1) 6148914691236517205) + (andI .u64 a0 6148914691236517205))) 2) 3689348814741910323) + (andI .u64 (IntKind.u64.wrap ((andI .u64 (shrI .u64 a0 1) 6148914691236517205) + (andI .u64 a0 6148914691236517205))) 3689348814741910323))) 4) + (IntKind.u64.wrap ((andI .u64 (shrI .u64 (IntKind.u64.wrap ((andI .u64 (shrI .u64 a0 1) 6148914691236517205) + (andI .u64 a0 6148914691236517205))) 2) 3689348814741910323) + (andI .u64 (IntKind.u64.wrap ((andI .u64 (shrI .u64 a0 1) 6148914691236517205) + (andI .u64 a0 6148914691236517205))) 3689348814741910323))))) 1085102592571150095) 8))) + (shrI .u64 (IntKind.u64.wrap ((andI .u64 (IntKind.u64.wrap ((shrI .u64 (IntKind.u64.wrap ((andI .u64 (shrI .u64 (IntKind.u64.wrap ((andI .u64 (shrI .u64 a0 1) 6148914691236517205) + (andI .u64 a0 6148914691236517205))) 2) 3689348814741910323) + (andI .u64 (IntKind.u64.wrap ((andI .u64 (shrI .u64 a0 1) 6148914691236517205) + (andI .u64 a0 6148914691236517205))) 3689348814741910323))) 4) + (IntKind.u64.wrap ((andI .u64 (shrI .u64 (IntKind.u64.wrap ((andI .u64 (shrI .u64 a0 1) 6148914691236517205) + (andI .u64 a0 6148914691236517205))) 2) 3689348814741910323) + (andI .u64 (IntKind.u64.wrap ((andI .u64 (shrI .u64 a0 1) 6148914691236517205) + (andI .u64 a0 6148914691236517205))) 3689348814741910323))))) 1085102592571150095) + (shrI .u64 (andI .u64 (IntKind.u64.wrap ((shrI .u64 (IntKind.u64.wrap ((andI .u64 (shrI .u64 (IntKind.u64.wrap ((andI .u64 (shrI .u64 a0 1) 6148914691236517205) + (andI .u64 a0 6148914691236517205))) 2) 3689348814741910323) + (andI .u64 (IntKind.u64.wrap ((andI .u64 (shrI .u64 a0 1) 6148914691236517205) + (andI .u64 a0 6148914691236517205))) 3689348814741910323))) 4) + (IntKind.u64.wrap ((andI .u64 (shrI .u64 (IntKind.u64.wrap ((andI .u64 (shrI .u64 a0 1) 6148914691236517205) + (andI .u64 a0 6148914691236517205))) 2) 3689348814741910323) + (andI .u64 (IntKind.u64.wrap ((andI .u64 (shrI .u64 a0 1) 6148914691236517205) + (andI .u64 a0 6148914691236517205))) 3689348814741910323))))) 1085102592571150095) 8))) 16))) + (shrI .u64 (IntKind.u64.wrap ((IntKind.u64.wrap ((andI .u64 (IntKind.u64.wrap ((shrI .u64 (IntKind.u64.wrap ((andI .u64 (shrI .u64 (IntKind.u64.wrap ((andI .u64 (shrI .u64 a0 1) 6148914691236517205) + (andI .u64 a0 6148914691236517205))) 2) 3689348814741910323) + (andI .u64 (IntKind.u64.wrap ((andI .u64 (shrI .u64 a0 1) 6148914691236517205) + (andI .u64 a0 6148914691236517205))) 3689348814741910323))) 4) + (IntKind.u64.wrap ((andI .u64 (shrI .u64 (IntKind.u64.wrap ((andI .u64 (shrI .u64 a0 1) 6148914691236517205) + (andI .u64 a0 6148914691236517205))) 2) 3689348814741910323) + (andI .u64 (IntKind.u64.wrap ((andI .u64 (shrI .u64 a0 1) 6148914691236517205) + (andI .u64 a0 6148914691236517205))) 3689348814741910323))))) 1085102592571150095) + (shrI .u64 (andI .u64 (IntKind.u64.wrap ((shrI .u64 (IntKind.u64.wrap ((andI .u64 (shrI .u64 (IntKind.u64.wrap ((andI .u64 (shrI .u64 a0 1) 6148914691236517205) + (andI .u64 a0 6148914691236517205))) 2) 3689348814741910323) + (andI .u64 (IntKind.u64.wrap ((andI .u64 (shrI .u64 a0 1) 6148914691236517205) + (andI .u64 a0 6148914691236517205))) 3689348814741910323))) 4) + (IntKind.u64.wrap ((andI .u64 (shrI .u64 (IntKind.u64.wrap ((andI .u64 (shrI .u64 a0 1) 6148914691236517205) + (andI .u64 a0 6148914691236517205))) 2) 3689348814741910323) + (andI .u64 (IntKind.u64.wrap ((andI .u64 (shrI .u64 a0 1) 6148914691236517205) + (andI .u64 a0 6148914691236517205))) 3689348814741910323))))) 1085102592571150095) 8))) + (shrI .u64 (IntKind.u64.wrap ((andI .u64 (IntKind.u64.wrap ((shrI .u64 (IntKind.u64.wrap ((andI .u64 (shrI .u64 (IntKind.u64.wrap ((andI .u64 (shrI .u64 a0 1) 6148914691236517205) + (andI .u64 a0 6148914691236517205))) 2) 3689348814741910323) + (andI .u64 (IntKind.u64.wrap ((andI .u64 (shrI .u64 a0 1) 6148914691236517205) + (andI .u64 a0 6148914691236517205))) 3689348814741910323))) 4) + (IntKind.u64.wrap ((andI .u64 (shrI .u64 (IntKind.u64.wrap ((andI .u64 (shrI .u64 a0 1) 6148914691236517205) + (andI .u64 a0 6148914691236517205))) 2) 3689348814741910323) + (andI .u64 (IntKind.u64.wrap ((andI .u64 (shrI .u64 a0 1) 6148914691236517205) + (andI .u64 a0 6148914691236517205))) 3689348814741910323))))) 1085102592571150095) + (shrI .u64 (andI .u64 (IntKind.u64.wrap ((shrI .u64 (IntKind.u64.wrap ((andI .u64 (shrI .u64 (IntKind.u64.wrap ((andI .u64 (shrI .u64 a0 1) 6148914691236517205) + (andI .u64 a0 6148914691236517205))) 2) 3689348814741910323) + (andI .u64 (IntKind.u64.wrap ((andI .u64 (shrI .u64 a0 1) 6148914691236517205) + (andI .u64 a0 6148914691236517205))) 3689348814741910323))) 4) + (IntKind.u64.wrap ((andI .u64 (shrI .u64 (IntKind.u64.wrap ((andI .u64 (shrI .u64 a0 1) 6148914691236517205) + (andI .u64 a0 6148914691236517205))) 2) 3689348814741910323) + (andI .u64 (IntKind.u64.wrap ((andI .u64 (shrI .u64 a0 1) 6148914691236517205) + (andI .u64 a0 6148914691236517205))) 3689348814741910323))))) 1085102592571150095) 8))) 16))) 32)))) rfl (x_add rfl rfl) ?_
 refine OV (.int .u64 (IntKind.u64.wrap ((IntKind.u64.wrap ((IntKind.u64.wrap ((andI .u64 (IntKind.u64.wrap ((shrI .u64 (IntKind.u64.wrap ((andI .u64 (shrI .u64 (IntKind.u64.wrap ((andI .u64 (shrI .u64 a0 1) 6148914691236517205) + (andI .u64 a0 6148914691236517205))) 2) 3689348814741910323) + (andI .u64 (IntKind.u64.wrap ((andI .u64 (shrI .u64 a0 1) 6148914691236517205) + (andI .u64 a0 6148914691236517205))) 3689348814741910323))) 4) + (IntKind.u64.wrap ((andI .u64 (shrI .u64 (IntKind.u64.wrap ((andI .u64 (shrI .u64 a0 1) 6148914691236517205) + (andI .u64 a0 6148914691236517205))) 2) 3689348814741910323) + (andI .u64 (IntKind.u64.wrap ((andI .u64 (shrI .u64 a0 1) 6148914691236517205) + (andI .u64 a0 6148914691236517205))) 3689348814741910323))))) 1085102592571150095) + (shrI .u64 (andI .u64 (IntKind.u64.wrap ((shrI .u64 (IntKind.u64.wrap ((andI .u64 (shrI .u64 (IntKind.u64.wrap ((andI .u64 (shrI .u64 a0 1) 6148914691236517205) + (andI .u64 a0 6148914691236517205))) 2) 3689348814741910323) + (andI .u64 (IntKind.u64.wrap ((andI .u64 (shrI .u64 a0 1) 6148914691236517205) + (andI .u64 a0 6148914691236517205))) 3689348814741910323))) 4) + (IntKind.u64.wrap ((andI .u64 (shrI .u64 (IntKind.u64.wrap ((andI .u64 (shrI .u64 a0 1) 6148914691236517205) + (andI .u64 a0 6148914691236517205))) 2) 3689348814741910323) + (andI .u64 (IntKind.u64.wrap ((andI .u64 (shrI .u64 a0 1) 6148914691236517205) + (andI .u64 a0 6148914691236517205))) 3689348814741910323))))) 1085102592571150095) 8))) + (shrI .u64 (IntKind.u64.wrap ((andI .u64 (IntKind.u64.wrap ((shrI .u64 (IntKind.u64.wrap ((andI .u64 (shrI .u64 (IntKind.u64.wrap ((andI .u64 (shrI .u64 a0 1) 6148914691236517205) + (andI .u64 a0 6148914691236517205))) 2) 3689348814741910323) + (andI .u64 (IntKind.u64.wrap ((andI .u64 (shrI .u64 a0 1) 6148914691236517205) + (andI .u64 a0 6148914691236517205))) 3689348814741910323))) 4) + (IntKind.u64.wrap ((andI .u64 (shrI .u64 (IntKind.u64.wrap ((andI .u64 (shrI .u64 a0 1) 6148914691236517205) + (andI .u64 a0 6148914691236517205))) 2) 3689348814741910323) + (andI .u64 (IntKind.u64.wrap ((andI .u64 (shrI .u64 a0 1) 6148914691236517205) + (andI .u64 a0 6148914691236517205))) 3689348814741910323))))) 1085102592571150095) + (shrI .u64 (andI .u64 (IntKind.u64.wrap ((shrI .u64 (IntKind.u64.wrap ((andI .u64 (shrI .u64 (IntKind.u64.wrap ((andI .u64 (shrI .u64 a0 1) 6148914691236517205) + (andI .u64 a0 6148914691236517205))) 2) 3689348814741910323) + (andI .u64 (IntKind.u64.wrap ((andI .u64 (shrI .u64 a0 1) 6148914691236517205) + (andI .u64 a0 6148914691236517205))) 3689348814741910323))) 4) + (IntKind.u64.wrap ((andI .u64 (shrI .u64 (IntKind.u64.wrap ((andI .u64 (shrI .u64 a0 1) 6148914691236517205) + (andI .u64 a0 6148914691236517205))) 2) 3689348814741910323) + (andI .u64 (IntKind.u64.wrap ((andI .u64 (shrI .u64 a0 1) 6148914691236517205) + (andI .u64 a0 6148914691236517205))) 3689348814741910323))))) 1085102592571150095) 8))) 16))) + (shrI .u64 (IntKind.u64.wrap ((IntKind.u64.wrap ((andI .u64 (IntKind.u64.wrap ((shrI .u64 (IntKind.u64.wrap ((andI .u64 (shrI .u64 (IntKind.u64.wrap ((andI .u64 (shrI .u64 a0 1) 6148914691236517205) + (andI .u64 a0 6148914691236517205))) 2) 3689348814741910323) + (andI .u64 (IntKind.u64.wrap ((andI .u64 (shrI .u64 a0 1) 6148914691236517205) + (andI .u64 a0 6148914691236517205))) 3689348814741910323))) 4) + (IntKind.u64.wrap ((andI .u64 (shrI .u64 (IntKind.u64.wrap ((andI .u64 (shrI .u64 a0 1) 6148914691236517205) + (andI .u64 a0 6148914691236517205))) 2) 3689348814741910323) + (andI .u64 (IntKind.u64.wrap ((andI .u64 (shrI .u64 a0 1) 6148914691236517205) + (andI .u64 a0 6148914691236517205))) 3689348814741910323))))) 1085102592571150095) + (shrI .u64 (andI .u64 (IntKind.u64.wrap ((shrI .u64 (IntKind.u64.wrap ((andI .u64 (shrI .u64 (IntKind.u64.wrap ((andI .u64 (shrI .u64 a0 1) 6148914691236517205) + (andI .u64 a0 6148914691236517205))) 2) 3689348814741910323) + (andI .u64 (IntKind.u64.wrap ((andI .u64 (shrI .u64 a0 1) 6148914691236517205) + (andI .u64 a0 6148914691236517205))) 3689348814741910323))) 4) + (IntKind.u64.wrap ((andI .u64 (shrI .u64 (IntKind.u64.wrap ((andI .u64 (shrI .u64 a0 1) 6148914691236517205) + (andI .u64 a0 6148914691236517205))) 2) 3689348814741910323) + (andI .u64 (IntKind.u64.wrap ((andI .u64 (shrI .u64 a0 1) 6148914691236517205) + (andI .u64 a0 6148914691236517205))) 3689348814741910323))))) 1085102592571150095) 8))) + (shrI .u64 (IntKind.u64.wrap ((andI .u64 (IntKind.u64.wrap ((shrI .u64 (IntKind.u64.wrap ((andI .u64 (shrI .u64 (IntKind.u64.wrap ((andI .u64 (shrI .u64 a0 1) 6148914691236517205) + (andI .u64 a0 6148914691236517205))) 2) 3689348814741910323) + (andI .u64 (IntKind.u64.wrap ((andI .u64 (shrI .u64 a0 1) 6148914691236517205) + (andI .u64 a0 6148914691236517205))) 3689348814741910323))) 4) + (IntKind.u64.wrap ((andI .u64 (shrI .u64 (IntKind.u64.wrap ((andI .u64 (shrI .u64 a0 1) 6148914691236517205) + (andI .u64 a0 6148914691236517205))) 2) 3689348814741910323) + (andI .u64 (IntKind.u64.wrap ((andI .u64 (shrI .u64 a0 1) 6148914691236517205) + (andI .u64 a0 6148914691236517205))) 3689348814741910323))))) 1085102592571150095) + (shrI .u64 (andI .u64 (IntKind.u64.wrap ((shrI .u64 (IntKind.u64.wrap ((andI .u64 (shrI .u64 (IntKind.u64.wrap ((andI .u64 (shrI .u64 a0 1) 6148914691236517205) + (andI .u64 a0 6148914691236517205))) 2) 3689348814741910323) + (andI .u64 (IntKind.u64.wrap ((andI .u64 (shrI .u64 a0 1) 6148914691236517205) + (andI .u64 a0 6148914691236517205))) 3689348814741910323))) 4) + (IntKind.u64.wrap ((andI .u64 (shrI .u64 (IntKind.u64.wrap ((andI .u64 (shrI .u64 a0 1) 6148914691236517205) + (andI .u64 a0 6148914691236517205))) 2) 3689348814741910323) + (andI .u64 (IntKind.u64.wrap ((andI .u64 (shrI .u64 a0 1) 6148914691236517205) + (andI .u64 a0 6148914691236517205))) 3689348814741910323))))) 1085102592571150095) 8))) 16))) 32)))) rfl (x_assign) ?_
 refine ONR ?_
 refine OV (.int .u64 (IntKind.u64.wrap ((IntKind.u64.wrap ((IntKind.u64.wrap ((andI .u64 (IntKind.u64.wrap ((shrI .u64 (IntKind.u64.wrap ((andI .u64 (shrI .u64 (IntKind.u64.wrap ((andI .u64 (shrI .u64 a0 1) 6148914691236517205) + (andI .u64 a0 6148914691236517205))) 2) 3689348814741910323) + (andI .u64 (IntKind.u64.wrap ((andI .u64 (shrI .u64 a0 1) 6148914691236517205) + (andI .u64 a0 6148914691236517205))) 3689348814741910323))) 4) + (IntKind.u64.wrap ((andI .u64 (shrI .u64 (IntKind.u64.wrap ((andI .u64 (shrI .u64 a0 1) 6148914691236517205) + (andI .u64 a0 6148914691236517205))) 2) 3689348814741910323) + (andI .u64 (IntKind.u64.wrap ((andI .u64 (shrI .u64 a0 1) 6148914691236517205) + (andI .u64 a0 6148914691236517205))) 3689348814741910323))))) 1085102592571150095) + (shrI .u64 (andI .u64 (IntKind.u64.wrap ((shrI .u64 (IntKind.u64.wrap ((andI .u64 (shrI .u64 (IntKind.u64.wrap ((andI .u64 (shrI .u64 a0 1) 6148914691236517205) + (andI .u64 a0 6148914691236517205))) 2) 3689348814741910323) + (andI .u64 (IntKind.u64.wrap ((andI .u64 (shrI .u64 a0 1) 6148914691236517205) + (andI .u64 a0 6148914691236517205))) 3689348814741910323))) 4) + (IntKind.u64.wrap ((andI .u64 (shrI .u64 (IntKind.u64.wrap ((andI .u64 (shrI .u64 a0 1) 6148914691236517205) + (andI .u64 a0 6148914691236517205))) 2) 3689348814741910323) + (andI .u64 (IntKind.u64.wrap ((andI .u64 (shrI .u64 a0 1) 6148914691236517205) + (andI .u64 a0 6148914691236517205))) 3689348814741910323))))) 1085102592571150095) 8))) + (shrI .u64 (IntKind.u64.wrap ((andI .u64 (IntKind.u64.wrap ((shrI .u64 (IntKind.u64.wrap ((andI .u64 (shrI .u64 (IntKind.u64.wrap ((andI .u64 (shrI .u64 a0 1) 6148914691236517205) + (andI .u64 a0 6148914691236517205))) 2) 3689348814741910323) + (andI .u64 (IntKind.u64.wrap ((andI .u64 (shrI .u64 a0 1) 6148914691236517205) + (andI .u64 a0 6148914691236517205))) 3689348814741910323))) 4) + (IntKind.u64.wrap ((andI .u64 (shrI .u64 (IntKind.u64.wrap ((andI .u64 (shrI .u64 a0 1) 6148914691236517205) + (andI .u64 a0 6148914691236517205))) 2) 3689348814741910323) + (andI .u64 (IntKind.u64.wrap ((andI .u64 (shrI .u64 a0 1) 6148914691236517205) + (andI .u64 a0 6148914691236517205))) 3689348814741910323))))) 1085102592571150095) + (shrI .u64 (andI .u64 (IntKind.u64.wrap ((shrI .u64 (IntKind.u64.wrap ((andI .u64 (shrI .u64 (IntKind.u64.wrap ((andI .u64 (shrI .u64 a0 1) 6148914691236517205) + (andI .u64 a0 6148914691236517205))) 2) 3689348814741910323) + (andI .u64 (IntKind.u64.wrap ((andI .u64 (shrI .u64 a0 1) 6148914691236517205) + (andI .u64 a0 6148914691236517205))) 3689348814741910323))) 4) + (IntKind.u64.wrap ((andI .u64 (shrI .u64 (IntKind.u64.wrap ((andI .u64 (shrI .u64 a0 1) 6148914691236517205) + (andI .u64 a0 6148914691236517205))) 2) 3689348814741910323) + (andI .u64 (IntKind.u64.wrap ((andI .u64 (shrI .u64 a0 1) 6148914691236517205) + (andI .u64 a0 6148914691236517205))) 3689348814741910323))))) 1085102592571150095) 8))) 16))) + (shrI .u64 (IntKind.u64.wrap ((IntKind.u64.wrap ((andI .u64 (IntKind.u64.wrap ((shrI .u64 (IntKind.u64.wrap ((andI .u64 (shrI .u64 (IntKind.u64.wrap ((andI .u64 (shrI .u64 a0 1) 6148914691236517205) + (andI .u64 a0 6148914691236517205))) 2) 3689348814741910323) + (andI .u64 (IntKind.u64.wrap ((andI .u64 (shrI .u64 a0 1) 6148914691236517205) + (andI .u64 a0 6148914691236517205))) 3689348814741910323))) 4) + (IntKind.u64.wrap ((andI .u64 (shrI .u64 (IntKind.u64.wrap ((andI .u64 (shrI .u64 a0 1) 6148914691236517205) + (andI .u64 a0 6148914691236517205))) 2) 3689348814741910323) + (andI .u64 (IntKind.u64.wrap ((andI .u64 (shrI .u64 a0 1) 6148914691236517205) + (andI .u64 a0 6148914691236517205))) 3689348814741910323))))) 1085102592571150095) + (shrI .u64 (andI .u64 (IntKind.u64.wrap ((shrI .u64 (IntKind.u64.wrap ((andI .u64 (shrI .u64 (IntKind.u64.wrap ((andI .u64 (shrI .u64 a0 1) 6148914691236517205) + (andI .u64 a0 6148914691236517205))) 2) 3689348814741910323) + (andI .u64 (IntKind.u64.wrap ((andI .u64 (shrI .u64 a0 1) 6148914691236517205) + (andI .u64 a0 6148914691236517205))) 3689348814741910323))) 4) + (IntKind.u64.wrap ((andI .u64 (shrI .u64 (IntKind.u64.wrap ((andI .u64 (shrI .u64 a0 1) 6148914691236517205) + (andI .u64 a0 6148914691236517205))) 2) 3689348814741910323) + (andI .u64 (IntKind.u64.wrap ((andI .u64 (shrI .u64 a0 1) 6148914691236517205) + (andI .u64 a0 6148914691236517205))) 3689348814741910323))))) 1085102592571150095) 8))) + (shrI .u64 (IntKind.u64.wrap ((andI .u64 (IntKind.u64.wrap ((shrI .u64 (IntKind.u64.wrap ((andI .u64 (shrI .u64 (IntKind.u64.wrap ((andI .u64 (shrI .u64 a0 1) 6148914691236517205) + (andI .u64 a0 6148914691236517205))) 2) 3689348814741910323) + (andI .u64 (IntKind.u64.wrap ((andI .u64 (shrI .u64 a0 1) 6148914691236517205) + (andI .u64 a0 6148914691236517205))) 3689348814741910323))) 4) + (IntKind.u64.wrap ((andI .u64 (shrI .u64 (IntKind.u64.wrap ((andI .u64 (shrI .u64 a0 1) 6148914691236517205) + (andI .u64 a0 6148914691236517205))) 2) 3689348814741910323) + (andI .u64 (IntKind.u64.wrap ((andI .u64 (shrI .u64 a0 1) 6148914691236517205) + (andI .u64 a0 6148914691236517205))) 3689348814741910323))))) 1085102592571150095) + (shrI .u64 (andI .u64 (IntKind.u64.wrap ((shrI .u64 (IntKind.u64.wrap ((andI .u64 (shrI .u64 (IntKind.u64.wrap ((andI .u64 (shrI .u64 a0 1) 6148914691236517205) + (andI .u64 a0 6148914691236517205))) 2) 3689348814741910323) + (andI .u64 (IntKind.u64.wrap ((andI .u64 (shrI .u64 a0 1) 6148914691236517205) + (andI .u64 a0 6148914691236517205))) 3689348814741910323))) 4) + (IntKind.u64.wrap ((andI .u64 (shrI .u64 (IntKind.u64.wrap ((andI .u64 (shrI .u64 a0 1) 6148914691236517205) + (andI .u64 a0 6148914691236517205))) 2) 3689348814741910323) + (andI .u64 (IntKind.u64.wrap ((andI .u64 (shrI .u64 a0 1) 6148914691236517205) + (andI .u64 a0 6148914691236517205))) 3689348814741910323))))) 1085102592571150095) 8))) 16))) 32)))) rfl (x_move) ?_
 refine OV (.int .i64 (IntKind.i64.wrap (IntKind.u64.wrap ((IntKind.u64.wrap ((IntKind.u64.wrap ((andI .u64 (IntKind.u64.wrap ((shrI .u64 (IntKind.u64.wrap ((andI .u64 (shrI .u64 (IntKind.u64.wrap ((andI .u64 (shrI .u64 a0 1) 6148914691236517205) + (andI .u64 a0 6148914691236517205))) 2) 3689348814741910323) + (andI .u64 (IntKind.u64.wrap ((andI .u64 (shrI .u64 a0 1) 6148914691236517205) + (andI .u64 a0 6148914691236517205))) 3689348814741910323))) 4) + (IntKind.u64.wrap ((andI .u64 (shrI .u64 (IntKind.u64.wrap ((andI .u64 (shrI .u64 a0 1) 6148914691236517205) + (andI .u64 a0 6148914691236517205))) 2) 3689348814741910323) + (andI .u64 (IntKind.u64.wrap ((andI .u64 (shrI .u64 a0 1) 6148914691236517205) + (andI .u64 a0 6148914691236517205))) 3689348814741910323))))) 1085102592571150095) + (shrI .u64 (andI .u64 (IntKind.u64.wrap ((shrI .u64 (IntKind.u64.wrap ((andI .u64 (shrI .u64 (IntKind.u64.wrap ((andI .u64 (shrI .u64 a0 1) 6148914691236517205) + (andI .u64 a0 6148914691236517205))) 2) 3689348814741910323) + (andI .u64 (IntKind.u64.wrap ((andI .u64 (shrI .u64 a0 1) 6148914691236517205) + (andI .u64 a0 6148914691236517205))) 3689348814741910323))) 4) + (IntKind.u64.wrap ((andI .u64 (shrI .u64 (IntKind.u64.wrap ((andI .u64 (shrI .u64 a0 1) 6148914691236517205) + (andI .u64 a0 6148914691236517205))) 2) 3689348814741910323) + (andI .u64 (IntKind.u64.wrap ((andI .u64 (shrI .u64 a0 1) 6148914691236517205) + (andI .u64 a0 6148914691236517205))) 3689348814741910323))))) 1085102592571150095) 8))) + (shrI .u64 (IntKind.u64.wrap ((andI .u64 (IntKind.u64.wrap ((shrI .u64 (IntKind.u64.wrap ((andI .u64 (shrI .u64 (IntKind.u64.wrap ((andI .u64 (shrI .u64 a0 1) 6148914691236517205) + (andI .u64 a0 6148914691236517205))) 2) 3689348814741910323) + (andI .u64 (IntKind.u64.wrap ((andI .u64 (shrI .u64 a0 1) 6148914691236517205) + (andI .u64 a0 6148914691236517205))) 3689348814741910323))) 4) + (IntKind.u64.wrap ((andI .u64 (shrI .u64 (IntKind.u64.wrap ((andI .u64 (shrI .u64 a0 1) 6148914691236517205) + (andI .u64 a0 6148914691236517205))) 2) 3689348814741910323) + (andI .u64 (IntKind.u64.wrap ((andI .u64 (shrI .u64 a0 1) 6148914691236517205) + (andI .u64 a0 6148914691236517205))) 3689348814741910323))))) 1085102592571150095) + (shrI .u64 (andI .u64 (IntKind.u64.wrap ((shrI .u64 (IntKind.u64.wrap ((andI .u64 (shrI .u64 (IntKind.u64.wrap ((andI .u64 (shrI .u64 a0 1) 6148914691236517205) + (andI .u64 a0 6148914691236517205))) 2) 3689348814741910323) + (andI .u64 (IntKind.u64.wrap ((andI .u64 (shrI .u64 a0 1) 6148914691236517205) + (andI .u64 a0 6148914691236517205))) 3689348814741910323))) 4) + (IntKind.u64.wrap ((andI .u64 (shrI .u64 (IntKind.u64.wrap ((andI .u64 (shrI .u64 a0 1) 6148914691236517205) + (andI .u64 a0 6148914691236517205))) 2) 3689348814741910323) + (andI .u64 (IntKind.u64.wrap ((andI .u64 (shrI .u64 a0 1) 6148914691236517205) + (andI .u64 a0 6148914691236517205))) 3689348814741910323))))) 1085102592571150095) 8))) 16))) + (shrI .u64 (IntKind.u64.wrap ((IntKind.u64.wrap ((andI .u64 (IntKind.u64.wrap ((shrI .u64 (IntKind.u64.wrap ((andI .u64 (shrI .u64 (IntKind.u64.wrap ((andI .u64 (shrI .u64 a0 1) 6148914691236517205) + (andI .u64 a0 6148914691236517205))) 2) 3689348814741910323) + (andI .u64 (IntKind.u64.wrap ((andI .u64 (shrI .u64 a0 1) 6148914691236517205) + (andI .u64 a0 6148914691236517205))) 3689348814741910323))) 4) + (IntKind.u64.wrap ((andI .u64 (shrI .u64 (IntKind.u64.wrap ((andI .u64 (shrI .u64 a0 1) 6148914691236517205) + (andI .u64 a0 6148914691236517205))) 2) 3689348814741910323) + (andI .u64 (IntKind.u64.wrap ((andI .u64 (shrI .u64 a0 1) 6148914691236517205) + (andI .u64 a0 6148914691236517205))) 3689348814741910323))))) 1085102592571150095) + (shrI .u64 (andI .u64 (IntKind.u64.wrap ((shrI .u64 (IntKind.u64.wrap ((andI .u64 (shrI .u64 (IntKind.u64.wrap ((andI .u64 (shrI .u64 a0 1) 6148914691236517205) + (andI .u64 a0 6148914691236517205))) 2) 3689348814741910323) + (andI .u64 (IntKind.u64.wrap ((andI .u64 (shrI .u64 a0 1) 6148914691236517205) + (andI .u64 a0 6148914691236517205))) 3689348814741910323))) 4) + (IntKind.u64.wrap ((andI .u64 (shrI .u64 (IntKind.u64.wrap ((andI .u64 (shrI .u64 a0 1) 6148914691236517205) + (andI .u64 a0 6148914691236517205))) 2) 3689348814741910323) + (andI .u64 (IntKind.u64.wrap ((andI .u64 (shrI .u64 a0 1) 6148914691236517205) + (andI .u64 a0 6148914691236517205))) 3689348814741910323))))) 1085102592571150095) 8))) + (shrI .u64 (IntKind.u64.wrap ((andI .u64 (IntKind.u64.wrap ((shrI .u64 (IntKind.u64.wrap ((andI .u64 (shrI .u64 (IntKind.u64.wrap ((andI .u64 (shrI .u64 a0 1) 6148914691236517205) + (andI .u64 a0 6148914691236517205))) 2) 3689348814741910323) + (andI .u64 (IntKind.u64.wrap ((andI .u64 (shrI .u64 a0 1) 6148914691236517205) + (andI .u64 a0 6148914691236517205))) 3689348814741910323))) 4) + (IntKind.u64.wrap ((andI .u64 (shrI .u64 (IntKind.u64.wrap ((andI .u64 (shrI .u64 a0 1) 6148914691236517205) + (andI .u64 a0 6148914691236517205))) 2) 3689348814741910323) + (andI .u64 (IntKind.u64.wrap ((andI .u64 (shrI .u64 a0 1) 6148914691236517205) + (andI .u64 a0 6148914691236517205))) 3689348814741910323))))) 1085102592571150095) + (shrI .u64 (andI .u64 (IntKind.u64.wrap ((shrI .u64 (IntKind.u64.wrap ((andI .u64 (shrI .u64 (IntKind.u64.wrap ((andI .u64 (shrI .u64 a0 1) 6148914691236517205) + (andI .u64 a0 6148914691236517205))) 2) 3689348814741910323) + (andI .u64 (IntKind.u64.wrap ((andI .u64 (shrI .u64 a0 1) 6148914691236517205) + (andI .u64 a0 6148914691236517205))) 3689348814741910323))) 4) + (IntKind.u64.wrap ((andI .u64 (shrI .u64 (IntKind.u64.wrap ((andI .u64 (shrI .u64 a0 1) 6148914691236517205) + (andI .u64 a0 6148914691236517205))) 2) 3689348814741910323) + (andI .u64 (IntKind.u64.wrap ((andI .u64 (shrI .u64 a0 1) 6148914691236517205) + (andI .u64 a0 6148914691236517205))) 3689348814741910323))))) 1085102592571150095) 8))) 16))) 32))))) rfl (x_conv U63 U3 rfl) ?_
 refine OV (.int .i64 (andI .i64 (IntKind.i64.wrap (IntKind.u64.wrap ((IntKind.u64.wrap ((IntKind.u64.wrap ((andI .u64 (IntKind.u64.wrap ((shrI .u64 (IntKind.u64.wrap ((andI .u64 (shrI .u64 (IntKind.u64.wrap ((andI .u64 (shrI .u64 a0 1) 6148914691236517205) + (andI .u64 a0 6148914691236517205))) 2) 3689348814741910323) + (andI .u64 (IntKind.u64.wrap ((andI .u64 (shrI .u64 a0 1) 6148914691236517205) + (andI .u64 a0 6148914691236517205))) 3689348814741910323))) 4) + (IntKind.u64.wrap ((andI .u64 (shrI .u64 (IntKind.u64.wrap ((andI .u64 (shrI .u64 a0 1) 6148914691236517205) + (andI .u64 a0 6148914691236517205))) 2) 3689348814741910323) + (andI .u64 (IntKind.u64.wrap ((andI .u64 (shrI .u64 a0 1) 6148914691236517205) + (andI .u64 a0 6148914691236517205))) 3689348814741910323))))) 1085102592571150095) + (shrI .u64 (andI .u64 (IntKind.u64.wrap ((shrI .u64 (IntKind.u64.wrap ((andI .u64 (shrI .u64 (IntKind.u64.wrap ((andI .u64 (shrI .u64 a0 1) 6148914691236517205) + (andI .u64 a0 6148914691236517205))) 2) 3689348814741910323) + (andI .u64 (IntKind.u64.wrap ((andI .u64 (shrI .u64 a0 1) 6148914691236517205) + (andI .u64 a0 6148914691236517205))) 3689348814741910323))) 4) + (IntKind.u64.wrap ((andI .u64 (shrI .u64 (IntKind.u64.wrap ((andI .u64 (shrI .u64 a0 1) 6148914691236517205) + (andI .u64 a0 6148914691236517205))) 2) 3689348814741910323) + (andI .u64 (IntKind.u64.wrap ((andI .u64 (shrI .u64 a0 1) 6148914691236517205) + (andI .u64 a0 6148914691236517205))) 3689348814741910323))))) 1085102592571150095) 8))) + (shrI .u64 (IntKind.u64.wrap ((andI .u64 (IntKind.u64.wrap ((shrI .u64 (IntKind.u64.wrap ((andI .u64 (shrI .u64 (IntKind.u64.wrap ((andI .u64 (shrI .u64 a0 1) 6148914691236517205) + (andI .u64 a0 6148914691236517205))) 2) 3689348814741910323) + (andI .u64 (IntKind.u64.wrap ((andI .u64 (shrI .u64 a0 1) 6148914691236517205) + (andI .u64 a0 6148914691236517205))) 3689348814741910323))) 4) + (IntKind.u64.wrap ((andI .u64 (shrI .u64 (IntKind.u64.wrap ((andI .u64 (shrI .u64 a0 1) 6148914691236517205) + (andI .u64 a0 6148914691236517205))) 2) 3689348814741910323) + (andI .u64 (IntKind.u64.wrap ((andI .u64 (shrI .u64 a0 1) 6148914691236517205) + (andI .u64 a0 6148914691236517205))) 3689348814741910323))))) 1085102592571150095) + (shrI .u64 (andI .u64 (IntKind.u64.wrap ((shrI .u64 (IntKind.u64.wrap ((andI .u64 (shrI .u64 (IntKind.u64.wrap ((andI .u64 (shrI .u64 a0 1) 6148914691236517205) + (andI .u64 a0 6148914691236517205))) 2) 3689348814741910323) + (andI .u64 (IntKind.u64.wrap ((andI .u64 (shrI .u64 a0 1) 6148914691236517205) + (andI .u64 a0 6148914691236517205))) 3689348814741910323))) 4) + (IntKind.u64.wrap ((andI .u64 (shrI .u64 (IntKind.u64.wrap ((andI .u64 (shrI .u64 a0 1) 6148914691236517205) + (andI .u64 a0 6148914691236517205))) 2) 3689348814741910323) + (andI .u64 (IntKind.u64.wrap ((andI .u64 (shrI .u64 a0 1) 6148914691236517205) + (andI .u64 a0 6148914691236517205))) 3689348814741910323))))) 1085102592571150095) 8))) 16))) + (shrI .u64 (IntKind.u64.wrap ((IntKind.u64.wrap ((andI .u64 (IntKind.u64.wrap ((shrI .u64 (IntKind.u64.wrap ((andI .u64 (shrI .u64 (IntKind.u64.wrap ((andI .u64 (shrI .u64 a0 1) 6148914691236517205) + (andI .u64 a0 6148914691236517205))) 2) 3689348814741910323) + (andI .u64 (IntKind.u64.wrap ((andI .u64 (shrI .u64 a0 1) 6148914691236517205) + (andI .u64 a0 6148914691236517205))) 3689348814741910323))) 4) + (IntKind.u64.wrap ((andI .u64 (shrI .u64 (IntKind.u64.wrap ((andI .u64 (shrI .u64 a0 1) 6148914691236517205) + (andI .u64 a0 6148914691236517205))) 2) 3689348814741910323) + (andI .u64 (IntKind.u64.wrap ((andI .u64 (shrI .u64 a0 1) 6148914691236517205) + (andI .u64 a0 6148914691236517205))) 3689348814741910323))))) 1085102592571150095) + (shrI .u64 (andI .u64 (IntKind.u64.wrap ((shrI .u64 (IntKind.u64.wrap ((andI .u64 (shrI .u64 (IntKind.u64.wrap ((andI .u64 (shrI .u64 a0 1) 6148914691236517205) + (andI .u64 a0 6148914691236517205))) 2) 3689348814741910323) + (andI .u64 (IntKind.u64.wrap ((andI .u64 (shrI .u64 a0 1) 6148914691236517205) + (andI .u64 a0 6148914691236517205))) 3689348814741910323))) 4) + (IntKind.u64.wrap ((andI .u64 (shrI .u64 (IntKind.u64.wrap ((andI .u64 (shrI .u64 a0 1) 6148914691236517205) + (andI .u64 a0 6148914691236517205))) 2) 3689348814741910323) + (andI .u64 (IntKind.u64.wrap ((andI .u64 (shrI .u64 a0 1) 6148914691236517205) + (andI .u64 a0 6148914691236517205))) 3689348814741910323))))) 1085102592571150095) 8))) + (shrI .u64 (IntKind.u64.wrap ((andI .u64 (IntKind.u64.wrap ((shrI .u64 (IntKind.u64.wrap ((andI .u64 (shrI .u64 (IntKind.u64.wrap ((andI .u64 (shrI .u64 a0 1) 6148914691236517205) + (andI .u64 a0 6148914691236517205))) 2) 3689348814741910323) + (andI .u64 (IntKind.u64.wrap ((andI .u64 (shrI .u64 a0 1) 6148914691236517205) + (andI .u64 a0 6148914691236517205))) 3689348814741910323))) 4) + (IntKind.u64.wrap ((andI .u64 (shrI .u64 (IntKind.u64.wrap ((andI .u64 (shrI .u64 a0 1) 6148914691236517205) + (andI .u64 a0 6148914691236517205))) 2) 3689348814741910323) + (andI .u64 (IntKind.u64.wrap ((andI .u64 (shrI .u64 a0 1) 6148914691236517205) + (andI .u64 a0 6148914691236517205))) 3689348814741910323))))) 1085102592571150095) + (shrI .u64 (andI .u64 (IntKind.u64.wrap ((shrI .u64 (IntKind.u64.wrap ((andI .u64 (shrI .u64 (IntKind.u64.wrap ((andI .u64 (shrI .u64 a0 1) 6148914691236517205) + (andI .u64 a0 6148914691236517205))) 2) 3689348814741910323) + (andI .u64 (IntKind.u64.wrap ((andI .u64 (shrI .u64 a0 1) 6148914691236517205) + (andI .u64 a0 6148914691236517205))) 3689348814741910323))) 4) + (IntKind.u64.wrap ((andI .u64 (shrI .u64 (IntKind.u64.wrap ((andI .u64 (shrI .u64 a0 1) 6148914691236517205) + (andI .u64 a0 6148914691236517205))) 2) 3689348814741910323) + (andI .u64 (IntKind.u64.wrap ((andI .u64 (shrI .u64 a0 1) 6148914691236517205) + (andI .u64 a0 6148914691236517205))) 3689348814741910323))))) 1085102592571150095) 8))) 16))) 32)))) 127)) rfl (x_and rfl rfl) ?_
 refine OV (.int .i64 (andI .i64 (IntKind.i64.wrap (IntKind.u64.wrap ((IntKind.u64.wrap ((IntKind.u64.wrap ((andI .u64 (IntKind.u64.wrap ((shrI .u64 (IntKind.u64.wrap ((andI .u64 (shrI .u64 (IntKind.u64.wrap ((andI .u64 (shrI .u64 a0 1) 6148914691236517205) + (andI .u64 a0 6148914691236517205))) 2) 3689348814741910323) + (andI .u64 (IntKind.u64.wrap ((andI .u64 (shrI .u64 a0 1) 6148914691236517205) + (andI .u64 a0 6148914691236517205))) 3689348814741910323))) 4) + (IntKind.u64.wrap ((andI .u64 (shrI .u64 (IntKind.u64.wrap ((andI .u64 (shrI .u64 a0 1) 6148914691236517205) + (andI .u64 a0 6148914691236517205))) 2) 3689348814741910323) + (andI .u64 (IntKind.u64.wrap ((andI .u64 (shrI .u64 a0 1) 6148914691236517205) + (andI .u64 a0 6148914691236517205))) 3689348814741910323))))) 1085102592571150095) + (shrI .u64 (andI .u64 (IntKind.u64.wrap ((shrI .u64 (IntKind.u64.wrap ((andI .u64 (shrI .u64 (IntKind.u64.wrap ((andI .u64 (shrI .u64 a0 1) 6148914691236517205) + (andI .u64 a0 6148914691236517205))) 2) 3689348814741910323) + (andI .u64 (IntKind.u64.wrap ((andI .u64 (shrI .u64 a0 1) 6148914691236517205) + (andI .u64 a0 6148914691236517205))) 3689348814741910323))) 4) + (IntKind.u64.wrap ((andI .u64 (shrI .u64 (IntKind.u64.wrap ((andI .u64 (shrI .u64 a0 1) 6148914691236517205) + (andI .u64 a0 6148914691236517205))) 2) 3689348814741910323) + (andI .u64 (IntKind.u64.wrap ((andI .u64 (shrI .u64 a0 1) 6148914691236517205) + (andI .u64 a0 6148914691236517205))) 3689348814741910323))))) 1085102592571150095) 8))) + (shrI .u64 (IntKind.u64.wrap ((andI .u64 (IntKind.u64.wrap ((shrI .u64 (IntKind.u64.wrap ((andI .u64 (shrI .u64 (IntKind.u64.wrap ((andI .u64 (shrI .u64 a0 1) 6148914691236517205) + (andI .u64 a0 6148914691236517205))) 2) 3689348814741910323) + (andI .u64 (IntKind.u64.wrap ((andI .u64 (shrI .u64 a0 1) 6148914691236517205) + (andI .u64 a0 6148914691236517205))) 3689348814741910323))) 4) + (IntKind.u64.wrap ((andI .u64 (shrI .u64 (IntKind.u64.wrap ((andI .u64 (shrI .u64 a0 1) 6148914691236517205) + (andI .u64 a0 6148914691236517205))) 2) 3689348814741910323) + (andI .u64 (IntKind.u64.wrap ((andI .u64 (shrI .u64 a0 1) 6148914691236517205) + (andI .u64 a0 6148914691236517205))) 3689348814741910323))))) 1085102592571150095) + (shrI .u64 (andI .u64 (IntKind.u64.wrap ((shrI .u64 (IntKind.u64.wrap ((andI .u64 (shrI .u64 (IntKind.u64.wrap ((andI .u64 (shrI .u64 a0 1) 6148914691236517205) + (andI .u64 a0 6148914691236517205))) 2) 3689348814741910323) + (andI .u64 (IntKind.u64.wrap ((andI .u64 (shrI .u64 a0 1) 6148914691236517205) + (andI .u64 a0 6148914691236517205))) 3689348814741910323))) 4) + (IntKind.u64.wrap ((andI .u64 (shrI .u64 (IntKind.u64.wrap ((andI .u64 (shrI .u64 a0 1) 6148914691236517205) + (andI .u64 a0 6148914691236517205))) 2) 3689348814741910323) + (andI .u64 (IntKind.u64.wrap ((andI .u64 (shrI .u64 a0 1) 6148914691236517205) + (andI .u64 a0 6148914691236517205))) 3689348814741910323))))) 1085102592571150095) 8))) 16))) + (shrI .u64 (IntKind.u64.wrap ((IntKind.u64.wrap ((andI .u64 (IntKind.u64.wrap ((shrI .u64 (IntKind.u64.wrap ((andI .u64 (shrI .u64 (IntKind.u64.wrap ((andI .u64 (shrI .u64 a0 1) 6148914691236517205) + (andI .u64 a0 6148914691236517205))) 2) 3689348814741910323) + (andI .u64 (IntKind.u64.wrap ((andI .u64 (shrI .u64 a0 1) 6148914691236517205) + (andI .u64 a0 6148914691236517205))) 3689348814741910323))) 4) + (IntKind.u64.wrap ((andI .u64 (shrI .u64 (IntKind.u64.wrap ((andI .u64 (shrI .u64 a0 1) 6148914691236517205) + (andI .u64 a0 6148914691236517205))) 2) 3689348814741910323) + (andI .u64 (IntKind.u64.wrap ((andI .u64 (shrI .u64 a0 1) 6148914691236517205) + (andI .u64 a0 6148914691236517205))) 3689348814741910323))))) 1085102592571150095) + (shrI .u64 (andI .u64 (IntKind.u64.wrap ((shrI .u64 (IntKind.u64.wrap ((andI .u64 (shrI .u64 (IntKind.u64.wrap ((andI .u64 (shrI .u64 a0 1) 6148914691236517205) + (andI .u64 a0 6148914691236517205))) 2) 3689348814741910323) + (andI .u64 (IntKind.u64.wrap ((andI .u64 (shrI .u64 a0 1) 6148914691236517205) + (andI .u64 a0 6148914691236517205))) 3689348814741910323))) 4) + (IntKind.u64.wrap ((andI .u64 (shrI .u64 (IntKind.u64.wrap ((andI .u64 (shrI .u64 a0 1) 6148914691236517205) + (andI .u64 a0 6148914691236517205))) 2) 3689348814741910323) + (andI .u64 (IntKind.u64.wrap ((andI .u64 (shrI .u64 a0 1) 6148914691236517205) + (andI .u64 a0 6148914691236517205))) 3689348814741910323))))) 1085102592571150095) 8))) + (shrI .u64 (IntKind.u64.wrap ((andI .u64 (IntKind.u64.wrap ((shrI .u64 (IntKind.u64.wrap ((andI .u64 (shrI .u64 (IntKind.u64.wrap ((andI .u64 (shrI .u64 a0 1) 6148914691236517205) + (andI .u64 a0 6148914691236517205))) 2) 3689348814741910323) + (andI .u64 (IntKind.u64.wrap ((andI .u64 (shrI .u64 a0 1) 6148914691236517205) + (andI .u64 a0 6148914691236517205))) 3689348814741910323))) 4) + (IntKind.u64.wrap ((andI .u64 (shrI .u64 (IntKind.u64.wrap ((andI .u64 (shrI .u64 a0 1) 6148914691236517205) + (andI .u64 a0 6148914691236517205))) 2) 3689348814741910323) + (andI .u64 (IntKind.u64.wrap ((andI .u64 (shrI .u64 a0 1) 6148914691236517205) + (andI .u64 a0 6148914691236517205))) 3689348814741910323))))) 1085102592571150095) + (shrI .u64 (andI .u64 (IntKind.u64.wrap ((shrI .u64 (IntKind.u64.wrap ((andI .u64 (shrI .u64 (IntKind.u64.wrap ((andI .u64 (shrI .u64 a0 1) 6148914691236517205) + (andI .u64 a0 6148914691236517205))) 2) 3689348814741910323) + (andI .u64 (IntKind.u64.wrap ((andI .u64 (shrI .u64 a0 1) 6148914691236517205) + (andI .u64 a0 6148914691236517205))) 3689348814741910323))) 4) + (IntKind.u64.wrap ((andI .u64 (shrI .u64 (IntKind.u64.wrap ((andI .u64 (shrI .u64 a0 1) 6148914691236517205) + (andI .u64 a0 6148914691236517205))) 2) 3689348814741910323) + (andI .u64 (IntKind.u64.wrap ((andI .u64 (shrI .u64 a0 1) 6148914691236517205) + (andI .u64 a0 6148914691236517205))) 3689348814741910323))))) 1085102592571150095) 8))) 16))) 32)))) 127)) rfl (x_assign) ?_
 refine OW.nil ?_
 refine CW.ret ?_
 obtain rfl := Option.some.inj hm
 exact RR1 rfl rfl ⟨rfl, hL.fresh 0 rfl [] (by decide) (by decide) rfl⟩

theorem M.math_bits_OnesCount_ok (w0 : World) (a0 : Int) {r : Int} (hm : M.math_bits_OnesCount a0 = some r) :
    Calls Tryd.prog 17 #[(.int .u64 a0)] w0 fun e w' => e = .returned (.int .i64 r) ∧ Fresh w0 w' [] := by
 unfold M.math_bits_OnesCount at hm
 refine calls_CW (args := [(.int .u64 a0)]) Tryd.func17 rfl rfl rfl ?_
 have hL := Hp.start w0
 refine CSR ?_
 refine OV (.int .i64 0) rfl (x_assign) ?_
 refine ONS ?_
 refine CW.condF rfl rfl ?_
 refine CW.skip ?_
 refine CSR ?_
 refine OV (.int .u64 a0) rfl (x_move) ?_
 obtain ⟨x1, hx2, hm⟩ := bndE hm
 refine OW.cons (OP.call rfl (x_call (vs := [(.int .u64 a0)]) Tryd_C32 ⟨rfl, trivial⟩) (M.math_bits_OnesCount64_ok _ a0 hx2) ?_)
 rintro e3 wd4 ⟨rfl, hF5⟩
 refine ⟨_, rfl, ?_⟩
 have hL := hL.pushAll hF5
 simp only [lA, lB, lC, lD] at hL
 refine OV (.int .i64 x1) rfl (x_assign) ?_
 refine OW.nil ?_
 refine CW.ret ?_
 obtain rfl := Option.some.inj hm
 exact RR1 rfl rfl ⟨rfl, hL.fresh 0 rfl [] (by decide) (by decide) rfl⟩

theorem M.impl_floorDiv_ok (w0 : World) (a0 : Int) (a1 : Int) {r : Int} (hm : M.impl_floorDiv a0 a1 = some r) :
    Calls Tryd.prog 33 #[(.int .i64 a0), (.int .i64 a1)] w0 fun e w' => e = .returned (.int .i64 r) ∧ Fresh w0 w' [] := by
 unfold M.impl_floorDiv at hm
 refine calls_CW (args := [(.int .i64 a0), (.int .i64 a1)]) Tryd.func33 rfl rfl rfl ?_
 have hL := Hp.start w0
 refine CSR ?_
 refine OV (.int .i64 0) rfl (x_assign) ?_
 refine ONR ?_
 refine OV (.int .i64 a0) rfl (x_move) ?_
 refine OV (.int .i64 a1) rfl (x_move) ?_
 obtain ⟨hc1, hm⟩ := chkE hm
 refine OV (.int .i64 (w64 (a0.tdiv a1))) rfl (x_quo rfl rfl hc1) ?_
 refine OV (.int .i64 (w64 (a0.tdiv a1))) rfl (x_assign) ?_
 refine OW.nil ?_
 refine CW.seqJ (fun (s_j1 : Int) (F : Fr) (w : World) => F 5 = (.int .i64 s_j1) ∧ Hp w0 [Ent.snap w0 w0.heap.size] w) (fun s_j1 => M.impl_floorDiv_j1 s_j1 = some r) ?_ ?_
 · refine CSR ?_
   refine OV (.int .i64 a0) rfl (x_move) ?_
   refine OV (.int .i64 a1) rfl (x_move) ?_
   obtain ⟨hc7, hm⟩ := chkE hm
   refine OV (.int .i64 (a0.tmod a1)) rfl (x_rem rfl rfl hc7) ?_
   refine OV (.bool (decide ((a0.tmod a1) < 0))) rfl (x_lss rfl rfl) ?_
   refine OW.nil ?_
   refine CW.condM (t := decide ((a0.tmod a1) < 0)) rfl hm (fun hb8 hm => ?_) (fun hb8 hm => ?_)
   · refine CW.regionL ?_
     refine OV (.int .i64 (w64 (a0.tdiv a1))) rfl (x_move) ?_
     refine OV (.int .i64 (w64 ((w64 (a0.tdiv a1)) - 1))) rfl (x_sub rfl rfl) ?_
     refine OV (.int .i64 (w64 ((w64 (a0.tdiv a1)) - 1))) rfl (x_assign) ?_
     refine OW.nil ?_
     exact ⟨w64 ((w64 (a0.tdiv a1)) - 1), hm, ⟨rfl, hL⟩⟩
   refine CW.skip ?_
   exact ⟨w64 (a0.tdiv a1), hm, ⟨rfl, hL⟩⟩
 intro s_j1 F4 wd5 hJ hm
 unfold M.impl_floorDiv_j1 at hm
 obtain ⟨f6, hL⟩ := hJ
 refine CSR ?_
 refine OV (.int .i64 s_j1) rfl (x_mv f6) ?_
 refine OV (.int .i64 s_j1) rfl (x_assign) ?_
 refine OW.nil ?_
 refine CW.ret ?_
 obtain rfl := Option.some.inj hm
 exact RR1 rfl rfl ⟨rfl, hL.fresh 0 rfl [] (by decide) (by decide) rfl⟩

theorem M.impl_paceAt_ok (w0 : World) (a0 : List CurvePoint) {v1 : Value} (h2 : rdL (· < w0.heap.size) w0 v1 a0) (a1 : Int) {r : Int} (hm : M.impl_paceAt a0 a1 = some r) :
    Calls Tryd.prog 19 #[v1, (.int .i64 a1)] w0 fun e w' => e = .returned (.int .i64 r) ∧ Fresh w0 w' [] := by
 unfold M.impl_paceAt at hm
 refine calls_CW (args := [v1, (.int .i64 a1)]) Tryd.func19 rfl rfl rfl ?_
 have hL := Hp.start w0
 refine CSR ?_
 refine OV (.int .i64 0) rfl (x_assign) ?_
 refine ONS ?_
 refine CSR ?_
 refine OV v1 rfl (x_move) ?_
 refine OV (.int .i64 (a0.length : Int)) rfl (x_lenR U24 rfl (hL.rdS 0 rfl h2)) ?_
 refine OV (.int .i64 0) rfl (x_move) ?_
 refine OW.nil ?_
 obtain ⟨o57, ho58, hm⟩ := bndE hm
 refine CW.loopB (fun (s_l1 : Int) (F : Fr) (w : World) => F 0 = v1 ∧ F 1 = (.int .i64 a1) ∧ F 8 = v1 ∧ F 9 = (.int .i64 (a0.length : Int)) ∧ F 10 = (.int .i64 s_l1) ∧ Hp w0 [Ent.snap w0 w0.heap.size] w) (fun o => outc o (fun x => some x) (fun s => M.impl_paceAt_a1 a0 s) = some r) ho58 hm ⟨rfl, rfl, rfl, rfl, rfl, hL⟩ ?_ ?_
 · intro s_l1 F59 wd60 hJ hm
   have hm := outcE hm
   have hm : M.impl_paceAt_a1 a0 s_l1 = some r := hm
   unfold M.impl_paceAt_a1 at hm
   obtain ⟨f61, f62, f63, f64, f65, hL⟩ := hJ
   refine CSR ?_
   refine OV v1 rfl (x_mv f61) ?_
   refine OV v1 rfl (x_mv f61) ?_
   refine OV (.int .i64 (a0.length : Int)) rfl (x_lenR U24 rfl (hL.rdS 0 rfl h2)) ?_
   refine OV (.int .i64 (w64 ((a0.length : Int) - 1))) rfl (x_sub rfl rfl) ?_
   obtain ⟨x66, ha67, hm⟩ := bndE hm
   obtain ⟨hz68, ha72⟩ := idxE ha67
   obtain ⟨b69, q70, hix71⟩ := rdL_ix (hL.rdS 0 rfl h2) hz68 ha72
   refine OV (.pointer (some ⟨b69, q70, none⟩)) rfl (x_ix U24 Tryd_T32 rfl rfl hix71) ?_
   refine OV (.pointer (some ⟨b69, q70 + 1, none⟩)) rfl (x_fieldAddr (fsz := 1) q70 1 (q70 + 1) U32 rfl Tryd_T2 rfl rfl rfl) ?_
   refine OV (.int .i64 x66.Pace) rfl (x_load1 U2 rfl rfl (rdF_cells (hL.rdS 0 rfl h2) hix71 ha72 1 _ rfl)) ?_
   refine OV (.int .i64 x66.Pace) rfl (x_assign) ?_
   refine OW.nil ?_
   refine CW.ret ?_
   obtain rfl := Option.some.inj hm
   exact RR1 rfl rfl ⟨rfl, hL.fresh 0 rfl [] (by decide) (by decide) rfl⟩
 intro s_l1 F73 wd74 t55 hJ hm hr56
 unfold M.impl_paceAt_l1 at hm
 obtain ⟨f75, f76, f77, f78, f79, hL⟩ := hJ
 refine CSR ?_
 refine OV (.bool (decide (s_l1 < (a0.length : Int)))) rfl (x_lss f79 f78) ?_
 refine ONS ?_
 refine CW.condM (t := decide (s_l1 < (a0.length : Int))) rfl hm (fun hb80 hm => ?_) (fun hb80 hm => ?_)
 · refine CW.skip ?_
   refine CW.seq ?_
   refine CW.block ?_
   refine CSR ?_
   refine OV (.int .i64 s_l1) rfl (x_mv f79) ?_
   obtain ⟨x81, ha82, hm⟩ := bndE hm
   obtain ⟨hz83, ha87⟩ := idxE ha82
   obtain ⟨b84, q85, hix86⟩ := rdL_ix (hL.rdS 0 rfl h2) hz83 ha87
   refine OV (.pointer (some ⟨b84, q85, none⟩)) rfl (x_ix U24 Tryd_T32 f77 f79 hix86) ?_
   refine OV (.agg #[(.int .i64 x81.Wind), (.int .i64 x81.Pace)]) rfl (x_loadN (cs := [(.int .i64 x81.Wind), (.int .i64 x81.Pace)]) U32 Tryd_T32 rfl rfl (rdF_cells (hL.rdS 0 rfl h2) hix86 ha87)) ?_
   refine OW.cons (S_alloc (cs := #[(.int .i64 0), (.int .i64 0)]) hL Tryd_T32 rfl rfl ?_)
   intro wd88 b89 hL
   refine OV (.int .i64 s_l1) rfl (x_assign) ?_
   refine OW.cons (S_storeN (l := [(.int .i64 x81.Wind), (.int .i64 x81.Pace)]) (cs' := #[(.int .i64 x81.Wind), (.int .i64 x81.Pace)]) hL 0 rfl Tryd_T32 rfl rfl (List.forall_mem_cons.2 ⟨rfl, (List.forall_mem_cons.2 ⟨rfl, (fun _ h => by cases h)⟩)⟩) rfl (Nat.le_of_ble_eq_true rfl) rfl ?_)
   intro wd90 hL
   refine ONS ?_
   refine CSR ?_
   refine OV (.int .i64 a1) rfl (x_mv f76) ?_
   refine OV (.pointer (some ⟨b89, 0, none⟩)) rfl (x_fieldAddr (fsz := 1) 0 0 0 U32 rfl Tryd_T2 rfl rfl rfl) ?_
   refine OV (.int .i64 x81.Wind) rfl (x_load1 U2 rfl rfl (hL.cellB 0 rfl rfl)) ?_
   refine OV (.bool (decide (x81.Wind < a1))) rfl (x_gtr rfl rfl) ?_
   refine OW.nil ?_
   refine CW.condM (t := decide (x81.Wind < a1)) rfl hm (fun hb91 hm => ?_) (fun hb91 hm => ?_)
   · refine CW.exit ?_
     refine XX.hit ?_
     refine CW.regionL ?_
     refine OV (.int .i64 (w64 (s_l1 + 1))) rfl (x_add f79 rfl) ?_
     refine OV (.int .i64 (w64 (s_l1 + 1))) rfl (x_move) ?_
     refine OW.nil ?_
     have hL := hL.sel [1] (by decide) rfl
     obtain rfl := Option.some.inj hm
     exact ⟨_, rfl, ⟨f75, f76, f77, f78, rfl, hL⟩⟩
   refine CW.skip ?_
   refine CW.seq ?_
   refine CSR ?_
   refine OV (.int .i64 s_l1) rfl (x_move) ?_
   refine OV (.bool (s_l1 == 0)) rfl (x_eql rfl rfl) ?_
   refine OW.nil ?_
   refine CW.condM (t := s_l1 == 0) rfl hm (fun hb92 hm => ?_) (fun hb92 hm => ?_)
   · refine CSR ?_
     refine OV (.pointer (some ⟨b89, 1, none⟩)) rfl (x_fieldAddr (fsz := 1) 0 1 1 U32 rfl Tryd_T2 rfl rfl rfl) ?_
     refine OV (.int .i64 x81.Pace) rfl (x_load1 U2 rfl rfl (hL.cellB 0 rfl rfl)) ?_
     refine OV (.int .i64 x81.Pace) rfl (x_assign) ?_
     refine OW.nil ?_
     refine CW.ret ?_
     obtain rfl := Option.some.inj hm
     have hm := hr56 _ rfl
     obtain rfl := Option.some.inj hm
     exact RR1 rfl rfl ⟨rfl, hL.fresh 1 rfl [] (by decide) (by decide) rfl⟩
   refine CW.skip ?_
   refine CSR ?_
   refine OV v1 rfl (x_mv f75) ?_
   refine OV (.int .i64 s_l1) rfl (x_move) ?_
   refine OV (.int .i64 (w64 (s_l1 - 1))) rfl (x_sub rfl rfl) ?_
   obtain ⟨x93, ha94, hm⟩ := bndE hm
   obtain ⟨hz95, ha99⟩ := idxE ha94
   obtain ⟨b96, q97, hix98⟩ := rdL_ix (hL.rdS 1 rfl h2) hz95 ha99
   refine OV (.pointer (some ⟨b96, q97, none⟩)) rfl (x_ix U24 Tryd_T32 rfl rfl hix98) ?_
   refine OV (.agg #[(.int .i64 x93.Wind), (.int .i64 x93.Pace)]) rfl (x_loadN (cs := [(.int .i64 x93.Wind), (.int .i64 x93.Pace)]) U32 Tryd_T32 rfl rfl (rdF_cells (hL.rdS 1 rfl h2) hix98 ha99)) ?_
   refine OW.cons (S_alloc (cs := #[(.int .i64 0), (.int .i64 0)]) hL Tryd_T32 rfl rfl ?_)
   intro wd100 b101 hL
   refine OW.cons (S_storeN (l := [(.int .i64 x93.Wind), (.int .i64 x93.Pace)]) (cs' := #[(.int .i64 x93.Wind), (.int .i64 x93.Pace)]) hL 0 rfl Tryd_T32 rfl rfl (List.forall_mem_cons.2 ⟨rfl, (List.forall_mem_cons.2 ⟨rfl, (fun _ h => by cases h)⟩)⟩) rfl (Nat.le_of_ble_eq_true rfl) rfl ?_)
   intro wd102 hL
   refine ONS ?_
   refine CW.draw Tryd_mixed ?_
   have hL := hL.call (Mod.drew _)
   refine DW.pre (fuel := 0) (fin := bma 20 1048575) (C := fun w' => Mod None_ _ w') [0, 1, 2, 3, 4, 5, 6, 7, 8, 9, 10, 11, 12, 13, 14, 15, 16, 17, 18, 19] (Mod.refl _ _) (by kernel_rfl) (by kernel_rfl) ?_
   refine QW.cons rfl (QP.val (v := (.pointer (some ⟨b101, 1, none⟩))) rfl (fun w' hm' => x_fieldAddr (fsz := 1) 0 1 1 U32 rfl Tryd_T2 rfl rfl rfl) ?_)
   refine QW.cons rfl (QP.val (v := (.int .i64 x93.Pace)) rfl (fun w' hm' => x_load1 U2 rfl rfl ((hL.call hm').cellB 0 rfl rfl)) ?_)
   refine QW.cons rfl (QP.val (v := (.pointer (some ⟨b89, 1, none⟩))) rfl (fun w' hm' => x_fieldAddr (fsz := 1) 0 1 1 U32 rfl Tryd_T2 rfl rfl rfl) ?_)
   refine QW.cons rfl (QP.val (v := (.int .i64 x81.Pace)) rfl (fun w' hm' => x_load1 U2 rfl rfl ((hL.call hm').cellB 1 rfl rfl)) ?_)
   refine QW.cons rfl (QP.val (v := (.pointer (some ⟨b101, 1, none⟩))) rfl (fun w' hm' => x_fieldAddr (fsz := 1) 0 1 1 U32 rfl Tryd_T2 rfl rfl rfl) ?_)
   refine QW.cons rfl (QP.val (v := (.int .i64 x93.Pace)) rfl (fun w' hm' => x_load1 U2 rfl rfl ((hL.call hm').cellB 0 rfl rfl)) ?_)
   refine QW.cons rfl (QP.val (v := (.int .i64 (w64 (x81.Pace - x93.Pace)))) rfl (fun w' hm' => x_sub rfl rfl) ?_)
   refine QW.cons rfl (QP.val (v := (.int .i64 a1)) rfl (fun w' hm' => x_mv f76) ?_)
   refine QW.cons rfl (QP.val (v := (.pointer (some ⟨b101, 0, none⟩))) rfl (fun w' hm' => x_fieldAddr (fsz := 1) 0 0 0 U32 rfl Tryd_T2 rfl rfl rfl) ?_)
   refine QW.cons rfl (QP.val (v := (.int .i64 x93.Wind)) rfl (fun w' hm' => x_load1 U2 rfl rfl ((hL.call hm').cellB 0 rfl rfl)) ?_)
   refine QW.cons rfl (QP.val (v := (.int .i64 (w64 (a1 - x93.Wind)))) rfl (fun w' hm' => x_sub rfl rfl) ?_)
   refine QW.cons rfl (QP.val (v := (.int .i64 (w64 ((w64 (x81.Pace - x93.Pace)) * (w64 (a1 - x93.Wind)))))) rfl (fun w' hm' => x_mul rfl rfl) ?_)
   refine QW.cons rfl (QP.val (v := (.pointer (some ⟨b89, 0, none⟩))) rfl (fun w' hm' => x_fieldAddr (fsz := 1) 0 0 0 U32 rfl Tryd_T2 rfl rfl rfl) ?_)
   refine QW.cons rfl (QP.val (v := (.int .i64 x81.Wind)) rfl (fun w' hm' => x_load1 U2 rfl rfl ((hL.call hm').cellB 1 rfl rfl)) ?_)
   refine QW.cons rfl (QP.val (v := (.pointer (some ⟨b101, 0, none⟩))) rfl (fun w' hm' => x_fieldAddr (fsz := 1) 0 0 0 U32 rfl Tryd_T2 rfl rfl rfl) ?_)
   refine QW.cons rfl (QP.val (v := (.int .i64 x93.Wind)) rfl (fun w' hm' => x_load1 U2 rfl rfl ((hL.call hm').cellB 0 rfl rfl)) ?_)
   refine QW.cons rfl (QP.val (v := (.int .i64 (w64 (x81.Wind - x93.Wind)))) rfl (fun w' hm' => x_sub rfl rfl) ?_)
   obtain ⟨x103, hx104, hm⟩ := bndE hm
   refine QW.cons rfl (QP.call (v := (.int .i64 x103)) rfl (fun w' hm' => x_call (vs := [(.int .i64 (w64 ((w64 (x81.Pace - x93.Pace)) * (w64 (a1 - x93.Wind))))), (.int .i64 (w64 (x81.Wind - x93.Wind)))]) Tryd_C33 ⟨rfl, rfl, trivial⟩) (fun w' hm' => (M.impl_floorDiv_ok w' (w64 ((w64 (x81.Pace - x93.Pace)) * (w64 (a1 - x93.Wind)))) (w64 (x81.Wind - x93.Wind)) hx104).mono (fun e w'' h => ⟨h.1, hm'.trans h.2.mod⟩)) ?_)
   refine QW.cons rfl (QP.val (v := (.int .i64 (w64 (x93.Pace + x103)))) rfl (fun w' hm' => x_add rfl rfl) ?_)
   refine QW.cons rfl (QP.val (v := (.int .i64 (w64 (x93.Pace + x103)))) rfl (fun w' hm' => x_assign) ?_)
   refine QW.nil ?_
   intro wd105 hmod
   have hL := hL.call hmod
   refine DW.done (by kernel_rfl) ?_
   refine CW.ret ?_
   obtain rfl := Option.some.inj hm
   have hm := hr56 _ rfl
   obtain rfl := Option.some.inj hm
   exact RR1 rfl rfl ⟨rfl, hL.fresh 2 rfl [] (by decide) (by decide) rfl⟩
 refine CW.exit ?_
 refine XJ.hit ?_
 obtain rfl := Option.some.inj hm
 exact ⟨_, rfl, ⟨f75, f76, f77, f78, f79, hL⟩⟩

theorem M.impl_SimplifyCurve_1_ok (w0 : World) (a0 : CurvePoint) (a1 : List CurvePoint) {v3 : Value} {b1 : Nat} (h4 : rdL (· < w0.heap.size) w0 v3 a1) (hb2 : bxA (· < w0.heap.size) w0 b1 24 #[v3]) (a2 : Int) {b5 : Nat} (hb6 : bxA (· < w0.heap.size) w0 b5 2 #[(.int .i64 a2)]) {r : Bool} (hm : M.impl_SimplifyCurve_1 a0 a1 a2 = some r) :
    Calls Tryd.prog 18 #[(.agg #[(.int .i64 a0.Wind), (.int .i64 a0.Pace)]), (.pointer (some ⟨b1, 0, none⟩)), (.pointer (some ⟨b5, 0, none⟩))] w0 fun e w' => e = .returned (.bool r) ∧ Fresh w0 w' [] := by
 unfold M.impl_SimplifyCurve_1 at hm
 refine calls_CW (args := [(.agg #[(.int .i64 a0.Wind), (.int .i64 a0.Pace)]), (.pointer (some ⟨b1, 0, none⟩)), (.pointer (some ⟨b5, 0, none⟩))]) Tryd.func18 rfl rfl rfl ?_
 have hL := Hp.start w0
 refine CSR ?_
 refine OW.cons (S_box (cs := #[(.int .i64 a0.Wind), (.int .i64 a0.Pace)]) hL rfl rfl rfl ?_)
 intro wd7 b8 hL
 refine OV (.bool false) rfl (x_assign) ?_
 refine ONS ?_
 refine CW.draw Tryd_mixed ?_
 have hL := hL.call (Mod.drew _)
 refine DW.pre (fuel := 0) (fin := bma 13 8191) (C := fun w' => Mod None_ _ w') [0, 1, 2, 3, 4, 5, 6, 7, 8, 9, 10, 11, 12] (Mod.refl _ _) (by kernel_rfl) (by kernel_rfl) ?_
 refine QW.cons rfl (QP.val (v := v3) rfl (fun w' hm' => x_load1 U24 rfl rfl (((hL.call hm').bxS 1 rfl hb2).cell rfl)) ?_)
 refine QW.cons rfl (QP.val (v := (.pointer (some ⟨b8, 0, none⟩))) rfl (fun w' hm' => x_fieldAddr (fsz := 1) 0 0 0 U32 rfl Tryd_T2 rfl rfl rfl) ?_)
 refine QW.cons rfl (QP.val (v := (.int .i64 a0.Wind)) rfl (fun w' hm' => x_load1 U2 rfl rfl ((hL.call hm').cellB 0 rfl rfl)) ?_)
 obtain ⟨x9, hx10, hm⟩ := bndE hm
 refine QW.cons rfl (QP.call (v := (.int .i64 x9)) rfl (fun w' hm' => x_call (vs := [v3, (.int .i64 a0.Wind)]) Tryd_C19 ⟨rfl, rfl, trivial⟩) (fun w' hm' => (M.impl_paceAt_ok w' a1 ((hL.call hm').rdS 1 rfl h4) a0.Wind hx10).mono (fun e w'' h => ⟨h.1, hm'.trans h.2.mod⟩)) ?_)
 refine QW.cons rfl (QP.val (v := (.pointer (some ⟨b8, 1, none⟩))) rfl (fun w' hm' => x_fieldAddr (fsz := 1) 0 1 1 U32 rfl Tryd_T2 rfl rfl rfl) ?_)
 refine QW.cons rfl (QP.val (v := (.int .i64 a0.Pace)) rfl (fun w' hm' => x_load1 U2 rfl rfl ((hL.call hm').cellB 0 rfl rfl)) ?_)
 refine QW.cons rfl (QP.val (v := (.int .i64 (w64 (x9 - a0.Pace)))) rfl (fun w' hm' => x_sub rfl rfl) ?_)
 refine QW.cons rfl (QP.val (v := (.int .i64 a2)) rfl (fun w' hm' => x_load1 U2 rfl rfl (((hL.call hm').bxS 1 rfl hb6).cell rfl)) ?_)
 refine QW.cons rfl (QP.val (v := (.int .i64 (w64 (0 - a2)))) rfl (fun w' hm' => x_neg rfl) ?_)
 refine QW.cons rfl (QP.val (v := (.int .i64 a2)) rfl (fun w' hm' => x_load1 U2 rfl rfl (((hL.call hm').bxS 1 rfl hb6).cell rfl)) ?_)
 obtain ⟨x11, hx12, hm⟩ := bndE hm
 refine QW.cons rfl (QP.call (v := (.bool x11)) rfl (fun w' hm' => x_call (vs := [(.int .i64 (w64 (x9 - a0.Pace))), (.int .i64 (w64 (0 - a2))), (.int .i64 a2)]) Tryd_C16 ⟨rfl, rfl, rfl, trivial⟩) (fun w' hm' => (M.impl_within_ok w' (w64 (x9 - a0.Pace)) (w64 (0 - a2)) a2 hx12).mono (fun e w'' h => ⟨h.1, hm'.trans h.2.mod⟩)) ?_)
 refine QW.cons rfl (QP.val (v := (.bool (!x11))) rfl (fun w' hm' => x_not rfl) ?_)
 refine QW.cons rfl (QP.val (v := (.bool (!x11))) rfl (fun w' hm' => x_assign) ?_)
 refine QW.nil ?_
 intro wd13 hmod
 have hL := hL.call hmod
 refine DW.done (by kernel_rfl) ?_
 refine CW.ret ?_
 obtain rfl := Option.some.inj hm
 exact RR1 rfl rfl ⟨rfl, hL.fresh 1 rfl [] (by decide) (by decide) rfl⟩

theorem M.slices_IndexFunc___impl_CurvePoint_impl_CurvePoint__ok (w0 : World) (a0 : List CurvePoint) {v1 : Value} (h2 : rdL (· < w0.heap.size) w0 v1 a0) (a1 : CurvePoint → Option Bool) {fk3 : FuncId} {cp4 : List Value} (hq5 : FnQ Tryd.prog fk3 cp4 (· < w0.heap.size) w0 (fun yw yvs yv => ∃ (y0 : CurvePoint) (yr : Bool), yvs = [(.agg #[(.int .i64 y0.Wind), (.int .i64 y0.Pace)])] ∧ a1 y0 = some yr ∧ yv = (.bool yr))) {r : Int} (hm : M.slices_IndexFunc___impl_CurvePoint_impl_CurvePoint_ a0 a1 = some r) :
    Calls Tryd.prog 34 #[v1, (.func (.func fk3) #[] cp4.toArray)] w0 fun e w' => e = .returned (.int .i64 r) ∧ Fresh w0 w' [] := by
 unfold M.slices_IndexFunc___impl_CurvePoint_impl_CurvePoint_ at hm
 refine calls_CW (args := [v1, (.func (.func fk3) #[] cp4.toArray)]) Tryd.func34 rfl rfl rfl ?_
 have hL := Hp.start w0
 refine CSR ?_
 refine OV (.int .i64 0) rfl (x_assign) ?_
 refine ONS ?_
 refine CSR ?_
 refine OV v1 rfl (x_move) ?_
 refine OV (.int .i64 (a0.length : Int)) rfl (x_lenR U24 rfl (hL.rdS 0 rfl h2)) ?_
 refine OV (.int .i64 0) rfl (x_move) ?_
 refine OW.nil ?_
 obtain ⟨o36, ho37, hm⟩ := bndE hm
 refine CW.loopB (fun (s_l1 : Int) (F : Fr) (w : World) => F 0 = v1 ∧ F 1 = (.func (.func fk3) #[] cp4.toArray) ∧ F 7 = (.int .i64 (a0.length : Int)) ∧ F 8 = (.int .i64 s_l1) ∧ Hp w0 [Ent.snap w0 w0.heap.size] w) (fun o => outc o (fun x => some x) (fun s => M.slices_IndexFunc___impl_CurvePoint_impl_CurvePoint__a1 s) = some r) ho37 hm ⟨rfl, rfl, rfl, rfl, hL⟩ ?_ ?_
 · intro s_l1 F38 wd39 hJ hm
   have hm := outcE hm
   have hm : M.slices_IndexFunc___impl_CurvePoint_impl_CurvePoint__a1 s_l1 = some r := hm
   unfold M.slices_IndexFunc___impl_CurvePoint_impl_CurvePoint__a1 at hm
   obtain ⟨f40, f41, f42, f43, hL⟩ := hJ
   refine CSR ?_
   refine OV (.int .i64 (-1)) rfl (x_assign) ?_
   refine OW.nil ?_
   refine CW.ret ?_
   obtain rfl := Option.some.inj hm
   exact RR1 rfl rfl ⟨rfl, hL.fresh 0 rfl [] (by decide) (by decide) rfl⟩
 intro s_l1 F44 wd45 t34 hJ hm hr35
 unfold M.slices_IndexFunc___impl_CurvePoint_impl_CurvePoint__l1 at hm
 obtain ⟨f46, f47, f48, f49, hL⟩ := hJ
 refine CSR ?_
 refine OV (.bool (decide (s_l1 < (a0.length : Int)))) rfl (x_lss f49 f48) ?_
 refine ONS ?_
 refine CW.condM (t := decide (s_l1 < (a0.length : Int))) rfl hm (fun hb50 hm => ?_) (fun hb50 hm => ?_)
 · refine CW.skip ?_
   refine CW.seq ?_
   refine CW.block ?_
   refine CSR ?_
   refine OV (.int .i64 s_l1) rfl (x_mv f49) ?_
   refine OV (.int .i64 s_l1) rfl (x_assign) ?_
   refine ONR ?_
   refine OV (.func (.func fk3) #[] cp4.toArray) rfl (x_mv f47) ?_
   refine OV v1 rfl (x_mv f46) ?_
   refine OV (.int .i64 s_l1) rfl (x_move) ?_
   obtain ⟨x51, ha52, hm⟩ := bndE hm
   obtain ⟨hz53, ha57⟩ := idxE ha52
   obtain ⟨b54, q55, hix56⟩ := rdL_ix (hL.rdS 0 rfl h2) hz53 ha57
   refine OV (.pointer (some ⟨b54, q55, none⟩)) rfl (x_ix U24 Tryd_T32 rfl rfl hix56) ?_
   refine OV (.agg #[(.int .i64 x51.Wind), (.int .i64 x51.Pace)]) rfl (x_loadN (cs := [(.int .i64 x51.Wind), (.int .i64 x51.Pace)]) U32 Tryd_T32 rfl rfl (rdF_cells (hL.rdS 0 rfl h2) hix56 ha57)) ?_
   obtain ⟨x58, hx59, hm⟩ := bndE hm
   refine OW.cons (OP.call rfl (x_callV (vs := [(.agg #[(.int .i64 x51.Wind), (.int .i64 x51.Pace)])]) (cap := cp4) hq5.1 rfl ⟨rfl, trivial⟩) (hq5.2 _ (hL.agS 0 rfl) [(.agg #[(.int .i64 x51.Wind), (.int .i64 x51.Pace)])] _ ⟨x51, x58, rfl, hx59, rfl⟩) ?_)
   rintro e60 wd61 ⟨rfl, hF62⟩
   refine ⟨_, rfl, ?_⟩
   have hL := hL.pushAll hF62
   simp only [lA, lB, lC, lD] at hL
   refine OW.nil ?_
   refine CW.condM (t := x58) rfl hm (fun hb63 hm => ?_) (fun hb63 hm => ?_)
   · refine CSR ?_
     refine OV (.int .i64 s_l1) rfl (x_move) ?_
     refine OV (.int .i64 s_l1) rfl (x_assign) ?_
     refine OW.nil ?_
     refine CW.ret ?_
     obtain rfl := Option.some.inj hm
     have hm := hr35 _ rfl
     obtain rfl := Option.some.inj hm
     exact RR1 rfl rfl ⟨rfl, hL.fresh 0 rfl [] (by decide) (by decide) rfl⟩
   refine CW.skip ?_
   refine CW.regionL ?_
   refine OV (.int .i64 (w64 (s_l1 + 1))) rfl (x_add f49 rfl) ?_
   refine OV (.int .i64 (w64 (s_l1 + 1))) rfl (x_move) ?_
   refine OW.nil ?_
   obtain rfl := Option.some.inj hm
   exact ⟨_, rfl, ⟨f46, f47, f48, rfl, hL⟩⟩
 refine CW.exit ?_
 refine XJ.hit ?_
 obtain rfl := Option.some.inj hm
 exact ⟨_, rfl, ⟨f46, f47, f48, f49, hL⟩⟩

theorem M.slices_ContainsFunc___impl_CurvePoint_impl_CurvePoint__ok (w0 : World) (a0 : List CurvePoint) {v1 : Value} (h2 : rdL (· < w0.heap.size) w0 v1 a0) (a1 : CurvePoint → Option Bool) {fk3 : FuncId} {cp4 : List Value} (hq5 : FnQ Tryd.prog fk3 cp4 (· < w0.heap.size) w0 (fun yw yvs yv => ∃ (y0 : CurvePoint) (yr : Bool), yvs = [(.agg #[(.int .i64 y0.Wind), (.int .i64 y0.Pace)])] ∧ a1 y0 = some yr ∧ yv = (.bool yr))) {r : Bool} (hm : M.slices_ContainsFunc___impl_CurvePoint_impl_CurvePoint_ a0 a1 = some r) :
    Calls Tryd.prog 20 #[v1, (.func (.func fk3) #[] cp4.toArray)] w0 fun e w' => e = .returned (.bool r) ∧ Fresh w0 w' [] := by
 unfold M.slices_ContainsFunc___impl_CurvePoint_impl_CurvePoint_ at hm
 refine calls_CW (args := [v1, (.func (.func fk3) #[] cp4.toArray)]) Tryd.func20 rfl rfl rfl ?_
 have hL := Hp.start w0
 refine CSR ?_
 refine OV (.bool false) rfl (x_assign) ?_
 refine ONR ?_
 refine OV v1 rfl (x_move) ?_
 refine OV (.func (.func fk3) #[] cp4.toArray) rfl (x_move) ?_
 obtain ⟨x6, hx7, hm⟩ := bndE hm
 refine OW.cons (OP.call rfl (x_call (vs := [v1, (.func (.func fk3) #[] cp4.toArray)]) Tryd_C34 ⟨rfl, rfl, trivial⟩) (M.slices_IndexFunc___impl_CurvePoint_impl_CurvePoint__ok _ a0 (hL.rdS 0 rfl h2) a1 (hL.fnS 0 rfl hq5) hx7) ?_)
 rintro e8 wd9 ⟨rfl, hF10⟩
 refine ⟨_, rfl, ?_⟩
 have hL := hL.pushAll hF10
 simp only [lA, lB, lC, lD] at hL
 refine OV (.bool (decide (0 ≤ x6))) rfl (x_geq rfl rfl) ?_
 refine OV (.bool (decide (0 ≤ x6))) rfl (x_assign) ?_
 refine OW.nil ?_
 refine CW.ret ?_
 obtain rfl := Option.some.inj hm
 exact RR1 rfl rfl ⟨rfl, hL.fresh 0 rfl [] (by decide) (by decide) rfl⟩

theorem M.impl_SimplifyCurve_ok (w0 : World) (a0 : List CurvePoint) {v1 : Value} (h2 : rdL (· < w0.heap.size) w0 v1 a0) (a1 : Int) {r : (List CurvePoint) × Int} (hm : M.impl_SimplifyCurve a0 a1 = some r) :
    Calls Tryd.prog 6 #[v1, (.int .i64 a1)] w0 fun e w' => ∃ (rv0 : Value) (rS0 : Nat → Prop), e = .returned (.tuple #[rv0, (.int .i64 r.2)]) ∧ Fresh w0 w' [Ent.own 32 rS0 rv0 r.1] := by
 unfold M.impl_SimplifyCurve at hm
 refine calls_CW (args := [v1, (.int .i64 a1)]) Tryd.func6 rfl rfl rfl ?_
 have hL := Hp.start w0
 refine CSR ?_
 refine OW.cons (S_box (cs := #[(.int .i64 a1)]) hL rfl rfl rfl ?_)
 intro wd3 b4 hL
 refine OV (.slice none 0 0) rfl (x_assign) ?_
 refine OV (.int .i64 0) rfl (x_assign) ?_
 refine ONS ?_
 refine CSR ?_
 refine OV v1 rfl (x_move) ?_
 obtain ⟨x5, hx6, hm⟩ := bndE hm
 refine OW.cons (OP.call rfl (x_call (vs := [v1]) Tryd_C15 ⟨rfl, trivial⟩) (M.impl_IsCurve_ok _ a0 (hL.rdS 1 rfl h2) hx6) ?_)
 rintro e7 wd8 ⟨rfl, hF9⟩
 refine ⟨_, rfl, ?_⟩
 have hL := hL.pushAll hF9
 simp only [lA, lB, lC, lD] at hL
 refine OV (.bool (!x5)) rfl (x_not rfl) ?_
 refine OW.nil ?_
 refine CW.condM (t := !x5) rfl hm (fun hb10 hm => ?_) (fun hb10 hm => ?_)
 · refine CSR ?_
   refine OV (.slice none 0 0) rfl (x_assign) ?_
   refine OV (.int .i64 1) rfl (x_assign) ?_
   refine OW.nil ?_
   refine CW.ret ?_
   have hL := hL.pushNil CurvePoint 32
   obtain rfl := Option.some.inj hm
   exact RR2 rfl rfl rfl ⟨(.slice none 0 0), None_, rfl, hL.fresh 2 rfl [0] (by decide) (by decide) rfl⟩
 refine CW.skip ?_
 refine CW.seq ?_
 refine CSR ?_
 refine OV (.int .i64 a1) rfl (x_load1 U2 rfl rfl (hL.cellB 0 rfl rfl)) ?_
 obtain ⟨x11, hx12, hm⟩ := bndE hm
 refine OW.cons (OP.call rfl (x_call (vs := [(.int .i64 a1), (.int .i64 0), (.int .i64 1000000)]) Tryd_C16 ⟨rfl, rfl, rfl, trivial⟩) (M.impl_within_ok _ a1 0 1000000 hx12) ?_)
 rintro e13 wd14 ⟨rfl, hF15⟩
 refine ⟨_, rfl, ?_⟩
 have hL := hL.pushAll hF15
 simp only [lA, lB, lC, lD] at hL
 refine OV (.bool (!x11)) rfl (x_not rfl) ?_
 refine OW.nil ?_
 refine CW.condM (t := !x11) rfl hm (fun hb16 hm => ?_) (fun hb16 hm => ?_)
 · refine CSR ?_
   refine OV (.slice none 0 0) rfl (x_assign) ?_
   refine OV (.int .i64 2) rfl (x_assign) ?_
   refine OW.nil ?_
   refine CW.ret ?_
   have hL := hL.pushNil CurvePoint 32
   obtain rfl := Option.some.inj hm
   exact RR2 rfl rfl rfl ⟨(.slice none 0 0), None_, rfl, hL.fresh 2 rfl [0] (by decide) (by decide) rfl⟩
 refine CW.skip ?_
 refine CSR ?_
 refine OV (.slice none 0 0) rfl (x_assign) ?_
 refine ONR ?_
 refine OV v1 rfl (x_move) ?_
 refine OV (.int .i64 (a0.length : Int)) rfl (x_lenR U24 rfl (hL.rdS 1 rfl h2)) ?_
 refine OV (.int .i64 (w64 ((a0.length : Int) - 1))) rfl (x_sub rfl rfl) ?_
 refine OV (.int .i64 (w64 ((a0.length : Int) - 1))) rfl (x_assign) ?_
 refine ONS ?_
 refine CSR ?_
 refine OV (.int .i64 (w64 ((a0.length : Int) - 1))) rfl (x_move) ?_
 refine OV (.int .i64 (w64 ((w64 ((a0.length : Int) - 1)) + 1))) rfl (x_add rfl rfl) ?_
 obtain ⟨hc17, hm⟩ := chkE hm
 refine OV (.int .i64 (shlI .i64 1 (w64 ((w64 ((a0.length : Int) - 1)) + 1)))) rfl (x_shl rfl rfl hc17) ?_
 refine OV (.int .i64 (w64 ((shlI .i64 1 (w64 ((w64 ((a0.length : Int) - 1)) + 1))) - 1))) rfl (x_sub rfl rfl) ?_
 refine OV (.int .i64 (w64 ((shlI .i64 1 (w64 ((w64 ((a0.length : Int) - 1)) + 1))) - 1))) rfl (x_assign) ?_
 refine OW.nil ?_
 obtain ⟨o3478, ho3479, hm⟩ := bndE hm
 have hL := hL.pushNil CurvePoint 32
 refine CW.loopB (fun (s_l1 : (List CurvePoint) × Int) (F : Fr) (w : World) => ∃ (v3474 : Value) (S3475 : Nat → Prop), F 0 = v1 ∧ F 3 = (.pointer (some ⟨b4, 0, none⟩)) ∧ F 6 = v3474 ∧ F 7 = (.int .i64 (w64 ((a0.length : Int) - 1))) ∧ F 8 = (.int .i64 s_l1.2) ∧ (s_l1.1 = [] → v3474 = .slice none 0 0) ∧ Hp w0 [Ent.own 32 S3475 v3474 s_l1.1, Ent.blk b4 2 #[(.int .i64 a1)], Ent.snap w0 w0.heap.size] w) (fun o => outc o (fun x => some x) (fun s => M.impl_SimplifyCurve_a1 s) = some r) ho3479 hm ⟨(.slice none 0 0), None_, rfl, rfl, rfl, rfl, rfl, fun _ => rfl, hL⟩ ?_ ?_
 · intro s_l1 F3480 wd3481 hJ hm
   have hm := outcE hm
   have hm : M.impl_SimplifyCurve_a1 s_l1 = some r := hm
   unfold M.impl_SimplifyCurve_a1 at hm
   obtain ⟨v3474, S3475, f3482, f3483, f3484, f3485, f3486, hn3487, hL⟩ := hJ
   refine CSR ?_
   refine OV v3474 rfl (x_mv f3484) ?_
   refine OV v3474 rfl (x_assign) ?_
   refine OV (.int .i64 0) rfl (x_assign) ?_
   refine OW.nil ?_
   refine CW.ret ?_
   obtain rfl := Option.some.inj hm
   exact RR2 rfl rfl rfl ⟨v3474, S3475, rfl, hL.fresh 2 rfl [0] (by decide) (by decide) rfl⟩
 intro s_l1 F3488 wd3489 t3476 hJ hm hr3477
 unfold M.impl_SimplifyCurve_l1 at hm
 obtain ⟨v3474, S3475, f3490, f3491, f3492, f3493, f3494, hn3495, hL⟩ := hJ
 refine CW.seq ?_
 refine CSR ?_
 refine OV (.int .i64 s_l1.2) rfl (x_mv f3494) ?_
 refine OV (.bool (decide (0 < s_l1.2))) rfl (x_gtr rfl rfl) ?_
 refine OW.nil ?_
 refine CW.condM (t := decide (0 < s_l1.2)) rfl hm (fun hb3496 hm => ?_) (fun hb3496 hm => ?_)
 · refine CW.skip ?_
   refine CW.seqJ (fun (s_j1 : (List CurvePoint)) (F : Fr) (w : World) => ∃ (v4357 : Value) (S4358 : Nat → Prop), F 0 = v1 ∧ F 3 = (.pointer (some ⟨b4, 0, none⟩)) ∧ F 6 = v4357 ∧ F 7 = (.int .i64 (w64 ((a0.length : Int) - 1))) ∧ F 8 = (.int .i64 s_l1.2) ∧ (s_j1 = [] → v4357 = .slice none 0 0) ∧ Hp w0 [Ent.own 32 S4358 v4357 s_j1, Ent.blk b4 2 #[(.int .i64 a1)], Ent.snap w0 w0.heap.size] w) (fun s_j1 => M.impl_SimplifyCurve_j1 s_l1 s_j1 = some t3476) ?_ ?_
   · refine CW.blockJ (fun (s_j2 : (List CurvePoint)) (F : Fr) (w : World) => ∃ (v4792 : Value) (S4793 : Nat → Prop), F 0 = v1 ∧ F 3 = (.pointer (some ⟨b4, 0, none⟩)) ∧ F 6 = v4792 ∧ F 7 = (.int .i64 (w64 ((a0.length : Int) - 1))) ∧ F 8 = (.int .i64 s_l1.2) ∧ (s_j2 = [] → v4792 = .slice none 0 0) ∧ Hp w0 [Ent.own 32 S4793 v4792 s_j2, Ent.blk b4 2 #[(.int .i64 a1)], Ent.snap w0 w0.heap.size] w) (fun s_j2 => M.impl_SimplifyCurve_j2 s_l1 s_j2 = some t3476) ?_ ?_
     · refine CSR ?_
       refine OV (.int .i64 s_l1.2) rfl (x_mv f3494) ?_
       refine OV (.int .u64 (IntKind.u64.wrap s_l1.2)) rfl (x_conv U3 U43 rfl) ?_
       obtain ⟨x4802, hx4803, hm⟩ := bndE hm
       refine OW.cons (OP.call rfl (x_call (vs := [(.int .u64 (IntKind.u64.wrap s_l1.2))]) Tryd_C17 ⟨rfl, trivial⟩) (M.math_bits_OnesCount_ok _ (IntKind.u64.wrap s_l1.2) hx4803) ?_)
       rintro e4804 wd4805 ⟨rfl, hF4806⟩
       refine ⟨_, rfl, ?_⟩
       have hL := hL.pushAll hF4806
       simp only [lA, lB, lC, lD] at hL
       refine OV (.int .i64 x4802) rfl (x_assign) ?_
       refine ONS ?_
       refine CW.seqJ (fun (s_j3 : Bool) (F : Fr) (w : World) => F 0 = v1 ∧ F 3 = (.pointer (some ⟨b4, 0, none⟩)) ∧ F 6 = v3474 ∧ F 7 = (.int .i64 (w64 ((a0.length : Int) - 1))) ∧ F 8 = (.int .i64 s_l1.2) ∧ F 53 = (.bool s_j3) ∧ Hp w0 [Ent.own 32 S3475 v3474 s_l1.1, Ent.blk b4 2 #[(.int .i64 a1)], Ent.snap w0 w0.heap.size] w) (fun s_j3 => M.impl_SimplifyCurve_j3 a0 a1 s_l1 s_j3 = some t3476) ?_ ?_
       · refine CW.regionL ?_
         refine OV (.int .i64 s_l1.2) rfl (x_mv f3494) ?_
         refine OV (.int .i64 (w64 ((a0.length : Int) - 1))) rfl (x_mv f3493) ?_
         obtain ⟨hc5223, hm⟩ := chkE hm
         refine OV (.int .i64 (shrI .i64 s_l1.2 (w64 ((a0.length : Int) - 1)))) rfl (x_shr rfl rfl hc5223) ?_
         refine OV (.int .i64 (andI .i64 (shrI .i64 s_l1.2 (w64 ((a0.length : Int) - 1))) 1)) rfl (x_and rfl rfl) ?_
         refine OV (.bool ((andI .i64 (shrI .i64 s_l1.2 (w64 ((a0.length : Int) - 1))) 1) == 0)) rfl (x_eql rfl rfl) ?_
         refine OV (.bool ((andI .i64 (shrI .i64 s_l1.2 (w64 ((a0.length : Int) - 1))) 1) == 0)) rfl (x_move) ?_
         refine ifB_elim hm (fun hb5224 hm => ?_) (fun hb5224 hm => ?_)
         · refine OW.cons (OP.no' rfl rfl hb5224 rfl ?_)
           refine OW.cons (OP.no' rfl rfl hb5224 rfl ?_)
           refine OW.cons (OP.no' rfl rfl hb5224 rfl ?_)
           refine OV (.bool true) rfl (x_pickT' rfl hb5224 rfl) ?_
           refine OV (.bool true) rfl (x_move) ?_
           refine OW.cons (OP.no' rfl rfl rfl rfl ?_)
           refine OW.cons (OP.no' rfl rfl rfl rfl ?_)
           refine OW.cons (OP.no' rfl rfl rfl rfl ?_)
           refine OW.cons (OP.noU rfl rfl rfl ?_)
           refine OW.cons (OP.noU rfl rfl rfl ?_)
           refine OW.cons (OP.noU rfl rfl rfl ?_)
           refine OW.cons (OP.noU rfl rfl rfl ?_)
           refine OW.cons (OP.no' rfl rfl rfl rfl ?_)
           refine OV (.bool true) rfl (x_pickT' rfl rfl rfl) ?_
           refine OW.nil ?_
           exact ⟨true, hm, ⟨f3490, f3491, f3492, f3493, f3494, rfl, hL⟩⟩
         refine OW.cons (OP.yes' rfl rfl hb5224 (OP.val (v := (.int .i64 s_l1.2)) rfl (x_mv f3494) ?_))
         refine OW.cons (OP.yes' rfl rfl hb5224 (OP.val (v := (.int .i64 (andI .i64 s_l1.2 1))) rfl (x_and rfl rfl) ?_))
         refine OW.cons (OP.yes' rfl rfl hb5224 (OP.val (v := (.bool ((andI .i64 s_l1.2 1) == 0))) rfl (x_eql rfl rfl) ?_))
         refine OV (.bool ((andI .i64 s_l1.2 1) == 0)) rfl (x_pickF' rfl hb5224 rfl) ?_
         refine OV (.bool ((andI .i64 s_l1.2 1) == 0)) rfl (x_move) ?_
         refine ifB_elim hm (fun hb5225 hm => ?_) (fun hb5225 hm => ?_)
         · refine OW.cons (OP.no' rfl rfl hb5225 rfl ?_)
           refine OW.cons (OP.no' rfl rfl hb5225 rfl ?_)
           refine OW.cons (OP.no' rfl rfl hb5225 rfl ?_)
           refine OW.cons (OP.noU rfl rfl rfl ?_)
           refine OW.cons (OP.noU rfl rfl rfl ?_)
           refine OW.cons (OP.noU rfl rfl rfl ?_)
           refine OW.cons (OP.noU rfl rfl rfl ?_)
           refine OW.cons (OP.no' rfl rfl hb5225 rfl ?_)
           refine OV (.bool true) rfl (x_pickT' rfl hb5225 rfl) ?_
           refine OW.nil ?_
           exact ⟨true, hm, ⟨f3490, f3491, f3492, f3493, f3494, rfl, hL⟩⟩
         refine OW.cons (OP.yes' rfl rfl hb5225 (OP.val (v := v3474) rfl (x_mv f3492) ?_))
         refine OW.cons (OP.yes' rfl rfl hb5225 (OP.val (v := (.bool (!(s_l1.1.isEmpty)))) rfl (x_neqN U24 rfl rfl (hL.rdO 0 rfl) hn3495) ?_))
         refine OW.cons (OP.yes' rfl rfl hb5225 (OP.val (v := (.bool (!(s_l1.1.isEmpty)))) rfl (x_move) ?_))
         refine ifB_elim hm (fun hb5226 hm => ?_) (fun hb5226 hm => ?_)
         · refine OW.cons (OP.yes' rfl rfl hb5226 (OP.val (v := (.int .i64 x4802)) rfl (x_move) ?_))
           refine OW.cons (OP.yes' rfl rfl hb5226 (OP.val (v := v3474) rfl (x_mv f3492) ?_))
           refine OW.cons (OP.yes' rfl rfl hb5226 (OP.val (v := (.int .i64 (s_l1.1.length : Int))) rfl (x_lenR U24 rfl (hL.rdO 0 rfl)) ?_))
           refine OW.cons (OP.yes' rfl rfl hb5226 (OP.val (v := (.bool (decide ((s_l1.1.length : Int) ≤ x4802)))) rfl (x_geq rfl rfl) ?_))
           refine OW.cons (OP.yes' rfl rfl hb5225 (OP.val (v := (.bool (decide ((s_l1.1.length : Int) ≤ x4802)))) rfl (x_pickT' rfl hb5226 rfl) ?_))
           refine OV (.bool (decide ((s_l1.1.length : Int) ≤ x4802))) rfl (x_pickF' rfl hb5225 rfl) ?_
           refine OW.nil ?_
           exact ⟨decide ((s_l1.1.length : Int) ≤ x4802), hm, ⟨f3490, f3491, f3492, f3493, f3494, rfl, hL⟩⟩
         refine OW.cons (OP.no' rfl rfl hb5226 rfl ?_)
         refine OW.cons (OP.no' rfl rfl hb5226 rfl ?_)
         refine OW.cons (OP.no' rfl rfl hb5226 rfl ?_)
         refine OW.cons (OP.no' rfl rfl hb5226 rfl ?_)
         refine OW.cons (OP.yes' rfl rfl hb5225 (OP.val (v := (.bool false)) rfl (x_pickF' rfl hb5226 rfl) ?_))
         refine OV (.bool false) rfl (x_pickF' rfl hb5225 rfl) ?_
         refine OW.nil ?_
         exact ⟨false, hm, ⟨f3490, f3491, f3492, f3493, f3494, rfl, hL⟩⟩
       intro s_j3 F4811 wd4812 hJ hm
       unfold M.impl_SimplifyCurve_j3 at hm
       obtain ⟨f4813, f4814, f4815, f4816, f4817, f4818, hL⟩ := hJ
       refine CW.condM (t := s_j3) f4818 hm (fun hb4819 hm => ?_) (fun hb4819 hm => ?_)
       · refine CW.exit ?_
         refine XJ.hit ?_
         exact ⟨s_l1.1, hm, ⟨v3474, S3475, f4813, f4814, f4815, f4816, f4817, hn3495, hL⟩⟩
       refine CW.skip ?_
       refine CSR ?_
       refine OW.cons (S_lit ([] : List CurvePoint) hL U24 Tryd_T32 rfl (by decide) (by first | (simp [Instr.fill, madeCells, Value.cells, ev, upd, Flat.enc, Flat.sz]; done) | rfl | kernel_rfl) rfl rfl ?_)
       intro wd4820 v4821 S4822 hL
       refine OW.cons (S_alloc (cs := #[(.slice none 0 0)]) hL Tryd_T24 rfl rfl ?_)
       intro wd4823 b4824 hL
       refine OW.cons (S_store (cs' := #[v4821]) hL 0 rfl Tryd_T24 rfl (rdL_one (hL.rdO 1 rfl)) rfl rfl rfl ?_)
       intro wd4825 hL
       refine ONS ?_
       refine CSR ?_
       refine OV v1 rfl (x_mv f4813) ?_
       refine OV (.int .i64 (a0.length : Int)) rfl (x_lenR U24 rfl (hL.rdS 4 rfl h2)) ?_
       refine OV (.int .i64 0) rfl (x_move) ?_
       refine OW.nil ?_
       obtain ⟨o5072, ho5073, hm⟩ := bndE hm
       have hL := hL.sel [1, 0, 2, 3, 4] (by decide) rfl
       refine CW.loopB (fun (s_l2 : (List CurvePoint) × Int) (F : Fr) (w : World) => ∃ (v5068 : Value) (S5069 : Nat → Prop), F 0 = v1 ∧ F 3 = (.pointer (some ⟨b4, 0, none⟩)) ∧ F 6 = v3474 ∧ F 7 = (.int .i64 (w64 ((a0.length : Int) - 1))) ∧ F 8 = (.int .i64 s_l1.2) ∧ F 10 = (.pointer (some ⟨b4824, 0, none⟩)) ∧ F 55 = v1 ∧ F 56 = (.int .i64 (a0.length : Int)) ∧ F 57 = (.int .i64 s_l2.2) ∧ Hp w0 [Ent.own 32 S5069 v5068 s_l2.1, Ent.blk b4824 24 #[v5068], Ent.own 32 S3475 v3474 s_l1.1, Ent.blk b4 2 #[(.int .i64 a1)], Ent.snap w0 w0.heap.size] w) (fun o => outc o (fun x => some (.ret x)) (fun s => M.impl_SimplifyCurve_a2 a0 a1 s_l1 s) = some t3476) ho5073 hm ⟨v4821, S4822, f4813, f4814, f4815, f4816, f4817, rfl, rfl, rfl, rfl, hL⟩ ?_ ?_
       · intro s_l2 F5074 wd5075 hJ hm
         have hm := outcE hm
         have hm : M.impl_SimplifyCurve_a2 a0 a1 s_l1 s_l2 = some t3476 := hm
         unfold M.impl_SimplifyCurve_a2 at hm
         obtain ⟨v5068, S5069, f5076, f5077, f5078, f5079, f5080, f5081, f5082, f5083, f5084, hL⟩ := hJ
         refine CSR ?_
         refine OV (.func (.func 18) #[] #[(.pointer (some ⟨b4824, 0, none⟩)), (.pointer (some ⟨b4, 0, none⟩))]) rfl (x_makeFunc (vs := [(.pointer (some ⟨b4824, 0, none⟩)), (.pointer (some ⟨b4, 0, none⟩))]) ⟨f5081, f5077, trivial⟩) ?_
         refine OV (.func (.func 18) #[] #[(.pointer (some ⟨b4824, 0, none⟩)), (.pointer (some ⟨b4, 0, none⟩))]) rfl (x_assign) ?_
         refine ONR ?_
         refine OV v1 rfl (x_mv f5076) ?_
         refine OV (.func (.func 18) #[] #[(.pointer (some ⟨b4824, 0, none⟩)), (.pointer (some ⟨b4, 0, none⟩))]) rfl (x_move) ?_
         obtain ⟨x5085, hx5086, hm⟩ := bndE hm
         refine OW.cons (OP.call rfl (x_call (vs := [v1, (.func (.func 18) #[] #[(.pointer (some ⟨b4824, 0, none⟩)), (.pointer (some ⟨b4, 0, none⟩))])]) Tryd_C20 ⟨rfl, rfl, trivial⟩) (M.slices_ContainsFunc___impl_CurvePoint_impl_CurvePoint__ok _ a0 (hL.rdS 4 rfl h2) (fun y0 => M.impl_SimplifyCurve_1 y0 s_l2.1 a1) ⟨Tryd_C18, fun yw hag yvs yv hR => by obtain ⟨y0, yr, rfl, hyf, rfl⟩ := hR; exact M.impl_SimplifyCurve_1_ok yw y0 s_l2.1 (hag.rdL (hL.rdO 0 rfl)) (hag.bx (hL.bxB 1 rfl)) a1 (hag.bx (hL.bxB 3 rfl)) hyf⟩ hx5086) ?_)
         rintro e5087 wd5088 ⟨rfl, hF5089⟩
         refine ⟨_, rfl, ?_⟩
         have hL := hL.pushAll hF5089
         simp only [lA, lB, lC, lD] at hL
         refine OV (.bool (!x5085)) rfl (x_not rfl) ?_
         refine OW.nil ?_
         refine CW.condM (t := !x5085) rfl hm (fun hb5090 hm => ?_) (fun hb5090 hm => ?_)
         · refine CW.regionL ?_
           refine OV v5068 rfl (x_load1 U24 rfl f5081 (hL.cellB 1 rfl rfl)) ?_
           obtain ⟨hc5091, hm⟩ := chkE hm
           refine OV v5068 rfl (x_assign) ?_
           refine OW.nil ?_
           have hL := hL.sel [0, 3, 4] (by decide) rfl
           exact ⟨s_l2.1, hm, ⟨v5068, S5069, f5076, f5077, rfl, f5079, f5080, (nnOf hc5091), hL⟩⟩
         refine CW.skip ?_
         have hL := hL.sel [2, 3, 4] (by decide) rfl
         exact ⟨s_l1.1, hm, ⟨v3474, S3475, f5076, f5077, f5078, f5079, f5080, hn3495, hL⟩⟩
       intro s_l2 F5092 wd5093 t5070 hJ hm hr5071
       unfold M.impl_SimplifyCurve_l2 at hm
       obtain ⟨v5068, S5069, f5094, f5095, f5096, f5097, f5098, f5099, f5100, f5101, f5102, hL⟩ := hJ
       refine CSR ?_
       refine OV (.bool (decide (s_l2.2 < (a0.length : Int)))) rfl (x_lss f5102 f5101) ?_
       refine ONS ?_
       refine CW.condM (t := decide (s_l2.2 < (a0.length : Int))) rfl hm (fun hb5103 hm => ?_) (fun hb5103 hm => ?_)
       · refine CW.skip ?_
         refine CW.seqJ (fun (s_j4 : (List CurvePoint)) (F : Fr) (w : World) => ∃ (v5157 : Value) (S5158 : Nat → Prop), F 0 = v1 ∧ F 3 = (.pointer (some ⟨b4, 0, none⟩)) ∧ F 6 = v3474 ∧ F 7 = (.int .i64 (w64 ((a0.length : Int) - 1))) ∧ F 8 = (.int .i64 s_l1.2) ∧ F 10 = (.pointer (some ⟨b4824, 0, none⟩)) ∧ F 55 = v1 ∧ F 56 = (.int .i64 (a0.length : Int)) ∧ F 57 = (.int .i64 s_l2.2) ∧ Hp w0 [Ent.own 32 S5158 v5157 s_j4, Ent.blk b4824 24 #[v5157], Ent.own 32 S3475 v3474 s_l1.1, Ent.blk b4 2 #[(.int .i64 a1)], Ent.snap w0 w0.heap.size] w) (fun s_j4 => M.impl_SimplifyCurve_j4 s_l2 s_j4 = some t5070) ?_ ?_
         · refine CW.blockJ (fun (s_j5 : (List CurvePoint)) (F : Fr) (w : World) => ∃ (v5190 : Value) (S5191 : Nat → Prop), F 0 = v1 ∧ F 3 = (.pointer (some ⟨b4, 0, none⟩)) ∧ F 6 = v3474 ∧ F 7 = (.int .i64 (w64 ((a0.length : Int) - 1))) ∧ F 8 = (.int .i64 s_l1.2) ∧ F 10 = (.pointer (some ⟨b4824, 0, none⟩)) ∧ F 55 = v1 ∧ F 56 = (.int .i64 (a0.length : Int)) ∧ F 57 = (.int .i64 s_l2.2) ∧ Hp w0 [Ent.own 32 S5191 v5190 s_j5, Ent.blk b4824 24 #[v5190], Ent.own 32 S3475 v3474 s_l1.1, Ent.blk b4 2 #[(.int .i64 a1)], Ent.snap w0 w0.heap.size] w) (fun s_j5 => M.impl_SimplifyCurve_j5 s_l2 s_j5 = some t5070) ?_ ?_
           · refine CSR ?_
             refine OV (.int .i64 s_l2.2) rfl (x_mv f5102) ?_
             obtain ⟨x5203, ha5204, hm⟩ := bndE hm
             obtain ⟨hz5205, ha5209⟩ := idxE ha5204
             obtain ⟨b5206, q5207, hix5208⟩ := rdL_ix (hL.rdS 4 rfl h2) hz5205 ha5209
             refine OV (.pointer (some ⟨b5206, q5207, none⟩)) rfl (x_ix U24 Tryd_T32 f5100 f5102 hix5208) ?_
             refine OV (.agg #[(.int .i64 x5203.Wind), (.int .i64 x5203.Pace)]) rfl (x_loadN (cs := [(.int .i64 x5203.Wind), (.int .i64 x5203.Pace)]) U32 Tryd_T32 rfl rfl (rdF_cells (hL.rdS 4 rfl h2) hix5208 ha5209)) ?_
             refine OW.cons (S_alloc (cs := #[(.int .i64 0), (.int .i64 0)]) hL Tryd_T32 rfl rfl ?_)
             intro wd5210 b5211 hL
             refine OV (.int .i64 s_l2.2) rfl (x_assign) ?_
             refine OW.cons (S_storeN (l := [(.int .i64 x5203.Wind), (.int .i64 x5203.Pace)]) (cs' := #[(.int .i64 x5203.Wind), (.int .i64 x5203.Pace)]) hL 0 rfl Tryd_T32 rfl rfl (List.forall_mem_cons.2 ⟨rfl, (List.forall_mem_cons.2 ⟨rfl, (fun _ h => by cases h)⟩)⟩) rfl (Nat.le_of_ble_eq_true rfl) rfl ?_)
             intro wd5212 hL
             refine ONR ?_
             refine OV (.int .i64 s_l1.2) rfl (x_mv f5098) ?_
             refine OV (.int .i64 (w64 ((a0.length : Int) - 1))) rfl (x_mv f5097) ?_
             refine OV (.int .i64 s_l2.2) rfl (x_move) ?_
             refine OV (.int .i64 (w64 ((w64 ((a0.length : Int) - 1)) - s_l2.2))) rfl (x_sub rfl rfl) ?_
             obtain ⟨hc5213, hm⟩ := chkE hm
             refine OV (.int .i64 (shrI .i64 s_l1.2 (w64 ((w64 ((a0.length : Int) - 1)) - s_l2.2)))) rfl (x_shr rfl rfl hc5213) ?_
             refine OV (.int .i64 (andI .i64 (shrI .i64 s_l1.2 (w64 ((w64 ((a0.length : Int) - 1)) - s_l2.2))) 1)) rfl (x_and rfl rfl) ?_
             refine OV (.bool ((andI .i64 (shrI .i64 s_l1.2 (w64 ((w64 ((a0.length : Int) - 1)) - s_l2.2))) 1) == 1)) rfl (x_eql rfl rfl) ?_
             refine OW.nil ?_
             refine CW.condM (t := (andI .i64 (shrI .i64 s_l1.2 (w64 ((w64 ((a0.length : Int) - 1)) - s_l2.2))) 1) == 1) rfl hm (fun hb5214 hm => ?_) (fun hb5214 hm => ?_)
             · refine CW.regionL ?_
               refine OV v5068 rfl (x_load1 U24 rfl f5099 (hL.cellB 2 rfl rfl)) ?_
               refine OV (.agg #[(.int .i64 x5203.Wind), (.int .i64 x5203.Pace)]) rfl (x_loadN (cs := [(.int .i64 x5203.Wind), (.int .i64 x5203.Pace)]) U32 Tryd_T32 rfl rfl (hL.cellsB 0 rfl (o := 0) (l := [(.int .i64 x5203.Wind), (.int .i64 x5203.Pace)]) (by intro j u hj; exact (by simpa using hj)))) ?_
               refine OW.cons (S_lit ([x5203] : List CurvePoint) hL U24 Tryd_T32 rfl (by decide) (by first | (simp [Instr.fill, madeCells, Value.cells, ev, upd, Flat.enc, Flat.sz]; done) | rfl | kernel_rfl) rfl rfl ?_)
               intro wd5215 v5216 S5217 hL
               obtain ⟨hc5221, hm⟩ := chkE hm
               refine OW.cons (S_append (ys := ([x5203] : List CurvePoint)) hL 2 rfl U24 Tryd_T32 rfl rfl rfl (hL.rdO 0 rfl) hc5221 (by decide) rfl ?_)
               intro wd5218 v5219 S5220 hL
               refine OW.cons (S_store (cs' := #[v5219]) hL 3 rfl Tryd_T24 f5099 (rdL_one (hL.rdO 2 rfl)) rfl rfl rfl ?_)
               intro wd5222 hL
               refine OW.nil ?_
               have hL := hL.sel [2, 3, 4, 5, 6] (by decide) rfl
               exact ⟨s_l2.1 ++ ([x5203] : List CurvePoint), hm, ⟨v5219, S5220, f5094, f5095, f5096, f5097, f5098, f5099, f5100, f5101, f5102, hL⟩⟩
             refine CW.skip ?_
             have hL := hL.sel [1, 2, 3, 4, 5] (by decide) rfl
             exact ⟨s_l2.1, hm, ⟨v5068, S5069, f5094, f5095, f5096, f5097, f5098, f5099, f5100, f5101, f5102, hL⟩⟩
           intro s_j5 F5192 wd5193 hJ hm
           unfold M.impl_SimplifyCurve_j5 at hm
           obtain ⟨v5190, S5191, f5194, f5195, f5196, f5197, f5198, f5199, f5200, f5201, f5202, hL⟩ := hJ
           exact ⟨s_j5, hm, ⟨v5190, S5191, f5194, f5195, f5196, f5197, f5198, f5199, f5200, f5201, f5202, hL⟩⟩
         intro s_j4 F5159 wd5160 hJ hm
         unfold M.impl_SimplifyCurve_j4 at hm
         obtain ⟨v5157, S5158, f5161, f5162, f5163, f5164, f5165, f5166, f5167, f5168, f5169, hL⟩ := hJ
         refine CW.regionL ?_
         refine OV (.int .i64 (w64 (s_l2.2 + 1))) rfl (x_add f5169 rfl) ?_
         refine OV (.int .i64 (w64 (s_l2.2 + 1))) rfl (x_move) ?_
         refine OW.nil ?_
         obtain rfl := Option.some.inj hm
         exact ⟨_, rfl, ⟨v5157, S5158, f5161, f5162, f5163, f5164, f5165, f5166, f5167, f5168, rfl, hL⟩⟩
       refine CW.exit ?_
       refine XJ.hit ?_
       obtain rfl := Option.some.inj hm
       exact ⟨_, rfl, ⟨v5068, S5069, f5094, f5095, f5096, f5097, f5098, f5099, f5100, f5101, f5102, hL⟩⟩
     intro s_j2 F4794 wd4795 hJ hm
     unfold M.impl_SimplifyCurve_j2 at hm
     obtain ⟨v4792, S4793, f4796, f4797, f4798, f4799, f4800, hn4801, hL⟩ := hJ
     exact ⟨s_j2, hm, ⟨v4792, S4793, f4796, f4797, f4798, f4799, f4800, hn4801, hL⟩⟩
   intro s_j1 F4359 wd4360 hJ hm
   unfold M.impl_SimplifyCurve_j1 at hm
   obtain ⟨v4357, S4358, f4361, f4362, f4363, f4364, f4365, hn4366, hL⟩ := hJ
   refine CW.regionL ?_
   refine OV (.int .i64 s_l1.2) rfl (x_mv f4365) ?_
   refine OV (.int .i64 (w64 (s_l1.2 - 1))) rfl (x_sub rfl rfl) ?_
   refine OV (.int .i64 (w64 (s_l1.2 - 1))) rfl (x_assign) ?_
   refine OW.nil ?_
   obtain rfl := Option.some.inj hm
   exact ⟨_, rfl, ⟨v4357, S4358, f4361, f4362, f4363, f4364, rfl, hn4366, hL⟩⟩
 refine CW.exit ?_
 refine XJ.hit ?_
 obtain rfl := Option.some.inj hm
 exact ⟨_, rfl, ⟨v3474, S3475, f3490, f3491, f3492, f3493, f3494, hn3495, hL⟩⟩

theorem M.spec_l01In_ok (w0 : World) (a0 : Int) (a1 : Int) (a2 : Int) {r : Bool} (hm : M.spec_l01In a0 a1 a2 = some r) :
    Calls Tryd.prog 22 #[(.int .i64 a0), (.int .i64 a1), (.int .i64 a2)] w0 fun e w' => e = .returned (.bool r) ∧ Fresh w0 w' [] := by
 unfold M.spec_l01In at hm
 refine calls_CW (args := [(.int .i64 a0), (.int .i64 a1), (.int .i64 a2)]) Tryd.func22 rfl rfl rfl ?_
 have hL := Hp.start w0
 refine CSR ?_
 refine OV (.bool false) rfl (x_assign) ?_
 refine OW.nil ?_
 refine CW.seqJ (fun (s_j1 : Bool) (F : Fr) (w : World) => F 6 = (.bool s_j1) ∧ Hp w0 [Ent.snap w0 w0.heap.size] w) (fun s_j1 => M.spec_l01In_j1 s_j1 = some r) ?_ ?_
 · refine CW.regionL ?_
   refine OV (.int .i64 a0) rfl (x_move) ?_
   refine OV (.int .i64 a1) rfl (x_move) ?_
   refine OV (.bool (decide (a1 ≤ a0))) rfl (x_geq rfl rfl) ?_
   refine OV (.bool (decide (a1 ≤ a0))) rfl (x_move) ?_
   refine ifB_elim hm (fun hb5 hm => ?_) (fun hb5 hm => ?_)
   · refine OW.cons (OP.yes' rfl rfl hb5 (OP.val (v := (.int .i64 a0)) rfl (x_move) ?_))
     refine OW.cons (OP.yes' rfl rfl hb5 (OP.val (v := (.int .i64 a2)) rfl (x_move) ?_))
     refine OW.cons (OP.yes' rfl rfl hb5 (OP.val (v := (.bool (decide (a0 ≤ a2)))) rfl (x_leq rfl rfl) ?_))
     refine OV (.bool (decide (a0 ≤ a2))) rfl (x_pickT' rfl hb5 rfl) ?_
     refine OV (.bool (decide (a0 ≤ a2))) rfl (x_assign) ?_
     refine OW.nil ?_
     exact ⟨decide (a0 ≤ a2), hm, ⟨rfl, hL⟩⟩
   refine OW.cons (OP.no' rfl rfl hb5 rfl ?_)
   refine OW.cons (OP.no' rfl rfl hb5 rfl ?_)
   refine OW.cons (OP.no' rfl rfl hb5 rfl ?_)
   refine OV (.bool false) rfl (x_pickF' rfl hb5 rfl) ?_
   refine OV (.bool false) rfl (x_assign) ?_
   refine OW.nil ?_
   exact ⟨false, hm, ⟨rfl, hL⟩⟩
 intro s_j1 F2 wd3 hJ hm
 unfold M.spec_l01In_j1 at hm
 obtain ⟨f4, hL⟩ := hJ
 refine CW.ret ?_
 obtain rfl := Option.some.inj hm
 exact RR1 rfl f4 ⟨rfl, hL.fresh 0 rfl [] (by decide) (by decide) rfl⟩

theorem M.spec_IsCurve_ok (w0 : World) (a0 : List CurvePoint) {v1 : Value} (h2 : rdL (· < w0.heap.size) w0 v1 a0) {r : Bool} (hm : M.spec_IsCurve a0 = some r) :
    Calls Tryd.prog 21 #[v1] w0 fun e w' => e = .returned (.bool r) ∧ Fresh w0 w' [] := by
 unfold M.spec_IsCurve at hm
 refine calls_CW (args := [v1]) Tryd.func21 rfl rfl rfl ?_
 have hL := Hp.start w0
 refine CSR ?_
 refine OV (.bool false) rfl (x_assign) ?_
 refine ONS ?_
 refine CW.seqJ (fun (s_j1 : Bool) (F : Fr) (w : World) => F 0 = v1 ∧ F 11 = (.bool s_j1) ∧ Hp w0 [Ent.snap w0 w0.heap.size] w) (fun s_j1 => M.spec_IsCurve_j1 a0 s_j1 = some r) ?_ ?_
 · refine CW.regionL ?_
   refine OV v1 rfl (x_move) ?_
   refine OV (.int .i64 (a0.length : Int)) rfl (x_lenR U24 rfl (hL.rdS 0 rfl h2)) ?_
   refine OV (.bool (decide ((a0.length : Int) < 2))) rfl (x_lss rfl rfl) ?_
   refine OV (.bool (decide ((a0.length : Int) < 2))) rfl (x_move) ?_
   refine ifB_elim hm (fun hb408 hm => ?_) (fun hb408 hm => ?_)
   · refine OW.cons (OP.no' rfl rfl hb408 rfl ?_)
     refine OW.cons (OP.no' rfl rfl hb408 rfl ?_)
     refine OW.cons (OP.no' rfl rfl hb408 rfl ?_)
     refine OV (.bool true) rfl (x_pickT' rfl hb408 rfl) ?_
     refine OW.nil ?_
     exact ⟨true, hm, ⟨rfl, rfl, hL⟩⟩
   refine OW.cons (OP.yes' rfl rfl hb408 (OP.val (v := v1) rfl (x_move) ?_))
   refine OW.cons (OP.yes' rfl rfl hb408 (OP.val (v := (.int .i64 (a0.length : Int))) rfl (x_lenR U24 rfl (hL.rdS 0 rfl h2)) ?_))
   refine OW.cons (OP.yes' rfl rfl hb408 (OP.val (v := (.bool (decide (12 < (a0.length : Int))))) rfl (x_gtr rfl rfl) ?_))
   refine OV (.bool (decide (12 < (a0.length : Int)))) rfl (x_pickF' rfl hb408 rfl) ?_
   refine OW.nil ?_
   exact ⟨decide (12 < (a0.length : Int)), hm, ⟨rfl, rfl, hL⟩⟩
 intro s_j1 F4 wd5 hJ hm
 unfold M.spec_IsCurve_j1 at hm
 obtain ⟨f6, f7, hL⟩ := hJ
 refine CW.condM (t := s_j1) f7 hm (fun hb8 hm => ?_) (fun hb8 hm => ?_)
 · refine CSR ?_
   refine OV (.bool false) rfl (x_assign) ?_
   refine OW.nil ?_
   refine CW.ret ?_
   obtain rfl := Option.some.inj hm
   exact RR1 rfl rfl ⟨rfl, hL.fresh 0 rfl [] (by decide) (by decide) rfl⟩
 refine CW.skip ?_
 refine CW.seq ?_
 refine CSR ?_
 refine OV (.int .i64 0) rfl (x_assign) ?_
 refine OW.nil ?_
 obtain ⟨o269, ho270, hm⟩ := bndE hm
 refine CW.loopB (fun (s_l1 : Int) (F : Fr) (w : World) => F 0 = v1 ∧ F 3 = (.int .i64 s_l1) ∧ Hp w0 [Ent.snap w0 w0.heap.size] w) (fun o => outc o (fun x => some x) (fun s => M.spec_IsCurve_a1 s) = some r) ho270 hm ⟨f6, rfl, hL⟩ ?_ ?_
 · intro s_l1 F271 wd272 hJ hm
   have hm := outcE hm
   have hm : M.spec_IsCurve_a1 s_l1 = some r := hm
   unfold M.spec_IsCurve_a1 at hm
   obtain ⟨f273, f274, hL⟩ := hJ
   refine CSR ?_
   refine OV (.bool true) rfl (x_assign) ?_
   refine OW.nil ?_
   refine CW.ret ?_
   obtain rfl := Option.some.inj hm
   exact RR1 rfl rfl ⟨rfl, hL.fresh 0 rfl [] (by decide) (by decide) rfl⟩
 intro s_l1 F275 wd276 t267 hJ hm hr268
 unfold M.spec_IsCurve_l1 at hm
 obtain ⟨f277, f278, hL⟩ := hJ
 refine CW.seq ?_
 refine CSR ?_
 refine OV (.int .i64 s_l1) rfl (x_mv f278) ?_
 refine OV v1 rfl (x_mv f277) ?_
 refine OV (.int .i64 (a0.length : Int)) rfl (x_lenR U24 rfl (hL.rdS 0 rfl h2)) ?_
 refine OV (.bool (decide (s_l1 < (a0.length : Int)))) rfl (x_lss rfl rfl) ?_
 refine OW.nil ?_
 refine CW.condM (t := decide (s_l1 < (a0.length : Int))) rfl hm (fun hb279 hm => ?_) (fun hb279 hm => ?_)
 · refine CW.skip ?_
   refine CW.seq ?_
   refine CW.block ?_
   refine CW.seq ?_
   refine CW.seqJ (fun (s_j2 : Bool) (F : Fr) (w : World) => F 0 = v1 ∧ F 3 = (.int .i64 s_l1) ∧ F 33 = (.bool s_j2) ∧ Hp w0 [Ent.snap w0 w0.heap.size] w) (fun s_j2 => M.spec_IsCurve_j2 a0 s_l1 s_j2 = some t267) ?_ ?_
   · refine CW.regionL ?_
     refine OV v1 rfl (x_mv f277) ?_
     refine OV (.int .i64 s_l1) rfl (x_mv f278) ?_
     obtain ⟨x383, ha384, hm⟩ := bndE hm
     obtain ⟨hz385, ha389⟩ := idxE ha384
     obtain ⟨b386, q387, hix388⟩ := rdL_ix (hL.rdS 0 rfl h2) hz385 ha389
     refine OV (.pointer (some ⟨b386, q387, none⟩)) rfl (x_ix U24 Tryd_T32 rfl rfl hix388) ?_
     refine OV (.pointer (some ⟨b386, q387, none⟩)) rfl (x_fieldAddr (fsz := 1) q387 0 q387 U32 rfl Tryd_T2 rfl rfl rfl) ?_
     refine OV (.int .i64 x383.Wind) rfl (x_load1 U2 rfl rfl (rdF_cells (hL.rdS 0 rfl h2) hix388 ha389 0 _ rfl)) ?_
     obtain ⟨x390, hx391, hm⟩ := bndE hm
     refine OW.cons (OP.call rfl (x_call (vs := [(.int .i64 x383.Wind), (.int .i64 0), (.int .i64 1000)]) Tryd_C22 ⟨rfl, rfl, rfl, trivial⟩) (M.spec_l01In_ok _ x383.Wind 0 1000 hx391) ?_)
     rintro e392 wd393 ⟨rfl, hF394⟩
     refine ⟨_, rfl, ?_⟩
     have hL := hL.pushAll hF394
     simp only [lA, lB, lC, lD] at hL
     refine OV (.bool (!x390)) rfl (x_not rfl) ?_
     refine OV (.bool (!x390)) rfl (x_move) ?_
     refine ifB_elim hm (fun hb395 hm => ?_) (fun hb395 hm => ?_)
     · refine OW.cons (OP.no' rfl rfl hb395 rfl ?_)
       refine OW.cons (OP.no' rfl rfl hb395 rfl ?_)
       refine OW.cons (OP.no' rfl rfl hb395 rfl ?_)
       refine OW.cons (OP.no' rfl rfl hb395 rfl ?_)
       refine OW.cons (OP.no' rfl rfl hb395 rfl ?_)
       refine OW.cons (OP.no' rfl rfl hb395 rfl ?_)
       refine OW.cons (OP.no' rfl rfl hb395 rfl ?_)
       refine OV (.bool true) rfl (x_pickT' rfl hb395 rfl) ?_
       refine OW.nil ?_
       exact ⟨true, hm, ⟨f277, f278, rfl, hL⟩⟩
     refine OW.cons (OP.yes' rfl rfl hb395 (OP.val (v := v1) rfl (x_mv f277) ?_))
     refine OW.cons (OP.yes' rfl rfl hb395 (OP.val (v := (.int .i64 s_l1)) rfl (x_mv f278) ?_))
     obtain ⟨x396, ha397, hm⟩ := bndE hm
     obtain ⟨hz398, ha402⟩ := idxE ha397
     obtain ⟨b399, q400, hix401⟩ := rdL_ix (hL.rdS 0 rfl h2) hz398 ha402
     refine OW.cons (OP.yes' rfl rfl hb395 (OP.val (v := (.pointer (some ⟨b399, q400, none⟩))) rfl (x_ix U24 Tryd_T32 rfl rfl hix401) ?_))
     refine OW.cons (OP.yes' rfl rfl hb395 (OP.val (v := (.pointer (some ⟨b399, q400 + 1, none⟩))) rfl (x_fieldAddr (fsz := 1) q400 1 (q400 + 1) U32 rfl Tryd_T2 rfl rfl rfl) ?_))
     refine OW.cons (OP.yes' rfl rfl hb395 (OP.val (v := (.int .i64 x396.Pace)) rfl (x_load1 U2 rfl rfl (rdF_cells (hL.rdS 0 rfl h2) hix401 ha402 1 _ rfl)) ?_))
     obtain ⟨x403, hx404, hm⟩ := bndE hm
     refine OW.cons (OP.yes' rfl rfl hb395 (OP.call rfl (x_call (vs := [(.int .i64 x396.Pace), (.int .i64 1), (.int .i64 1000000)]) Tryd_C22 ⟨rfl, rfl, rfl, trivial⟩) (M.spec_l01In_ok _ x396.Pace 1 1000000 hx404) ?_))
     rintro e405 wd406 ⟨rfl, hF407⟩
     refine ⟨_, rfl, ?_⟩
     have hL := hL.pushAll hF407
     simp only [lA, lB, lC, lD] at hL
     refine OW.cons (OP.yes' rfl rfl hb395 (OP.val (v := (.bool (!x403))) rfl (x_not rfl) ?_))
     refine OV (.bool (!x403)) rfl (x_pickF' rfl hb395 rfl) ?_
     refine OW.nil ?_
     exact ⟨!x403, hm, ⟨f277, f278, rfl, hL⟩⟩
   intro s_j2 F305 wd306 hJ hm
   unfold M.spec_IsCurve_j2 at hm
   obtain ⟨f307, f308, f309, hL⟩ := hJ
   refine CW.condM (t := s_j2) f309 hm (fun hb310 hm => ?_) (fun hb310 hm => ?_)
   · refine CSR ?_
     refine OV (.bool false) rfl (x_assign) ?_
     refine OW.nil ?_
     refine CW.ret ?_
     obtain rfl := Option.some.inj hm
     have hm := hr268 _ rfl
     obtain rfl := Option.some.inj hm
     exact RR1 rfl rfl ⟨rfl, hL.fresh 0 rfl [] (by decide) (by decide) rfl⟩
   refine CW.skip ?_
   refine CW.seqJ (fun (s_j3 : Bool) (F : Fr) (w : World) => F 0 = v1 ∧ F 3 = (.int .i64 s_l1) ∧ F 63 = (.bool s_j3) ∧ Hp w0 [Ent.snap w0 w0.heap.size] w) (fun s_j3 => M.spec_IsCurve_j3 s_l1 s_j3 = some t267) ?_ ?_
   · refine CW.draw Tryd_mixed ?_
     have hL := hL.call (Mod.drew _)
     refine DW.pre (fuel := 0) (fin := bma 30 1073741823) (C := fun w' => Mod None_ _ w') [0, 1, 2, 3, 4, 5, 6, 7, 8, 9, 10, 11, 12, 13, 14, 15, 16, 17, 18, 19, 20, 21, 22, 23, 24, 25, 26, 27, 28, 29] (Mod.refl _ _) (by kernel_rfl) (by kernel_rfl) ?_
     refine QW.cons rfl (QP.val (v := (.int .i64 s_l1)) rfl (fun w' hm' => x_mv f308) ?_)
     refine QW.cons rfl (QP.val (v := (.bool (decide (0 < s_l1)))) rfl (fun w' hm' => x_gtr rfl rfl) ?_)
     refine QW.cons rfl (QP.val (v := (.bool (decide (0 < s_l1)))) rfl (fun w' hm' => x_move) ?_)
     refine ifB_elim hm (fun hb350 hm => ?_) (fun hb350 hm => ?_)
     · refine QW.cons rfl (QP.yes' rfl rfl hb350 (QP.val (v := v1) rfl (fun w' hm' => x_mv f307) ?_))
       refine QW.cons rfl (QP.yes' rfl rfl hb350 (QP.val (v := (.int .i64 s_l1)) rfl (fun w' hm' => x_mv f308) ?_))
       obtain ⟨x351, ha352, hm⟩ := bndE hm
       obtain ⟨hz353, ha357⟩ := idxE ha352
       obtain ⟨b354, q355, hix356⟩ := rdL_ix (hL.rdS 0 rfl h2) hz353 ha357
       refine QW.cons rfl (QP.yes' rfl rfl hb350 (QP.val (v := (.pointer (some ⟨b354, q355, none⟩))) rfl (fun w' hm' => x_ix U24 Tryd_T32 rfl rfl hix356) ?_))
       refine QW.cons rfl (QP.yes' rfl rfl hb350 (QP.val (v := (.pointer (some ⟨b354, q355, none⟩))) rfl (fun w' hm' => x_fieldAddr (fsz := 1) q355 0 q355 U32 rfl Tryd_T2 rfl rfl rfl) ?_))
       refine QW.cons rfl (QP.yes' rfl rfl hb350 (QP.val (v := (.int .i64 x351.Wind)) rfl (fun w' hm' => x_load1 U2 rfl rfl (rdF_cells ((hL.call hm').rdS 0 rfl h2) hix356 ha357 0 _ rfl)) ?_))
       refine QW.cons rfl (QP.yes' rfl rfl hb350 (QP.val (v := v1) rfl (fun w' hm' => x_mv f307) ?_))
       refine QW.cons rfl (QP.yes' rfl rfl hb350 (QP.val (v := (.int .i64 s_l1)) rfl (fun w' hm' => x_mv f308) ?_))
       refine QW.cons rfl (QP.yes' rfl rfl hb350 (QP.val (v := (.int .i64 (w64 (s_l1 - 1)))) rfl (fun w' hm' => x_sub rfl rfl) ?_))
       obtain ⟨x358, ha359, hm⟩ := bndE hm
       obtain ⟨hz360, ha364⟩ := idxE ha359
       obtain ⟨b361, q362, hix363⟩ := rdL_ix (hL.rdS 0 rfl h2) hz360 ha364
       refine QW.cons rfl (QP.yes' rfl rfl hb350 (QP.val (v := (.pointer (some ⟨b361, q362, none⟩))) rfl (fun w' hm' => x_ix U24 Tryd_T32 rfl rfl hix363) ?_))
       refine QW.cons rfl (QP.yes' rfl rfl hb350 (QP.val (v := (.pointer (some ⟨b361, q362, none⟩))) rfl (fun w' hm' => x_fieldAddr (fsz := 1) q362 0 q362 U32 rfl Tryd_T2 rfl rfl rfl) ?_))
       refine QW.cons rfl (QP.yes' rfl rfl hb350 (QP.val (v := (.int .i64 x358.Wind)) rfl (fun w' hm' => x_load1 U2 rfl rfl (rdF_cells ((hL.call hm').rdS 0 rfl h2) hix363 ha364 0 _ rfl)) ?_))
       refine QW.cons rfl (QP.yes' rfl rfl hb350 (QP.val (v := (.bool (decide (x351.Wind ≤ x358.Wind)))) rfl (fun w' hm' => x_leq rfl rfl) ?_))
       refine QW.cons rfl (QP.yes' rfl rfl hb350 (QP.val (v := (.bool (decide (x351.Wind ≤ x358.Wind)))) rfl (fun w' hm' => x_move) ?_))
       refine ifB_elim hm (fun hb365 hm => ?_) (fun hb365 hm => ?_)
       · refine QW.cons rfl (QP.no' rfl rfl hb365 rfl ?_)
         refine QW.cons rfl (QP.no' rfl rfl hb365 rfl ?_)
         refine QW.cons rfl (QP.no' rfl rfl hb365 rfl ?_)
         refine QW.cons rfl (QP.no' rfl rfl hb365 rfl ?_)
         refine QW.cons rfl (QP.no' rfl rfl hb365 rfl ?_)
         refine QW.cons rfl (QP.no' rfl rfl hb365 rfl ?_)
         refine QW.cons rfl (QP.no' rfl rfl hb365 rfl ?_)
         refine QW.cons rfl (QP.no' rfl rfl hb365 rfl ?_)
         refine QW.cons rfl (QP.no' rfl rfl hb365 rfl ?_)
         refine QW.cons rfl (QP.no' rfl rfl hb365 rfl ?_)
         refine QW.cons rfl (QP.no' rfl rfl hb365 rfl ?_)
         refine QW.cons rfl (QP.no' rfl rfl hb365 rfl ?_)
         refine QW.cons rfl (QP.yes' rfl rfl hb350 (QP.val (v := (.bool true)) rfl (fun w' hm' => x_pickT' rfl hb365 rfl) ?_))
         refine QW.cons rfl (QP.val (v := (.bool true)) rfl (fun w' hm' => x_pickT' rfl hb350 rfl) ?_)
         refine QW.nil ?_
         intro wd366 hmod
         have hL := hL.call hmod
         refine DW.done (by kernel_rfl) ?_
         exact ⟨true, hm, ⟨f307, f308, rfl, hL⟩⟩
       refine QW.cons rfl (QP.yes' rfl rfl hb365 (QP.val (v := v1) rfl (fun w' hm' => x_mv f307) ?_))
       refine QW.cons rfl (QP.yes' rfl rfl hb365 (QP.val (v := (.int .i64 s_l1)) rfl (fun w' hm' => x_mv f308) ?_))
       obtain ⟨x367, ha368, hm⟩ := bndE hm
       obtain ⟨hz369, ha373⟩ := idxE ha368
       obtain ⟨b370, q371, hix372⟩ := rdL_ix (hL.rdS 0 rfl h2) hz369 ha373
       refine QW.cons rfl (QP.yes' rfl rfl hb365 (QP.val (v := (.pointer (some ⟨b370, q371, none⟩))) rfl (fun w' hm' => x_ix U24 Tryd_T32 rfl rfl hix372) ?_))
       refine QW.cons rfl (QP.yes' rfl rfl hb365 (QP.val (v := (.pointer (some ⟨b370, q371 + 1, none⟩))) rfl (fun w' hm' => x_fieldAddr (fsz := 1) q371 1 (q371 + 1) U32 rfl Tryd_T2 rfl rfl rfl) ?_))
       refine QW.cons rfl (QP.yes' rfl rfl hb365 (QP.val (v := (.int .i64 x367.Pace)) rfl (fun w' hm' => x_load1 U2 rfl rfl (rdF_cells ((hL.call hm').rdS 0 rfl h2) hix372 ha373 1 _ rfl)) ?_))
       refine QW.cons rfl (QP.yes' rfl rfl hb365 (QP.val (v := v1) rfl (fun w' hm' => x_mv f307) ?_))
       refine QW.cons rfl (QP.yes' rfl rfl hb365 (QP.val (v := (.int .i64 s_l1)) rfl (fun w' hm' => x_mv f308) ?_))
       refine QW.cons rfl (QP.yes' rfl rfl hb365 (QP.val (v := (.int .i64 (w64 (s_l1 - 1)))) rfl (fun w' hm' => x_sub rfl rfl) ?_))
       obtain ⟨x374, ha375, hm⟩ := bndE hm
       obtain ⟨hz376, ha380⟩ := idxE ha375
       obtain ⟨b377, q378, hix379⟩ := rdL_ix (hL.rdS 0 rfl h2) hz376 ha380
       refine QW.cons rfl (QP.yes' rfl rfl hb365 (QP.val (v := (.pointer (some ⟨b377, q378, none⟩))) rfl (fun w' hm' => x_ix U24 Tryd_T32 rfl rfl hix379) ?_))
       refine QW.cons rfl (QP.yes' rfl rfl hb365 (QP.val (v := (.pointer (some ⟨b377, q378 + 1, none⟩))) rfl (fun w' hm' => x_fieldAddr (fsz := 1) q378 1 (q378 + 1) U32 rfl Tryd_T2 rfl rfl rfl) ?_))
       refine QW.cons rfl (QP.yes' rfl rfl hb365 (QP.val (v := (.int .i64 x374.Pace)) rfl (fun w' hm' => x_load1 U2 rfl rfl (rdF_cells ((hL.call hm').rdS 0 rfl h2) hix379 ha380 1 _ rfl)) ?_))
       refine QW.cons rfl (QP.yes' rfl rfl hb365 (QP.val (v := (.bool (decide (x374.Pace ≤ x367.Pace)))) rfl (fun w' hm' => x_geq rfl rfl) ?_))
       refine QW.cons rfl (QP.yes' rfl rfl hb350 (QP.val (v := (.bool (decide (x374.Pace ≤ x367.Pace)))) rfl (fun w' hm' => x_pickF' rfl hb365 rfl) ?_))
       refine QW.cons rfl (QP.val (v := (.bool (decide (x374.Pace ≤ x367.Pace)))) rfl (fun w' hm' => x_pickT' rfl hb350 rfl) ?_)
       refine QW.nil ?_
       intro wd381 hmod
       have hL := hL.call hmod
       refine DW.done (by kernel_rfl) ?_
       exact ⟨decide (x374.Pace ≤ x367.Pace), hm, ⟨f307, f308, rfl, hL⟩⟩
     refine QW.cons rfl (QP.no' rfl rfl hb350 rfl ?_)
     refine QW.cons rfl (QP.no' rfl rfl hb350 rfl ?_)
     refine QW.cons rfl (QP.no' rfl rfl hb350 rfl ?_)
     refine QW.cons rfl (QP.no' rfl rfl hb350 rfl ?_)
     refine QW.cons rfl (QP.no' rfl rfl hb350 rfl ?_)
     refine QW.cons rfl (QP.no' rfl rfl hb350 rfl ?_)
     refine QW.cons rfl (QP.no' rfl rfl hb350 rfl ?_)
     refine QW.cons rfl (QP.no' rfl rfl hb350 rfl ?_)
     refine QW.cons rfl (QP.no' rfl rfl hb350 rfl ?_)
     refine QW.cons rfl (QP.no' rfl rfl hb350 rfl ?_)
     refine QW.cons rfl (QP.no' rfl rfl hb350 rfl ?_)
     refine QW.cons rfl (QP.no' rfl rfl hb350 rfl ?_)
     refine QW.cons rfl (QP.no' rfl rfl hb350 rfl ?_)
     refine QW.cons rfl (QP.noU rfl rfl rfl ?_)
     refine QW.cons rfl (QP.noU rfl rfl rfl ?_)
     refine QW.cons rfl (QP.noU rfl rfl rfl ?_)
     refine QW.cons rfl (QP.noU rfl rfl rfl ?_)
     refine QW.cons rfl (QP.noU rfl rfl rfl ?_)
     refine QW.cons rfl (QP.noU rfl rfl rfl ?_)
     refine QW.cons rfl (QP.noU rfl rfl rfl ?_)
     refine QW.cons rfl (QP.noU rfl rfl rfl ?_)
     refine QW.cons rfl (QP.noU rfl rfl rfl ?_)
     refine QW.cons rfl (QP.noU rfl rfl rfl ?_)
     refine QW.cons rfl (QP.noU rfl rfl rfl ?_)
     refine QW.cons rfl (QP.noU rfl rfl rfl ?_)
     refine QW.cons rfl (QP.no' rfl rfl hb350 rfl ?_)
     refine QW.cons rfl (QP.val (v := (.bool false)) rfl (fun w' hm' => x_pickF' rfl hb350 rfl) ?_)
     refine QW.nil ?_
     intro wd382 hmod
     have hL := hL.call hmod
     refine DW.done (by kernel_rfl) ?_
     exact ⟨false, hm, ⟨f307, f308, rfl, hL⟩⟩
   intro s_j3 F344 wd345 hJ hm
   unfold M.spec_IsCurve_j3 at hm
   obtain ⟨f346, f347, f348, hL⟩ := hJ
   refine CW.condM (t := s_j3) f348 hm (fun hb349 hm => ?_) (fun hb349 hm => ?_)
   · refine CSR ?_
     refine OV (.bool false) rfl (x_assign) ?_
     refine OW.nil ?_
     refine CW.ret ?_
     obtain rfl := Option.some.inj hm
     have hm := hr268 _ rfl
     obtain rfl := Option.some.inj hm
     exact RR1 rfl rfl ⟨rfl, hL.fresh 0 rfl [] (by decide) (by decide) rfl⟩
   refine CW.skip ?_
   refine CW.regionL ?_
   refine OV (.int .i64 s_l1) rfl (x_mv f347) ?_
   refine OV (.int .i64 (w64 (s_l1 + 1))) rfl (x_add rfl rfl) ?_
   refine OV (.int .i64 (w64 (s_l1 + 1))) rfl (x_assign) ?_
   refine OW.nil ?_
   obtain rfl := Option.some.inj hm
   exact ⟨_, rfl, ⟨f346, rfl, hL⟩⟩
 refine CW.exit ?_
 refine XJ.hit ?_
 obtain rfl := Option.some.inj hm
 exact ⟨_, rfl, ⟨f277, f278, hL⟩⟩

theorem M.spec_l01Floor_ok (w0 : World) (a0 : Int) (a1 : Int) {r : Int} (hm : M.spec_l01Floor a0 a1 = some r) :
    Calls Tryd.prog 44 #[(.int .i64 a0), (.int .i64 a1)] w0 fun e w' => e = .returned (.int .i64 r) ∧ Fresh w0 w' [] := by
 unfold M.spec_l01Floor at hm
 refine calls_CW (args := [(.int .i64 a0), (.int .i64 a1)]) Tryd.func44 rfl rfl rfl ?_
 have hL := Hp.start w0
 refine CSR ?_
 refine OV (.int .i64 0) rfl (x_assign) ?_
 refine ONR ?_
 refine OV (.int .i64 a0) rfl (x_move) ?_
 refine OV (.int .i64 a1) rfl (x_move) ?_
 obtain ⟨hc1, hm⟩ := chkE hm
 refine OV (.int .i64 (w64 (a0.tdiv a1))) rfl (x_quo rfl rfl hc1) ?_
 refine OV (.int .i64 (w64 (a0.tdiv a1))) rfl (x_assign) ?_
 refine OW.nil ?_
 refine CW.seqJ (fun (s_j1 : Int) (F : Fr) (w : World) => F 5 = (.int .i64 s_j1) ∧ Hp w0 [Ent.snap w0 w0.heap.size] w) (fun s_j1 => M.spec_l01Floor_j1 s_j1 = some r) ?_ ?_
 · refine CSR ?_
   refine OV (.int .i64 a0) rfl (x_move) ?_
   refine OV (.int .i64 a1) rfl (x_move) ?_
   obtain ⟨hc7, hm⟩ := chkE hm
   refine OV (.int .i64 (a0.tmod a1)) rfl (x_rem rfl rfl hc7) ?_
   refine OV (.bool (decide ((a0.tmod a1) < 0))) rfl (x_lss rfl rfl) ?_
   refine OW.nil ?_
   refine CW.condM (t := decide ((a0.tmod a1) < 0)) rfl hm (fun hb8 hm => ?_) (fun hb8 hm => ?_)
   · refine CW.regionL ?_
     refine OV (.int .i64 (w64 (a0.tdiv a1))) rfl (x_move) ?_
     refine OV (.int .i64 (w64 ((w64 (a0.tdiv a1)) - 1))) rfl (x_sub rfl rfl) ?_
     refine OV (.int .i64 (w64 ((w64 (a0.tdiv a1)) - 1))) rfl (x_assign) ?_
     refine OW.nil ?_
     exact ⟨w64 ((w64 (a0.tdiv a1)) - 1), hm, ⟨rfl, hL⟩⟩
   refine CW.skip ?_
   exact ⟨w64 (a0.tdiv a1), hm, ⟨rfl, hL⟩⟩
 intro s_j1 F4 wd5 hJ hm
 unfold M.spec_l01Floor_j1 at hm
 obtain ⟨f6, hL⟩ := hJ
 refine CSR ?_
 refine OV (.int .i64 s_j1) rfl (x_mv f6) ?_
 refine OV (.int .i64 s_j1) rfl (x_assign) ?_
 refine OW.nil ?_
 refine CW.ret ?_
 obtain rfl := Option.some.inj hm
 exact RR1 rfl rfl ⟨rfl, hL.fresh 0 rfl [] (by decide) (by decide) rfl⟩

theorem M.spec_l24Pace_ok (w0 : World) (a0 : List CurvePoint) {v1 : Value} (h2 : rdL (· < w0.heap.size) w0 v1 a0) (a1 : Int) {r : Int} (hm : M.spec_l24Pace a0 a1 = some r) :
    Calls Tryd.prog 36 #[v1, (.int .i64 a1)] w0 fun e w' => e = .returned (.int .i64 r) ∧ Fresh w0 w' [] := by
 unfold M.spec_l24Pace at hm
 refine calls_CW (args := [v1, (.int .i64 a1)]) Tryd.func36 rfl rfl rfl ?_
 have hL := Hp.start w0
 refine CSR ?_
 refine OV (.int .i64 0) rfl (x_assign) ?_
 refine ONS ?_
 refine CSR ?_
 refine OV (.int .i64 a1) rfl (x_move) ?_
 refine OV v1 rfl (x_move) ?_
 obtain ⟨x3, ha4, hm⟩ := bndE hm
 obtain ⟨hz5, ha9⟩ := idxE ha4
 obtain ⟨b6, q7, hix8⟩ := rdL_ix (hL.rdS 0 rfl h2) hz5 ha9
 refine OV (.pointer (some ⟨b6, q7, none⟩)) rfl (x_ix U24 Tryd_T32 rfl rfl hix8) ?_
 refine OV (.pointer (some ⟨b6, q7, none⟩)) rfl (x_fieldAddr (fsz := 1) q7 0 q7 U32 rfl Tryd_T2 rfl rfl rfl) ?_
 refine OV (.int .i64 x3.Wind) rfl (x_load1 U2 rfl rfl (rdF_cells (hL.rdS 0 rfl h2) hix8 ha9 0 _ rfl)) ?_
 refine OV (.bool (decide (a1 ≤ x3.Wind))) rfl (x_leq rfl rfl) ?_
 refine OW.nil ?_
 refine CW.condM (t := decide (a1 ≤ x3.Wind)) rfl hm (fun hb10 hm => ?_) (fun hb10 hm => ?_)
 · refine CSR ?_
   refine OV v1 rfl (x_move) ?_
   obtain ⟨x11, ha12, hm⟩ := bndE hm
   obtain ⟨hz13, ha17⟩ := idxE ha12
   obtain ⟨b14, q15, hix16⟩ := rdL_ix (hL.rdS 0 rfl h2) hz13 ha17
   refine OV (.pointer (some ⟨b14, q15, none⟩)) rfl (x_ix U24 Tryd_T32 rfl rfl hix16) ?_
   refine OV (.pointer (some ⟨b14, q15 + 1, none⟩)) rfl (x_fieldAddr (fsz := 1) q15 1 (q15 + 1) U32 rfl Tryd_T2 rfl rfl rfl) ?_
   refine OV (.int .i64 x11.Pace) rfl (x_load1 U2 rfl rfl (rdF_cells (hL.rdS 0 rfl h2) hix16 ha17 1 _ rfl)) ?_
   refine OV (.int .i64 x11.Pace) rfl (x_assign) ?_
   refine OW.nil ?_
   refine CW.ret ?_
   obtain rfl := Option.some.inj hm
   exact RR1 rfl rfl ⟨rfl, hL.fresh 0 rfl [] (by decide) (by decide) rfl⟩
 refine CW.skip ?_
 refine CW.seq ?_
 refine CSR ?_
 refine OV (.int .i64 1) rfl (x_assign) ?_
 refine OW.nil ?_
 obtain ⟨o134, ho135, hm⟩ := bndE hm
 refine CW.loopB (fun (s_l1 : Int) (F : Fr) (w : World) => F 0 = v1 ∧ F 1 = (.int .i64 a1) ∧ F 5 = (.int .i64 s_l1) ∧ Hp w0 [Ent.snap w0 w0.heap.size] w) (fun o => outc o (fun x => some x) (fun s => M.spec_l24Pace_a1 a0 s) = some r) ho135 hm ⟨rfl, rfl, rfl, hL⟩ ?_ ?_
 · intro s_l1 F136 wd137 hJ hm
   have hm := outcE hm
   have hm : M.spec_l24Pace_a1 a0 s_l1 = some r := hm
   unfold M.spec_l24Pace_a1 at hm
   obtain ⟨f138, f139, f140, hL⟩ := hJ
   refine CSR ?_
   refine OV v1 rfl (x_mv f138) ?_
   refine OV v1 rfl (x_mv f138) ?_
   refine OV (.int .i64 (a0.length : Int)) rfl (x_lenR U24 rfl (hL.rdS 0 rfl h2)) ?_
   refine OV (.int .i64 (w64 ((a0.length : Int) - 1))) rfl (x_sub rfl rfl) ?_
   obtain ⟨x141, ha142, hm⟩ := bndE hm
   obtain ⟨hz143, ha147⟩ := idxE ha142
   obtain ⟨b144, q145, hix146⟩ := rdL_ix (hL.rdS 0 rfl h2) hz143 ha147
   refine OV (.pointer (some ⟨b144, q145, none⟩)) rfl (x_ix U24 Tryd_T32 rfl rfl hix146) ?_
   refine OV (.pointer (some ⟨b144, q145 + 1, none⟩)) rfl (x_fieldAddr (fsz := 1) q145 1 (q145 + 1) U32 rfl Tryd_T2 rfl rfl rfl) ?_
   refine OV (.int .i64 x141.Pace) rfl (x_load1 U2 rfl rfl (rdF_cells (hL.rdS 0 rfl h2) hix146 ha147 1 _ rfl)) ?_
   refine OV (.int .i64 x141.Pace) rfl (x_assign) ?_
   refine OW.nil ?_
   refine CW.ret ?_
   obtain rfl := Option.some.inj hm
   exact RR1 rfl rfl ⟨rfl, hL.fresh 0 rfl [] (by decide) (by decide) rfl⟩
 intro s_l1 F148 wd149 t132 hJ hm hr133
 unfold M.spec_l24Pace_l1 at hm
 obtain ⟨f150, f151, f152, hL⟩ := hJ
 refine CW.seq ?_
 refine CSR ?_
 refine OV (.int .i64 s_l1) rfl (x_mv f152) ?_
 refine OV v1 rfl (x_mv f150) ?_
 refine OV (.int .i64 (a0.length : Int)) rfl (x_lenR U24 rfl (hL.rdS 0 rfl h2)) ?_
 refine OV (.bool (decide (s_l1 < (a0.length : Int)))) rfl (x_lss rfl rfl) ?_
 refine OW.nil ?_
 refine CW.condM (t := decide (s_l1 < (a0.length : Int))) rfl hm (fun hb153 hm => ?_) (fun hb153 hm => ?_)
 · refine CW.skip ?_
   refine CW.seq ?_
   refine CW.block ?_
   refine CW.seq ?_
   refine CW.drawH (fun w' => Hp w0 [Ent.snap w0 w0.heap.size] w') Tryd_mixed ?_
   have hL := hL.call (Mod.drew _)
   have hS := (hL.sel [0] (by decide) rfl)
   refine DH.take 0 rfl (by kernel_rfl) (by kernel_rfl) (by kernel_rfl) rfl rfl hS (YH.val (v := v1) (fun w' hS' => x_mv f150)) ?_
   have hS := (hL.sel [0] (by decide) rfl)
   refine DH.take 1 rfl (by kernel_rfl) (by kernel_rfl) (by kernel_rfl) rfl rfl hS (YH.val (v := (.int .i64 s_l1)) (fun w' hS' => x_mv f152)) ?_
   have hS := (hL.sel [0] (by decide) rfl)
   refine DH.take 2 rfl (by kernel_rfl) (by kernel_rfl) (by kernel_rfl) rfl rfl hS (YH.val (v := (.int .i64 (w64 (s_l1 - 1)))) (fun w' hS' => x_sub rfl rfl)) ?_
   have hS := (hL.sel [0] (by decide) rfl)
   obtain ⟨x174, ha175, hm⟩ := bndE hm
   obtain ⟨hz176, ha180⟩ := idxE ha175
   obtain ⟨b177, q178, hix179⟩ := rdL_ix (hL.rdS 0 rfl h2) hz176 ha180
   refine DH.take 3 rfl (by kernel_rfl) (by kernel_rfl) (by kernel_rfl) rfl rfl hS (YH.val (v := (.pointer (some ⟨b177, q178, none⟩))) (fun w' hS' => x_ix U24 Tryd_T32 rfl rfl hix179)) ?_
   have hS := (hL.sel [0] (by decide) rfl)
   refine DH.take 4 rfl (by kernel_rfl) (by kernel_rfl) (by kernel_rfl) rfl rfl hS (YH.val (v := (.agg #[(.int .i64 x174.Wind), (.int .i64 x174.Pace)])) (fun w' hS' => x_loadN (cs := [(.int .i64 x174.Wind), (.int .i64 x174.Pace)]) U32 Tryd_T32 rfl rfl (rdF_cells (hS'.rdS 0 rfl h2) hix179 ha180))) ?_
   have hS := (hL.sel [0] (by decide) rfl)
   refine DH.take 5 rfl (by kernel_rfl) (by kernel_rfl) (by kernel_rfl) rfl rfl hS (YH.val (v := v1) (fun w' hS' => x_mv f150)) ?_
   have hS := (hL.sel [0] (by decide) rfl)
   refine DH.take 6 rfl (by kernel_rfl) (by kernel_rfl) (by kernel_rfl) rfl rfl hS (YH.val (v := (.int .i64 s_l1)) (fun w' hS' => x_mv f152)) ?_
   have hS := (hL.sel [0] (by decide) rfl)
   obtain ⟨x181, ha182, hm⟩ := bndE hm
   obtain ⟨hz183, ha187⟩ := idxE ha182
   obtain ⟨b184, q185, hix186⟩ := rdL_ix (hL.rdS 0 rfl h2) hz183 ha187
   refine DH.take 7 rfl (by kernel_rfl) (by kernel_rfl) (by kernel_rfl) rfl rfl hS (YH.val (v := (.pointer (some ⟨b184, q185, none⟩))) (fun w' hS' => x_ix U24 Tryd_T32 rfl rfl hix186)) ?_
   have hS := (hL.sel [0] (by decide) rfl)
   refine DH.take 8 rfl (by kernel_rfl) (by kernel_rfl) (by kernel_rfl) rfl rfl hS (YH.val (v := (.agg #[(.int .i64 x181.Wind), (.int .i64 x181.Pace)])) (fun w' hS' => x_loadN (cs := [(.int .i64 x181.Wind), (.int .i64 x181.Pace)]) U32 Tryd_T32 rfl rfl (rdF_cells (hS'.rdS 0 rfl h2) hix186 ha187))) ?_
   refine DH.all (rs := [9, 10]) (by kernel_rfl) (by simp) ?_
   intro i188 hi189
   simp only [List.mem_cons, List.not_mem_nil, or_false] at hi189
   rcases hi189 with rfl | rfl
   · refine ⟨_, rfl, ?_⟩
     refine S_alloc (cs := #[(.int .i64 0), (.int .i64 0)]) hL Tryd_T32 rfl rfl ?_
     intro wd190 b191 hL
     refine ⟨(hL.sel [1] (by decide) rfl), ?_⟩
     refine DH.only 10 rfl (by kernel_rfl) (S_alloc (cs := #[(.int .i64 0), (.int .i64 0)]) hL Tryd_T32 rfl rfl ?_)
     intro wd192 b193 hL
     refine ⟨(hL.sel [2] (by decide) rfl), ?_⟩
     refine DH.only 11 rfl (by kernel_rfl) (S_storeN (l := [(.int .i64 x174.Wind), (.int .i64 x174.Pace)]) (cs' := #[(.int .i64 x174.Wind), (.int .i64 x174.Pace)]) hL 1 rfl Tryd_T32 rfl rfl (List.forall_mem_cons.2 ⟨rfl, (List.forall_mem_cons.2 ⟨rfl, (fun _ h => by cases h)⟩)⟩) rfl (Nat.le_of_ble_eq_true rfl) rfl ?_)
     intro wd194 hL
     refine ⟨(hL.sel [2] (by decide) rfl), ?_⟩
     refine DH.only 12 rfl (by kernel_rfl) (S_storeN (l := [(.int .i64 x181.Wind), (.int .i64 x181.Pace)]) (cs' := #[(.int .i64 x181.Wind), (.int .i64 x181.Pace)]) hL 0 rfl Tryd_T32 rfl rfl (List.forall_mem_cons.2 ⟨rfl, (List.forall_mem_cons.2 ⟨rfl, (fun _ h => by cases h)⟩)⟩) rfl (Nat.le_of_ble_eq_true rfl) rfl ?_)
     intro wd195 hL
     refine ⟨(hL.sel [2] (by decide) rfl), ?_⟩
     refine DH.done (by kernel_rfl) ?_
     refine CSR ?_
     refine OV (.int .i64 a1) rfl (x_mv f151) ?_
     refine OV (.pointer (some ⟨b193, 0, none⟩)) rfl (x_fieldAddr (fsz := 1) 0 0 0 U32 rfl Tryd_T2 rfl rfl rfl) ?_
     refine OV (.int .i64 x181.Wind) rfl (x_load1 U2 rfl rfl (hL.cellB 0 rfl rfl)) ?_
     refine OV (.bool (decide (a1 ≤ x181.Wind))) rfl (x_leq rfl rfl) ?_
     refine OW.nil ?_
     refine CW.condM (t := decide (a1 ≤ x181.Wind)) rfl hm (fun hb196 hm => ?_) (fun hb196 hm => ?_)
     · refine CW.seq ?_
       refine CW.draw Tryd_mixed ?_
       have hL := hL.call (Mod.drew _)
       refine DW.pre (fuel := 0) (fin := bma 20 1048575) (C := fun w' => Mod None_ _ w') [0, 1, 2, 3, 4, 5, 6, 7, 8, 9, 10, 11, 12, 13, 14, 15, 16, 17, 18, 19] (Mod.refl _ _) (by kernel_rfl) (by kernel_rfl) ?_
       refine QW.cons rfl (QP.val (v := (.pointer (some ⟨b191, 1, none⟩))) rfl (fun w' hm' => x_fieldAddr (fsz := 1) 0 1 1 U32 rfl Tryd_T2 rfl rfl rfl) ?_)
       refine QW.cons rfl (QP.val (v := (.int .i64 x174.Pace)) rfl (fun w' hm' => x_load1 U2 rfl rfl ((hL.call hm').cellB 1 rfl rfl)) ?_)
       refine QW.cons rfl (QP.val (v := (.pointer (some ⟨b193, 1, none⟩))) rfl (fun w' hm' => x_fieldAddr (fsz := 1) 0 1 1 U32 rfl Tryd_T2 rfl rfl rfl) ?_)
       refine QW.cons rfl (QP.val (v := (.int .i64 x181.Pace)) rfl (fun w' hm' => x_load1 U2 rfl rfl ((hL.call hm').cellB 0 rfl rfl)) ?_)
       refine QW.cons rfl (QP.val (v := (.pointer (some ⟨b191, 1, none⟩))) rfl (fun w' hm' => x_fieldAddr (fsz := 1) 0 1 1 U32 rfl Tryd_T2 rfl rfl rfl) ?_)
       refine QW.cons rfl (QP.val (v := (.int .i64 x174.Pace)) rfl (fun w' hm' => x_load1 U2 rfl rfl ((hL.call hm').cellB 1 rfl rfl)) ?_)
       refine QW.cons rfl (QP.val (v := (.int .i64 (w64 (x181.Pace - x174.Pace)))) rfl (fun w' hm' => x_sub rfl rfl) ?_)
       refine QW.cons rfl (QP.val (v := (.int .i64 a1)) rfl (fun w' hm' => x_mv f151) ?_)
       refine QW.cons rfl (QP.val (v := (.pointer (some ⟨b191, 0, none⟩))) rfl (fun w' hm' => x_fieldAddr (fsz := 1) 0 0 0 U32 rfl Tryd_T2 rfl rfl rfl) ?_)
       refine QW.cons rfl (QP.val (v := (.int .i64 x174.Wind)) rfl (fun w' hm' => x_load1 U2 rfl rfl ((hL.call hm').cellB 1 rfl rfl)) ?_)
       refine QW.cons rfl (QP.val (v := (.int .i64 (w64 (a1 - x174.Wind)))) rfl (fun w' hm' => x_sub rfl rfl) ?_)
       refine QW.cons rfl (QP.val (v := (.int .i64 (w64 ((w64 (x181.Pace - x174.Pace)) * (w64 (a1 - x174.Wind)))))) rfl (fun w' hm' => x_mul rfl rfl) ?_)
       refine QW.cons rfl (QP.val (v := (.pointer (some ⟨b193, 0, none⟩))) rfl (fun w' hm' => x_fieldAddr (fsz := 1) 0 0 0 U32 rfl Tryd_T2 rfl rfl rfl) ?_)
       refine QW.cons rfl (QP.val (v := (.int .i64 x181.Wind)) rfl (fun w' hm' => x_load1 U2 rfl rfl ((hL.call hm').cellB 0 rfl rfl)) ?_)
       refine QW.cons rfl (QP.val (v := (.pointer (some ⟨b191, 0, none⟩))) rfl (fun w' hm' => x_fieldAddr (fsz := 1) 0 0 0 U32 rfl Tryd_T2 rfl rfl rfl) ?_)
       refine QW.cons rfl (QP.val (v := (.int .i64 x174.Wind)) rfl (fun w' hm' => x_load1 U2 rfl rfl ((hL.call hm').cellB 1 rfl rfl)) ?_)
       refine QW.cons rfl (QP.val (v := (.int .i64 (w64 (x181.Wind - x174.Wind)))) rfl (fun w' hm' => x_sub rfl rfl) ?_)
       obtain ⟨x197, hx198, hm⟩ := bndE hm
       refine QW.cons rfl (QP.call (v := (.int .i64 x197)) rfl (fun w' hm' => x_call (vs := [(.int .i64 (w64 ((w64 (x181.Pace - x174.Pace)) * (w64 (a1 - x174.Wind))))), (.int .i64 (w64 (x181.Wind - x174.Wind)))]) Tryd_C44 ⟨rfl, rfl, trivial⟩) (fun w' hm' => (M.spec_l01Floor_ok w' (w64 ((w64 (x181.Pace - x174.Pace)) * (w64 (a1 - x174.Wind)))) (w64 (x181.Wind - x174.Wind)) hx198).mono (fun e w'' h => ⟨h.1, hm'.trans h.2.mod⟩)) ?_)
       refine QW.cons rfl (QP.val (v := (.int .i64 (w64 (x174.Pace + x197)))) rfl (fun w' hm' => x_add rfl rfl) ?_)
       refine QW.cons rfl (QP.val (v := (.int .i64 (w64 (x174.Pace + x197)))) rfl (fun w' hm' => x_assign) ?_)
       refine QW.nil ?_
       intro wd199 hmod
       have hL := hL.call hmod
       refine DW.done (by kernel_rfl) ?_
       refine CW.ret ?_
       obtain rfl := Option.some.inj hm
       have hm := hr133 _ rfl
       obtain rfl := Option.some.inj hm
       exact RR1 rfl rfl ⟨rfl, hL.fresh 2 rfl [] (by decide) (by decide) rfl⟩
     refine CW.skip ?_
     refine CW.regionL ?_
     refine OV (.int .i64 s_l1) rfl (x_mv f152) ?_
     refine OV (.int .i64 (w64 (s_l1 + 1))) rfl (x_add rfl rfl) ?_
     refine OV (.int .i64 (w64 (s_l1 + 1))) rfl (x_assign) ?_
     refine OW.nil ?_
     have hL := hL.sel [2] (by decide) rfl
     obtain rfl := Option.some.inj hm
     exact ⟨_, rfl, ⟨f150, f151, rfl, hL⟩⟩
   refine ⟨_, rfl, ?_⟩
   refine S_alloc (cs := #[(.int .i64 0), (.int .i64 0)]) hL Tryd_T32 rfl rfl ?_
   intro wd200 b201 hL
   refine ⟨(hL.sel [1] (by decide) rfl), ?_⟩
   refine DH.only 9 rfl (by kernel_rfl) (S_alloc (cs := #[(.int .i64 0), (.int .i64 0)]) hL Tryd_T32 rfl rfl ?_)
   intro wd202 b203 hL
   refine ⟨(hL.sel [2] (by decide) rfl), ?_⟩
   refine DH.only 11 rfl (by kernel_rfl) (S_storeN (l := [(.int .i64 x174.Wind), (.int .i64 x174.Pace)]) (cs' := #[(.int .i64 x174.Wind), (.int .i64 x174.Pace)]) hL 0 rfl Tryd_T32 rfl rfl (List.forall_mem_cons.2 ⟨rfl, (List.forall_mem_cons.2 ⟨rfl, (fun _ h => by cases h)⟩)⟩) rfl (Nat.le_of_ble_eq_true rfl) rfl ?_)
   intro wd204 hL
   refine ⟨(hL.sel [2] (by decide) rfl), ?_⟩
   refine DH.only 12 rfl (by kernel_rfl) (S_storeN (l := [(.int .i64 x181.Wind), (.int .i64 x181.Pace)]) (cs' := #[(.int .i64 x181.Wind), (.int .i64 x181.Pace)]) hL 1 rfl Tryd_T32 rfl rfl (List.forall_mem_cons.2 ⟨rfl, (List.forall_mem_cons.2 ⟨rfl, (fun _ h => by cases h)⟩)⟩) rfl (Nat.le_of_ble_eq_true rfl) rfl ?_)
   intro wd205 hL
   refine ⟨(hL.sel [2] (by decide) rfl), ?_⟩
   refine DH.done (by kernel_rfl) ?_
   refine CSR ?_
   refine OV (.int .i64 a1) rfl (x_mv f151) ?_
   refine OV (.pointer (some ⟨b201, 0, none⟩)) rfl (x_fieldAddr (fsz := 1) 0 0 0 U32 rfl Tryd_T2 rfl rfl rfl) ?_
   refine OV (.int .i64 x181.Wind) rfl (x_load1 U2 rfl rfl (hL.cellB 1 rfl rfl)) ?_
   refine OV (.bool (decide (a1 ≤ x181.Wind))) rfl (x_leq rfl rfl) ?_
   refine OW.nil ?_
   refine CW.condM (t := decide (a1 ≤ x181.Wind)) rfl hm (fun hb206 hm => ?_) (fun hb206 hm => ?_)
   · refine CW.seq ?_
     refine CW.draw Tryd_mixed ?_
     have hL := hL.call (Mod.drew _)
     refine DW.pre (fuel := 0) (fin := bma 20 1048575) (C := fun w' => Mod None_ _ w') [0, 1, 2, 3, 4, 5, 6, 7, 8, 9, 10, 11, 12, 13, 14, 15, 16, 17, 18, 19] (Mod.refl _ _) (by kernel_rfl) (by kernel_rfl) ?_
     refine QW.cons rfl (QP.val (v := (.pointer (some ⟨b203, 1, none⟩))) rfl (fun w' hm' => x_fieldAddr (fsz := 1) 0 1 1 U32 rfl Tryd_T2 rfl rfl rfl) ?_)
     refine QW.cons rfl (QP.val (v := (.int .i64 x174.Pace)) rfl (fun w' hm' => x_load1 U2 rfl rfl ((hL.call hm').cellB 0 rfl rfl)) ?_)
     refine QW.cons rfl (QP.val (v := (.pointer (some ⟨b201, 1, none⟩))) rfl (fun w' hm' => x_fieldAddr (fsz := 1) 0 1 1 U32 rfl Tryd_T2 rfl rfl rfl) ?_)
     refine QW.cons rfl (QP.val (v := (.int .i64 x181.Pace)) rfl (fun w' hm' => x_load1 U2 rfl rfl ((hL.call hm').cellB 1 rfl rfl)) ?_)
     refine QW.cons rfl (QP.val (v := (.pointer (some ⟨b203, 1, none⟩))) rfl (fun w' hm' => x_fieldAddr (fsz := 1) 0 1 1 U32 rfl Tryd_T2 rfl rfl rfl) ?_)
     refine QW.cons rfl (QP.val (v := (.int .i64 x174.Pace)) rfl (fun w' hm' => x_load1 U2 rfl rfl ((hL.call hm').cellB 0 rfl rfl)) ?_)
     refine QW.cons rfl (QP.val (v := (.int .i64 (w64 (x181.Pace - x174.Pace)))) rfl (fun w' hm' => x_sub rfl rfl) ?_)
     refine QW.cons rfl (QP.val (v := (.int .i64 a1)) rfl (fun w' hm' => x_mv f151) ?_)
     refine QW.cons rfl (QP.val (v := (.pointer (some ⟨b203, 0, none⟩))) rfl (fun w' hm' => x_fieldAddr (fsz := 1) 0 0 0 U32 rfl Tryd_T2 rfl rfl rfl) ?_)
     refine QW.cons rfl (QP.val (v := (.int .i64 x174.Wind)) rfl (fun w' hm' => x_load1 U2 rfl rfl ((hL.call hm').cellB 0 rfl rfl)) ?_)
     refine QW.cons rfl (QP.val (v := (.int .i64 (w64 (a1 - x174.Wind)))) rfl (fun w' hm' => x_sub rfl rfl) ?_)
     refine QW.cons rfl (QP.val (v := (.int .i64 (w64 ((w64 (x181.Pace - x174.Pace)) * (w64 (a1 - x174.Wind)))))) rfl (fun w' hm' => x_mul rfl rfl) ?_)
     refine QW.cons rfl (QP.val (v := (.pointer (some ⟨b201, 0, none⟩))) rfl (fun w' hm' => x_fieldAddr (fsz := 1) 0 0 0 U32 rfl Tryd_T2 rfl rfl rfl) ?_)
     refine QW.cons rfl (QP.val (v := (.int .i64 x181.Wind)) rfl (fun w' hm' => x_load1 U2 rfl rfl ((hL.call hm').cellB 1 rfl rfl)) ?_)
     refine QW.cons rfl (QP.val (v := (.pointer (some ⟨b203, 0, none⟩))) rfl (fun w' hm' => x_fieldAddr (fsz := 1) 0 0 0 U32 rfl Tryd_T2 rfl rfl rfl) ?_)
     refine QW.cons rfl (QP.val (v := (.int .i64 x174.Wind)) rfl (fun w' hm' => x_load1 U2 rfl rfl ((hL.call hm').cellB 0 rfl rfl)) ?_)
     refine QW.cons rfl (QP.val (v := (.int .i64 (w64 (x181.Wind - x174.Wind)))) rfl (fun w' hm' => x_sub rfl rfl) ?_)
     obtain ⟨x207, hx208, hm⟩ := bndE hm
     refine QW.cons rfl (QP.call (v := (.int .i64 x207)) rfl (fun w' hm' => x_call (vs := [(.int .i64 (w64 ((w64 (x181.Pace - x174.Pace)) * (w64 (a1 - x174.Wind))))), (.int .i64 (w64 (x181.Wind - x174.Wind)))]) Tryd_C44 ⟨rfl, rfl, trivial⟩) (fun w' hm' => (M.spec_l01Floor_ok w' (w64 ((w64 (x181.Pace - x174.Pace)) * (w64 (a1 - x174.Wind)))) (w64 (x181.Wind - x174.Wind)) hx208).mono (fun e w'' h => ⟨h.1, hm'.trans h.2.mod⟩)) ?_)
     refine QW.cons rfl (QP.val (v := (.int .i64 (w64 (x174.Pace + x207)))) rfl (fun w' hm' => x_add rfl rfl) ?_)
     refine QW.cons rfl (QP.val (v := (.int .i64 (w64 (x174.Pace + x207)))) rfl (fun w' hm' => x_assign) ?_)
     refine QW.nil ?_
     intro wd209 hmod
     have hL := hL.call hmod
     refine DW.done (by kernel_rfl) ?_
     refine CW.ret ?_
     obtain rfl := Option.some.inj hm
     have hm := hr133 _ rfl
     obtain rfl := Option.some.inj hm
     exact RR1 rfl rfl ⟨rfl, hL.fresh 2 rfl [] (by decide) (by decide) rfl⟩
   refine CW.skip ?_
   refine CW.regionL ?_
   refine OV (.int .i64 s_l1) rfl (x_mv f152) ?_
   refine OV (.int .i64 (w64 (s_l1 + 1))) rfl (x_add rfl rfl) ?_
   refine OV (.int .i64 (w64 (s_l1 + 1))) rfl (x_assign) ?_
   refine OW.nil ?_
   have hL := hL.sel [2] (by decide) rfl
   obtain rfl := Option.some.inj hm
   exact ⟨_, rfl, ⟨f150, f151, rfl, hL⟩⟩
 refine CW.exit ?_
 refine XJ.hit ?_
 obtain rfl := Option.some.inj hm
 exact ⟨_, rfl, ⟨f150, f151, f152, hL⟩⟩

theorem M.spec_l01Abs_ok (w0 : World) (a0 : Int) {r : Int} (hm : M.spec_l01Abs a0 = some r) :
    Calls Tryd.prog 35 #[(.int .i64 a0)] w0 fun e w' => e = .returned (.int .i64 r) ∧ Fresh w0 w' [] := by
 unfold M.spec_l01Abs at hm
 refine calls_CW (args := [(.int .i64 a0)]) Tryd.func35 rfl rfl rfl ?_
 have hL := Hp.start w0
 refine CSR ?_
 refine OV (.int .i64 0) rfl (x_assign) ?_
 refine ONR ?_
 refine OV (.int .i64 a0) rfl (x_move) ?_
 refine OV (.int .i64 a0) rfl (x_move) ?_
 refine OV (.int .i64 (w64 (0 - a0))) rfl (x_neg rfl) ?_
 refine OV (.int .i64 (max a0 (w64 (0 - a0)))) rfl (x_max2 rfl rfl) ?_
 refine OV (.int .i64 (max a0 (w64 (0 - a0)))) rfl (x_assign) ?_
 refine OW.nil ?_
 refine CW.ret ?_
 obtain rfl := Option.some.inj hm
 exact RR1 rfl rfl ⟨rfl, hL.fresh 0 rfl [] (by decide) (by decide) rfl⟩

theorem M.spec_l24Near_ok (w0 : World) (a0 : List CurvePoint) {v1 : Value} (h2 : rdL (· < w0.heap.size) w0 v1 a0) (a1 : Int) (a2 : Int) (a3 : Int) {r : Bool} (hm : M.spec_l24Near a0 a1 a2 a3 = some r) :
    Calls Tryd.prog 23 #[v1, (.int .i64 a1), (.int .i64 a2), (.int .i64 a3)] w0 fun e w' => e = .returned (.bool r) ∧ Fresh w0 w' [] := by
 unfold M.spec_l24Near at hm
 refine calls_CW (args := [v1, (.int .i64 a1), (.int .i64 a2), (.int .i64 a3)]) Tryd.func23 rfl rfl rfl ?_
 have hL := Hp.start w0
 refine CSR ?_
 refine OV (.bool false) rfl (x_assign) ?_
 refine ONS ?_
 refine CW.drawH (fun w' => Hp w0 [Ent.snap w0 w0.heap.size] w') Tryd_mixed ?_
 have hL := hL.call (Mod.drew _)
 have hS := (hL.sel [0] (by decide) rfl)
 refine DH.take 0 rfl (by kernel_rfl) (by kernel_rfl) (by kernel_rfl) rfl rfl hS (YH.val (v := v1) (fun w' hS' => x_move)) ?_
 have hS := (hL.sel [0] (by decide) rfl)
 refine DH.take 1 rfl (by kernel_rfl) (by kernel_rfl) (by kernel_rfl) rfl rfl hS (YH.val (v := (.int .i64 a1)) (fun w' hS' => x_move)) ?_
 have hS := (hL.sel [0] (by decide) rfl)
 obtain ⟨x20, ha21, hm⟩ := bndE hm
 obtain ⟨hz22, ha26⟩ := idxE ha21
 obtain ⟨b23, q24, hix25⟩ := rdL_ix (hL.rdS 0 rfl h2) hz22 ha26
 refine DH.take 2 rfl (by kernel_rfl) (by kernel_rfl) (by kernel_rfl) rfl rfl hS (YH.val (v := (.pointer (some ⟨b23, q24, none⟩))) (fun w' hS' => x_ix U24 Tryd_T32 rfl rfl hix25)) ?_
 have hS := (hL.sel [0] (by decide) rfl)
 refine DH.take 3 rfl (by kernel_rfl) (by kernel_rfl) (by kernel_rfl) rfl rfl hS (YH.val (v := (.agg #[(.int .i64 x20.Wind), (.int .i64 x20.Pace)])) (fun w' hS' => x_loadN (cs := [(.int .i64 x20.Wind), (.int .i64 x20.Pace)]) U32 Tryd_T32 rfl rfl (rdF_cells (hS'.rdS 0 rfl h2) hix25 ha26))) ?_
 have hS := (hL.sel [0] (by decide) rfl)
 refine DH.take 4 rfl (by kernel_rfl) (by kernel_rfl) (by kernel_rfl) rfl rfl hS (YH.val (v := v1) (fun w' hS' => x_move)) ?_
 have hS := (hL.sel [0] (by decide) rfl)
 refine DH.take 5 rfl (by kernel_rfl) (by kernel_rfl) (by kernel_rfl) rfl rfl hS (YH.val (v := (.int .i64 a2)) (fun w' hS' => x_move)) ?_
 have hS := (hL.sel [0] (by decide) rfl)
 obtain ⟨x27, ha28, hm⟩ := bndE hm
 obtain ⟨hz29, ha33⟩ := idxE ha28
 obtain ⟨b30, q31, hix32⟩ := rdL_ix (hL.rdS 0 rfl h2) hz29 ha33
 refine DH.take 6 rfl (by kernel_rfl) (by kernel_rfl) (by kernel_rfl) rfl rfl hS (YH.val (v := (.pointer (some ⟨b30, q31, none⟩))) (fun w' hS' => x_ix U24 Tryd_T32 rfl rfl hix32)) ?_
 have hS := (hL.sel [0] (by decide) rfl)
 refine DH.take 7 rfl (by kernel_rfl) (by kernel_rfl) (by kernel_rfl) rfl rfl hS (YH.val (v := (.agg #[(.int .i64 x27.Wind), (.int .i64 x27.Pace)])) (fun w' hS' => x_loadN (cs := [(.int .i64 x27.Wind), (.int .i64 x27.Pace)]) U32 Tryd_T32 rfl rfl (rdF_cells (hS'.rdS 0 rfl h2) hix32 ha33))) ?_
 refine DH.only 8 rfl (by kernel_rfl) (S_lit ([x20, x27] : List CurvePoint) hL U24 Tryd_T32 rfl (by decide) (by first | (simp [Instr.fill, madeCells, Value.cells, ev, upd, Flat.enc, Flat.sz]; done) | rfl | kernel_rfl) rfl rfl ?_)
 intro wd34 v35 S36 hL
 refine ⟨(hL.sel [1] (by decide) rfl), ?_⟩
 have hS := (hL.sel [1] (by decide) rfl)
 refine DH.take 9 rfl (by kernel_rfl) (by kernel_rfl) (by kernel_rfl) rfl rfl hS (YH.val (v := v35) (fun w' hS' => x_assign)) ?_
 refine DH.done (by kernel_rfl) ?_
 refine CW.seq ?_
 refine CSR ?_
 refine OV (.int .i64 a1) rfl (x_move) ?_
 refine OV (.int .i64 (w64 (a1 + 1))) rfl (x_add rfl rfl) ?_
 refine OV (.int .i64 (w64 (a1 + 1))) rfl (x_assign) ?_
 refine OW.nil ?_
 obtain ⟨o81, ho82, hm⟩ := bndE hm
 refine CW.loopB (fun (s_l1 : Int) (F : Fr) (w : World) => F 0 = v1 ∧ F 2 = (.int .i64 a2) ∧ F 3 = (.int .i64 a3) ∧ F 9 = v35 ∧ F 10 = (.int .i64 s_l1) ∧ Hp w0 [Ent.own 32 S36 v35 ([x20, x27] : List CurvePoint), Ent.snap w0 w0.heap.size] w) (fun o => outc o (fun x => some x) (fun s => M.spec_l24Near_a1 s) = some r) ho82 hm ⟨rfl, rfl, rfl, rfl, rfl, hL⟩ ?_ ?_
 · intro s_l1 F83 wd84 hJ hm
   have hm := outcE hm
   have hm : M.spec_l24Near_a1 s_l1 = some r := hm
   unfold M.spec_l24Near_a1 at hm
   obtain ⟨f85, f86, f87, f88, f89, hL⟩ := hJ
   refine CSR ?_
   refine OV (.bool true) rfl (x_assign) ?_
   refine OW.nil ?_
   refine CW.ret ?_
   obtain rfl := Option.some.inj hm
   exact RR1 rfl rfl ⟨rfl, hL.fresh 1 rfl [] (by decide) (by decide) rfl⟩
 intro s_l1 F90 wd91 t79 hJ hm hr80
 unfold M.spec_l24Near_l1 at hm
 obtain ⟨f92, f93, f94, f95, f96, hL⟩ := hJ
 refine CW.seq ?_
 refine CSR ?_
 refine OV (.int .i64 s_l1) rfl (x_mv f96) ?_
 refine OV (.int .i64 a2) rfl (x_mv f93) ?_
 refine OV (.bool (decide (s_l1 < a2))) rfl (x_lss rfl rfl) ?_
 refine OW.nil ?_
 refine CW.condM (t := decide (s_l1 < a2)) rfl hm (fun hb97 hm => ?_) (fun hb97 hm => ?_)
 · refine CW.skip ?_
   refine CW.seq ?_
   refine CW.block ?_
   refine CW.seq ?_
   refine CW.draw Tryd_mixed ?_
   have hL := hL.call (Mod.drew _)
   refine DW.pre (fuel := 0) (fin := bma 16 65535) (C := fun w' => Mod None_ _ w') [0, 1, 2, 3, 4, 5, 6, 7, 8, 9, 10, 11, 12, 13, 14, 15] (Mod.refl _ _) (by kernel_rfl) (by kernel_rfl) ?_
   refine QW.cons rfl (QP.val (v := v35) rfl (fun w' hm' => x_mv f95) ?_)
   refine QW.cons rfl (QP.val (v := v1) rfl (fun w' hm' => x_mv f92) ?_)
   refine QW.cons rfl (QP.val (v := (.int .i64 s_l1)) rfl (fun w' hm' => x_mv f96) ?_)
   obtain ⟨x98, ha99, hm⟩ := bndE hm
   obtain ⟨hz100, ha104⟩ := idxE ha99
   obtain ⟨b101, q102, hix103⟩ := rdL_ix (hL.rdS 1 rfl h2) hz100 ha104
   refine QW.cons rfl (QP.val (v := (.pointer (some ⟨b101, q102, none⟩))) rfl (fun w' hm' => x_ix U24 Tryd_T32 rfl rfl hix103) ?_)
   refine QW.cons rfl (QP.val (v := (.pointer (some ⟨b101, q102, none⟩))) rfl (fun w' hm' => x_fieldAddr (fsz := 1) q102 0 q102 U32 rfl Tryd_T2 rfl rfl rfl) ?_)
   refine QW.cons rfl (QP.val (v := (.int .i64 x98.Wind)) rfl (fun w' hm' => x_load1 U2 rfl rfl (rdF_cells ((hL.call hm').rdS 1 rfl h2) hix103 ha104 0 _ rfl)) ?_)
   obtain ⟨x105, hx106, hm⟩ := bndE hm
   refine QW.cons rfl (QP.call (v := (.int .i64 x105)) rfl (fun w' hm' => x_call (vs := [v35, (.int .i64 x98.Wind)]) Tryd_C36 ⟨rfl, rfl, trivial⟩) (fun w' hm' => (M.spec_l24Pace_ok w' ([x20, x27] : List CurvePoint) ((hL.call hm').rdO 0 rfl) x98.Wind hx106).mono (fun e w'' h => ⟨h.1, hm'.trans h.2.mod⟩)) ?_)
   refine QW.cons rfl (QP.val (v := v1) rfl (fun w' hm' => x_mv f92) ?_)
   refine QW.cons rfl (QP.val (v := (.int .i64 s_l1)) rfl (fun w' hm' => x_mv f96) ?_)
   obtain ⟨x107, ha108, hm⟩ := bndE hm
   obtain ⟨hz109, ha113⟩ := idxE ha108
   obtain ⟨b110, q111, hix112⟩ := rdL_ix (hL.rdS 1 rfl h2) hz109 ha113
   refine QW.cons rfl (QP.val (v := (.pointer (some ⟨b110, q111, none⟩))) rfl (fun w' hm' => x_ix U24 Tryd_T32 rfl rfl hix112) ?_)
   refine QW.cons rfl (QP.val (v := (.pointer (some ⟨b110, q111 + 1, none⟩))) rfl (fun w' hm' => x_fieldAddr (fsz := 1) q111 1 (q111 + 1) U32 rfl Tryd_T2 rfl rfl rfl) ?_)
   refine QW.cons rfl (QP.val (v := (.int .i64 x107.Pace)) rfl (fun w' hm' => x_load1 U2 rfl rfl (rdF_cells ((hL.call hm').rdS 1 rfl h2) hix112 ha113 1 _ rfl)) ?_)
   refine QW.cons rfl (QP.val (v := (.int .i64 (w64 (x105 - x107.Pace)))) rfl (fun w' hm' => x_sub rfl rfl) ?_)
   obtain ⟨x114, hx115, hm⟩ := bndE hm
   refine QW.cons rfl (QP.call (v := (.int .i64 x114)) rfl (fun w' hm' => x_call (vs := [(.int .i64 (w64 (x105 - x107.Pace)))]) Tryd_C35 ⟨rfl, trivial⟩) (fun w' hm' => (M.spec_l01Abs_ok w' (w64 (x105 - x107.Pace)) hx115).mono (fun e w'' h => ⟨h.1, hm'.trans h.2.mod⟩)) ?_)
   refine QW.cons rfl (QP.val (v := (.int .i64 a3)) rfl (fun w' hm' => x_mv f94) ?_)
   refine QW.cons rfl (QP.val (v := (.bool (decide (a3 < x114)))) rfl (fun w' hm' => x_gtr rfl rfl) ?_)
   refine QW.nil ?_
   intro wd116 hmod
   have hL := hL.call hmod
   refine DW.done (by kernel_rfl) ?_
   refine CW.condM (t := decide (a3 < x114)) rfl hm (fun hb117 hm => ?_) (fun hb117 hm => ?_)
   · refine CSR ?_
     refine OV (.bool false) rfl (x_assign) ?_
     refine OW.nil ?_
     refine CW.ret ?_
     obtain rfl := Option.some.inj hm
     have hm := hr80 _ rfl
     obtain rfl := Option.some.inj hm
     exact RR1 rfl rfl ⟨rfl, hL.fresh 1 rfl [] (by decide) (by decide) rfl⟩
   refine CW.skip ?_
   refine CW.regionL ?_
   refine OV (.int .i64 s_l1) rfl (x_mv f96) ?_
   refine OV (.int .i64 (w64 (s_l1 + 1))) rfl (x_add rfl rfl) ?_
   refine OV (.int .i64 (w64 (s_l1 + 1))) rfl (x_assign) ?_
   refine OW.nil ?_
   obtain rfl := Option.some.inj hm
   exact ⟨_, rfl, ⟨f92, f93, f94, f95, rfl, hL⟩⟩
 refine CW.exit ?_
 refine XJ.hit ?_
 obtain rfl := Option.some.inj hm
 exact ⟨_, rfl, ⟨f92, f93, f94, f95, f96, hL⟩⟩

end Go.Proofs.YtngegaodnokmbaaDoor
