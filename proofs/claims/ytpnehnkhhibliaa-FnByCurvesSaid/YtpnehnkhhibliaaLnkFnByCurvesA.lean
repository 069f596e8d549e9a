/- Links: each Go function returns what its model computes and leaves what was there. Printed by my generator. -/
import Derived.Test.YtpnehnkhhibliaaMod3
import Derived.Test.YtpnehnkhhibliaaBase6
import Derived.Test.YtpnehnkhhibliaaProg
import Derived.KernelRfl
namespace Go.Proofs.Ytpnehnkhhibliaa
set_option maxRecDepth 10000
open Go Go.RowKit Go.ChangeShapes Go.WideShapes
set_option linter.unusedVariables false
set_option linter.unusedSimpArgs false

theorem Try_mixed : Try.prog.follows .mixedOrders = true := by kernel_rfl
theorem Try_T2 : TyI Try.prog 2 1 8 (.int .i64 0) := by unfold TyI; kernel_rfl
theorem Try_T3 : TyI Try.prog 3 1 8 (.int .i64 0) := by unfold TyI; kernel_rfl
theorem Try_T5 : TyI Try.prog 5 1 1 (.int .u8 0) := by unfold TyI; kernel_rfl
theorem Try_T22 : TyI Try.prog 22 1 24 (.slice none 0 0) := by unfold TyI; kernel_rfl
theorem Try_T31 : TyI Try.prog 31 3 24 (.agg #[.int .i64 0, .int .i64 0, .int .i64 0]) := by unfold TyI; kernel_rfl
theorem Try_T34 : TyI Try.prog 34 1 24 (.slice none 0 0) := by unfold TyI; kernel_rfl
theorem Try_T46 : TyI Try.prog 46 1 24 (.slice none 0 0) := by unfold TyI; kernel_rfl
theorem Try_T62 : TyI Try.prog 62 2 16 (.agg #[.int .i64 0, .int .i64 0]) := by unfold TyI; kernel_rfl
theorem Try_T70 : TyI Try.prog 70 3 24 (.agg #[.int .i64 0, .int .i64 0, .int .i64 0]) := by unfold TyI; kernel_rfl
theorem Try_T75 : TyI Try.prog 75 2 16 (.agg #[.int .i64 0, .int .i64 0]) := by unfold TyI; kernel_rfl
theorem Try_B31 : BuildI Try.prog 31 [(0, 1), (1, 1), (2, 1)] #[.int .i64 0, .int .i64 0, .int .i64 0] := by unfold BuildI; kernel_rfl
theorem Try_B62 : BuildI Try.prog 62 [(0, 1), (1, 1)] #[.int .i64 0, .int .i64 0] := by unfold BuildI; kernel_rfl
theorem Try_B83 : BuildI Try.prog 83 [(0, 1), (1, 1), (2, 1)] #[.slice none 0 0, .int .i64 0, .int .i64 0] := by unfold BuildI; kernel_rfl
theorem Try_C6 : CallOK Try.prog 6 := ⟨_, _, Try.func6, rfl, by kernel_rfl⟩
theorem Try_C7 : CallOK Try.prog 7 := ⟨_, _, Try.func7, rfl, by kernel_rfl⟩
theorem Try_C8 : CallOK Try.prog 8 := ⟨_, _, Try.func8, rfl, by kernel_rfl⟩
theorem Try_C9 : CallOK Try.prog 9 := ⟨_, _, Try.func9, rfl, by kernel_rfl⟩
theorem Try_C10 : CallOK Try.prog 10 := ⟨_, _, Try.func10, rfl, by kernel_rfl⟩
theorem Try_C11 : CallOK Try.prog 11 := ⟨_, _, Try.func11, rfl, by kernel_rfl⟩
theorem Try_C12 : CallOK Try.prog 12 := ⟨_, _, Try.func12, rfl, by kernel_rfl⟩
theorem Try_C13 : CallOK Try.prog 13 := ⟨_, _, Try.func13, rfl, by kernel_rfl⟩
theorem Try_C14 : CallOK Try.prog 14 := ⟨_, _, Try.func14, rfl, by kernel_rfl⟩
theorem Try_C15 : CallOK Try.prog 15 := ⟨_, _, Try.func15, rfl, by kernel_rfl⟩
theorem Try_C16 : CallOK Try.prog 16 := ⟨_, _, Try.func16, rfl, by kernel_rfl⟩
theorem Try_C17 : CallOK Try.prog 17 := ⟨_, _, Try.func17, rfl, by kernel_rfl⟩
theorem Try_C18 : CallOK Try.prog 18 := ⟨_, _, Try.func18, rfl, by kernel_rfl⟩
theorem Try_C19 : CallOK Try.prog 19 := ⟨_, _, Try.func19, rfl, by kernel_rfl⟩
theorem Try_C20 : CallOK Try.prog 20 := ⟨_, _, Try.func20, rfl, by kernel_rfl⟩
theorem Try_C21 : CallOK Try.prog 21 := ⟨_, _, Try.func21, rfl, by kernel_rfl⟩
theorem Try_C22 : CallOK Try.prog 22 := ⟨_, _, Try.func22, rfl, by kernel_rfl⟩
theorem Try_C24 : CallOK Try.prog 24 := ⟨_, _, Try.func24, rfl, by kernel_rfl⟩
theorem Try_C25 : CallOK Try.prog 25 := ⟨_, _, Try.func25, rfl, by kernel_rfl⟩
theorem Try_C27 : CallOK Try.prog 27 := ⟨_, _, Try.func27, rfl, by kernel_rfl⟩
theorem Try_C28 : CallOK Try.prog 28 := ⟨_, _, Try.func28, rfl, by kernel_rfl⟩
theorem Try_C29 : CallOK Try.prog 29 := ⟨_, _, Try.func29, rfl, by kernel_rfl⟩
theorem Try_C30 : CallOK Try.prog 30 := ⟨_, _, Try.func30, rfl, by kernel_rfl⟩
theorem Try_C31 : CallOK Try.prog 31 := ⟨_, _, Try.func31, rfl, by kernel_rfl⟩
theorem Try_C32 : CallOK Try.prog 32 := ⟨_, _, Try.func32, rfl, by kernel_rfl⟩
theorem Try_C33 : CallOK Try.prog 33 := ⟨_, _, Try.func33, rfl, by kernel_rfl⟩
theorem Try_C34 : CallOK Try.prog 34 := ⟨_, _, Try.func34, rfl, by kernel_rfl⟩
theorem Try_C35 : CallOK Try.prog 35 := ⟨_, _, Try.func35, rfl, by kernel_rfl⟩
theorem Try_C36 : CallOK Try.prog 36 := ⟨_, _, Try.func36, rfl, by kernel_rfl⟩
theorem Try_C37 : CallOK Try.prog 37 := ⟨_, _, Try.func37, rfl, by kernel_rfl⟩
theorem Try_C38 : CallOK Try.prog 38 := ⟨_, _, Try.func38, rfl, by kernel_rfl⟩
theorem Try_C39 : CallOK Try.prog 39 := ⟨_, _, Try.func39, rfl, by kernel_rfl⟩
theorem Try_C40 : CallOK Try.prog 40 := ⟨_, _, Try.func40, rfl, by kernel_rfl⟩
theorem Try_C41 : CallOK Try.prog 41 := ⟨_, _, Try.func41, rfl, by kernel_rfl⟩
theorem Try_C42 : CallOK Try.prog 42 := ⟨_, _, Try.func42, rfl, by kernel_rfl⟩
theorem Try_C43 : CallOK Try.prog 43 := ⟨_, _, Try.func43, rfl, by kernel_rfl⟩
theorem Try_C44 : CallOK Try.prog 44 := ⟨_, _, Try.func44, rfl, by kernel_rfl⟩
theorem Try_C45 : CallOK Try.prog 45 := ⟨_, _, Try.func45, rfl, by kernel_rfl⟩
theorem Try_C46 : CallOK Try.prog 46 := ⟨_, _, Try.func46, rfl, by kernel_rfl⟩
theorem Try_C47 : CallOK Try.prog 47 := ⟨_, _, Try.func47, rfl, by kernel_rfl⟩
theorem Try_C48 : CallOK Try.prog 48 := ⟨_, _, Try.func48, rfl, by kernel_rfl⟩
theorem Try_C51 : CallOK Try.prog 51 := ⟨_, _, Try.func51, rfl, by kernel_rfl⟩
theorem Try_C53 : CallOK Try.prog 53 := ⟨_, _, Try.func53, rfl, by kernel_rfl⟩
theorem Try_C54 : CallOK Try.prog 54 := ⟨_, _, Try.func54, rfl, by kernel_rfl⟩
theorem Try_C55 : CallOK Try.prog 55 := ⟨_, _, Try.func55, rfl, by kernel_rfl⟩
theorem Try_C56 : CallOK Try.prog 56 := ⟨_, _, Try.func56, rfl, by kernel_rfl⟩
theorem Try_C57 : CallOK Try.prog 57 := ⟨_, _, Try.func57, rfl, by kernel_rfl⟩
theorem Try_C58 : CallOK Try.prog 58 := ⟨_, _, Try.func58, rfl, by kernel_rfl⟩
theorem Try_C59 : CallOK Try.prog 59 := ⟨_, _, Try.func59, rfl, by kernel_rfl⟩
theorem Try_C60 : CallOK Try.prog 60 := ⟨_, _, Try.func60, rfl, by kernel_rfl⟩
theorem Try_C61 : CallOK Try.prog 61 := ⟨_, _, Try.func61, rfl, by kernel_rfl⟩
theorem Try_C62 : CallOK Try.prog 62 := ⟨_, _, Try.func62, rfl, by kernel_rfl⟩
theorem Try_C65 : CallOK Try.prog 65 := ⟨_, _, Try.func65, rfl, by kernel_rfl⟩
theorem Try_C66 : CallOK Try.prog 66 := ⟨_, _, Try.func66, rfl, by kernel_rfl⟩
theorem Try_C67 : CallOK Try.prog 67 := ⟨_, _, Try.func67, rfl, by kernel_rfl⟩
theorem Try_C68 : CallOK Try.prog 68 := ⟨_, _, Try.func68, rfl, by kernel_rfl⟩
theorem Try_C69 : CallOK Try.prog 69 := ⟨_, _, Try.func69, rfl, by kernel_rfl⟩

theorem M.laws_big_ok (w0 : World) (a0 : List UInt8) {v1 : Value} (h2 : rdL (· < w0.heap.size) w0 v1 a0) {r : Bool} (hm : M.laws_big a0 = some r) :
    Calls Try.prog 6 #[v1] w0 fun e w' => e = .returned (.bool r) ∧ Fresh w0 w' [] := by
  unfold M.laws_big at hm
  refine calls_CW (args := [v1]) Try.func6 rfl rfl rfl ?_
  have hL := Hp.start w0
  refine CW.seq ?_
  refine CW.regionL ?_
  refine OW.cons (OP.val (v := (.bool false)) rfl (x_assign) ?_)
  refine OW.nil ?_
  refine CW.seq ?_
  refine CW.regionL ?_
  refine OW.cons (OP.val (v := v1) rfl (x_move) ?_)
  refine OW.cons (OP.val (v := (.int .i64 (a0.length : Int))) rfl (x_lenR Try.underlying22 rfl (hL.rdS 0 rfl h2)) ?_)
  refine OW.cons (OP.val (v := (.bool (decide (4096 < (a0.length : Int))))) rfl (x_gtr rfl rfl) ?_)
  refine OW.cons (OP.val (v := (.bool (decide (4096 < (a0.length : Int))))) rfl (x_assign) ?_)
  refine OW.nil ?_
  refine CW.ret ?_
  obtain rfl := Option.some.inj hm
  exact RR1 rfl rfl ⟨rfl, hL.fresh 0 rfl [] (by decide) (by decide) rfl⟩

theorem M.spec_l01From_ok (w0 : World) (a0 : List UInt8) {v1 : Value} (h2 : rdL (· < w0.heap.size) w0 v1 a0) {r : (Int × Int)} (hm : M.spec_l01From a0 = some r) :
    Calls Try.prog 27 #[v1] w0 fun e w' => ∃ rb : Nat, e = .returned (.pointer (some ⟨rb, 0, none⟩)) ∧ Fresh w0 w' [Ent.blk rb 83 #[v1, .int .i64 r.1, .int .i64 r.2]] := by
  unfold M.spec_l01From at hm
  refine calls_CW (args := [v1]) Try.func27 rfl rfl rfl ?_
  have hL := Hp.start w0
  refine CW.seq ?_
  refine CW.regionL ?_
  refine OW.cons (OP.val (v := (.pointer none)) rfl (x_assign) ?_)
  refine OW.nil ?_
  refine CW.seq ?_
  refine CW.regionL ?_
  refine OW.cons (OP.val (v := v1) rfl (x_move) ?_)
  refine OW.cons (OP.val (v := (.agg #[v1, (.int .i64 0), (.int .i64 61657)])) rfl (x_build Try_B83 (ps := [(0, v1), (2, (.int .i64 61657))]) ⟨⟨rfl, rfl⟩, ⟨rfl, rfl⟩, trivial⟩ (by simp [Instr.fill, cells_int, cells_bool, cells_string, cells_agg, cells_slice, cells_pointer, (rdL_cells (hL.rdS 0 rfl h2))])) ?_)
  refine OW.cons (S_box (cs := #[v1, (.int .i64 0), (.int .i64 61657)]) hL rfl rfl rfl ?_)
  intro wd3 b4 hL
  refine OW.cons (OP.val (v := (.pointer (some ⟨b4, 0, none⟩))) rfl (x_assign) ?_)
  refine OW.nil ?_
  refine CW.seq ?_
  refine CW.seq ?_
  refine CW.regionL ?_
  refine OW.cons (OP.val (v := (.int .i64 0)) rfl (x_assign) ?_)
  refine OW.nil ?_
  obtain ⟨o57, ho58, hm⟩ := bndE hm
  refine CW.loopB (fun (s_l1 : Int × Int) (F : Fr) (w : World) => F 0 = v1 ∧ F 3 = (.pointer (some ⟨b4, 0, none⟩)) ∧ F 4 = (.int .i64 s_l1.2) ∧ Hp w0 [Ent.blk b4 83 #[v1, (.int .i64 0), (.int .i64 s_l1.1)], Ent.snap w0 w0.heap.size] w) (fun o => outc o (fun x => some x) (fun s => M.spec_l01From_a1 s) = some r) ho58 hm ⟨rfl, rfl, rfl, hL⟩ ?_ ?_
  · intro s_l1 F59 wd60 hJ hm
    have hm := outcE hm
    have hm : M.spec_l01From_a1 s_l1 = some r := hm
    unfold M.spec_l01From_a1 at hm
    obtain ⟨f61, f62, f63, hL⟩ := hJ
    refine CW.seq ?_
    refine CW.regionL ?_
    refine OW.cons (OP.val (v := (.pointer (some ⟨b4, 0, none⟩))) rfl (x_mv f62) ?_)
    refine OW.cons (OP.val (v := (.pointer (some ⟨b4, 0, none⟩))) rfl (x_assign) ?_)
    refine OW.nil ?_
    refine CW.ret ?_
    obtain rfl := Option.some.inj hm
    exact RR1 rfl rfl ⟨b4, rfl, hL.fresh 1 rfl [0] (by decide) (by decide) rfl⟩
  · intro s_l1 F64 wd65 t55 hJ hm hr56
    unfold M.spec_l01From_l1 at hm
    obtain ⟨f66, f67, f68, hL⟩ := hJ
    refine CW.seq ?_
    refine CW.seqJ (fun (s_j1 : Bool) (F : Fr) (w : World) => F 0 = v1 ∧ F 3 = (.pointer (some ⟨b4, 0, none⟩)) ∧ F 4 = (.int .i64 s_l1.2) ∧ F 15 = (.bool s_j1) ∧ Hp w0 [Ent.blk b4 83 #[v1, (.int .i64 0), (.int .i64 s_l1.1)], Ent.snap w0 w0.heap.size] w) (fun s_j1 => M.spec_l01From_j1 a0 s_l1 s_j1 = some t55) ?_ ?_
    · refine CW.regionL ?_
      refine OW.cons (OP.val (v := (.int .i64 s_l1.2)) rfl (x_mv f68) ?_)
      refine OW.cons (OP.val (v := v1) rfl (x_mv f66) ?_)
      refine OW.cons (OP.val (v := (.int .i64 (a0.length : Int))) rfl (x_lenR Try.underlying22 rfl (hL.rdS 1 rfl h2)) ?_)
      refine OW.cons (OP.val (v := (.bool (decide (s_l1.2 < (a0.length : Int))))) rfl (x_lss rfl rfl) ?_)
      refine OW.cons (OP.val (v := (.bool (decide (s_l1.2 < (a0.length : Int))))) rfl (x_move) ?_)
      refine ifB_elim hm (fun hb93 hm => ?_) (fun hb93 hm => ?_)
      · refine OW.cons (OP.yes' rfl rfl hb93 (OP.val (v := (.int .i64 s_l1.2)) rfl (x_mv f68) ?_))
        refine OW.cons (OP.yes' rfl rfl hb93 (OP.val (v := (.bool (decide (s_l1.2 < 64)))) rfl (x_lss rfl rfl) ?_))
        refine OW.cons (OP.val (v := (.bool (decide (s_l1.2 < 64)))) rfl (x_pickT' rfl hb93 rfl) ?_)
        refine OW.nil ?_
        exact ⟨decide (s_l1.2 < 64), hm, ⟨f66, f67, f68, rfl, hL⟩⟩
      · refine OW.cons (OP.no' rfl rfl hb93 rfl ?_)
        refine OW.cons (OP.no' rfl rfl hb93 rfl ?_)
        refine OW.cons (OP.val (v := (.bool false)) rfl (x_pickF' rfl hb93 rfl) ?_)
        refine OW.nil ?_
        exact ⟨false, hm, ⟨f66, f67, f68, rfl, hL⟩⟩
    · intro s_j1 F70 wd71 hJ hm
      unfold M.spec_l01From_j1 at hm
      obtain ⟨f72, f73, f74, f75, hL⟩ := hJ
      refine CW.condM (t := s_j1) f75 hm (fun hb76 hm => ?_) (fun hb76 hm => ?_)
      · refine CW.skip ?_
        refine CW.seq ?_
        refine CW.block ?_
        refine CW.drawH (fun w' => Hp w0 [Ent.snap w0 w0.heap.size] w') Try_mixed ?_
        have hL := hL.call (Mod.drew _)
        have hS := (hL.sel [1] (by decide) rfl)
        refine DH.take 0 rfl (by kernel_rfl) (by kernel_rfl) (by kernel_rfl) rfl rfl hS (YH.val (v := (.pointer (some ⟨b4, 0, none⟩))) (fun w' hS' => x_mv f73)) ?_
        have hS := (hL.sel [1] (by decide) rfl)
        refine DH.take 1 rfl (by kernel_rfl) (by kernel_rfl) (by kernel_rfl) rfl rfl hS (YH.val (v := (.pointer (some ⟨b4, 0, none⟩))) (fun w' hS' => x_mv f73)) ?_
        have hS := (hL.sel [1] (by decide) rfl)
        refine DH.take 2 rfl (by kernel_rfl) (by kernel_rfl) (by kernel_rfl) rfl rfl hS (YH.val (v := (.pointer (some ⟨b4, 0, none⟩))) (fun w' hS' => x_nilCheck rfl)) ?_
        have hS := (hL.sel [1] (by decide) rfl)
        refine DH.take 3 rfl (by kernel_rfl) (by kernel_rfl) (by kernel_rfl) rfl rfl hS (YH.val (v := (.pointer (some ⟨b4, 2, none⟩))) (fun w' hS' => x_fieldAddr (fsz := 1) 0 2 2 Try.underlying83 rfl Try_T2 rfl rfl rfl)) ?_
        have hS := (hL.sel [1] (by decide) rfl)
        refine DH.take 6 rfl (by kernel_rfl) (by kernel_rfl) (by kernel_rfl) rfl rfl hS (YH.val (v := v1) (fun w' hS' => x_mv f72)) ?_
        have hS := (hL.sel [1] (by decide) rfl)
        refine DH.take 7 rfl (by kernel_rfl) (by kernel_rfl) (by kernel_rfl) rfl rfl hS (YH.val (v := (.int .i64 s_l1.2)) (fun w' hS' => x_mv f74)) ?_
        have hS := (hL.sel [1] (by decide) rfl)
        obtain ⟨x85, ha86, hm⟩ := bndE hm
        obtain ⟨hz87, ha91⟩ := idxE ha86
        obtain ⟨b88, q89, hix90⟩ := rdL_ix (hL.rdS 1 rfl h2) hz87 ha91
        refine DH.take 8 rfl (by kernel_rfl) (by kernel_rfl) (by kernel_rfl) rfl rfl hS (YH.val (v := (.pointer (some ⟨b88, q89, none⟩))) (fun w' hS' => x_ix Try.underlying22 Try_T5 rfl rfl hix90)) ?_
        have hS := (hL.sel [1] (by decide) rfl)
        refine DH.take 9 rfl (by kernel_rfl) (by kernel_rfl) (by kernel_rfl) rfl rfl hS (YH.val (v := (.int .u8 (x85.toNat : Int))) (fun w' hS' => x_load1 Try.underlying5 rfl rfl (rdF_cells (hS'.rdS 0 rfl h2) hix90 ha91 0 _ rfl))) ?_
        have hS := (hL.sel [1] (by decide) rfl)
        refine DH.take 10 rfl (by kernel_rfl) (by kernel_rfl) (by kernel_rfl) rfl rfl hS (YH.val (v := (.int .i64 (IntKind.i64.wrap (x85.toNat : Int)))) (fun w' hS' => x_conv Try.underlying5 Try.underlying2 rfl)) ?_
        refine DH.only 4 rfl (by kernel_rfl) (OP.val (v := (.int .i64 s_l1.1)) rfl (x_load1 Try.underlying2 rfl rfl (hL.cellB 0 rfl rfl)) ?_)
        refine ⟨(hL.sel [1] (by decide) rfl), ?_⟩
        have hS := (hL.sel [1] (by decide) rfl)
        refine DH.take 5 rfl (by kernel_rfl) (by kernel_rfl) (by kernel_rfl) rfl rfl hS (YH.val (v := (.int .i64 (w64 (s_l1.1 * 53)))) (fun w' hS' => x_mul rfl rfl)) ?_
        have hS := (hL.sel [1] (by decide) rfl)
        refine DH.take 11 rfl (by kernel_rfl) (by kernel_rfl) (by kernel_rfl) rfl rfl hS (YH.val (v := (.int .i64 (w64 ((w64 (s_l1.1 * 53)) + (IntKind.i64.wrap (x85.toNat : Int)))))) (fun w' hS' => x_add rfl rfl)) ?_
        have hS := (hL.sel [1] (by decide) rfl)
        refine DH.take 12 rfl (by kernel_rfl) (by kernel_rfl) (by kernel_rfl) rfl rfl hS (YH.val (v := (.int .i64 ((w64 ((w64 (s_l1.1 * 53)) + (IntKind.i64.wrap (x85.toNat : Int)))).tmod 2147483647))) (fun w' hS' => x_rem rfl rfl (by decide))) ?_
        have hS := (hL.sel [1] (by decide) rfl)
        refine DH.take 13 rfl (by kernel_rfl) (by kernel_rfl) (by kernel_rfl) rfl rfl hS (YH.val (v := (.pointer (some ⟨b4, 0, none⟩))) (fun w' hS' => x_nilCheck rfl)) ?_
        have hS := (hL.sel [1] (by decide) rfl)
        refine DH.take 14 rfl (by kernel_rfl) (by kernel_rfl) (by kernel_rfl) rfl rfl hS (YH.val (v := (.pointer (some ⟨b4, 2, none⟩))) (fun w' hS' => x_fieldAddr (fsz := 1) 0 2 2 Try.underlying83 rfl Try_T2 rfl rfl rfl)) ?_
        refine DH.only 15 rfl (by kernel_rfl) (S_store (cs' := #[v1, (.int .i64 0), (.int .i64 ((w64 ((w64 (s_l1.1 * 53)) + (IntKind.i64.wrap (x85.toNat : Int)))).tmod 2147483647))]) hL 0 rfl Try_T2 rfl rfl rfl rfl rfl ?_)
        intro wd92 hL
        refine ⟨(hL.sel [1] (by decide) rfl), ?_⟩
        refine DH.done (by kernel_rfl) ?_
        refine CW.regionL ?_
        refine OW.cons (OP.val (v := (.int .i64 s_l1.2)) rfl (x_mv f74) ?_)
        refine OW.cons (OP.val (v := (.int .i64 (w64 (s_l1.2 + 1)))) rfl (x_add rfl rfl) ?_)
        refine OW.cons (OP.val (v := (.int .i64 (w64 (s_l1.2 + 1)))) rfl (x_assign) ?_)
        refine OW.nil ?_
        obtain rfl := Option.some.inj hm
        exact ⟨_, rfl, ⟨f72, f73, rfl, hL⟩⟩
      · refine CW.exit ?_
        refine XJ.hit ?_
        obtain rfl := Option.some.inj hm
        exact ⟨_, rfl, ⟨f72, f73, f74, hL⟩⟩

theorem M.spec_l01Next_ok (w0 : World) {b1 : Nat} {v2 : Value} (a0 : Src) (h3 : rdL (fun k => k < w0.heap.size ∧ ¬ (Ent.blk b1 83 #[v2, .int .i64 a0.at_, .int .i64 a0.seed]).S k) w0 v2 a0.code) (he4 : (Ent.blk b1 83 #[v2, .int .i64 a0.at_, .int .i64 a0.seed]).H w0) (a1 : Int) {r : (Int) × (Int × Int)} (hm : M.spec_l01Next a0 a1 = some r) :
    Calls Try.prog 29 #[(.pointer (some ⟨b1, 0, none⟩)), (.int .i64 a1)] w0 fun e w' => e = .returned (.int .i64 r.1) ∧ Mut w0 w' (Ent.blk b1 83 #[v2, .int .i64 a0.at_, .int .i64 a0.seed]).S [Ent.blk b1 83 #[v2, .int .i64 r.2.1, .int .i64 r.2.2]] := by
  unfold M.spec_l01Next at hm
  refine calls_CW (args := [(.pointer (some ⟨b1, 0, none⟩)), (.int .i64 a1)]) Try.func29 rfl rfl rfl ?_
  have hL := Hp.startIO he4
  refine CW.seq ?_
  refine CW.regionL ?_
  refine OW.cons (OP.val (v := (.int .i64 0)) rfl (x_assign) ?_)
  refine OW.nil ?_
  refine CW.seq ?_
  refine CW.seq ?_
  refine CW.regionL ?_
  refine OW.cons (OP.val (v := (.int .i64 a1)) rfl (x_move) ?_)
  refine OW.cons (OP.val (v := (.bool (decide (a1 ≤ 1)))) rfl (x_leq rfl rfl) ?_)
  refine OW.nil ?_
  refine CW.condM (t := decide (a1 ≤ 1)) rfl hm (fun hb5 hm => ?_) (fun hb5 hm => ?_)
  · refine CW.seq ?_
    refine CW.regionL ?_
    refine OW.cons (OP.val (v := (.int .i64 0)) rfl (x_assign) ?_)
    refine OW.nil ?_
    refine CW.ret ?_
    obtain rfl := Option.some.inj hm
    exact RR1 rfl rfl ⟨rfl, hL.mutOut 1 rfl [0] (by decide) (by decide) rfl⟩
  · refine CW.skip ?_
    refine CW.seq ?_
    refine CW.regionL ?_
    refine OW.cons (OP.val (v := (.pointer (some ⟨b1, 0, none⟩))) rfl (x_move) ?_)
    refine OW.cons (OP.val (v := (.pointer (some ⟨b1, 0, none⟩))) rfl (x_move) ?_)
    refine OW.cons (OP.val (v := (.pointer (some ⟨b1, 0, none⟩))) rfl (x_nilCheck rfl) ?_)
    refine OW.cons (OP.val (v := (.pointer (some ⟨b1, 2, none⟩))) rfl (x_fieldAddr (fsz := 1) 0 2 2 Try.underlying83 rfl Try_T2 rfl rfl rfl) ?_)
    refine OW.cons (OP.val (v := (.int .i64 a0.seed)) rfl (x_load1 Try.underlying2 rfl rfl (hL.cellB 0 rfl rfl)) ?_)
    refine OW.cons (OP.val (v := (.int .i64 (w64 (a0.seed * 48271)))) rfl (x_mul rfl rfl) ?_)
    refine OW.cons (OP.val (v := (.int .i64 (w64 ((w64 (a0.seed * 48271)) + 23)))) rfl (x_add rfl rfl) ?_)
    refine OW.cons (OP.val (v := (.int .i64 ((w64 ((w64 (a0.seed * 48271)) + 23)).tmod 2147483647))) rfl (x_rem rfl rfl (by decide)) ?_)
    refine OW.cons (OP.val (v := (.pointer (some ⟨b1, 0, none⟩))) rfl (x_nilCheck rfl) ?_)
    refine OW.cons (OP.val (v := (.pointer (some ⟨b1, 2, none⟩))) rfl (x_fieldAddr (fsz := 1) 0 2 2 Try.underlying83 rfl Try_T2 rfl rfl rfl) ?_)
    refine OW.cons (S_store (cs' := #[v2, (.int .i64 a0.at_), (.int .i64 ((w64 ((w64 (a0.seed * 48271)) + 23)).tmod 2147483647))]) hL 0 rfl Try_T2 rfl rfl rfl rfl rfl ?_)
    intro wd6 hL
    refine OW.nil ?_
    refine CW.seq ?_
    refine CW.regionL ?_
    refine OW.cons (OP.val (v := (.pointer (some ⟨b1, 0, none⟩))) rfl (x_move) ?_)
    refine OW.cons (OP.val (v := (.pointer (some ⟨b1, 0, none⟩))) rfl (x_nilCheck rfl) ?_)
    refine OW.cons (OP.val (v := (.pointer (some ⟨b1, 2, none⟩))) rfl (x_fieldAddr (fsz := 1) 0 2 2 Try.underlying83 rfl Try_T2 rfl rfl rfl) ?_)
    refine OW.cons (OP.val (v := (.int .i64 ((w64 ((w64 (a0.seed * 48271)) + 23)).tmod 2147483647))) rfl (x_load1 Try.underlying2 rfl rfl (hL.cellB 0 rfl rfl)) ?_)
    refine OW.cons (OP.val (v := (.int .i64 (w64 (((w64 ((w64 (a0.seed * 48271)) + 23)).tmod 2147483647).tdiv 17)))) rfl (x_quo rfl rfl (by decide)) ?_)
    refine OW.cons (OP.val (v := (.int .i64 (w64 (((w64 ((w64 (a0.seed * 48271)) + 23)).tmod 2147483647).tdiv 17)))) rfl (x_assign) ?_)
    refine OW.nil ?_
    refine CW.seqJ (fun (s_j1 : Int × Int) (F : Fr) (w : World) => F 1 = (.int .i64 a1) ∧ F 5 = (.int .i64 s_j1.2) ∧ Hp w0 [Ent.blk b1 83 #[v2, (.int .i64 s_j1.1), (.int .i64 ((w64 ((w64 (a0.seed * 48271)) + 23)).tmod 2147483647))], Ent.frz w0 (Ent.blk b1 83 #[v2, .int .i64 a0.at_, .int .i64 a0.seed]).S] w) (fun s_j1 => M.spec_l01Next_j1 a0 a1 s_j1 = some r) ?_ ?_
    · refine CW.seq ?_
      refine CW.draw Try_mixed ?_
      have hL := hL.call (Mod.drew _)
      refine DW.pre (fuel := 0) (fin := (((((((((((Array.replicate 10 false).setIfInBounds 0 true).setIfInBounds 1 true).setIfInBounds 2 true).setIfInBounds 3 true).setIfInBounds 4 true).setIfInBounds 5 true).setIfInBounds 6 true).setIfInBounds 7 true).setIfInBounds 8 true).setIfInBounds 9 true)) (C := fun w' => Mod None_ _ w') [0, 1, 2, 3, 4, 5, 6, 7, 8, 9] (Mod.refl _ _) (by kernel_rfl) (by kernel_rfl) ?_
      refine QW.cons rfl (QP.val (v := (.pointer (some ⟨b1, 0, none⟩))) rfl (fun w' hm' => x_move) ?_)
      refine QW.cons rfl (QP.val (v := (.pointer (some ⟨b1, 0, none⟩))) rfl (fun w' hm' => x_nilCheck rfl) ?_)
      refine QW.cons rfl (QP.val (v := (.pointer (some ⟨b1, 1, none⟩))) rfl (fun w' hm' => x_fieldAddr (fsz := 1) 0 1 1 Try.underlying83 rfl Try_T3 rfl rfl rfl) ?_)
      refine QW.cons rfl (QP.val (v := (.int .i64 a0.at_)) rfl (fun w' hm' => x_load1 Try.underlying3 rfl rfl ((hL.call hm').cellB 0 rfl rfl)) ?_)
      refine QW.cons rfl (QP.val (v := (.pointer (some ⟨b1, 0, none⟩))) rfl (fun w' hm' => x_move) ?_)
      refine QW.cons rfl (QP.val (v := (.pointer (some ⟨b1, 0, none⟩))) rfl (fun w' hm' => x_nilCheck rfl) ?_)
      refine QW.cons rfl (QP.val (v := (.pointer (some ⟨b1, 0, none⟩))) rfl (fun w' hm' => x_fieldAddr (fsz := 1) 0 0 0 Try.underlying83 rfl Try_T22 rfl rfl rfl) ?_)
      refine QW.cons rfl (QP.val (v := v2) rfl (fun w' hm' => x_load1 Try.underlying22 rfl rfl ((hL.call hm').cellB 0 rfl rfl)) ?_)
      refine QW.cons rfl (QP.val (v := (.int .i64 (a0.code.length : Int))) rfl (fun w' hm' => x_lenR Try.underlying22 rfl ((hL.call hm').rdZ 1 rfl h3)) ?_)
      refine QW.cons rfl (QP.val (v := (.bool (decide (a0.at_ < (a0.code.length : Int))))) rfl (fun w' hm' => x_lss rfl rfl) ?_)
      refine QW.nil ?_
      intro wd40 hmod
      have hL := hL.call hmod
      refine DW.done (by kernel_rfl) ?_
      refine CW.condM (t := decide (a0.at_ < (a0.code.length : Int))) rfl hm (fun hb41 hm => ?_) (fun hb41 hm => ?_)
      · refine CW.seq ?_
        refine CW.draw Try_mixed ?_
        have hL := hL.call (Mod.drew _)
        refine DW.pre (fuel := 0) (fin := (((((((((((((((Array.replicate 14 false).setIfInBounds 0 true).setIfInBounds 1 true).setIfInBounds 2 true).setIfInBounds 3 true).setIfInBounds 4 true).setIfInBounds 5 true).setIfInBounds 6 true).setIfInBounds 7 true).setIfInBounds 8 true).setIfInBounds 9 true).setIfInBounds 10 true).setIfInBounds 11 true).setIfInBounds 12 true).setIfInBounds 13 true)) (C := fun w' => Mod None_ _ w') [0, 1, 2, 3, 4, 5, 6, 7, 8, 9, 10, 11, 12, 13] (Mod.refl _ _) (by kernel_rfl) (by kernel_rfl) ?_
        refine QW.cons rfl (QP.val (v := (.int .i64 (w64 (((w64 ((w64 (a0.seed * 48271)) + 23)).tmod 2147483647).tdiv 17)))) rfl (fun w' hm' => x_move) ?_)
        refine QW.cons rfl (QP.val (v := (.pointer (some ⟨b1, 0, none⟩))) rfl (fun w' hm' => x_move) ?_)
        refine QW.cons rfl (QP.val (v := (.pointer (some ⟨b1, 0, none⟩))) rfl (fun w' hm' => x_nilCheck rfl) ?_)
        refine QW.cons rfl (QP.val (v := (.pointer (some ⟨b1, 0, none⟩))) rfl (fun w' hm' => x_fieldAddr (fsz := 1) 0 0 0 Try.underlying83 rfl Try_T22 rfl rfl rfl) ?_)
        refine QW.cons rfl (QP.val (v := v2) rfl (fun w' hm' => x_load1 Try.underlying22 rfl rfl ((hL.call hm').cellB 0 rfl rfl)) ?_)
        refine QW.cons rfl (QP.val (v := (.pointer (some ⟨b1, 0, none⟩))) rfl (fun w' hm' => x_move) ?_)
        refine QW.cons rfl (QP.val (v := (.pointer (some ⟨b1, 0, none⟩))) rfl (fun w' hm' => x_nilCheck rfl) ?_)
        refine QW.cons rfl (QP.val (v := (.pointer (some ⟨b1, 1, none⟩))) rfl (fun w' hm' => x_fieldAddr (fsz := 1) 0 1 1 Try.underlying83 rfl Try_T3 rfl rfl rfl) ?_)
        refine QW.cons rfl (QP.val (v := (.int .i64 a0.at_)) rfl (fun w' hm' => x_load1 Try.underlying3 rfl rfl ((hL.call hm').cellB 0 rfl rfl)) ?_)
        obtain ⟨x42, ha43, hm⟩ := bndE hm
        obtain ⟨hz44, ha48⟩ := idxE ha43
        obtain ⟨b45, q46, hix47⟩ := rdL_ix (hL.rdZ 1 rfl h3) hz44 ha48
        refine QW.cons rfl (QP.val (v := (.pointer (some ⟨b45, q46, none⟩))) rfl (fun w' hm' => x_ix Try.underlying22 Try_T5 rfl rfl hix47) ?_)
        refine QW.cons rfl (QP.val (v := (.int .u8 (x42.toNat : Int))) rfl (fun w' hm' => x_load1 Try.underlying5 rfl rfl (rdF_cells ((hL.call hm').rdZ 1 rfl h3) hix47 ha48 0 _ rfl)) ?_)
        refine QW.cons rfl (QP.val (v := (.int .i64 (IntKind.i64.wrap (x42.toNat : Int)))) rfl (fun w' hm' => x_conv Try.underlying5 Try.underlying2 rfl) ?_)
        refine QW.cons rfl (QP.val (v := (.int .i64 (w64 ((w64 (((w64 ((w64 (a0.seed * 48271)) + 23)).tmod 2147483647).tdiv 17)) + (IntKind.i64.wrap (x42.toNat : Int)))))) rfl (fun w' hm' => x_add rfl rfl) ?_)
        refine QW.cons rfl (QP.val (v := (.int .i64 (w64 ((w64 (((w64 ((w64 (a0.seed * 48271)) + 23)).tmod 2147483647).tdiv 17)) + (IntKind.i64.wrap (x42.toNat : Int)))))) rfl (fun w' hm' => x_assign) ?_)
        refine QW.nil ?_
        intro wd49 hmod
        have hL := hL.call hmod
        refine DW.done (by kernel_rfl) ?_
        refine CW.seq ?_
        refine CW.regionL ?_
        refine OW.cons (OP.val (v := (.pointer (some ⟨b1, 0, none⟩))) rfl (x_move) ?_)
        refine OW.cons (OP.val (v := (.pointer (some ⟨b1, 0, none⟩))) rfl (x_nilCheck rfl) ?_)
        refine OW.cons (OP.val (v := (.pointer (some ⟨b1, 1, none⟩))) rfl (x_fieldAddr (fsz := 1) 0 1 1 Try.underlying83 rfl Try_T3 rfl rfl rfl) ?_)
        refine OW.cons (OP.val (v := (.int .i64 a0.at_)) rfl (x_load1 Try.underlying3 rfl rfl (hL.cellB 0 rfl rfl)) ?_)
        refine OW.cons (OP.val (v := (.int .i64 (w64 (a0.at_ + 1)))) rfl (x_add rfl rfl) ?_)
        refine OW.cons (OP.val (v := (.pointer (some ⟨b1, 0, none⟩))) rfl (x_nilCheck rfl) ?_)
        refine OW.cons (OP.val (v := (.pointer (some ⟨b1, 1, none⟩))) rfl (x_fieldAddr (fsz := 1) 0 1 1 Try.underlying83 rfl Try_T3 rfl rfl rfl) ?_)
        refine OW.cons (S_store (cs' := #[v2, (.int .i64 (w64 (a0.at_ + 1))), (.int .i64 ((w64 ((w64 (a0.seed * 48271)) + 23)).tmod 2147483647))]) hL 0 rfl Try_T3 rfl rfl rfl rfl rfl ?_)
        intro wd50 hL
        refine OW.nil ?_
        refine CW.seqJ (fun (s_j2 : Bool) (F : Fr) (w : World) => F 0 = (.pointer (some ⟨b1, 0, none⟩)) ∧ F 1 = (.int .i64 a1) ∧ F 5 = (.int .i64 (w64 ((w64 (((w64 ((w64 (a0.seed * 48271)) + 23)).tmod 2147483647).tdiv 17)) + (IntKind.i64.wrap (x42.toNat : Int))))) ∧ F 62 = (.bool s_j2) ∧ Hp w0 [Ent.blk b1 83 #[v2, (.int .i64 (w64 (a0.at_ + 1))), (.int .i64 ((w64 ((w64 (a0.seed * 48271)) + 23)).tmod 2147483647))], Ent.frz w0 (Ent.blk b1 83 #[v2, .int .i64 a0.at_, .int .i64 a0.seed]).S] w) (fun s_j2 => M.spec_l01Next_j2 a0 a1 x42 s_j2 = some r) ?_ ?_
        · refine CW.regionL ?_
          refine OW.cons (OP.val (v := (.int .i64 a1)) rfl (x_move) ?_)
          refine OW.cons (OP.val (v := (.bool (decide (a1 ≤ 256)))) rfl (x_leq rfl rfl) ?_)
          refine OW.cons (OP.val (v := (.bool (decide (a1 ≤ 256)))) rfl (x_move) ?_)
          refine ifB_elim hm (fun hb67 hm => ?_) (fun hb67 hm => ?_)
          · refine OW.cons (OP.yes' rfl rfl hb67 (OP.val (v := (.pointer (some ⟨b1, 0, none⟩))) rfl (x_move) ?_))
            refine OW.cons (OP.yes' rfl rfl hb67 (OP.val (v := (.pointer (some ⟨b1, 0, none⟩))) rfl (x_nilCheck rfl) ?_))
            refine OW.cons (OP.yes' rfl rfl hb67 (OP.val (v := (.pointer (some ⟨b1, 1, none⟩))) rfl (x_fieldAddr (fsz := 1) 0 1 1 Try.underlying83 rfl Try_T3 rfl rfl rfl) ?_))
            refine OW.cons (OP.yes' rfl rfl hb67 (OP.val (v := (.int .i64 (w64 (a0.at_ + 1)))) rfl (x_load1 Try.underlying3 rfl rfl (hL.cellB 0 rfl rfl)) ?_))
            refine OW.cons (OP.yes' rfl rfl hb67 (OP.val (v := (.int .i64 ((w64 (a0.at_ + 1)).tmod 2))) rfl (x_rem rfl rfl (by decide)) ?_))
            refine OW.cons (OP.yes' rfl rfl hb67 (OP.val (v := (.bool (((w64 (a0.at_ + 1)).tmod 2) == 0))) rfl (x_eql rfl rfl) ?_))
            refine OW.cons (OP.val (v := (.bool (((w64 (a0.at_ + 1)).tmod 2) == 0))) rfl (x_pickT' rfl hb67 rfl) ?_)
            refine OW.nil ?_
            exact ⟨((w64 (a0.at_ + 1)).tmod 2) == 0, hm, ⟨rfl, rfl, rfl, rfl, hL⟩⟩
          · refine OW.cons (OP.no' rfl rfl hb67 rfl ?_)
            refine OW.cons (OP.no' rfl rfl hb67 rfl ?_)
            refine OW.cons (OP.no' rfl rfl hb67 rfl ?_)
            refine OW.cons (OP.no' rfl rfl hb67 rfl ?_)
            refine OW.cons (OP.no' rfl rfl hb67 rfl ?_)
            refine OW.cons (OP.no' rfl rfl hb67 rfl ?_)
            refine OW.cons (OP.val (v := (.bool false)) rfl (x_pickF' rfl hb67 rfl) ?_)
            refine OW.nil ?_
            exact ⟨false, hm, ⟨rfl, rfl, rfl, rfl, hL⟩⟩
        · intro s_j2 F52 wd53 hJ hm
          unfold M.spec_l01Next_j2 at hm
          obtain ⟨f54, f55, f56, f57, hL⟩ := hJ
          refine CW.condM (t := s_j2) f57 hm (fun hb58 hm => ?_) (fun hb58 hm => ?_)
          · refine CW.draw Try_mixed ?_
            have hL := hL.call (Mod.drew _)
            refine DW.pre (fuel := 0) (fin := ((((((((((((((Array.replicate 13 false).setIfInBounds 0 true).setIfInBounds 1 true).setIfInBounds 2 true).setIfInBounds 3 true).setIfInBounds 4 true).setIfInBounds 5 true).setIfInBounds 6 true).setIfInBounds 7 true).setIfInBounds 8 true).setIfInBounds 9 true).setIfInBounds 10 true).setIfInBounds 11 true).setIfInBounds 12 true)) (C := fun w' => Mod None_ _ w') [0, 1, 2, 3, 4, 5, 6, 7, 8, 9, 10, 11, 12] (Mod.refl _ _) (by kernel_rfl) (by kernel_rfl) ?_
            refine QW.cons rfl (QP.val (v := (.pointer (some ⟨b1, 0, none⟩))) rfl (fun w' hm' => x_mv f54) ?_)
            refine QW.cons rfl (QP.val (v := (.pointer (some ⟨b1, 0, none⟩))) rfl (fun w' hm' => x_nilCheck rfl) ?_)
            refine QW.cons rfl (QP.val (v := (.pointer (some ⟨b1, 0, none⟩))) rfl (fun w' hm' => x_fieldAddr (fsz := 1) 0 0 0 Try.underlying83 rfl Try_T22 rfl rfl rfl) ?_)
            refine QW.cons rfl (QP.val (v := v2) rfl (fun w' hm' => x_load1 Try.underlying22 rfl rfl ((hL.call hm').cellB 0 rfl rfl)) ?_)
            refine QW.cons rfl (QP.val (v := (.pointer (some ⟨b1, 0, none⟩))) rfl (fun w' hm' => x_mv f54) ?_)
            refine QW.cons rfl (QP.val (v := (.pointer (some ⟨b1, 0, none⟩))) rfl (fun w' hm' => x_nilCheck rfl) ?_)
            refine QW.cons rfl (QP.val (v := (.pointer (some ⟨b1, 1, none⟩))) rfl (fun w' hm' => x_fieldAddr (fsz := 1) 0 1 1 Try.underlying83 rfl Try_T3 rfl rfl rfl) ?_)
            refine QW.cons rfl (QP.val (v := (.int .i64 (w64 (a0.at_ + 1)))) rfl (fun w' hm' => x_load1 Try.underlying3 rfl rfl ((hL.call hm').cellB 0 rfl rfl)) ?_)
            refine QW.cons rfl (QP.val (v := (.int .i64 (w64 ((w64 (a0.at_ + 1)) - 1)))) rfl (fun w' hm' => x_sub rfl rfl) ?_)
            obtain ⟨x59, ha60, hm⟩ := bndE hm
            obtain ⟨hz61, ha65⟩ := idxE ha60
            obtain ⟨b62, q63, hix64⟩ := rdL_ix (hL.rdZ 1 rfl h3) hz61 ha65
            refine QW.cons rfl (QP.val (v := (.pointer (some ⟨b62, q63, none⟩))) rfl (fun w' hm' => x_ix Try.underlying22 Try_T5 rfl rfl hix64) ?_)
            refine QW.cons rfl (QP.val (v := (.int .u8 (x59.toNat : Int))) rfl (fun w' hm' => x_load1 Try.underlying5 rfl rfl (rdF_cells ((hL.call hm').rdZ 1 rfl h3) hix64 ha65 0 _ rfl)) ?_)
            refine QW.cons rfl (QP.val (v := (.int .i64 (IntKind.i64.wrap (x59.toNat : Int)))) rfl (fun w' hm' => x_conv Try.underlying5 Try.underlying2 rfl) ?_)
            refine QW.cons rfl (QP.val (v := (.int .i64 (IntKind.i64.wrap (x59.toNat : Int)))) rfl (fun w' hm' => x_assign) ?_)
            refine QW.nil ?_
            intro wd66 hmod
            have hL := hL.call hmod
            refine DW.done (by kernel_rfl) ?_
            exact ⟨(w64 (a0.at_ + 1), IntKind.i64.wrap (x59.toNat : Int)), hm, ⟨f55, rfl, hL⟩⟩
          · refine CW.skip ?_
            exact ⟨(w64 (a0.at_ + 1), w64 ((w64 (((w64 ((w64 (a0.seed * 48271)) + 23)).tmod 2147483647).tdiv 17)) + (IntKind.i64.wrap (x42.toNat : Int)))), hm, ⟨f55, f56, hL⟩⟩
      · refine CW.skip ?_
        exact ⟨(a0.at_, w64 (((w64 ((w64 (a0.seed * 48271)) + 23)).tmod 2147483647).tdiv 17)), hm, ⟨rfl, rfl, hL⟩⟩
    · intro s_j1 F35 wd36 hJ hm
      unfold M.spec_l01Next_j1 at hm
      obtain ⟨f37, f38, hL⟩ := hJ
      refine CW.seq ?_
      refine CW.regionL ?_
      refine OW.cons (OP.val (v := (.int .i64 s_j1.2)) rfl (x_mv f38) ?_)
      refine OW.cons (OP.val (v := (.int .i64 a1)) rfl (x_mv f37) ?_)
      obtain ⟨hc39, hm⟩ := chkE hm
      refine OW.cons (OP.val (v := (.int .i64 (s_j1.2.tmod a1))) rfl (x_rem rfl rfl hc39) ?_)
      refine OW.cons (OP.val (v := (.int .i64 (s_j1.2.tmod a1))) rfl (x_assign) ?_)
      refine OW.nil ?_
      refine CW.ret ?_
      obtain rfl := Option.some.inj hm
      exact RR1 rfl rfl ⟨rfl, hL.mutOut 1 rfl [0] (by decide) (by decide) rfl⟩

theorem M.spec_l22DrawRace_ok (w0 : World) {b1 : Nat} {v2 : Value} (a0 : Src) (h3 : rdL (fun k => k < w0.heap.size ∧ ¬ (Ent.blk b1 83 #[v2, .int .i64 a0.at_, .int .i64 a0.seed]).S k) w0 v2 a0.code) (he4 : (Ent.blk b1 83 #[v2, .int .i64 a0.at_, .int .i64 a0.seed]).H w0) {r : (Int × (List Finish)) × (Int × Int)} (hm : M.spec_l22DrawRace a0 = some r) :
    Calls Try.prog 28 #[(.pointer (some ⟨b1, 0, none⟩))] w0 fun e w' => ∃ (rv0 : Value) (rS0 : Nat → Prop), e = .returned (.tuple #[(.int .i64 r.1.1), rv0]) ∧ Mut w0 w' (Ent.blk b1 83 #[v2, .int .i64 a0.at_, .int .i64 a0.seed]).S [Ent.blk b1 83 #[v2, .int .i64 r.2.1, .int .i64 r.2.2], Ent.own 31 rS0 rv0 r.1.2] := by
  unfold M.spec_l22DrawRace at hm
  refine calls_CW (args := [(.pointer (some ⟨b1, 0, none⟩))]) Try.func28 rfl rfl rfl ?_
  have hL := Hp.startIO he4
  refine CW.seq ?_
  refine CW.regionL ?_
  refine OW.cons (OP.val (v := (.int .i64 0)) rfl (x_assign) ?_)
  refine OW.cons (OP.val (v := (.slice none 0 0)) rfl (x_assign) ?_)
  refine OW.nil ?_
  refine CW.seq ?_
  refine CW.regionL ?_
  refine OW.cons (OP.val (v := (.pointer (some ⟨b1, 0, none⟩))) rfl (x_move) ?_)
  obtain ⟨x5, hx6, hm⟩ := bndE hm
  refine OW.cons (OP.call rfl (x_call (vs := [(.pointer (some ⟨b1, 0, none⟩)), (.int .i64 6)]) Try_C29 ⟨rfl, rfl, trivial⟩) (M.spec_l01Next_ok _ (Src.mk a0.code a0.at_ a0.seed) (hL.exZ 1 0 (by decide) rfl rfl h3) (hL.get 0 rfl) 6 hx6) ?_)
  rintro e7 wd8 ⟨rfl, hF9⟩
  refine ⟨_, rfl, ?_⟩
  have hL := hL.mut 0 rfl hF9
  simp only [lA, lB, lC, lD] at hL
  refine OW.cons (OP.val (v := (.int .i64 (w64 (1 + x5.1)))) rfl (x_add rfl rfl) ?_)
  refine OW.cons (OP.val (v := (.int .i64 (w64 (1 + x5.1)))) rfl (x_assign) ?_)
  refine OW.nil ?_
  refine CW.seqJ (fun (s_j1 : Int × Int × Int) (F : Fr) (w : World) => F 0 = (.pointer (some ⟨b1, 0, none⟩)) ∧ F 4 = (.int .i64 s_j1.2.2) ∧ Hp w0 [Ent.blk b1 83 #[v2, (.int .i64 s_j1.1), (.int .i64 s_j1.2.1)], Ent.frz w0 (Ent.blk b1 83 #[v2, .int .i64 a0.at_, .int .i64 a0.seed]).S] w) (fun s_j1 => M.spec_l22DrawRace_j1 a0 s_j1 = some r) ?_ ?_
  · refine CW.seq ?_
    refine CW.regionL ?_
    refine OW.cons (OP.val (v := (.pointer (some ⟨b1, 0, none⟩))) rfl (x_move) ?_)
    obtain ⟨x358, hx359, hm⟩ := bndE hm
    refine OW.cons (OP.call rfl (x_call (vs := [(.pointer (some ⟨b1, 0, none⟩)), (.int .i64 30)]) Try_C29 ⟨rfl, rfl, trivial⟩) (M.spec_l01Next_ok _ (Src.mk a0.code x5.2.1 x5.2.2) (hL.exZ 1 0 (by decide) rfl rfl h3) (hL.get 0 rfl) 30 hx359) ?_)
    rintro e360 wd361 ⟨rfl, hF362⟩
    refine ⟨_, rfl, ?_⟩
    have hL := hL.mut 0 rfl hF362
    simp only [lA, lB, lC, lD] at hL
    refine OW.cons (OP.val (v := (.bool (x358.1 == 0))) rfl (x_eql rfl rfl) ?_)
    refine OW.nil ?_
    refine CW.condM (t := x358.1 == 0) rfl hm (fun hb363 hm => ?_) (fun hb363 hm => ?_)
    · refine CW.regionL ?_
      refine OW.cons (S_lit ([0, 16, 17] : List Int) hL Try.underlying84 Try_T2 rfl (by decide) (by first | (simp [Instr.fill, madeCells, Value.cells, ev, upd, Flat.enc, Flat.sz]; done) | rfl | kernel_rfl) rfl rfl ?_)
      intro wd364 v365 S366 hL
      refine OW.cons (OP.val (v := (.pointer (some ⟨b1, 0, none⟩))) rfl (x_move) ?_)
      obtain ⟨x367, hx368, hm⟩ := bndE hm
      refine OW.cons (OP.call rfl (x_call (vs := [(.pointer (some ⟨b1, 0, none⟩)), (.int .i64 3)]) Try_C29 ⟨rfl, rfl, trivial⟩) (M.spec_l01Next_ok _ (Src.mk a0.code x358.2.1 x358.2.2) (hL.exZ 2 1 (by decide) rfl rfl h3) (hL.get 1 rfl) 3 hx368) ?_)
      rintro e369 wd370 ⟨rfl, hF371⟩
      refine ⟨_, rfl, ?_⟩
      have hL := hL.mut 1 rfl hF371
      simp only [lA, lB, lC, lD] at hL
      obtain ⟨x372, ha373, hm⟩ := bndE hm
      obtain ⟨hz374, ha378⟩ := idxE ha373
      obtain ⟨b375, q376, hix377⟩ := rdL_ix (hL.rdO 0 rfl) hz374 ha378
      refine OW.cons (OP.val (v := (.pointer (some ⟨b375, q376, none⟩))) rfl (x_ix Try.underlying84 Try_T2 rfl rfl hix377) ?_)
      refine OW.cons (OP.val (v := (.int .i64 x372)) rfl (x_load1 Try.underlying2 rfl rfl (rdF_cells (hL.rdO 0 rfl) hix377 ha378 0 _ rfl)) ?_)
      refine OW.cons (OP.val (v := (.int .i64 x372)) rfl (x_assign) ?_)
      refine OW.nil ?_
      have hL := hL.sel [1, 2] (by decide) rfl
      exact ⟨(x367.2.1, x367.2.2, x372), hm, ⟨rfl, rfl, hL⟩⟩
    · refine CW.skip ?_
      exact ⟨(x358.2.1, x358.2.2, w64 (1 + x5.1)), hm, ⟨rfl, rfl, hL⟩⟩
  · intro s_j1 F31 wd32 hJ hm
    unfold M.spec_l22DrawRace_j1 at hm
    obtain ⟨f33, f34, hL⟩ := hJ
    refine CW.seq ?_
    refine CW.regionL ?_
    refine OW.cons (S_lit ([] : List Finish) hL Try.underlying24 Try_T31 rfl (by decide) (by first | (simp [Instr.fill, madeCells, Value.cells, ev, upd, Flat.enc, Flat.sz]; done) | rfl | kernel_rfl) rfl rfl ?_)
    intro wd35 v36 S37 hL
    refine OW.cons (OP.val (v := v36) rfl (x_assign) ?_)
    refine OW.nil ?_
    refine CW.seq ?_
    refine CW.seq ?_
    refine CW.regionL ?_
    refine OW.cons (OP.val (v := (.int .i64 0)) rfl (x_assign) ?_)
    refine OW.nil ?_
    obtain ⟨o138, ho139, hm⟩ := bndE hm
    refine CW.loopB (fun (s_l1 : Int × Int × (List Finish) × Int) (F : Fr) (w : World) => ∃ (v134 : Value) (S135 : Nat → Prop), F 0 = (.pointer (some ⟨b1, 0, none⟩)) ∧ F 4 = (.int .i64 s_j1.2.2) ∧ F 5 = v134 ∧ F 6 = (.int .i64 s_l1.2.2.2) ∧ Hp w0 [Ent.own 31 S135 v134 s_l1.2.2.1, Ent.blk b1 83 #[v2, (.int .i64 s_l1.1), (.int .i64 s_l1.2.1)], Ent.frz w0 (Ent.blk b1 83 #[v2, .int .i64 a0.at_, .int .i64 a0.seed]).S] w) (fun o => outc o (fun x => some x) (fun s => M.spec_l22DrawRace_a1 a0 s_j1 s) = some r) ho139 hm ⟨v36, S37, f33, f34, rfl, rfl, hL⟩ ?_ ?_
    · intro s_l1 F140 wd141 hJ hm
      have hm := outcE hm
      have hm : M.spec_l22DrawRace_a1 a0 s_j1 s_l1 = some r := hm
      unfold M.spec_l22DrawRace_a1 at hm
      obtain ⟨v134, S135, f142, f143, f144, f145, hL⟩ := hJ
      refine CW.seqJ (fun (s_j2 : Int × Int × (List Finish)) (F : Fr) (w : World) => ∃ (S223 : Nat → Prop), F 4 = (.int .i64 s_j1.2.2) ∧ F 5 = v134 ∧ Hp w0 [Ent.own 31 S223 v134 s_j2.2.2, Ent.blk b1 83 #[v2, (.int .i64 s_j2.1), (.int .i64 s_j2.2.1)], Ent.frz w0 (Ent.blk b1 83 #[v2, .int .i64 a0.at_, .int .i64 a0.seed]).S] w) (fun s_j2 => M.spec_l22DrawRace_j2 s_j1 s_j2 = some r) ?_ ?_
      · refine CW.seq ?_
        refine CW.regionL ?_
        refine OW.cons (OP.val (v := v134) rfl (x_mv f144) ?_)
        refine OW.cons (OP.val (v := (.int .i64 (s_l1.2.2.1.length : Int))) rfl (x_lenR Try.underlying24 rfl (hL.rdO 0 rfl)) ?_)
        refine OW.cons (OP.val (v := (.bool (decide (0 < (s_l1.2.2.1.length : Int))))) rfl (x_gtr rfl rfl) ?_)
        refine OW.nil ?_
        refine CW.condM (t := decide (0 < (s_l1.2.2.1.length : Int))) rfl hm (fun hb228 hm => ?_) (fun hb228 hm => ?_)
        · refine CW.seq ?_
          refine CW.regionL ?_
          refine OW.cons (OP.val (v := (.pointer (some ⟨b1, 0, none⟩))) rfl (x_mv f142) ?_)
          obtain ⟨x229, hx230, hm⟩ := bndE hm
          refine OW.cons (OP.call rfl (x_call (vs := [(.pointer (some ⟨b1, 0, none⟩)), (.int .i64 30)]) Try_C29 ⟨rfl, rfl, trivial⟩) (M.spec_l01Next_ok _ (Src.mk a0.code s_l1.1 s_l1.2.1) (hL.exZ 2 1 (by decide) rfl rfl h3) (hL.get 1 rfl) 30 hx230) ?_)
          rintro e231 wd232 ⟨rfl, hF233⟩
          refine ⟨_, rfl, ?_⟩
          have hL := hL.mut 1 rfl hF233
          simp only [lA, lB, lC, lD] at hL
          refine OW.nil ?_
          refine CW.blockJ (fun (s_j3 : Int × Int × (List Finish)) (F : Fr) (w : World) => ∃ (S267 : Nat → Prop), F 4 = (.int .i64 s_j1.2.2) ∧ F 5 = v134 ∧ Hp w0 [Ent.own 31 S267 v134 s_j3.2.2, Ent.blk b1 83 #[v2, (.int .i64 s_j3.1), (.int .i64 s_j3.2.1)], Ent.frz w0 (Ent.blk b1 83 #[v2, .int .i64 a0.at_, .int .i64 a0.seed]).S] w) (fun s_j3 => M.spec_l22DrawRace_j3 s_j1 s_j3 = some r) ?_ ?_
          · refine CW.seq ?_
            refine CW.regionL ?_
            refine OW.cons (OP.val (v := (.bool (x229.1 == 0))) rfl (x_eql rfl rfl) ?_)
            refine OW.cons (OP.val (v := (.bool (x229.1 == 0))) rfl (x_assign) ?_)
            refine OW.nil ?_
            refine CW.condM (t := x229.1 == 0) rfl hm (fun hb272 hm => ?_) (fun hb272 hm => ?_)
            · refine CW.regionL ?_
              refine OW.cons (OP.val (v := v134) rfl (x_mv f144) ?_)
              obtain ⟨x273, ha274, hm⟩ := bndE hm
              obtain ⟨hz275, ha279⟩ := idxE ha274
              obtain ⟨b276, q277, hix278⟩ := rdL_ix (hL.rdO 0 rfl) hz275 ha279
              refine OW.cons (OP.val (v := (.pointer (some ⟨b276, q277, none⟩))) rfl (x_ix Try.underlying24 Try_T31 rfl rfl hix278) ?_)
              refine OW.cons (OP.val (v := (.pointer (some ⟨b276, q277, none⟩))) rfl (x_fieldAddr (fsz := 1) q277 0 q277 Try.underlying31 rfl Try_T2 rfl rfl rfl) ?_)
              refine OW.cons (S_storeX (j := 0) (Finish.mk 1 x273.Code x273.Time) hL 0 rfl Try_T2 hix278 ha279 rfl rfl rfl rfl rfl rfl ?_)
              intro wd280 hL
              refine OW.nil ?_
              exact ⟨(x229.2.1, x229.2.2, s_l1.2.2.1.set (0 : Int).toNat (Finish.mk 1 x273.Code x273.Time)), hm, ⟨S135, f143, f144, hL⟩⟩
            · refine CW.seq ?_
              refine CW.regionL ?_
              refine OW.cons (OP.val (v := (.bool (x229.1 == 1))) rfl (x_eql rfl rfl) ?_)
              refine OW.cons (OP.val (v := (.bool (x229.1 == 1))) rfl (x_assign) ?_)
              refine OW.nil ?_
              refine CW.condM (t := x229.1 == 1) rfl hm (fun hb281 hm => ?_) (fun hb281 hm => ?_)
              · refine CW.regionL ?_
                refine OW.cons (OP.val (v := v134) rfl (x_mv f144) ?_)
                refine OW.cons (S_lit ([0, 1000000000, 1000000001] : List Int) hL Try.underlying84 Try_T2 rfl (by decide) (by first | (simp [Instr.fill, madeCells, Value.cells, ev, upd, Flat.enc, Flat.sz]; done) | rfl | kernel_rfl) rfl rfl ?_)
                intro wd282 v283 S284 hL
                refine OW.cons (OP.val (v := (.pointer (some ⟨b1, 0, none⟩))) rfl (x_mv f142) ?_)
                obtain ⟨x285, hx286, hm⟩ := bndE hm
                refine OW.cons (OP.call rfl (x_call (vs := [(.pointer (some ⟨b1, 0, none⟩)), (.int .i64 3)]) Try_C29 ⟨rfl, rfl, trivial⟩) (M.spec_l01Next_ok _ (Src.mk a0.code x229.2.1 x229.2.2) (hL.exZ 3 2 (by decide) rfl rfl h3) (hL.get 2 rfl) 3 hx286) ?_)
                rintro e287 wd288 ⟨rfl, hF289⟩
                refine ⟨_, rfl, ?_⟩
                have hL := hL.mut 2 rfl hF289
                simp only [lA, lB, lC, lD] at hL
                obtain ⟨x290, ha291, hm⟩ := bndE hm
                obtain ⟨hz292, ha296⟩ := idxE ha291
                obtain ⟨b293, q294, hix295⟩ := rdL_ix (hL.rdO 0 rfl) hz292 ha296
                refine OW.cons (OP.val (v := (.pointer (some ⟨b293, q294, none⟩))) rfl (x_ix Try.underlying84 Try_T2 rfl rfl hix295) ?_)
                refine OW.cons (OP.val (v := (.int .i64 x290)) rfl (x_load1 Try.underlying2 rfl rfl (rdF_cells (hL.rdO 0 rfl) hix295 ha296 0 _ rfl)) ?_)
                obtain ⟨x297, ha298, hm⟩ := bndE hm
                obtain ⟨hz299, ha303⟩ := idxE ha298
                obtain ⟨b300, q301, hix302⟩ := rdL_ix (hL.rdO 1 rfl) hz299 ha303
                refine OW.cons (OP.val (v := (.pointer (some ⟨b300, q301, none⟩))) rfl (x_ix Try.underlying24 Try_T31 rfl rfl hix302) ?_)
                refine OW.cons (OP.val (v := (.pointer (some ⟨b300, q301 + 2, none⟩))) rfl (x_fieldAddr (fsz := 1) q301 2 (q301 + 2) Try.underlying31 rfl Try_T2 rfl rfl rfl) ?_)
                refine OW.cons (S_storeX (j := 2) (Finish.mk x297.Boat x297.Code x290) hL 1 rfl Try_T2 hix302 ha303 rfl rfl rfl rfl rfl rfl ?_)
                intro wd304 hL
                refine OW.nil ?_
                have hL := hL.sel [1, 2, 3] (by decide) rfl
                exact ⟨(x285.2.1, x285.2.2, s_l1.2.2.1.set (0 : Int).toNat (Finish.mk x297.Boat x297.Code x290)), hm, ⟨S135, f143, f144, hL⟩⟩
              · refine CW.skip ?_
                exact ⟨(x229.2.1, x229.2.2, s_l1.2.2.1), hm, ⟨S135, f143, f144, hL⟩⟩
          · intro s_j3 F268 wd269 hJ hm
            unfold M.spec_l22DrawRace_j3 at hm
            obtain ⟨S267, f270, f271, hL⟩ := hJ
            exact ⟨(s_j3.1, s_j3.2.1, s_j3.2.2), hm, ⟨S267, f270, f271, hL⟩⟩
        · refine CW.skip ?_
          exact ⟨(s_l1.1, s_l1.2.1, s_l1.2.2.1), hm, ⟨S135, f143, f144, hL⟩⟩
      · intro s_j2 F224 wd225 hJ hm
        unfold M.spec_l22DrawRace_j2 at hm
        obtain ⟨S223, f226, f227, hL⟩ := hJ
        refine CW.seq ?_
        refine CW.regionL ?_
        refine OW.cons (OP.val (v := (.int .i64 s_j1.2.2)) rfl (x_mv f226) ?_)
        refine OW.cons (OP.val (v := v134) rfl (x_mv f227) ?_)
        refine OW.cons (OP.val (v := (.int .i64 s_j1.2.2)) rfl (x_assign) ?_)
        refine OW.cons (OP.val (v := v134) rfl (x_assign) ?_)
        refine OW.nil ?_
        refine CW.ret ?_
        obtain rfl := Option.some.inj hm
        exact RR2 rfl rfl rfl ⟨v134, S223, rfl, hL.mutOut 2 rfl [1, 0] (by decide) (by decide) rfl⟩
    · intro s_l1 F305 wd306 t136 hJ hm hr137
      unfold M.spec_l22DrawRace_l1 at hm
      obtain ⟨v134, S135, f307, f308, f309, f310, hL⟩ := hJ
      refine CW.seq ?_
      refine CW.seq ?_
      refine CW.regionL ?_
      refine OW.cons (OP.val (v := (.int .i64 s_l1.2.2.2)) rfl (x_mv f310) ?_)
      refine OW.cons (OP.val (v := (.int .i64 s_j1.2.2)) rfl (x_mv f308) ?_)
      refine OW.cons (OP.val (v := (.bool (decide (s_l1.2.2.2 < s_j1.2.2)))) rfl (x_lss rfl rfl) ?_)
      refine OW.nil ?_
      refine CW.condM (t := decide (s_l1.2.2.2 < s_j1.2.2)) rfl hm (fun hb311 hm => ?_) (fun hb311 hm => ?_)
      · refine CW.skip ?_
        refine CW.seq ?_
        refine CW.block ?_
        refine CW.seq ?_
        refine CW.regionL ?_
        refine OW.cons (OP.val (v := (.int .i64 s_l1.2.2.2)) rfl (x_mv f310) ?_)
        refine OW.cons (OP.val (v := (.pointer (some ⟨b1, 0, none⟩))) rfl (x_mv f307) ?_)
        obtain ⟨x312, hx313, hm⟩ := bndE hm
        refine OW.cons (OP.call rfl (x_call (vs := [(.pointer (some ⟨b1, 0, none⟩)), (.int .i64 20000)]) Try_C29 ⟨rfl, rfl, trivial⟩) (M.spec_l01Next_ok _ (Src.mk a0.code s_l1.1 s_l1.2.1) (hL.exZ 2 1 (by decide) rfl rfl h3) (hL.get 1 rfl) 20000 hx313) ?_)
        rintro e314 wd315 ⟨rfl, hF316⟩
        refine ⟨_, rfl, ?_⟩
        have hL := hL.mut 1 rfl hF316
        simp only [lA, lB, lC, lD] at hL
        refine OW.cons (OP.val (v := (.int .i64 (w64 (50000 + x312.1)))) rfl (x_add rfl rfl) ?_)
        refine OW.cons (OP.val (v := (.agg #[(.int .i64 s_l1.2.2.2), (.int .i64 0), (.int .i64 (w64 (50000 + x312.1)))])) rfl (x_build Try_B31 (ps := [(0, (.int .i64 s_l1.2.2.2)), (2, (.int .i64 (w64 (50000 + x312.1))))]) ⟨⟨rfl, rfl⟩, ⟨rfl, rfl⟩, trivial⟩ (by simp [Instr.fill, cells_int, cells_bool, cells_string, cells_agg, cells_slice, cells_pointer])) ?_)
        refine OW.cons (S_alloc (cs := #[(.int .i64 0), (.int .i64 0), (.int .i64 0)]) hL Try_T31 rfl rfl ?_)
        intro wd317 b318 hL
        refine OW.cons (S_storeN (l := [(.int .i64 s_l1.2.2.2), (.int .i64 0), (.int .i64 (w64 (50000 + x312.1)))]) (cs' := #[(.int .i64 s_l1.2.2.2), (.int .i64 0), (.int .i64 (w64 (50000 + x312.1)))]) hL 0 rfl Try_T31 rfl rfl (List.forall_mem_cons.2 ⟨rfl, (List.forall_mem_cons.2 ⟨rfl, (List.forall_mem_cons.2 ⟨rfl, (fun _ h => by cases h)⟩)⟩)⟩) rfl (Nat.le_of_ble_eq_true rfl) rfl ?_)
        intro wd319 hL
        refine OW.nil ?_
        refine CW.seqJ (fun (s_j4 : Int × Int × Int × Int) (F : Fr) (w : World) => F 0 = (.pointer (some ⟨b1, 0, none⟩)) ∧ F 4 = (.int .i64 s_j1.2.2) ∧ F 5 = v134 ∧ F 6 = (.int .i64 s_l1.2.2.2) ∧ F 7 = (.pointer (some ⟨b318, 0, none⟩)) ∧ Hp w0 [Ent.blk b318 31 #[(.int .i64 s_l1.2.2.2), (.int .i64 s_j4.2.2.1), (.int .i64 s_j4.2.2.2)], Ent.own 31 S135 v134 s_l1.2.2.1, Ent.blk b1 83 #[v2, (.int .i64 s_j4.1), (.int .i64 s_j4.2.1)], Ent.frz w0 (Ent.blk b1 83 #[v2, .int .i64 a0.at_, .int .i64 a0.seed]).S] w) (fun s_j4 => M.spec_l22DrawRace_j4 s_l1 s_j4 = some t136) ?_ ?_
        · refine CW.seq ?_
          refine CW.regionL ?_
          refine OW.cons (OP.val (v := (.pointer (some ⟨b1, 0, none⟩))) rfl (x_mv f307) ?_)
          obtain ⟨x346, hx347, hm⟩ := bndE hm
          refine OW.cons (OP.call rfl (x_call (vs := [(.pointer (some ⟨b1, 0, none⟩)), (.int .i64 6)]) Try_C29 ⟨rfl, rfl, trivial⟩) (M.spec_l01Next_ok _ (Src.mk a0.code x312.2.1 x312.2.2) (hL.exZ 3 2 (by decide) rfl rfl h3) (hL.get 2 rfl) 6 hx347) ?_)
          rintro e348 wd349 ⟨rfl, hF350⟩
          refine ⟨_, rfl, ?_⟩
          have hL := hL.mut 2 rfl hF350
          simp only [lA, lB, lC, lD] at hL
          refine OW.cons (OP.val (v := (.bool (x346.1 == 0))) rfl (x_eql rfl rfl) ?_)
          refine OW.nil ?_
          refine CW.condM (t := x346.1 == 0) rfl hm (fun hb351 hm => ?_) (fun hb351 hm => ?_)
          · refine CW.regionL ?_
            refine OW.cons (OP.val (v := (.int .i64 s_l1.2.2.2)) rfl (x_mv f310) ?_)
            refine OW.cons (OP.val (v := (.pointer (some ⟨b1, 0, none⟩))) rfl (x_mv f307) ?_)
            obtain ⟨x352, hx353, hm⟩ := bndE hm
            refine OW.cons (OP.call rfl (x_call (vs := [(.pointer (some ⟨b1, 0, none⟩)), (.int .i64 9)]) Try_C29 ⟨rfl, rfl, trivial⟩) (M.spec_l01Next_ok _ (Src.mk a0.code x346.2.1 x346.2.2) (hL.exZ 3 2 (by decide) rfl rfl h3) (hL.get 2 rfl) 9 hx353) ?_)
            rintro e354 wd355 ⟨rfl, hF356⟩
            refine ⟨_, rfl, ?_⟩
            have hL := hL.mut 2 rfl hF356
            simp only [lA, lB, lC, lD] at hL
            refine OW.cons (OP.val (v := (.int .i64 (w64 (1 + x352.1)))) rfl (x_add rfl rfl) ?_)
            refine OW.cons (OP.val (v := (.agg #[(.int .i64 s_l1.2.2.2), (.int .i64 (w64 (1 + x352.1))), (.int .i64 0)])) rfl (x_build Try_B31 (ps := [(0, (.int .i64 s_l1.2.2.2)), (1, (.int .i64 (w64 (1 + x352.1))))]) ⟨⟨rfl, rfl⟩, ⟨rfl, rfl⟩, trivial⟩ (by simp [Instr.fill, cells_int, cells_bool, cells_string, cells_agg, cells_slice, cells_pointer])) ?_)
            refine OW.cons (S_storeN (l := [(.int .i64 s_l1.2.2.2), (.int .i64 (w64 (1 + x352.1))), (.int .i64 0)]) (cs' := #[(.int .i64 s_l1.2.2.2), (.int .i64 (w64 (1 + x352.1))), (.int .i64 0)]) hL 0 rfl Try_T31 rfl rfl (List.forall_mem_cons.2 ⟨rfl, (List.forall_mem_cons.2 ⟨rfl, (List.forall_mem_cons.2 ⟨rfl, (fun _ h => by cases h)⟩)⟩)⟩) rfl (Nat.le_of_ble_eq_true rfl) rfl ?_)
            intro wd357 hL
            refine OW.nil ?_
            exact ⟨(x352.2.1, x352.2.2, w64 (1 + x352.1), 0), hm, ⟨f307, f308, f309, f310, rfl, hL⟩⟩
          · refine CW.skip ?_
            exact ⟨(x346.2.1, x346.2.2, 0, w64 (50000 + x312.1)), hm, ⟨f307, f308, f309, f310, rfl, hL⟩⟩
        · intro s_j4 F332 wd333 hJ hm
          unfold M.spec_l22DrawRace_j4 at hm
          obtain ⟨f334, f335, f336, f337, f338, hL⟩ := hJ
          refine CW.regionL ?_
          refine OW.cons (OP.val (v := v134) rfl (x_mv f336) ?_)
          refine OW.cons (OP.val (v := (.agg #[(.int .i64 s_l1.2.2.2), (.int .i64 s_j4.2.2.1), (.int .i64 s_j4.2.2.2)])) rfl (x_loadN (cs := [(.int .i64 s_l1.2.2.2), (.int .i64 s_j4.2.2.1), (.int .i64 s_j4.2.2.2)]) Try.underlying31 Try_T31 rfl f338 (hL.cellsB 0 rfl (o := 0) (l := [(.int .i64 s_l1.2.2.2), (.int .i64 s_j4.2.2.1), (.int .i64 s_j4.2.2.2)]) (by intro j u hj; exact (by simpa using hj)))) ?_)
          refine OW.cons (S_lit ([(Finish.mk s_l1.2.2.2 s_j4.2.2.1 s_j4.2.2.2)] : List Finish) hL Try.underlying24 Try_T31 rfl (by decide) (by first | (simp [Instr.fill, madeCells, Value.cells, ev, upd, Flat.enc, Flat.sz]; done) | rfl | kernel_rfl) rfl rfl ?_)
          intro wd339 v340 S341 hL
          obtain ⟨hc345, hm⟩ := chkE hm
          refine OW.cons (S_append (ys := ([(Finish.mk s_l1.2.2.2 s_j4.2.2.1 s_j4.2.2.2)] : List Finish)) hL 2 rfl Try.underlying24 Try_T31 rfl rfl rfl (hL.rdO 0 rfl) hc345 (by decide) rfl ?_)
          intro wd342 v343 S344 hL
          refine OW.cons (OP.val (v := v343) rfl (x_assign) ?_)
          refine OW.nil ?_
          refine CW.regionL ?_
          refine OW.cons (OP.val (v := (.int .i64 s_l1.2.2.2)) rfl (x_mv f337) ?_)
          refine OW.cons (OP.val (v := (.int .i64 (w64 (s_l1.2.2.2 + 1)))) rfl (x_add rfl rfl) ?_)
          refine OW.cons (OP.val (v := (.int .i64 (w64 (s_l1.2.2.2 + 1)))) rfl (x_assign) ?_)
          refine OW.nil ?_
          have hL := hL.sel [2, 3, 4] (by decide) rfl
          obtain rfl := Option.some.inj hm
          exact ⟨_, rfl, ⟨v343, S344, f334, f335, rfl, rfl, hL⟩⟩
      · refine CW.exit ?_
        refine XJ.hit ?_
        obtain rfl := Option.some.inj hm
        exact ⟨_, rfl, ⟨v134, S135, f307, f308, f309, f310, hL⟩⟩

theorem M.spec_l24Draw_ok (w0 : World) {b1 : Nat} {v2 : Value} (a0 : Src) (h3 : rdL (fun k => k < w0.heap.size ∧ ¬ (Ent.blk b1 83 #[v2, .int .i64 a0.at_, .int .i64 a0.seed]).S k) w0 v2 a0.code) (he4 : (Ent.blk b1 83 #[v2, .int .i64 a0.at_, .int .i64 a0.seed]).H w0) {r : ((List CurvePoint)) × (Int × Int)} (hm : M.spec_l24Draw a0 = some r) :
    Calls Try.prog 30 #[(.pointer (some ⟨b1, 0, none⟩))] w0 fun e w' => ∃ (rv0 : Value) (rS0 : Nat → Prop), e = .returned rv0 ∧ Mut w0 w' (Ent.blk b1 83 #[v2, .int .i64 a0.at_, .int .i64 a0.seed]).S [Ent.blk b1 83 #[v2, .int .i64 r.2.1, .int .i64 r.2.2], Ent.own 62 rS0 rv0 r.1] := by
  unfold M.spec_l24Draw at hm
  refine calls_CW (args := [(.pointer (some ⟨b1, 0, none⟩))]) Try.func30 rfl rfl rfl ?_
  have hL := Hp.startIO he4
  refine CW.seq ?_
  refine CW.regionL ?_
  refine OW.cons (OP.val (v := (.slice none 0 0)) rfl (x_assign) ?_)
  refine OW.nil ?_
  refine CW.seq ?_
  refine CW.regionL ?_
  refine OW.cons (S_lit ([] : List CurvePoint) hL Try.underlying34 Try_T62 rfl (by decide) (by first | (simp [Instr.fill, madeCells, Value.cells, ev, upd, Flat.enc, Flat.sz]; done) | rfl | kernel_rfl) rfl rfl ?_)
  intro wd5 v6 S7 hL
  refine OW.cons (OP.val (v := v6) rfl (x_assign) ?_)
  refine OW.nil ?_
  refine CW.seq ?_
  refine CW.regionL ?_
  refine OW.cons (OP.val (v := (.pointer (some ⟨b1, 0, none⟩))) rfl (x_move) ?_)
  obtain ⟨x8, hx9, hm⟩ := bndE hm
  refine OW.cons (OP.call rfl (x_call (vs := [(.pointer (some ⟨b1, 0, none⟩)), (.int .i64 60)]) Try_C29 ⟨rfl, rfl, trivial⟩) (M.spec_l01Next_ok _ (Src.mk a0.code a0.at_ a0.seed) (hL.exZ 2 1 (by decide) rfl rfl h3) (hL.get 1 rfl) 60 hx9) ?_)
  rintro e10 wd11 ⟨rfl, hF12⟩
  refine ⟨_, rfl, ?_⟩
  have hL := hL.mut 1 rfl hF12
  simp only [lA, lB, lC, lD] at hL
  refine OW.cons (OP.val (v := (.pointer (some ⟨b1, 0, none⟩))) rfl (x_move) ?_)
  obtain ⟨x13, hx14, hm⟩ := bndE hm
  refine OW.cons (OP.call rfl (x_call (vs := [(.pointer (some ⟨b1, 0, none⟩)), (.int .i64 4000)]) Try_C29 ⟨rfl, rfl, trivial⟩) (M.spec_l01Next_ok _ (Src.mk a0.code x8.2.1 x8.2.2) (hL.exZ 2 1 (by decide) rfl rfl h3) (hL.get 1 rfl) 4000 hx14) ?_)
  rintro e15 wd16 ⟨rfl, hF17⟩
  refine ⟨_, rfl, ?_⟩
  have hL := hL.mut 1 rfl hF17
  simp only [lA, lB, lC, lD] at hL
  refine OW.cons (OP.val (v := (.int .i64 (w64 (3000 + x13.1)))) rfl (x_add rfl rfl) ?_)
  refine OW.cons (OP.val (v := (.int .i64 x8.1)) rfl (x_assign) ?_)
  refine OW.cons (OP.val (v := (.int .i64 (w64 (3000 + x13.1)))) rfl (x_assign) ?_)
  refine OW.nil ?_
  refine CW.seq ?_
  refine CW.seq ?_
  refine CW.regionL ?_
  refine OW.cons (OP.val (v := (.pointer (some ⟨b1, 0, none⟩))) rfl (x_move) ?_)
  obtain ⟨x18, hx19, hm⟩ := bndE hm
  refine OW.cons (OP.call rfl (x_call (vs := [(.pointer (some ⟨b1, 0, none⟩)), (.int .i64 5)]) Try_C29 ⟨rfl, rfl, trivial⟩) (M.spec_l01Next_ok _ (Src.mk a0.code x13.2.1 x13.2.2) (hL.exZ 2 1 (by decide) rfl rfl h3) (hL.get 1 rfl) 5 hx19) ?_)
  rintro e20 wd21 ⟨rfl, hF22⟩
  refine ⟨_, rfl, ?_⟩
  have hL := hL.mut 1 rfl hF22
  simp only [lA, lB, lC, lD] at hL
  refine OW.cons (OP.val (v := (.int .i64 (w64 (2 + x18.1)))) rfl (x_add rfl rfl) ?_)
  refine OW.cons (OP.val (v := (.int .i64 (w64 (2 + x18.1)))) rfl (x_assign) ?_)
  refine OW.nil ?_
  obtain ⟨o65, ho66, hm⟩ := bndE hm
  refine CW.loopB (fun (s_l1 : Int × Int × (List CurvePoint) × Int × Int × Int) (F : Fr) (w : World) => ∃ (v61 : Value) (S62 : Nat → Prop), F 0 = (.pointer (some ⟨b1, 0, none⟩)) ∧ F 3 = v61 ∧ F 4 = (.int .i64 s_l1.2.2.2.1) ∧ F 5 = (.int .i64 s_l1.2.2.2.2.1) ∧ F 6 = (.int .i64 s_l1.2.2.2.2.2) ∧ Hp w0 [Ent.own 62 S62 v61 s_l1.2.2.1, Ent.blk b1 83 #[v2, (.int .i64 s_l1.1), (.int .i64 s_l1.2.1)], Ent.frz w0 (Ent.blk b1 83 #[v2, .int .i64 a0.at_, .int .i64 a0.seed]).S] w) (fun o => outc o (fun x => some x) (fun s => M.spec_l24Draw_a1 a0 s) = some r) ho66 hm ⟨v6, S7, rfl, rfl, rfl, rfl, rfl, hL⟩ ?_ ?_
  · intro s_l1 F67 wd68 hJ hm
    have hm := outcE hm
    have hm : M.spec_l24Draw_a1 a0 s_l1 = some r := hm
    unfold M.spec_l24Draw_a1 at hm
    obtain ⟨v61, S62, f69, f70, f71, f72, f73, hL⟩ := hJ
    refine CW.seq ?_
    refine CW.regionL ?_
    refine OW.cons (OP.val (v := (.pointer (some ⟨b1, 0, none⟩))) rfl (x_mv f69) ?_)
    refine OW.cons (OP.val (v := v61) rfl (x_mv f70) ?_)
    refine OW.cons (OP.val (v := (.int .i64 (s_l1.2.2.1.length : Int))) rfl (x_lenR Try.underlying34 rfl (hL.rdO 0 rfl)) ?_)
    obtain ⟨x74, hx75, hm⟩ := bndE hm
    refine OW.cons (OP.call rfl (x_call (vs := [(.pointer (some ⟨b1, 0, none⟩)), (.int .i64 (s_l1.2.2.1.length : Int))]) Try_C29 ⟨rfl, rfl, trivial⟩) (M.spec_l01Next_ok _ (Src.mk a0.code s_l1.1 s_l1.2.1) (hL.exZ 2 1 (by decide) rfl rfl h3) (hL.get 1 rfl) (s_l1.2.2.1.length : Int) hx75) ?_)
    rintro e76 wd77 ⟨rfl, hF78⟩
    refine ⟨_, rfl, ?_⟩
    have hL := hL.mut 1 rfl hF78
    simp only [lA, lB, lC, lD] at hL
    refine OW.cons (OP.val (v := (.int .i64 x74.1)) rfl (x_assign) ?_)
    refine OW.nil ?_
    refine CW.seqJ (fun (s_j1 : Int × Int × (List CurvePoint)) (F : Fr) (w : World) => ∃ (S192 : Nat → Prop), F 3 = v61 ∧ Hp w0 [Ent.own 62 S192 v61 s_j1.2.2, Ent.blk b1 83 #[v2, (.int .i64 s_j1.1), (.int .i64 s_j1.2.1)], Ent.frz w0 (Ent.blk b1 83 #[v2, .int .i64 a0.at_, .int .i64 a0.seed]).S] w) (fun s_j1 => M.spec_l24Draw_j1 s_j1 = some r) ?_ ?_
    · refine CW.seq ?_
      refine CW.regionL ?_
      refine OW.cons (OP.val (v := (.pointer (some ⟨b1, 0, none⟩))) rfl (x_mv f69) ?_)
      obtain ⟨x196, hx197, hm⟩ := bndE hm
      refine OW.cons (OP.call rfl (x_call (vs := [(.pointer (some ⟨b1, 0, none⟩)), (.int .i64 30)]) Try_C29 ⟨rfl, rfl, trivial⟩) (M.spec_l01Next_ok _ (Src.mk a0.code x74.2.1 x74.2.2) (hL.exZ 2 1 (by decide) rfl rfl h3) (hL.get 1 rfl) 30 hx197) ?_)
      rintro e198 wd199 ⟨rfl, hF200⟩
      refine ⟨_, rfl, ?_⟩
      have hL := hL.mut 1 rfl hF200
      simp only [lA, lB, lC, lD] at hL
      refine OW.nil ?_
      refine CW.blockJ (fun (s_j2 : Int × Int × (List CurvePoint)) (F : Fr) (w : World) => ∃ (S253 : Nat → Prop), F 3 = v61 ∧ Hp w0 [Ent.own 62 S253 v61 s_j2.2.2, Ent.blk b1 83 #[v2, (.int .i64 s_j2.1), (.int .i64 s_j2.2.1)], Ent.frz w0 (Ent.blk b1 83 #[v2, .int .i64 a0.at_, .int .i64 a0.seed]).S] w) (fun s_j2 => M.spec_l24Draw_j2 s_j2 = some r) ?_ ?_
      · refine CW.seq ?_
        refine CW.regionL ?_
        refine OW.cons (OP.val (v := (.bool (x196.1 == 0))) rfl (x_eql rfl rfl) ?_)
        refine OW.cons (OP.val (v := (.bool (x196.1 == 0))) rfl (x_assign) ?_)
        refine OW.nil ?_
        refine CW.condM (t := x196.1 == 0) rfl hm (fun hb257 hm => ?_) (fun hb257 hm => ?_)
        · refine CW.regionL ?_
          refine OW.cons (OP.val (v := v61) rfl (x_mv f70) ?_)
          refine OW.cons (OP.val (v := (.int .i64 x74.1)) rfl (x_move) ?_)
          refine OW.cons (S_lit ([(-1), 0, 1000, 1001] : List Int) hL Try.underlying84 Try_T2 rfl (by decide) (by first | (simp [Instr.fill, madeCells, Value.cells, ev, upd, Flat.enc, Flat.sz]; done) | rfl | kernel_rfl) rfl rfl ?_)
          intro wd258 v259 S260 hL
          refine OW.cons (OP.val (v := (.pointer (some ⟨b1, 0, none⟩))) rfl (x_mv f69) ?_)
          obtain ⟨x261, hx262, hm⟩ := bndE hm
          refine OW.cons (OP.call rfl (x_call (vs := [(.pointer (some ⟨b1, 0, none⟩)), (.int .i64 4)]) Try_C29 ⟨rfl, rfl, trivial⟩) (M.spec_l01Next_ok _ (Src.mk a0.code x196.2.1 x196.2.2) (hL.exZ 3 2 (by decide) rfl rfl h3) (hL.get 2 rfl) 4 hx262) ?_)
          rintro e263 wd264 ⟨rfl, hF265⟩
          refine ⟨_, rfl, ?_⟩
          have hL := hL.mut 2 rfl hF265
          simp only [lA, lB, lC, lD] at hL
          obtain ⟨x266, ha267, hm⟩ := bndE hm
          obtain ⟨hz268, ha272⟩ := idxE ha267
          obtain ⟨b269, q270, hix271⟩ := rdL_ix (hL.rdO 0 rfl) hz268 ha272
          refine OW.cons (OP.val (v := (.pointer (some ⟨b269, q270, none⟩))) rfl (x_ix Try.underlying84 Try_T2 rfl rfl hix271) ?_)
          refine OW.cons (OP.val (v := (.int .i64 x266)) rfl (x_load1 Try.underlying2 rfl rfl (rdF_cells (hL.rdO 0 rfl) hix271 ha272 0 _ rfl)) ?_)
          obtain ⟨x273, ha274, hm⟩ := bndE hm
          obtain ⟨hz275, ha279⟩ := idxE ha274
          obtain ⟨b276, q277, hix278⟩ := rdL_ix (hL.rdO 1 rfl) hz275 ha279
          refine OW.cons (OP.val (v := (.pointer (some ⟨b276, q277, none⟩))) rfl (x_ix Try.underlying34 Try_T62 rfl rfl hix278) ?_)
          refine OW.cons (OP.val (v := (.pointer (some ⟨b276, q277, none⟩))) rfl (x_fieldAddr (fsz := 1) q277 0 q277 Try.underlying62 rfl Try_T2 rfl rfl rfl) ?_)
          refine OW.cons (S_storeX (j := 0) (CurvePoint.mk x266 x273.Pace) hL 1 rfl Try_T2 hix278 ha279 rfl rfl rfl rfl rfl rfl ?_)
          intro wd280 hL
          refine OW.nil ?_
          have hL := hL.sel [1, 2, 3] (by decide) rfl
          exact ⟨(x261.2.1, x261.2.2, s_l1.2.2.1.set (x74.1 : Int).toNat (CurvePoint.mk x266 x273.Pace)), hm, ⟨S62, f70, hL⟩⟩
        · refine CW.seq ?_
          refine CW.regionL ?_
          refine OW.cons (OP.val (v := (.bool (x196.1 == 1))) rfl (x_eql rfl rfl) ?_)
          refine OW.cons (OP.val (v := (.bool (x196.1 == 1))) rfl (x_assign) ?_)
          refine OW.nil ?_
          refine CW.condM (t := x196.1 == 1) rfl hm (fun hb281 hm => ?_) (fun hb281 hm => ?_)
          · refine CW.regionL ?_
            refine OW.cons (OP.val (v := v61) rfl (x_mv f70) ?_)
            refine OW.cons (OP.val (v := (.int .i64 x74.1)) rfl (x_move) ?_)
            refine OW.cons (S_lit ([0, 1, 1000000, 1000001] : List Int) hL Try.underlying84 Try_T2 rfl (by decide) (by first | (simp [Instr.fill, madeCells, Value.cells, ev, upd, Flat.enc, Flat.sz]; done) | rfl | kernel_rfl) rfl rfl ?_)
            intro wd282 v283 S284 hL
            refine OW.cons (OP.val (v := (.pointer (some ⟨b1, 0, none⟩))) rfl (x_mv f69) ?_)
            obtain ⟨x285, hx286, hm⟩ := bndE hm
            refine OW.cons (OP.call rfl (x_call (vs := [(.pointer (some ⟨b1, 0, none⟩)), (.int .i64 4)]) Try_C29 ⟨rfl, rfl, trivial⟩) (M.spec_l01Next_ok _ (Src.mk a0.code x196.2.1 x196.2.2) (hL.exZ 3 2 (by decide) rfl rfl h3) (hL.get 2 rfl) 4 hx286) ?_)
            rintro e287 wd288 ⟨rfl, hF289⟩
            refine ⟨_, rfl, ?_⟩
            have hL := hL.mut 2 rfl hF289
            simp only [lA, lB, lC, lD] at hL
            obtain ⟨x290, ha291, hm⟩ := bndE hm
            obtain ⟨hz292, ha296⟩ := idxE ha291
            obtain ⟨b293, q294, hix295⟩ := rdL_ix (hL.rdO 0 rfl) hz292 ha296
            refine OW.cons (OP.val (v := (.pointer (some ⟨b293, q294, none⟩))) rfl (x_ix Try.underlying84 Try_T2 rfl rfl hix295) ?_)
            refine OW.cons (OP.val (v := (.int .i64 x290)) rfl (x_load1 Try.underlying2 rfl rfl (rdF_cells (hL.rdO 0 rfl) hix295 ha296 0 _ rfl)) ?_)
            obtain ⟨x297, ha298, hm⟩ := bndE hm
            obtain ⟨hz299, ha303⟩ := idxE ha298
            obtain ⟨b300, q301, hix302⟩ := rdL_ix (hL.rdO 1 rfl) hz299 ha303
            refine OW.cons (OP.val (v := (.pointer (some ⟨b300, q301, none⟩))) rfl (x_ix Try.underlying34 Try_T62 rfl rfl hix302) ?_)
            refine OW.cons (OP.val (v := (.pointer (some ⟨b300, q301 + 1, none⟩))) rfl (x_fieldAddr (fsz := 1) q301 1 (q301 + 1) Try.underlying62 rfl Try_T2 rfl rfl rfl) ?_)
            refine OW.cons (S_storeX (j := 1) (CurvePoint.mk x297.Wind x290) hL 1 rfl Try_T2 hix302 ha303 rfl rfl rfl rfl rfl rfl ?_)
            intro wd304 hL
            refine OW.nil ?_
            have hL := hL.sel [1, 2, 3] (by decide) rfl
            exact ⟨(x285.2.1, x285.2.2, s_l1.2.2.1.set (x74.1 : Int).toNat (CurvePoint.mk x297.Wind x290)), hm, ⟨S62, f70, hL⟩⟩
          · refine CW.seq ?_
            refine CW.regionL ?_
            refine OW.cons (OP.val (v := (.bool (x196.1 == 2))) rfl (x_eql rfl rfl) ?_)
            refine OW.cons (OP.val (v := (.bool (x196.1 == 2))) rfl (x_assign) ?_)
            refine OW.nil ?_
            refine CW.condM (t := x196.1 == 2) rfl hm (fun hb305 hm => ?_) (fun hb305 hm => ?_)
            · refine CW.seq ?_
              refine CW.regionL ?_
              refine OW.cons (OP.val (v := v61) rfl (x_mv f70) ?_)
              obtain ⟨hc308, hm⟩ := chkE hm
              obtain ⟨v306, hs307⟩ := subV_of (hL.rdO 0 rfl) hc308
              refine OW.cons (OP.val (v := v306) rfl (x_slice0 Try.underlying34 Try_T62 rfl rfl hs307) ?_)
              refine OW.cons (OP.val (v := v306) rfl (x_assign) ?_)
              refine OW.nil ?_
              refine CW.ret ?_
              have hL := hL.prefix 0 rfl hs307
              obtain rfl := Option.some.inj hm
              exact RR1 rfl rfl ⟨v306, S62, rfl, hL.mutOut 2 rfl [1, 0] (by decide) (by decide) rfl⟩
            · refine CW.skip ?_
              exact ⟨(x196.2.1, x196.2.2, s_l1.2.2.1), hm, ⟨S62, f70, hL⟩⟩
      · intro s_j2 F254 wd255 hJ hm
        unfold M.spec_l24Draw_j2 at hm
        obtain ⟨S253, f256, hL⟩ := hJ
        exact ⟨(s_j2.1, s_j2.2.1, s_j2.2.2), hm, ⟨S253, f256, hL⟩⟩
    · intro s_j1 F193 wd194 hJ hm
      unfold M.spec_l24Draw_j1 at hm
      obtain ⟨S192, f195, hL⟩ := hJ
      refine CW.seq ?_
      refine CW.regionL ?_
      refine OW.cons (OP.val (v := v61) rfl (x_mv f195) ?_)
      refine OW.cons (OP.val (v := v61) rfl (x_assign) ?_)
      refine OW.nil ?_
      refine CW.ret ?_
      obtain rfl := Option.some.inj hm
      exact RR1 rfl rfl ⟨v61, S192, rfl, hL.mutOut 2 rfl [1, 0] (by decide) (by decide) rfl⟩
  · intro s_l1 F309 wd310 t63 hJ hm hr64
    unfold M.spec_l24Draw_l1 at hm
    obtain ⟨v61, S62, f311, f312, f313, f314, f315, hL⟩ := hJ
    refine CW.seq ?_
    refine CW.seq ?_
    refine CW.regionL ?_
    refine OW.cons (OP.val (v := (.int .i64 s_l1.2.2.2.2.2)) rfl (x_mv f315) ?_)
    refine OW.cons (OP.val (v := (.bool (decide (0 < s_l1.2.2.2.2.2)))) rfl (x_gtr rfl rfl) ?_)
    refine OW.nil ?_
    refine CW.condM (t := decide (0 < s_l1.2.2.2.2.2)) rfl hm (fun hb316 hm => ?_) (fun hb316 hm => ?_)
    · refine CW.skip ?_
      refine CW.seq ?_
      refine CW.block ?_
      refine CW.seq ?_
      refine CW.regionL ?_
      refine OW.cons (OP.val (v := v61) rfl (x_mv f312) ?_)
      refine OW.cons (OP.val (v := (.int .i64 s_l1.2.2.2.1)) rfl (x_mv f313) ?_)
      refine OW.cons (OP.val (v := (.int .i64 s_l1.2.2.2.2.1)) rfl (x_mv f314) ?_)
      refine OW.cons (OP.val (v := (.agg #[(.int .i64 s_l1.2.2.2.1), (.int .i64 s_l1.2.2.2.2.1)])) rfl (x_build Try_B62 (ps := [(0, (.int .i64 s_l1.2.2.2.1)), (1, (.int .i64 s_l1.2.2.2.2.1))]) ⟨⟨rfl, rfl⟩, ⟨rfl, rfl⟩, trivial⟩ (by simp [Instr.fill, cells_int, cells_bool, cells_string, cells_agg, cells_slice, cells_pointer])) ?_)
      refine OW.cons (S_lit ([(CurvePoint.mk s_l1.2.2.2.1 s_l1.2.2.2.2.1)] : List CurvePoint) hL Try.underlying34 Try_T62 rfl (by decide) (by first | (simp [Instr.fill, madeCells, Value.cells, ev, upd, Flat.enc, Flat.sz]; done) | rfl | kernel_rfl) rfl rfl ?_)
      intro wd317 v318 S319 hL
      obtain ⟨hc323, hm⟩ := chkE hm
      refine OW.cons (S_append (ys := ([(CurvePoint.mk s_l1.2.2.2.1 s_l1.2.2.2.2.1)] : List CurvePoint)) hL 1 rfl Try.underlying34 Try_T62 rfl rfl rfl (hL.rdO 0 rfl) hc323 (by decide) rfl ?_)
      intro wd320 v321 S322 hL
      refine OW.cons (OP.val (v := v321) rfl (x_assign) ?_)
      refine OW.nil ?_
      refine CW.seq ?_
      refine CW.regionL ?_
      refine OW.cons (OP.val (v := (.int .i64 s_l1.2.2.2.1)) rfl (x_mv f313) ?_)
      refine OW.cons (OP.val (v := (.int .i64 (w64 (s_l1.2.2.2.1 + 1)))) rfl (x_add rfl rfl) ?_)
      refine OW.cons (OP.val (v := (.pointer (some ⟨b1, 0, none⟩))) rfl (x_mv f311) ?_)
      obtain ⟨x324, hx325, hm⟩ := bndE hm
      refine OW.cons (OP.call rfl (x_call (vs := [(.pointer (some ⟨b1, 0, none⟩)), (.int .i64 60)]) Try_C29 ⟨rfl, rfl, trivial⟩) (M.spec_l01Next_ok _ (Src.mk a0.code s_l1.1 s_l1.2.1) (hL.exZ 3 2 (by decide) rfl rfl h3) (hL.get 2 rfl) 60 hx325) ?_)
      rintro e326 wd327 ⟨rfl, hF328⟩
      refine ⟨_, rfl, ?_⟩
      have hL := hL.mut 2 rfl hF328
      simp only [lA, lB, lC, lD] at hL
      refine OW.cons (OP.val (v := (.int .i64 (w64 ((w64 (s_l1.2.2.2.1 + 1)) + x324.1)))) rfl (x_add rfl rfl) ?_)
      refine OW.cons (OP.val (v := (.int .i64 (w64 ((w64 (s_l1.2.2.2.1 + 1)) + x324.1)))) rfl (x_assign) ?_)
      refine OW.nil ?_
      refine CW.regionL ?_
      refine OW.cons (OP.val (v := (.int .i64 s_l1.2.2.2.2.1)) rfl (x_mv f314) ?_)
      refine OW.cons (OP.val (v := (.int .i64 (w64 (s_l1.2.2.2.2.1 - 1)))) rfl (x_sub rfl rfl) ?_)
      refine OW.cons (OP.val (v := (.pointer (some ⟨b1, 0, none⟩))) rfl (x_mv f311) ?_)
      obtain ⟨x329, hx330, hm⟩ := bndE hm
      refine OW.cons (OP.call rfl (x_call (vs := [(.pointer (some ⟨b1, 0, none⟩)), (.int .i64 500)]) Try_C29 ⟨rfl, rfl, trivial⟩) (M.spec_l01Next_ok _ (Src.mk a0.code x324.2.1 x324.2.2) (hL.exZ 3 2 (by decide) rfl rfl h3) (hL.get 2 rfl) 500 hx330) ?_)
      rintro e331 wd332 ⟨rfl, hF333⟩
      refine ⟨_, rfl, ?_⟩
      have hL := hL.mut 2 rfl hF333
      simp only [lA, lB, lC, lD] at hL
      refine OW.cons (OP.val (v := (.int .i64 (w64 ((w64 (s_l1.2.2.2.2.1 - 1)) - x329.1)))) rfl (x_sub rfl rfl) ?_)
      refine OW.cons (OP.val (v := (.int .i64 (max 1 (w64 ((w64 (s_l1.2.2.2.2.1 - 1)) - x329.1))))) rfl (x_max2 rfl rfl) ?_)
      refine OW.cons (OP.val (v := (.int .i64 (max 1 (w64 ((w64 (s_l1.2.2.2.2.1 - 1)) - x329.1))))) rfl (x_assign) ?_)
      refine OW.nil ?_
      refine CW.regionL ?_
      refine OW.cons (OP.val (v := (.int .i64 s_l1.2.2.2.2.2)) rfl (x_mv f315) ?_)
      refine OW.cons (OP.val (v := (.int .i64 (w64 (s_l1.2.2.2.2.2 - 1)))) rfl (x_sub rfl rfl) ?_)
      refine OW.cons (OP.val (v := (.int .i64 (w64 (s_l1.2.2.2.2.2 - 1)))) rfl (x_assign) ?_)
      refine OW.nil ?_
      have hL := hL.sel [1, 2, 3] (by decide) rfl
      obtain rfl := Option.some.inj hm
      exact ⟨_, rfl, ⟨v321, S322, f311, rfl, rfl, rfl, rfl, hL⟩⟩
    · refine CW.exit ?_
      refine XJ.hit ?_
      obtain rfl := Option.some.inj hm
      exact ⟨_, rfl, ⟨v61, S62, f311, f312, f313, f314, f315, hL⟩⟩

theorem M.spec_l01In_ok (w0 : World) (a0 : Int) (a1 : Int) (a2 : Int) {r : Bool} (hm : M.spec_l01In a0 a1 a2 = some r) :
    Calls Try.prog 41 #[(.int .i64 a0), (.int .i64 a1), (.int .i64 a2)] w0 fun e w' => e = .returned (.bool r) ∧ Fresh w0 w' [] := by
  unfold M.spec_l01In at hm
  refine calls_CW (args := [(.int .i64 a0), (.int .i64 a1), (.int .i64 a2)]) Try.func41 rfl rfl rfl ?_
  have hL := Hp.start w0
  refine CW.seq ?_
  refine CW.regionL ?_
  refine OW.cons (OP.val (v := (.bool false)) rfl (x_assign) ?_)
  refine OW.nil ?_
  refine CW.seqJ (fun (s_j1 : Bool) (F : Fr) (w : World) => F 6 = (.bool s_j1) ∧ Hp w0 [Ent.snap w0 w0.heap.size] w) (fun s_j1 => M.spec_l01In_j1 s_j1 = some r) ?_ ?_
  · refine CW.regionL ?_
    refine OW.cons (OP.val (v := (.int .i64 a0)) rfl (x_move) ?_)
    refine OW.cons (OP.val (v := (.int .i64 a1)) rfl (x_move) ?_)
    refine OW.cons (OP.val (v := (.bool (decide (a1 ≤ a0)))) rfl (x_geq rfl rfl) ?_)
    refine OW.cons (OP.val (v := (.bool (decide (a1 ≤ a0)))) rfl (x_move) ?_)
    refine ifB_elim hm (fun hb5 hm => ?_) (fun hb5 hm => ?_)
    · refine OW.cons (OP.yes' rfl rfl hb5 (OP.val (v := (.int .i64 a0)) rfl (x_move) ?_))
      refine OW.cons (OP.yes' rfl rfl hb5 (OP.val (v := (.int .i64 a2)) rfl (x_move) ?_))
      refine OW.cons (OP.yes' rfl rfl hb5 (OP.val (v := (.bool (decide (a0 ≤ a2)))) rfl (x_leq rfl rfl) ?_))
      refine OW.cons (OP.val (v := (.bool (decide (a0 ≤ a2)))) rfl (x_pickT' rfl hb5 rfl) ?_)
      refine OW.cons (OP.val (v := (.bool (decide (a0 ≤ a2)))) rfl (x_assign) ?_)
      refine OW.nil ?_
      exact ⟨decide (a0 ≤ a2), hm, ⟨rfl, hL⟩⟩
    · refine OW.cons (OP.no' rfl rfl hb5 rfl ?_)
      refine OW.cons (OP.no' rfl rfl hb5 rfl ?_)
      refine OW.cons (OP.no' rfl rfl hb5 rfl ?_)
      refine OW.cons (OP.val (v := (.bool false)) rfl (x_pickF' rfl hb5 rfl) ?_)
      refine OW.cons (OP.val (v := (.bool false)) rfl (x_assign) ?_)
      refine OW.nil ?_
      exact ⟨false, hm, ⟨rfl, hL⟩⟩
  · intro s_j1 F2 wd3 hJ hm
    unfold M.spec_l01In_j1 at hm
    obtain ⟨f4, hL⟩ := hJ
    refine CW.ret ?_
    obtain rfl := Option.some.inj hm
    exact RR1 rfl f4 ⟨rfl, hL.fresh 0 rfl [] (by decide) (by decide) rfl⟩

theorem M.spec_IsCurve_ok (w0 : World) (a0 : List CurvePoint) {v1 : Value} (h2 : rdL (· < w0.heap.size) w0 v1 a0) {r : Bool} (hm : M.spec_IsCurve a0 = some r) :
    Calls Try.prog 31 #[v1] w0 fun e w' => e = .returned (.bool r) ∧ Fresh w0 w' [] := by
  unfold M.spec_IsCurve at hm
  refine calls_CW (args := [v1]) Try.func31 rfl rfl rfl ?_
  have hL := Hp.start w0
  refine CW.seq ?_
  refine CW.regionL ?_
  refine OW.cons (OP.val (v := (.bool false)) rfl (x_assign) ?_)
  refine OW.nil ?_
  refine CW.seq ?_
  refine CW.seqJ (fun (s_j1 : Bool) (F : Fr) (w : World) => F 0 = v1 ∧ F 11 = (.bool s_j1) ∧ Hp w0 [Ent.snap w0 w0.heap.size] w) (fun s_j1 => M.spec_IsCurve_j1 a0 s_j1 = some r) ?_ ?_
  · refine CW.regionL ?_
    refine OW.cons (OP.val (v := v1) rfl (x_move) ?_)
    refine OW.cons (OP.val (v := (.int .i64 (a0.length : Int))) rfl (x_lenR Try.underlying34 rfl (hL.rdS 0 rfl h2)) ?_)
    refine OW.cons (OP.val (v := (.bool (decide ((a0.length : Int) < 2)))) rfl (x_lss rfl rfl) ?_)
    refine OW.cons (OP.val (v := (.bool (decide ((a0.length : Int) < 2)))) rfl (x_move) ?_)
    refine ifB_elim hm (fun hb408 hm => ?_) (fun hb408 hm => ?_)
    · refine OW.cons (OP.no' rfl rfl hb408 rfl ?_)
      refine OW.cons (OP.no' rfl rfl hb408 rfl ?_)
      refine OW.cons (OP.no' rfl rfl hb408 rfl ?_)
      refine OW.cons (OP.val (v := (.bool true)) rfl (x_pickT' rfl hb408 rfl) ?_)
      refine OW.nil ?_
      exact ⟨true, hm, ⟨rfl, rfl, hL⟩⟩
    · refine OW.cons (OP.yes' rfl rfl hb408 (OP.val (v := v1) rfl (x_move) ?_))
      refine OW.cons (OP.yes' rfl rfl hb408 (OP.val (v := (.int .i64 (a0.length : Int))) rfl (x_lenR Try.underlying34 rfl (hL.rdS 0 rfl h2)) ?_))
      refine OW.cons (OP.yes' rfl rfl hb408 (OP.val (v := (.bool (decide (12 < (a0.length : Int))))) rfl (x_gtr rfl rfl) ?_))
      refine OW.cons (OP.val (v := (.bool (decide (12 < (a0.length : Int))))) rfl (x_pickF' rfl hb408 rfl) ?_)
      refine OW.nil ?_
      exact ⟨decide (12 < (a0.length : Int)), hm, ⟨rfl, rfl, hL⟩⟩
  · intro s_j1 F4 wd5 hJ hm
    unfold M.spec_IsCurve_j1 at hm
    obtain ⟨f6, f7, hL⟩ := hJ
    refine CW.condM (t := s_j1) f7 hm (fun hb8 hm => ?_) (fun hb8 hm => ?_)
    · refine CW.seq ?_
      refine CW.regionL ?_
      refine OW.cons (OP.val (v := (.bool false)) rfl (x_assign) ?_)
      refine OW.nil ?_
      refine CW.ret ?_
      obtain rfl := Option.some.inj hm
      exact RR1 rfl rfl ⟨rfl, hL.fresh 0 rfl [] (by decide) (by decide) rfl⟩
    · refine CW.skip ?_
      refine CW.seq ?_
      refine CW.seq ?_
      refine CW.regionL ?_
      refine OW.cons (OP.val (v := (.int .i64 0)) rfl (x_assign) ?_)
      refine OW.nil ?_
      obtain ⟨o269, ho270, hm⟩ := bndE hm
      refine CW.loopB (fun (s_l1 : Int) (F : Fr) (w : World) => F 0 = v1 ∧ F 3 = (.int .i64 s_l1) ∧ Hp w0 [Ent.snap w0 w0.heap.size] w) (fun o => outc o (fun x => some x) (fun s => M.spec_IsCurve_a1 s) = some r) ho270 hm ⟨f6, rfl, hL⟩ ?_ ?_
      · intro s_l1 F271 wd272 hJ hm
        have hm := outcE hm
        have hm : M.spec_IsCurve_a1 s_l1 = some r := hm
        unfold M.spec_IsCurve_a1 at hm
        obtain ⟨f273, f274, hL⟩ := hJ
        refine CW.seq ?_
        refine CW.regionL ?_
        refine OW.cons (OP.val (v := (.bool true)) rfl (x_assign) ?_)
        refine OW.nil ?_
        refine CW.ret ?_
        obtain rfl := Option.some.inj hm
        exact RR1 rfl rfl ⟨rfl, hL.fresh 0 rfl [] (by decide) (by decide) rfl⟩
      · intro s_l1 F275 wd276 t267 hJ hm hr268
        unfold M.spec_IsCurve_l1 at hm
        obtain ⟨f277, f278, hL⟩ := hJ
        refine CW.seq ?_
        refine CW.seq ?_
        refine CW.regionL ?_
        refine OW.cons (OP.val (v := (.int .i64 s_l1)) rfl (x_mv f278) ?_)
        refine OW.cons (OP.val (v := v1) rfl (x_mv f277) ?_)
        refine OW.cons (OP.val (v := (.int .i64 (a0.length : Int))) rfl (x_lenR Try.underlying34 rfl (hL.rdS 0 rfl h2)) ?_)
        refine OW.cons (OP.val (v := (.bool (decide (s_l1 < (a0.length : Int))))) rfl (x_lss rfl rfl) ?_)
        refine OW.nil ?_
        refine CW.condM (t := decide (s_l1 < (a0.length : Int))) rfl hm (fun hb279 hm => ?_) (fun hb279 hm => ?_)
        · refine CW.skip ?_
          refine CW.seq ?_
          refine CW.block ?_
          refine CW.seq ?_
          refine CW.seqJ (fun (s_j2 : Bool) (F : Fr) (w : World) => F 0 = v1 ∧ F 3 = (.int .i64 s_l1) ∧ F 33 = (.bool s_j2) ∧ Hp w0 [Ent.snap w0 w0.heap.size] w) (fun s_j2 => M.spec_IsCurve_j2 a0 s_l1 s_j2 = some t267) ?_ ?_
          · refine CW.regionL ?_
            refine OW.cons (OP.val (v := v1) rfl (x_mv f277) ?_)
            refine OW.cons (OP.val (v := (.int .i64 s_l1)) rfl (x_mv f278) ?_)
            obtain ⟨x383, ha384, hm⟩ := bndE hm
            obtain ⟨hz385, ha389⟩ := idxE ha384
            obtain ⟨b386, q387, hix388⟩ := rdL_ix (hL.rdS 0 rfl h2) hz385 ha389
            refine OW.cons (OP.val (v := (.pointer (some ⟨b386, q387, none⟩))) rfl (x_ix Try.underlying34 Try_T62 rfl rfl hix388) ?_)
            refine OW.cons (OP.val (v := (.pointer (some ⟨b386, q387, none⟩))) rfl (x_fieldAddr (fsz := 1) q387 0 q387 Try.underlying62 rfl Try_T2 rfl rfl rfl) ?_)
            refine OW.cons (OP.val (v := (.int .i64 x383.Wind)) rfl (x_load1 Try.underlying2 rfl rfl (rdF_cells (hL.rdS 0 rfl h2) hix388 ha389 0 _ rfl)) ?_)
            obtain ⟨x390, hx391, hm⟩ := bndE hm
            refine OW.cons (OP.call rfl (x_call (vs := [(.int .i64 x383.Wind), (.int .i64 0), (.int .i64 1000)]) Try_C41 ⟨rfl, rfl, rfl, trivial⟩) (M.spec_l01In_ok _ x383.Wind 0 1000 hx391) ?_)
            rintro e392 wd393 ⟨rfl, hF394⟩
            refine ⟨_, rfl, ?_⟩
            have hL := hL.pushAll hF394
            simp only [lA, lB, lC, lD] at hL
            refine OW.cons (OP.val (v := (.bool (!x390))) rfl (x_not rfl) ?_)
            refine OW.cons (OP.val (v := (.bool (!x390))) rfl (x_move) ?_)
            refine ifB_elim hm (fun hb395 hm => ?_) (fun hb395 hm => ?_)
            · refine OW.cons (OP.no' rfl rfl hb395 rfl ?_)
              refine OW.cons (OP.no' rfl rfl hb395 rfl ?_)
              refine OW.cons (OP.no' rfl rfl hb395 rfl ?_)
              refine OW.cons (OP.no' rfl rfl hb395 rfl ?_)
              refine OW.cons (OP.no' rfl rfl hb395 rfl ?_)
              refine OW.cons (OP.no' rfl rfl hb395 rfl ?_)
              refine OW.cons (OP.no' rfl rfl hb395 rfl ?_)
              refine OW.cons (OP.val (v := (.bool true)) rfl (x_pickT' rfl hb395 rfl) ?_)
              refine OW.nil ?_
              exact ⟨true, hm, ⟨f277, f278, rfl, hL⟩⟩
            · refine OW.cons (OP.yes' rfl rfl hb395 (OP.val (v := v1) rfl (x_mv f277) ?_))
              refine OW.cons (OP.yes' rfl rfl hb395 (OP.val (v := (.int .i64 s_l1)) rfl (x_mv f278) ?_))
              obtain ⟨x396, ha397, hm⟩ := bndE hm
              obtain ⟨hz398, ha402⟩ := idxE ha397
              obtain ⟨b399, q400, hix401⟩ := rdL_ix (hL.rdS 0 rfl h2) hz398 ha402
              refine OW.cons (OP.yes' rfl rfl hb395 (OP.val (v := (.pointer (some ⟨b399, q400, none⟩))) rfl (x_ix Try.underlying34 Try_T62 rfl rfl hix401) ?_))
              refine OW.cons (OP.yes' rfl rfl hb395 (OP.val (v := (.pointer (some ⟨b399, q400 + 1, none⟩))) rfl (x_fieldAddr (fsz := 1) q400 1 (q400 + 1) Try.underlying62 rfl Try_T2 rfl rfl rfl) ?_))
              refine OW.cons (OP.yes' rfl rfl hb395 (OP.val (v := (.int .i64 x396.Pace)) rfl (x_load1 Try.underlying2 rfl rfl (rdF_cells (hL.rdS 0 rfl h2) hix401 ha402 1 _ rfl)) ?_))
              obtain ⟨x403, hx404, hm⟩ := bndE hm
              refine OW.cons (OP.yes' rfl rfl hb395 (OP.call rfl (x_call (vs := [(.int .i64 x396.Pace), (.int .i64 1), (.int .i64 1000000)]) Try_C41 ⟨rfl, rfl, rfl, trivial⟩) (M.spec_l01In_ok _ x396.Pace 1 1000000 hx404) ?_))
              rintro e405 wd406 ⟨rfl, hF407⟩
              refine ⟨_, rfl, ?_⟩
              have hL := hL.pushAll hF407
              simp only [lA, lB, lC, lD] at hL
              refine OW.cons (OP.yes' rfl rfl hb395 (OP.val (v := (.bool (!x403))) rfl (x_not rfl) ?_))
              refine OW.cons (OP.val (v := (.bool (!x403))) rfl (x_pickF' rfl hb395 rfl) ?_)
              refine OW.nil ?_
              exact ⟨!x403, hm, ⟨f277, f278, rfl, hL⟩⟩
          · intro s_j2 F305 wd306 hJ hm
            unfold M.spec_IsCurve_j2 at hm
            obtain ⟨f307, f308, f309, hL⟩ := hJ
            refine CW.condM (t := s_j2) f309 hm (fun hb310 hm => ?_) (fun hb310 hm => ?_)
            · refine CW.seq ?_
              refine CW.regionL ?_
              refine OW.cons (OP.val (v := (.bool false)) rfl (x_assign) ?_)
              refine OW.nil ?_
              refine CW.ret ?_
              obtain rfl := Option.some.inj hm
              have hm := hr268 _ rfl
              obtain rfl := Option.some.inj hm
              exact RR1 rfl rfl ⟨rfl, hL.fresh 0 rfl [] (by decide) (by decide) rfl⟩
            · refine CW.skip ?_
              refine CW.seqJ (fun (s_j3 : Bool) (F : Fr) (w : World) => F 0 = v1 ∧ F 3 = (.int .i64 s_l1) ∧ F 63 = (.bool s_j3) ∧ Hp w0 [Ent.snap w0 w0.heap.size] w) (fun s_j3 => M.spec_IsCurve_j3 s_l1 s_j3 = some t267) ?_ ?_
              · refine CW.draw Try_mixed ?_
                have hL := hL.call (Mod.drew _)
                refine DW.pre (fuel := 0) (fin := (((((((((((((((((((((((((((((((Array.replicate 30 false).setIfInBounds 0 true).setIfInBounds 1 true).setIfInBounds 2 true).setIfInBounds 3 true).setIfInBounds 4 true).setIfInBounds 5 true).setIfInBounds 6 true).setIfInBounds 7 true).setIfInBounds 8 true).setIfInBounds 9 true).setIfInBounds 10 true).setIfInBounds 11 true).setIfInBounds 12 true).setIfInBounds 13 true).setIfInBounds 14 true).setIfInBounds 15 true).setIfInBounds 16 true).setIfInBounds 17 true).setIfInBounds 18 true).setIfInBounds 19 true).setIfInBounds 20 true).setIfInBounds 21 true).setIfInBounds 22 true).setIfInBounds 23 true).setIfInBounds 24 true).setIfInBounds 25 true).setIfInBounds 26 true).setIfInBounds 27 true).setIfInBounds 28 true).setIfInBounds 29 true)) (C := fun w' => Mod None_ _ w') [0, 1, 2, 3, 4, 5, 6, 7, 8, 9, 10, 11, 12, 13, 14, 15, 16, 17, 18, 19, 20, 21, 22, 23, 24, 25, 26, 27, 28, 29] (Mod.refl _ _) (by kernel_rfl) (by kernel_rfl) ?_
                refine QW.cons rfl (QP.val (v := (.int .i64 s_l1)) rfl (fun w' hm' => x_mv f308) ?_)
                refine QW.cons rfl (QP.val (v := (.bool (decide (0 < s_l1)))) rfl (fun w' hm' => x_gtr rfl rfl) ?_)
                refine QW.cons rfl (QP.val (v := (.bool (decide (0 < s_l1)))) rfl (fun w' hm' => x_move) ?_)
                refine ifB_elim hm (fun hb350 hm => ?_) (fun hb350 hm => ?_)
                · refine QW.cons rfl (QP.yes' rfl rfl hb350 (QP.val (v := v1) rfl (fun w' hm' => x_mv f307) ?_))
                  refine QW.cons rfl (QP.yes' rfl rfl hb350 (QP.val (v := (.int .i64 s_l1)) rfl (fun w' hm' => x_mv f308) ?_))
                  obtain ⟨x351, ha352, hm⟩ := bndE hm
                  obtain ⟨hz353, ha357⟩ := idxE ha352
                  obtain ⟨b354, q355, hix356⟩ := rdL_ix (hL.rdS 0 rfl h2) hz353 ha357
                  refine QW.cons rfl (QP.yes' rfl rfl hb350 (QP.val (v := (.pointer (some ⟨b354, q355, none⟩))) rfl (fun w' hm' => x_ix Try.underlying34 Try_T62 rfl rfl hix356) ?_))
                  refine QW.cons rfl (QP.yes' rfl rfl hb350 (QP.val (v := (.pointer (some ⟨b354, q355, none⟩))) rfl (fun w' hm' => x_fieldAddr (fsz := 1) q355 0 q355 Try.underlying62 rfl Try_T2 rfl rfl rfl) ?_))
                  refine QW.cons rfl (QP.yes' rfl rfl hb350 (QP.val (v := (.int .i64 x351.Wind)) rfl (fun w' hm' => x_load1 Try.underlying2 rfl rfl (rdF_cells ((hL.call hm').rdS 0 rfl h2) hix356 ha357 0 _ rfl)) ?_))
                  refine QW.cons rfl (QP.yes' rfl rfl hb350 (QP.val (v := v1) rfl (fun w' hm' => x_mv f307) ?_))
                  refine QW.cons rfl (QP.yes' rfl rfl hb350 (QP.val (v := (.int .i64 s_l1)) rfl (fun w' hm' => x_mv f308) ?_))
                  refine QW.cons rfl (QP.yes' rfl rfl hb350 (QP.val (v := (.int .i64 (w64 (s_l1 - 1)))) rfl (fun w' hm' => x_sub rfl rfl) ?_))
                  obtain ⟨x358, ha359, hm⟩ := bndE hm
                  obtain ⟨hz360, ha364⟩ := idxE ha359
                  obtain ⟨b361, q362, hix363⟩ := rdL_ix (hL.rdS 0 rfl h2) hz360 ha364
                  refine QW.cons rfl (QP.yes' rfl rfl hb350 (QP.val (v := (.pointer (some ⟨b361, q362, none⟩))) rfl (fun w' hm' => x_ix Try.underlying34 Try_T62 rfl rfl hix363) ?_))
                  refine QW.cons rfl (QP.yes' rfl rfl hb350 (QP.val (v := (.pointer (some ⟨b361, q362, none⟩))) rfl (fun w' hm' => x_fieldAddr (fsz := 1) q362 0 q362 Try.underlying62 rfl Try_T2 rfl rfl rfl) ?_))
                  refine QW.cons rfl (QP.yes' rfl rfl hb350 (QP.val (v := (.int .i64 x358.Wind)) rfl (fun w' hm' => x_load1 Try.underlying2 rfl rfl (rdF_cells ((hL.call hm').rdS 0 rfl h2) hix363 ha364 0 _ rfl)) ?_))
                  refine QW.cons rfl (QP.yes' rfl rfl hb350 (QP.val (v := (.bool (decide (x351.Wind ≤ x358.Wind)))) rfl (fun w' hm' => x_leq rfl rfl) ?_))
                  refine QW.cons rfl (QP.yes' rfl rfl hb350 (QP.val (v := (.bool (decide (x351.Wind ≤ x358.Wind)))) rfl (fun w' hm' => x_move) ?_))
                  refine ifB_elim hm (fun hb365 hm => ?_) (fun hb365 hm => ?_)
                  · refine QW.cons rfl (QP.no' rfl rfl hb365 rfl ?_)
                    refine QW.cons rfl (QP.no' rfl rfl hb365 rfl ?_)
                    refine QW.cons rfl (QP.no' rfl rfl hb365 rfl ?_)
                    refine QW.cons rfl (QP.no' rfl rfl hb365 rfl ?_)
                    refine QW.cons rfl (QP.no' rfl rfl hb365 rfl ?_)
                    refine QW.cons rfl (QP.no' rfl rfl hb365 rfl ?_)
                    refine QW.cons rfl (QP.no' rfl rfl hb365 rfl ?_)
                    refine QW.cons rfl (QP.no' rfl rfl hb365 rfl ?_)
                    refine QW.cons rfl (QP.no' rfl rfl hb365 rfl ?_)
                    refine QW.cons rfl (QP.no' rfl rfl hb365 rfl ?_)
                    refine QW.cons rfl (QP.no' rfl rfl hb365 rfl ?_)
                    refine QW.cons rfl (QP.no' rfl rfl hb365 rfl ?_)
                    refine QW.cons rfl (QP.yes' rfl rfl hb350 (QP.val (v := (.bool true)) rfl (fun w' hm' => x_pickT' rfl hb365 rfl) ?_))
                    refine QW.cons rfl (QP.val (v := (.bool true)) rfl (fun w' hm' => x_pickT' rfl hb350 rfl) ?_)
                    refine QW.nil ?_
                    intro wd366 hmod
                    have hL := hL.call hmod
                    refine DW.done (by kernel_rfl) ?_
                    exact ⟨true, hm, ⟨f307, f308, rfl, hL⟩⟩
                  · refine QW.cons rfl (QP.yes' rfl rfl hb365 (QP.val (v := v1) rfl (fun w' hm' => x_mv f307) ?_))
                    refine QW.cons rfl (QP.yes' rfl rfl hb365 (QP.val (v := (.int .i64 s_l1)) rfl (fun w' hm' => x_mv f308) ?_))
                    obtain ⟨x367, ha368, hm⟩ := bndE hm
                    obtain ⟨hz369, ha373⟩ := idxE ha368
                    obtain ⟨b370, q371, hix372⟩ := rdL_ix (hL.rdS 0 rfl h2) hz369 ha373
                    refine QW.cons rfl (QP.yes' rfl rfl hb365 (QP.val (v := (.pointer (some ⟨b370, q371, none⟩))) rfl (fun w' hm' => x_ix Try.underlying34 Try_T62 rfl rfl hix372) ?_))
                    refine QW.cons rfl (QP.yes' rfl rfl hb365 (QP.val (v := (.pointer (some ⟨b370, q371 + 1, none⟩))) rfl (fun w' hm' => x_fieldAddr (fsz := 1) q371 1 (q371 + 1) Try.underlying62 rfl Try_T2 rfl rfl rfl) ?_))
                    refine QW.cons rfl (QP.yes' rfl rfl hb365 (QP.val (v := (.int .i64 x367.Pace)) rfl (fun w' hm' => x_load1 Try.underlying2 rfl rfl (rdF_cells ((hL.call hm').rdS 0 rfl h2) hix372 ha373 1 _ rfl)) ?_))
                    refine QW.cons rfl (QP.yes' rfl rfl hb365 (QP.val (v := v1) rfl (fun w' hm' => x_mv f307) ?_))
                    refine QW.cons rfl (QP.yes' rfl rfl hb365 (QP.val (v := (.int .i64 s_l1)) rfl (fun w' hm' => x_mv f308) ?_))
                    refine QW.cons rfl (QP.yes' rfl rfl hb365 (QP.val (v := (.int .i64 (w64 (s_l1 - 1)))) rfl (fun w' hm' => x_sub rfl rfl) ?_))
                    obtain ⟨x374, ha375, hm⟩ := bndE hm
                    obtain ⟨hz376, ha380⟩ := idxE ha375
                    obtain ⟨b377, q378, hix379⟩ := rdL_ix (hL.rdS 0 rfl h2) hz376 ha380
                    refine QW.cons rfl (QP.yes' rfl rfl hb365 (QP.val (v := (.pointer (some ⟨b377, q378, none⟩))) rfl (fun w' hm' => x_ix Try.underlying34 Try_T62 rfl rfl hix379) ?_))
                    refine QW.cons rfl (QP.yes' rfl rfl hb365 (QP.val (v := (.pointer (some ⟨b377, q378 + 1, none⟩))) rfl (fun w' hm' => x_fieldAddr (fsz := 1) q378 1 (q378 + 1) Try.underlying62 rfl Try_T2 rfl rfl rfl) ?_))
                    refine QW.cons rfl (QP.yes' rfl rfl hb365 (QP.val (v := (.int .i64 x374.Pace)) rfl (fun w' hm' => x_load1 Try.underlying2 rfl rfl (rdF_cells ((hL.call hm').rdS 0 rfl h2) hix379 ha380 1 _ rfl)) ?_))
                    refine QW.cons rfl (QP.yes' rfl rfl hb365 (QP.val (v := (.bool (decide (x374.Pace ≤ x367.Pace)))) rfl (fun w' hm' => x_geq rfl rfl) ?_))
                    refine QW.cons rfl (QP.yes' rfl rfl hb350 (QP.val (v := (.bool (decide (x374.Pace ≤ x367.Pace)))) rfl (fun w' hm' => x_pickF' rfl hb365 rfl) ?_))
                    refine QW.cons rfl (QP.val (v := (.bool (decide (x374.Pace ≤ x367.Pace)))) rfl (fun w' hm' => x_pickT' rfl hb350 rfl) ?_)
                    refine QW.nil ?_
                    intro wd381 hmod
                    have hL := hL.call hmod
                    refine DW.done (by kernel_rfl) ?_
                    exact ⟨decide (x374.Pace ≤ x367.Pace), hm, ⟨f307, f308, rfl, hL⟩⟩
                · refine QW.cons rfl (QP.no' rfl rfl hb350 rfl ?_)
                  refine QW.cons rfl (QP.no' rfl rfl hb350 rfl ?_)
                  refine QW.cons rfl (QP.no' rfl rfl hb350 rfl ?_)
                  refine QW.cons rfl (QP.no' rfl rfl hb350 rfl ?_)
                  refine QW.cons rfl (QP.no' rfl rfl hb350 rfl ?_)
                  refine QW.cons rfl (QP.no' rfl rfl hb350 rfl ?_)
                  refine QW.cons rfl (QP.no' rfl rfl hb350 rfl ?_)
                  refine QW.cons rfl (QP.no' rfl rfl hb350 rfl ?_)
                  refine QW.cons rfl (QP.no' rfl rfl hb350 rfl ?_)
                  refine QW.cons rfl (QP.no' rfl rfl hb350 rfl ?_)
                  refine QW.cons rfl (QP.no' rfl rfl hb350 rfl ?_)
                  refine QW.cons rfl (QP.no' rfl rfl hb350 rfl ?_)
                  refine QW.cons rfl (QP.no' rfl rfl hb350 rfl ?_)
                  refine QW.cons rfl (QP.noU rfl rfl rfl ?_)
                  refine QW.cons rfl (QP.noU rfl rfl rfl ?_)
                  refine QW.cons rfl (QP.noU rfl rfl rfl ?_)
                  refine QW.cons rfl (QP.noU rfl rfl rfl ?_)
                  refine QW.cons rfl (QP.noU rfl rfl rfl ?_)
                  refine QW.cons rfl (QP.noU rfl rfl rfl ?_)
                  refine QW.cons rfl (QP.noU rfl rfl rfl ?_)
                  refine QW.cons rfl (QP.noU rfl rfl rfl ?_)
                  refine QW.cons rfl (QP.noU rfl rfl rfl ?_)
                  refine QW.cons rfl (QP.noU rfl rfl rfl ?_)
                  refine QW.cons rfl (QP.noU rfl rfl rfl ?_)
                  refine QW.cons rfl (QP.noU rfl rfl rfl ?_)
                  refine QW.cons rfl (QP.no' rfl rfl hb350 rfl ?_)
                  refine QW.cons rfl (QP.val (v := (.bool false)) rfl (fun w' hm' => x_pickF' rfl hb350 rfl) ?_)
                  refine QW.nil ?_
                  intro wd382 hmod
                  have hL := hL.call hmod
                  refine DW.done (by kernel_rfl) ?_
                  exact ⟨false, hm, ⟨f307, f308, rfl, hL⟩⟩
              · intro s_j3 F344 wd345 hJ hm
                unfold M.spec_IsCurve_j3 at hm
                obtain ⟨f346, f347, f348, hL⟩ := hJ
                refine CW.condM (t := s_j3) f348 hm (fun hb349 hm => ?_) (fun hb349 hm => ?_)
                · refine CW.seq ?_
                  refine CW.regionL ?_
                  refine OW.cons (OP.val (v := (.bool false)) rfl (x_assign) ?_)
                  refine OW.nil ?_
                  refine CW.ret ?_
                  obtain rfl := Option.some.inj hm
                  have hm := hr268 _ rfl
                  obtain rfl := Option.some.inj hm
                  exact RR1 rfl rfl ⟨rfl, hL.fresh 0 rfl [] (by decide) (by decide) rfl⟩
                · refine CW.skip ?_
                  refine CW.regionL ?_
                  refine OW.cons (OP.val (v := (.int .i64 s_l1)) rfl (x_mv f347) ?_)
                  refine OW.cons (OP.val (v := (.int .i64 (w64 (s_l1 + 1)))) rfl (x_add rfl rfl) ?_)
                  refine OW.cons (OP.val (v := (.int .i64 (w64 (s_l1 + 1)))) rfl (x_assign) ?_)
                  refine OW.nil ?_
                  obtain rfl := Option.some.inj hm
                  exact ⟨_, rfl, ⟨f346, rfl, hL⟩⟩
        · refine CW.exit ?_
          refine XJ.hit ?_
          obtain rfl := Option.some.inj hm
          exact ⟨_, rfl, ⟨f277, f278, hL⟩⟩

theorem M.spec_l23DrawDistance_ok (w0 : World) {b1 : Nat} {v2 : Value} (a0 : Src) (h3 : rdL (fun k => k < w0.heap.size ∧ ¬ (Ent.blk b1 83 #[v2, .int .i64 a0.at_, .int .i64 a0.seed]).S k) w0 v2 a0.code) (he4 : (Ent.blk b1 83 #[v2, .int .i64 a0.at_, .int .i64 a0.seed]).H w0) {r : (Int) × (Int × Int)} (hm : M.spec_l23DrawDistance a0 = some r) :
    Calls Try.prog 32 #[(.pointer (some ⟨b1, 0, none⟩))] w0 fun e w' => e = .returned (.int .i64 r.1) ∧ Mut w0 w' (Ent.blk b1 83 #[v2, .int .i64 a0.at_, .int .i64 a0.seed]).S [Ent.blk b1 83 #[v2, .int .i64 r.2.1, .int .i64 r.2.2]] := by
  unfold M.spec_l23DrawDistance at hm
  refine calls_CW (args := [(.pointer (some ⟨b1, 0, none⟩))]) Try.func32 rfl rfl rfl ?_
  have hL := Hp.startIO he4
  refine CW.seq ?_
  refine CW.regionL ?_
  refine OW.cons (OP.val (v := (.int .i64 0)) rfl (x_assign) ?_)
  refine OW.nil ?_
  refine CW.seq ?_
  refine CW.seq ?_
  refine CW.regionL ?_
  refine OW.cons (OP.val (v := (.pointer (some ⟨b1, 0, none⟩))) rfl (x_move) ?_)
  obtain ⟨x5, hx6, hm⟩ := bndE hm
  refine OW.cons (OP.call rfl (x_call (vs := [(.pointer (some ⟨b1, 0, none⟩)), (.int .i64 24)]) Try_C29 ⟨rfl, rfl, trivial⟩) (M.spec_l01Next_ok _ (Src.mk a0.code a0.at_ a0.seed) (hL.exZ 1 0 (by decide) rfl rfl h3) (hL.get 0 rfl) 24 hx6) ?_)
  rintro e7 wd8 ⟨rfl, hF9⟩
  refine ⟨_, rfl, ?_⟩
  have hL := hL.mut 0 rfl hF9
  simp only [lA, lB, lC, lD] at hL
  refine OW.cons (OP.val (v := (.bool (x5.1 == 0))) rfl (x_eql rfl rfl) ?_)
  refine OW.nil ?_
  refine CW.condM (t := x5.1 == 0) rfl hm (fun hb10 hm => ?_) (fun hb10 hm => ?_)
  · refine CW.seq ?_
    refine CW.regionL ?_
    refine OW.cons (S_lit ([0, 1, 10000000, 10000001] : List Int) hL Try.underlying84 Try_T2 rfl (by decide) (by first | (simp [Instr.fill, madeCells, Value.cells, ev, upd, Flat.enc, Flat.sz]; done) | rfl | kernel_rfl) rfl rfl ?_)
    intro wd11 v12 S13 hL
    refine OW.cons (OP.val (v := (.pointer (some ⟨b1, 0, none⟩))) rfl (x_move) ?_)
    obtain ⟨x14, hx15, hm⟩ := bndE hm
    refine OW.cons (OP.call rfl (x_call (vs := [(.pointer (some ⟨b1, 0, none⟩)), (.int .i64 4)]) Try_C29 ⟨rfl, rfl, trivial⟩) (M.spec_l01Next_ok _ (Src.mk a0.code x5.2.1 x5.2.2) (hL.exZ 2 1 (by decide) rfl rfl h3) (hL.get 1 rfl) 4 hx15) ?_)
    rintro e16 wd17 ⟨rfl, hF18⟩
    refine ⟨_, rfl, ?_⟩
    have hL := hL.mut 1 rfl hF18
    simp only [lA, lB, lC, lD] at hL
    obtain ⟨x19, ha20, hm⟩ := bndE hm
    obtain ⟨hz21, ha25⟩ := idxE ha20
    obtain ⟨b22, q23, hix24⟩ := rdL_ix (hL.rdO 0 rfl) hz21 ha25
    refine OW.cons (OP.val (v := (.pointer (some ⟨b22, q23, none⟩))) rfl (x_ix Try.underlying84 Try_T2 rfl rfl hix24) ?_)
    refine OW.cons (OP.val (v := (.int .i64 x19)) rfl (x_load1 Try.underlying2 rfl rfl (rdF_cells (hL.rdO 0 rfl) hix24 ha25 0 _ rfl)) ?_)
    refine OW.cons (OP.val (v := (.int .i64 x19)) rfl (x_assign) ?_)
    refine OW.nil ?_
    refine CW.ret ?_
    obtain rfl := Option.some.inj hm
    exact RR1 rfl rfl ⟨rfl, hL.mutOut 2 rfl [1] (by decide) (by decide) rfl⟩
  · refine CW.skip ?_
    refine CW.seq ?_
    refine CW.regionL ?_
    refine OW.cons (OP.val (v := (.pointer (some ⟨b1, 0, none⟩))) rfl (x_move) ?_)
    obtain ⟨x26, hx27, hm⟩ := bndE hm
    refine OW.cons (OP.call rfl (x_call (vs := [(.pointer (some ⟨b1, 0, none⟩)), (.int .i64 60000)]) Try_C29 ⟨rfl, rfl, trivial⟩) (M.spec_l01Next_ok _ (Src.mk a0.code x5.2.1 x5.2.2) (hL.exZ 1 0 (by decide) rfl rfl h3) (hL.get 0 rfl) 60000 hx27) ?_)
    rintro e28 wd29 ⟨rfl, hF30⟩
    refine ⟨_, rfl, ?_⟩
    have hL := hL.mut 0 rfl hF30
    simp only [lA, lB, lC, lD] at hL
    refine OW.cons (OP.val (v := (.int .i64 (w64 (1 + x26.1)))) rfl (x_add rfl rfl) ?_)
    refine OW.cons (OP.val (v := (.int .i64 (w64 (1 + x26.1)))) rfl (x_assign) ?_)
    refine OW.nil ?_
    refine CW.ret ?_
    obtain rfl := Option.some.inj hm
    exact RR1 rfl rfl ⟨rfl, hL.mutOut 1 rfl [0] (by decide) (by decide) rfl⟩

theorem M.spec_DrawCorrectByCurves_ok (w0 : World) (a0 : List UInt8) {v1 : Value} (h2 : rdL (· < w0.heap.size) w0 v1 a0) {r : Int × (List Finish) × (List (List CurvePoint)) × Int × Int} (hm : M.spec_DrawCorrectByCurves a0 = some r) :
    Calls Try.prog 7 #[v1] w0 fun e w' => ∃ (rv0 : Value) (rS0 : Nat → Prop), ∃ (rv1 : Value) (rS1 : Nat → Prop), e = .returned (.tuple #[(.int .i64 r.1), rv0, rv1, (.int .i64 r.2.2.2.1), (.int .i64 r.2.2.2.2)]) ∧ Fresh w0 w' [Ent.own 31 rS0 rv0 r.2.1, Ent.own 34 rS1 rv1 r.2.2.1] := by
  unfold M.spec_DrawCorrectByCurves at hm
  refine calls_CW (args := [v1]) Try.func7 rfl rfl rfl ?_
  have hL := Hp.start w0
  refine CW.seq ?_
  refine CW.regionL ?_
  refine OW.cons (OP.val (v := (.int .i64 0)) rfl (x_assign) ?_)
  refine OW.cons (OP.val (v := (.slice none 0 0)) rfl (x_assign) ?_)
  refine OW.cons (OP.val (v := (.slice none 0 0)) rfl (x_assign) ?_)
  refine OW.cons (OP.val (v := (.int .i64 0)) rfl (x_assign) ?_)
  refine OW.cons (OP.val (v := (.int .i64 0)) rfl (x_assign) ?_)
  refine OW.nil ?_
  refine CW.seq ?_
  refine CW.regionL ?_
  refine OW.cons (OP.val (v := v1) rfl (x_move) ?_)
  obtain ⟨x3, hx4, hm⟩ := bndE hm
  refine OW.cons (OP.call rfl (x_call (vs := [v1]) Try_C27 ⟨rfl, trivial⟩) (M.spec_l01From_ok _ a0 (hL.rdS 0 rfl h2) hx4) ?_)
  rintro e6 wd7 ⟨b5, rfl, hF8⟩
  refine ⟨_, rfl, ?_⟩
  have hL := hL.pushAll hF8
  simp only [lA, lB, lC, lD] at hL
  refine OW.cons (OP.val (v := (.pointer (some ⟨b5, 0, none⟩))) rfl (x_assign) ?_)
  refine OW.nil ?_
  refine CW.seq ?_
  refine CW.regionL ?_
  refine OW.cons (OP.val (v := (.pointer (some ⟨b5, 0, none⟩))) rfl (x_move) ?_)
  obtain ⟨x9, hx10, hm⟩ := bndE hm
  refine OW.cons (OP.call rfl (x_call (vs := [(.pointer (some ⟨b5, 0, none⟩))]) Try_C28 ⟨rfl, trivial⟩) (M.spec_l22DrawRace_ok _ (Src.mk a0 x3.1 x3.2) (hL.exS 1 0 (by decide) rfl rfl h2) (hL.get 0 rfl) hx10) ?_)
  rintro e13 wd14 ⟨v12, S11, rfl, hF15⟩
  refine ⟨_, rfl, ?_⟩
  have hL := hL.mut 0 rfl hF15
  simp only [lA, lB, lC, lD] at hL
  refine OW.cons (OP.val (v := (.tuple #[(.int .i64 x9.1.1), v12])) rfl (x_move) ?_)
  refine OW.cons (OP.val (v := (.int .i64 x9.1.1)) rfl (x_extract rfl rfl) ?_)
  refine OW.cons (OP.val (v := v12) rfl (x_extract rfl rfl) ?_)
  refine OW.cons (OP.val (v := (.int .i64 x9.1.1)) rfl (x_assign) ?_)
  refine OW.cons (OP.val (v := v12) rfl (x_assign) ?_)
  refine OW.nil ?_
  refine CW.seq ?_
  refine CW.regionL ?_
  refine OW.cons (S_lit0 (α := CurvePoint) (List CurvePoint) hL Try.underlying25 Try_T34 rfl ?_)
  intro wd16 v17 S18 hL
  refine OW.cons (OP.val (v := v17) rfl (x_assign) ?_)
  refine OW.nil ?_
  refine CW.seq ?_
  refine CW.seq ?_
  refine CW.regionL ?_
  refine OW.cons (OP.val (v := (.int .i64 0)) rfl (x_assign) ?_)
  refine OW.nil ?_
  obtain ⟨o225, ho226, hm⟩ := bndE hm
  refine CW.loopB (fun (s_l1 : Int × Int × (List (List CurvePoint)) × Int) (F : Fr) (w : World) => ∃ (v221 : Value) (S222 : Nat → Prop), F 7 = (.pointer (some ⟨b5, 0, none⟩)) ∧ F 8 = (.int .i64 x9.1.1) ∧ F 9 = v12 ∧ F 10 = v221 ∧ F 11 = (.int .i64 s_l1.2.2.2) ∧ Hp w0 [Ent.own 34 S222 v221 s_l1.2.2.1, Ent.own 31 S11 v12 x9.1.2, Ent.blk b5 83 #[v1, (.int .i64 s_l1.1), (.int .i64 s_l1.2.1)], Ent.snap w0 w0.heap.size] w) (fun o => outc o (fun x => some x) (fun s => M.spec_DrawCorrectByCurves_a1 a0 x9 s) = some r) ho226 hm ⟨v17, S18, rfl, rfl, rfl, rfl, rfl, hL⟩ ?_ ?_
  · intro s_l1 F227 wd228 hJ hm
    have hm := outcE hm
    have hm : M.spec_DrawCorrectByCurves_a1 a0 x9 s_l1 = some r := hm
    unfold M.spec_DrawCorrectByCurves_a1 at hm
    obtain ⟨v221, S222, f229, f230, f231, f232, f233, hL⟩ := hJ
    refine CW.seq ?_
    refine CW.regionL ?_
    refine OW.cons (OP.val (v := (.int .i64 x9.1.1)) rfl (x_mv f230) ?_)
    refine OW.cons (OP.val (v := v12) rfl (x_mv f231) ?_)
    refine OW.cons (OP.val (v := v221) rfl (x_mv f232) ?_)
    refine OW.cons (OP.val (v := (.pointer (some ⟨b5, 0, none⟩))) rfl (x_mv f229) ?_)
    refine OW.cons (OP.val (v := (.int .i64 x9.1.1)) rfl (x_mv f230) ?_)
    refine OW.cons (OP.val (v := (.int .i64 (max 1 x9.1.1))) rfl (x_max2 rfl rfl) ?_)
    obtain ⟨x234, hx235, hm⟩ := bndE hm
    refine OW.cons (OP.call rfl (x_call (vs := [(.pointer (some ⟨b5, 0, none⟩)), (.int .i64 (max 1 x9.1.1))]) Try_C29 ⟨rfl, rfl, trivial⟩) (M.spec_l01Next_ok _ (Src.mk a0 s_l1.1 s_l1.2.1) (hL.exS 3 2 (by decide) rfl rfl h2) (hL.get 2 rfl) (max 1 x9.1.1) hx235) ?_)
    rintro e236 wd237 ⟨rfl, hF238⟩
    refine ⟨_, rfl, ?_⟩
    have hL := hL.mut 2 rfl hF238
    simp only [lA, lB, lC, lD] at hL
    refine OW.cons (OP.val (v := (.pointer (some ⟨b5, 0, none⟩))) rfl (x_mv f229) ?_)
    obtain ⟨x239, hx240, hm⟩ := bndE hm
    refine OW.cons (OP.call rfl (x_call (vs := [(.pointer (some ⟨b5, 0, none⟩)), (.int .i64 24)]) Try_C29 ⟨rfl, rfl, trivial⟩) (M.spec_l01Next_ok _ (Src.mk a0 x234.2.1 x234.2.2) (hL.exS 3 2 (by decide) rfl rfl h2) (hL.get 2 rfl) 24 hx240) ?_)
    rintro e241 wd242 ⟨rfl, hF243⟩
    refine ⟨_, rfl, ?_⟩
    have hL := hL.mut 2 rfl hF243
    simp only [lA, lB, lC, lD] at hL
    refine OW.cons (OP.val (v := (.int .i64 (w64 (x239.1.tdiv 23)))) rfl (x_quo rfl rfl (by decide)) ?_)
    refine OW.cons (OP.val (v := (.int .i64 (w64 (x234.1 - (w64 (x239.1.tdiv 23)))))) rfl (x_sub rfl rfl) ?_)
    refine OW.cons (OP.val (v := (.pointer (some ⟨b5, 0, none⟩))) rfl (x_mv f229) ?_)
    obtain ⟨x244, hx245, hm⟩ := bndE hm
    refine OW.cons (OP.call rfl (x_call (vs := [(.pointer (some ⟨b5, 0, none⟩))]) Try_C32 ⟨rfl, trivial⟩) (M.spec_l23DrawDistance_ok _ (Src.mk a0 x239.2.1 x239.2.2) (hL.exS 3 2 (by decide) rfl rfl h2) (hL.get 2 rfl) hx245) ?_)
    rintro e246 wd247 ⟨rfl, hF248⟩
    refine ⟨_, rfl, ?_⟩
    have hL := hL.mut 2 rfl hF248
    simp only [lA, lB, lC, lD] at hL
    refine OW.cons (OP.val (v := (.int .i64 (w64 (100000 + x244.1)))) rfl (x_add rfl rfl) ?_)
    refine OW.cons (OP.val (v := (.int .i64 x9.1.1)) rfl (x_assign) ?_)
    refine OW.cons (OP.val (v := v12) rfl (x_assign) ?_)
    refine OW.cons (OP.val (v := v221) rfl (x_assign) ?_)
    refine OW.cons (OP.val (v := (.int .i64 (w64 (x234.1 - (w64 (x239.1.tdiv 23)))))) rfl (x_assign) ?_)
    refine OW.cons (OP.val (v := (.int .i64 (w64 (100000 + x244.1)))) rfl (x_assign) ?_)
    refine OW.nil ?_
    refine CW.ret ?_
    obtain rfl := Option.some.inj hm
    exact RRs (v := (.int .i64 x9.1.1)) (v2 := v12) (vs := [v221, (.int .i64 (w64 (x234.1 - (w64 (x239.1.tdiv 23))))), (.int .i64 (w64 (100000 + x244.1)))]) (rs := [.tmp 2, .tmp 3, .tmp 4, .tmp 5, .tmp 6]) rfl ⟨resTmp rfl, resTmp rfl, resTmp rfl, resTmp rfl, resTmp rfl, trivial⟩ ⟨v12, S11, v221, S222, rfl, hL.fresh 3 rfl [1, 0] (by decide) (by decide) rfl⟩
  · intro s_l1 F249 wd250 t223 hJ hm hr224
    unfold M.spec_DrawCorrectByCurves_l1 at hm
    obtain ⟨v221, S222, f251, f252, f253, f254, f255, hL⟩ := hJ
    refine CW.seq ?_
    refine CW.seq ?_
    refine CW.regionL ?_
    refine OW.cons (OP.val (v := (.int .i64 s_l1.2.2.2)) rfl (x_mv f255) ?_)
    refine OW.cons (OP.val (v := (.int .i64 x9.1.1)) rfl (x_mv f252) ?_)
    refine OW.cons (OP.val (v := (.pointer (some ⟨b5, 0, none⟩))) rfl (x_mv f251) ?_)
    obtain ⟨x256, hx257, hm⟩ := bndE hm
    refine OW.cons (OP.call rfl (x_call (vs := [(.pointer (some ⟨b5, 0, none⟩)), (.int .i64 24)]) Try_C29 ⟨rfl, rfl, trivial⟩) (M.spec_l01Next_ok _ (Src.mk a0 s_l1.1 s_l1.2.1) (hL.exS 3 2 (by decide) rfl rfl h2) (hL.get 2 rfl) 24 hx257) ?_)
    rintro e258 wd259 ⟨rfl, hF260⟩
    refine ⟨_, rfl, ?_⟩
    have hL := hL.mut 2 rfl hF260
    simp only [lA, lB, lC, lD] at hL
    refine OW.cons (OP.val (v := (.int .i64 (w64 (x256.1.tdiv 23)))) rfl (x_quo rfl rfl (by decide)) ?_)
    refine OW.cons (OP.val (v := (.int .i64 (w64 (x9.1.1 - (w64 (x256.1.tdiv 23)))))) rfl (x_sub rfl rfl) ?_)
    refine OW.cons (OP.val (v := (.bool (decide (s_l1.2.2.2 < (w64 (x9.1.1 - (w64 (x256.1.tdiv 23)))))))) rfl (x_lss rfl rfl) ?_)
    refine OW.nil ?_
    refine CW.condM (t := decide (s_l1.2.2.2 < (w64 (x9.1.1 - (w64 (x256.1.tdiv 23)))))) rfl hm (fun hb261 hm => ?_) (fun hb261 hm => ?_)
    · refine CW.skip ?_
      refine CW.seq ?_
      refine CW.block ?_
      refine CW.seq ?_
      refine CW.regionL ?_
      refine OW.cons (OP.val (v := (.pointer (some ⟨b5, 0, none⟩))) rfl (x_mv f251) ?_)
      obtain ⟨x262, hx263, hm⟩ := bndE hm
      refine OW.cons (OP.call rfl (x_call (vs := [(.pointer (some ⟨b5, 0, none⟩))]) Try_C30 ⟨rfl, trivial⟩) (M.spec_l24Draw_ok _ (Src.mk a0 x256.2.1 x256.2.2) (hL.exS 3 2 (by decide) rfl rfl h2) (hL.get 2 rfl) hx263) ?_)
      rintro e266 wd267 ⟨v265, S264, rfl, hF268⟩
      refine ⟨_, rfl, ?_⟩
      have hL := hL.mut 2 rfl hF268
      simp only [lA, lB, lC, lD] at hL
      refine OW.cons (OP.val (v := v265) rfl (x_assign) ?_)
      refine OW.nil ?_
      refine CW.seqJ (fun (s_j1 : Int × Int × (List CurvePoint)) (F : Fr) (w : World) => ∃ (v304 : Value) (S305 : Nat → Prop), F 7 = (.pointer (some ⟨b5, 0, none⟩)) ∧ F 8 = (.int .i64 x9.1.1) ∧ F 9 = v12 ∧ F 10 = v221 ∧ F 11 = (.int .i64 s_l1.2.2.2) ∧ F 12 = v304 ∧ Hp w0 [Ent.own 62 S305 v304 s_j1.2.2, Ent.own 34 S222 v221 s_l1.2.2.1, Ent.own 31 S11 v12 x9.1.2, Ent.blk b5 83 #[v1, (.int .i64 s_j1.1), (.int .i64 s_j1.2.1)], Ent.snap w0 w0.heap.size] w) (fun s_j1 => M.spec_DrawCorrectByCurves_j1 s_l1 s_j1 = some t223) ?_ ?_
      · refine CW.seqJ (fun (s_j2 : Int × Int × Bool) (F : Fr) (w : World) => F 7 = (.pointer (some ⟨b5, 0, none⟩)) ∧ F 8 = (.int .i64 x9.1.1) ∧ F 9 = v12 ∧ F 10 = v221 ∧ F 11 = (.int .i64 s_l1.2.2.2) ∧ F 12 = v265 ∧ F 39 = (.bool s_j2.2.2) ∧ Hp w0 [Ent.own 62 S264 v265 x262.1, Ent.own 34 S222 v221 s_l1.2.2.1, Ent.own 31 S11 v12 x9.1.2, Ent.blk b5 83 #[v1, (.int .i64 s_j2.1), (.int .i64 s_j2.2.1)], Ent.snap w0 w0.heap.size] w) (fun s_j2 => M.spec_DrawCorrectByCurves_j2 s_l1 x262 s_j2 = some t223) ?_ ?_
        · refine CW.regionL ?_
          refine OW.cons (OP.val (v := v265) rfl (x_move) ?_)
          obtain ⟨x345, hx346, hm⟩ := bndE hm
          refine OW.cons (OP.call rfl (x_call (vs := [v265]) Try_C31 ⟨rfl, trivial⟩) (M.spec_IsCurve_ok _ x262.1 (hL.rdO 0 rfl) hx346) ?_)
          rintro e347 wd348 ⟨rfl, hF349⟩
          refine ⟨_, rfl, ?_⟩
          have hL := hL.pushAll hF349
          simp only [lA, lB, lC, lD] at hL
          refine OW.cons (OP.val (v := (.bool (!x345))) rfl (x_not rfl) ?_)
          refine OW.cons (OP.val (v := (.bool (!x345))) rfl (x_move) ?_)
          refine ifB_elim hm (fun hb350 hm => ?_) (fun hb350 hm => ?_)
          · refine OW.cons (OP.yes' rfl rfl hb350 (OP.val (v := (.pointer (some ⟨b5, 0, none⟩))) rfl (x_mv f251) ?_))
            obtain ⟨x351, hx352, hm⟩ := bndE hm
            refine OW.cons (OP.yes' rfl rfl hb350 (OP.call rfl (x_call (vs := [(.pointer (some ⟨b5, 0, none⟩)), (.int .i64 4)]) Try_C29 ⟨rfl, rfl, trivial⟩) (M.spec_l01Next_ok _ (Src.mk a0 x262.2.1 x262.2.2) (hL.exS 4 3 (by decide) rfl rfl h2) (hL.get 3 rfl) 4 hx352) ?_))
            rintro e353 wd354 ⟨rfl, hF355⟩
            refine ⟨_, rfl, ?_⟩
            have hL := hL.mut 3 rfl hF355
            simp only [lA, lB, lC, lD] at hL
            refine OW.cons (OP.yes' rfl rfl hb350 (OP.val (v := (.bool (decide (0 < x351.1)))) rfl (x_gtr rfl rfl) ?_))
            refine OW.cons (OP.val (v := (.bool (decide (0 < x351.1)))) rfl (x_pickT' rfl hb350 rfl) ?_)
            refine OW.nil ?_
            exact ⟨(x351.2.1, x351.2.2, decide (0 < x351.1)), hm, ⟨f251, f252, f253, f254, f255, rfl, rfl, hL⟩⟩
          · refine OW.cons (OP.no' rfl rfl hb350 rfl ?_)
            refine OW.cons (OP.no' rfl rfl hb350 rfl ?_)
            refine OW.cons (OP.no' rfl rfl hb350 rfl ?_)
            refine OW.cons (OP.val (v := (.bool false)) rfl (x_pickF' rfl hb350 rfl) ?_)
            refine OW.nil ?_
            exact ⟨(x262.2.1, x262.2.2, false), hm, ⟨f251, f252, f253, f254, f255, rfl, rfl, hL⟩⟩
        · intro s_j2 F332 wd333 hJ hm
          unfold M.spec_DrawCorrectByCurves_j2 at hm
          obtain ⟨f334, f335, f336, f337, f338, f339, f340, hL⟩ := hJ
          refine CW.condM (t := s_j2.2.2) f340 hm (fun hb341 hm => ?_) (fun hb341 hm => ?_)
          · refine CW.regionL ?_
            refine OW.cons (OP.val (v := (.agg #[(.int .i64 10), (.int .i64 5000)])) rfl (x_build Try_B62 (ps := [(0, (.int .i64 10)), (1, (.int .i64 5000))]) ⟨⟨rfl, rfl⟩, ⟨rfl, rfl⟩, trivial⟩ (by simp [Instr.fill, cells_int, cells_bool, cells_string, cells_agg, cells_slice, cells_pointer])) ?_)
            refine OW.cons (OP.val (v := (.agg #[(.int .i64 200), (.int .i64 3000)])) rfl (x_build Try_B62 (ps := [(0, (.int .i64 200)), (1, (.int .i64 3000))]) ⟨⟨rfl, rfl⟩, ⟨rfl, rfl⟩, trivial⟩ (by simp [Instr.fill, cells_int, cells_bool, cells_string, cells_agg, cells_slice, cells_pointer])) ?_)
            refine OW.cons (S_lit ([(CurvePoint.mk 10 5000), (CurvePoint.mk 200 3000)] : List CurvePoint) hL Try.underlying34 Try_T62 rfl (by decide) (by first | (simp [Instr.fill, madeCells, Value.cells, ev, upd, Flat.enc, Flat.sz]; done) | rfl | kernel_rfl) rfl rfl ?_)
            intro wd342 v343 S344 hL
            refine OW.cons (OP.val (v := v343) rfl (x_assign) ?_)
            refine OW.nil ?_
            have hL := hL.sel [0, 2, 3, 4, 5] (by decide) rfl
            exact ⟨(s_j2.1, s_j2.2.1, ([(CurvePoint.mk 10 5000), (CurvePoint.mk 200 3000)] : List CurvePoint)), hm, ⟨v343, S344, f334, f335, f336, f337, f338, rfl, hL⟩⟩
          · refine CW.skip ?_
            exact ⟨(s_j2.1, s_j2.2.1, x262.1), hm, ⟨v265, S264, f334, f335, f336, f337, f338, f339, hL⟩⟩
      · intro s_j1 F306 wd307 hJ hm
        unfold M.spec_DrawCorrectByCurves_j1 at hm
        obtain ⟨v304, S305, f308, f309, f310, f311, f312, f313, hL⟩ := hJ
        refine CW.regionL ?_
        refine OW.cons (OP.val (v := v221) rfl (x_mv f311) ?_)
        refine OW.cons (OP.val (v := v304) rfl (x_mv f313) ?_)
        refine OW.cons (S_lit1 s_j1.2.2 rfl hL Try.underlying25 Try_T34 ((congrArg Value.cells (show _ = v304 from rfl)).trans (rdL_cells (hL.rdO 0 rfl))) rfl ?_)
        intro wd314 v315 S316 hL
        obtain ⟨hc320, hm⟩ := chkE hm
        have hL := hL.sel [1, 0, 2, 3, 4] (by decide) rfl
        refine OW.cons (S_appendN CurvePoint hL Try.underlying25 Try_T34 rfl rfl rfl hc320 (by decide) rfl ?_)
        intro wd317 v318 S319 hL
        refine OW.cons (OP.val (v := v318) rfl (x_assign) ?_)
        refine OW.nil ?_
        refine CW.regionL ?_
        refine OW.cons (OP.val (v := (.int .i64 s_l1.2.2.2)) rfl (x_mv f312) ?_)
        refine OW.cons (OP.val (v := (.int .i64 (w64 (s_l1.2.2.2 + 1)))) rfl (x_add rfl rfl) ?_)
        refine OW.cons (OP.val (v := (.int .i64 (w64 (s_l1.2.2.2 + 1)))) rfl (x_assign) ?_)
        refine OW.nil ?_
        obtain rfl := Option.some.inj hm
        exact ⟨_, rfl, ⟨v318, S319, f308, f309, f310, rfl, rfl, hL⟩⟩
    · refine CW.exit ?_
      refine XJ.hit ?_
      obtain rfl := Option.some.inj hm
      exact ⟨_, rfl, ⟨v221, S222, f251, f252, f253, f254, f255, hL⟩⟩

theorem M.impl_within_ok (w0 : World) (a0 : Int) (a1 : Int) (a2 : Int) {r : Bool} (hm : M.impl_within a0 a1 a2 = some r) :
    Calls Try.prog 37 #[(.int .i64 a0), (.int .i64 a1), (.int .i64 a2)] w0 fun e w' => e = .returned (.bool r) ∧ Fresh w0 w' [] := by
  unfold M.impl_within at hm
  refine calls_CW (args := [(.int .i64 a0), (.int .i64 a1), (.int .i64 a2)]) Try.func37 rfl rfl rfl ?_
  have hL := Hp.start w0
  refine CW.seq ?_
  refine CW.regionL ?_
  refine OW.cons (OP.val (v := (.bool false)) rfl (x_assign) ?_)
  refine OW.nil ?_
  refine CW.seqJ (fun (s_j1 : Bool) (F : Fr) (w : World) => F 6 = (.bool s_j1) ∧ Hp w0 [Ent.snap w0 w0.heap.size] w) (fun s_j1 => M.impl_within_j1 s_j1 = some r) ?_ ?_
  · refine CW.regionL ?_
    refine OW.cons (OP.val (v := (.int .i64 a0)) rfl (x_move) ?_)
    refine OW.cons (OP.val (v := (.int .i64 a1)) rfl (x_move) ?_)
    refine OW.cons (OP.val (v := (.bool (decide (a1 ≤ a0)))) rfl (x_geq rfl rfl) ?_)
    refine OW.cons (OP.val (v := (.bool (decide (a1 ≤ a0)))) rfl (x_move) ?_)
    refine ifB_elim hm (fun hb5 hm => ?_) (fun hb5 hm => ?_)
    · refine OW.cons (OP.yes' rfl rfl hb5 (OP.val (v := (.int .i64 a0)) rfl (x_move) ?_))
      refine OW.cons (OP.yes' rfl rfl hb5 (OP.val (v := (.int .i64 a2)) rfl (x_move) ?_))
      refine OW.cons (OP.yes' rfl rfl hb5 (OP.val (v := (.bool (decide (a0 ≤ a2)))) rfl (x_leq rfl rfl) ?_))
      refine OW.cons (OP.val (v := (.bool (decide (a0 ≤ a2)))) rfl (x_pickT' rfl hb5 rfl) ?_)
      refine OW.cons (OP.val (v := (.bool (decide (a0 ≤ a2)))) rfl (x_assign) ?_)
      refine OW.nil ?_
      exact ⟨decide (a0 ≤ a2), hm, ⟨rfl, hL⟩⟩
    · refine OW.cons (OP.no' rfl rfl hb5 rfl ?_)
      refine OW.cons (OP.no' rfl rfl hb5 rfl ?_)
      refine OW.cons (OP.no' rfl rfl hb5 rfl ?_)
      refine OW.cons (OP.val (v := (.bool false)) rfl (x_pickF' rfl hb5 rfl) ?_)
      refine OW.cons (OP.val (v := (.bool false)) rfl (x_assign) ?_)
      refine OW.nil ?_
      exact ⟨false, hm, ⟨rfl, hL⟩⟩
  · intro s_j1 F2 wd3 hJ hm
    unfold M.impl_within_j1 at hm
    obtain ⟨f4, hL⟩ := hJ
    refine CW.ret ?_
    obtain rfl := Option.some.inj hm
    exact RR1 rfl f4 ⟨rfl, hL.fresh 0 rfl [] (by decide) (by decide) rfl⟩

theorem M.impl_isBoat_ok (w0 : World) (a0 : Int) {r : Bool} (hm : M.impl_isBoat a0 = some r) :
    Calls Try.prog 67 #[(.int .i64 a0)] w0 fun e w' => e = .returned (.bool r) ∧ Fresh w0 w' [] := by
  unfold M.impl_isBoat at hm
  refine calls_CW (args := [(.int .i64 a0)]) Try.func67 rfl rfl rfl ?_
  have hL := Hp.start w0
  refine CW.seq ?_
  refine CW.regionL ?_
  refine OW.cons (OP.val (v := (.bool false)) rfl (x_assign) ?_)
  refine OW.nil ?_
  refine CW.seq ?_
  refine CW.regionL ?_
  refine OW.cons (OP.val (v := (.int .i64 a0)) rfl (x_move) ?_)
  obtain ⟨x1, hx2, hm⟩ := bndE hm
  refine OW.cons (OP.call rfl (x_call (vs := [(.int .i64 a0), (.int .i64 0), (.int .i64 15)]) Try_C37 ⟨rfl, rfl, rfl, trivial⟩) (M.impl_within_ok _ a0 0 15 hx2) ?_)
  rintro e3 wd4 ⟨rfl, hF5⟩
  refine ⟨_, rfl, ?_⟩
  have hL := hL.pushAll hF5
  simp only [lA, lB, lC, lD] at hL
  refine OW.cons (OP.val (v := (.bool x1)) rfl (x_assign) ?_)
  refine OW.nil ?_
  refine CW.ret ?_
  obtain rfl := Option.some.inj hm
  exact RR1 rfl rfl ⟨rfl, hL.fresh 0 rfl [] (by decide) (by decide) rfl⟩

theorem M.impl_IsFinish_ok (w0 : World) (a0 : Finish) {r : Bool} (hm : M.impl_IsFinish a0 = some r) :
    Calls Try.prog 54 #[(.agg #[(.int .i64 a0.Boat), (.int .i64 a0.Code), (.int .i64 a0.Time)])] w0 fun e w' => e = .returned (.bool r) ∧ Fresh w0 w' [] := by
  unfold M.impl_IsFinish at hm
  refine calls_CW (args := [(.agg #[(.int .i64 a0.Boat), (.int .i64 a0.Code), (.int .i64 a0.Time)])]) Try.func54 rfl rfl rfl ?_
  have hL := Hp.start w0
  refine CW.seq ?_
  refine CW.regionL ?_
  refine OW.cons (S_box (cs := #[(.int .i64 a0.Boat), (.int .i64 a0.Code), (.int .i64 a0.Time)]) hL rfl rfl rfl ?_)
  intro wd1 b2 hL
  refine OW.cons (OP.val (v := (.bool false)) rfl (x_assign) ?_)
  refine OW.nil ?_
  refine CW.seq ?_
  refine CW.seq ?_
  refine CW.regionL ?_
  refine OW.cons (OP.val (v := (.pointer (some ⟨b2, 1, none⟩))) rfl (x_fieldAddr (fsz := 1) 0 1 1 Try.underlying31 rfl Try_T2 rfl rfl rfl) ?_)
  refine OW.cons (OP.val (v := (.int .i64 a0.Code)) rfl (x_load1 Try.underlying2 rfl rfl (hL.cellB 0 rfl rfl)) ?_)
  refine OW.cons (OP.val (v := (.bool (a0.Code == 0))) rfl (x_eql rfl rfl) ?_)
  refine OW.nil ?_
  refine CW.condM (t := a0.Code == 0) rfl hm (fun hb3 hm => ?_) (fun hb3 hm => ?_)
  · refine CW.seqJ (fun (s_j1 : Bool) (F : Fr) (w : World) => F 2 = (.bool s_j1) ∧ Hp w0 [Ent.blk b2 31 #[(.int .i64 a0.Boat), (.int .i64 a0.Code), (.int .i64 a0.Time)], Ent.snap w0 w0.heap.size] w) (fun s_j1 => M.impl_IsFinish_j1 s_j1 = some r) ?_ ?_
    · refine CW.regionL ?_
      refine OW.cons (OP.val (v := (.pointer (some ⟨b2, 0, none⟩))) rfl (x_fieldAddr (fsz := 1) 0 0 0 Try.underlying31 rfl Try_T2 rfl rfl rfl) ?_)
      refine OW.cons (OP.val (v := (.int .i64 a0.Boat)) rfl (x_load1 Try.underlying2 rfl rfl (hL.cellB 0 rfl rfl)) ?_)
      obtain ⟨x18, hx19, hm⟩ := bndE hm
      refine OW.cons (OP.call rfl (x_call (vs := [(.int .i64 a0.Boat)]) Try_C67 ⟨rfl, trivial⟩) (M.impl_isBoat_ok _ a0.Boat hx19) ?_)
      rintro e20 wd21 ⟨rfl, hF22⟩
      refine ⟨_, rfl, ?_⟩
      have hL := hL.pushAll hF22
      simp only [lA, lB, lC, lD] at hL
      refine OW.cons (OP.val (v := (.bool x18)) rfl (x_move) ?_)
      refine ifB_elim hm (fun hb23 hm => ?_) (fun hb23 hm => ?_)
      · refine OW.cons (OP.yes' rfl rfl hb23 (OP.val (v := (.pointer (some ⟨b2, 2, none⟩))) rfl (x_fieldAddr (fsz := 1) 0 2 2 Try.underlying31 rfl Try_T2 rfl rfl rfl) ?_))
        refine OW.cons (OP.yes' rfl rfl hb23 (OP.val (v := (.int .i64 a0.Time)) rfl (x_load1 Try.underlying2 rfl rfl (hL.cellB 0 rfl rfl)) ?_))
        obtain ⟨x24, hx25, hm⟩ := bndE hm
        refine OW.cons (OP.yes' rfl rfl hb23 (OP.call rfl (x_call (vs := [(.int .i64 a0.Time), (.int .i64 1), (.int .i64 1000000000)]) Try_C37 ⟨rfl, rfl, rfl, trivial⟩) (M.impl_within_ok _ a0.Time 1 1000000000 hx25) ?_))
        rintro e26 wd27 ⟨rfl, hF28⟩
        refine ⟨_, rfl, ?_⟩
        have hL := hL.pushAll hF28
        simp only [lA, lB, lC, lD] at hL
        refine OW.cons (OP.val (v := (.bool x24)) rfl (x_pickT' rfl hb23 rfl) ?_)
        refine OW.cons (OP.val (v := (.bool x24)) rfl (x_assign) ?_)
        refine OW.nil ?_
        exact ⟨x24, hm, ⟨rfl, hL⟩⟩
      · refine OW.cons (OP.no' rfl rfl hb23 rfl ?_)
        refine OW.cons (OP.no' rfl rfl hb23 rfl ?_)
        refine OW.cons (OP.no' rfl rfl hb23 rfl ?_)
        refine OW.cons (OP.val (v := (.bool false)) rfl (x_pickF' rfl hb23 rfl) ?_)
        refine OW.cons (OP.val (v := (.bool false)) rfl (x_assign) ?_)
        refine OW.nil ?_
        exact ⟨false, hm, ⟨rfl, hL⟩⟩
    · intro s_j1 F15 wd16 hJ hm
      unfold M.impl_IsFinish_j1 at hm
      obtain ⟨f17, hL⟩ := hJ
      refine CW.ret ?_
      obtain rfl := Option.some.inj hm
      exact RR1 rfl f17 ⟨rfl, hL.fresh 1 rfl [] (by decide) (by decide) rfl⟩
  · refine CW.skip ?_
    refine CW.seqJ (fun (s_j2 : Bool) (F : Fr) (w : World) => F 2 = (.bool s_j2) ∧ Hp w0 [Ent.blk b2 31 #[(.int .i64 a0.Boat), (.int .i64 a0.Code), (.int .i64 a0.Time)], Ent.snap w0 w0.heap.size] w) (fun s_j2 => M.impl_IsFinish_j2 s_j2 = some r) ?_ ?_
    · refine CW.regionL ?_
      refine OW.cons (OP.val (v := (.pointer (some ⟨b2, 0, none⟩))) rfl (x_fieldAddr (fsz := 1) 0 0 0 Try.underlying31 rfl Try_T2 rfl rfl rfl) ?_)
      refine OW.cons (OP.val (v := (.int .i64 a0.Boat)) rfl (x_load1 Try.underlying2 rfl rfl (hL.cellB 0 rfl rfl)) ?_)
      obtain ⟨x44, hx45, hm⟩ := bndE hm
      refine OW.cons (OP.call rfl (x_call (vs := [(.int .i64 a0.Boat)]) Try_C67 ⟨rfl, trivial⟩) (M.impl_isBoat_ok _ a0.Boat hx45) ?_)
      rintro e46 wd47 ⟨rfl, hF48⟩
      refine ⟨_, rfl, ?_⟩
      have hL := hL.pushAll hF48
      simp only [lA, lB, lC, lD] at hL
      refine OW.cons (OP.val (v := (.bool x44)) rfl (x_move) ?_)
      refine ifB_elim hm (fun hb49 hm => ?_) (fun hb49 hm => ?_)
      · refine OW.cons (OP.yes' rfl rfl hb49 (OP.val (v := (.pointer (some ⟨b2, 1, none⟩))) rfl (x_fieldAddr (fsz := 1) 0 1 1 Try.underlying31 rfl Try_T2 rfl rfl rfl) ?_))
        refine OW.cons (OP.yes' rfl rfl hb49 (OP.val (v := (.int .i64 a0.Code)) rfl (x_load1 Try.underlying2 rfl rfl (hL.cellB 0 rfl rfl)) ?_))
        obtain ⟨x50, hx51, hm⟩ := bndE hm
        refine OW.cons (OP.yes' rfl rfl hb49 (OP.call rfl (x_call (vs := [(.int .i64 a0.Code), (.int .i64 1), (.int .i64 9)]) Try_C37 ⟨rfl, rfl, rfl, trivial⟩) (M.impl_within_ok _ a0.Code 1 9 hx51) ?_))
        rintro e52 wd53 ⟨rfl, hF54⟩
        refine ⟨_, rfl, ?_⟩
        have hL := hL.pushAll hF54
        simp only [lA, lB, lC, lD] at hL
        refine OW.cons (OP.val (v := (.bool x50)) rfl (x_pickT' rfl hb49 rfl) ?_)
        refine OW.cons (OP.val (v := (.bool x50)) rfl (x_move) ?_)
        refine ifB_elim hm (fun hb55 hm => ?_) (fun hb55 hm => ?_)
        · refine OW.cons (OP.yes' rfl rfl hb55 (OP.val (v := (.pointer (some ⟨b2, 2, none⟩))) rfl (x_fieldAddr (fsz := 1) 0 2 2 Try.underlying31 rfl Try_T2 rfl rfl rfl) ?_))
          refine OW.cons (OP.yes' rfl rfl hb55 (OP.val (v := (.int .i64 a0.Time)) rfl (x_load1 Try.underlying2 rfl rfl (hL.cellB 0 rfl rfl)) ?_))
          refine OW.cons (OP.yes' rfl rfl hb55 (OP.val (v := (.bool (a0.Time == 0))) rfl (x_eql rfl rfl) ?_))
          refine OW.cons (OP.val (v := (.bool (a0.Time == 0))) rfl (x_pickT' rfl hb55 rfl) ?_)
          refine OW.cons (OP.val (v := (.bool (a0.Time == 0))) rfl (x_assign) ?_)
          refine OW.nil ?_
          exact ⟨a0.Time == 0, hm, ⟨rfl, hL⟩⟩
        · refine OW.cons (OP.no' rfl rfl hb55 rfl ?_)
          refine OW.cons (OP.no' rfl rfl hb55 rfl ?_)
          refine OW.cons (OP.no' rfl rfl hb55 rfl ?_)
          refine OW.cons (OP.val (v := (.bool false)) rfl (x_pickF' rfl hb55 rfl) ?_)
          refine OW.cons (OP.val (v := (.bool false)) rfl (x_assign) ?_)
          refine OW.nil ?_
          exact ⟨false, hm, ⟨rfl, hL⟩⟩
      · refine OW.cons (OP.no' rfl rfl hb49 rfl ?_)
        refine OW.cons (OP.no' rfl rfl hb49 rfl ?_)
        refine OW.cons (OP.no' rfl rfl hb49 rfl ?_)
        refine OW.cons (OP.val (v := (.bool false)) rfl (x_pickF' rfl hb49 rfl) ?_)
        refine OW.cons (OP.val (v := (.bool false)) rfl (x_move) ?_)
        refine OW.cons (OP.no' rfl rfl rfl rfl ?_)
        refine OW.cons (OP.no' rfl rfl rfl rfl ?_)
        refine OW.cons (OP.no' rfl rfl rfl rfl ?_)
        refine OW.cons (OP.val (v := (.bool false)) rfl (x_pickF' rfl rfl rfl) ?_)
        refine OW.cons (OP.val (v := (.bool false)) rfl (x_assign) ?_)
        refine OW.nil ?_
        exact ⟨false, hm, ⟨rfl, hL⟩⟩
    · intro s_j2 F41 wd42 hJ hm
      unfold M.impl_IsFinish_j2 at hm
      obtain ⟨f43, hL⟩ := hJ
      refine CW.ret ?_
      obtain rfl := Option.some.inj hm
      exact RR1 rfl f43 ⟨rfl, hL.fresh 1 rfl [] (by decide) (by decide) rfl⟩

theorem M.impl_areFinishes_ok (w0 : World) (a0 : Int) (a1 : List Finish) {v1 : Value} (h2 : rdL (· < w0.heap.size) w0 v1 a1) {r : Bool} (hm : M.impl_areFinishes a0 a1 = some r) :
    Calls Try.prog 33 #[(.int .i64 a0), v1] w0 fun e w' => e = .returned (.bool r) ∧ Fresh w0 w' [] := by
  unfold M.impl_areFinishes at hm
  refine calls_CW (args := [(.int .i64 a0), v1]) Try.func33 rfl rfl rfl ?_
  have hL := Hp.start w0
  refine CW.seq ?_
  refine CW.regionL ?_
  refine OW.cons (OP.val (v := (.bool false)) rfl (x_assign) ?_)
  refine OW.nil ?_
  refine CW.seq ?_
  refine CW.seqJ (fun (s_j1 : Bool) (F : Fr) (w : World) => F 1 = v1 ∧ F 15 = (.bool s_j1) ∧ Hp w0 [Ent.snap w0 w0.heap.size] w) (fun s_j1 => M.impl_areFinishes_j1 a1 s_j1 = some r) ?_ ?_
  · refine CW.regionL ?_
    refine OW.cons (OP.val (v := (.int .i64 a0)) rfl (x_move) ?_)
    obtain ⟨x118, hx119, hm⟩ := bndE hm
    refine OW.cons (OP.call rfl (x_call (vs := [(.int .i64 a0), (.int .i64 1), (.int .i64 16)]) Try_C37 ⟨rfl, rfl, rfl, trivial⟩) (M.impl_within_ok _ a0 1 16 hx119) ?_)
    rintro e120 wd121 ⟨rfl, hF122⟩
    refine ⟨_, rfl, ?_⟩
    have hL := hL.pushAll hF122
    simp only [lA, lB, lC, lD] at hL
    refine OW.cons (OP.val (v := (.bool (!x118))) rfl (x_not rfl) ?_)
    refine OW.cons (OP.val (v := (.bool (!x118))) rfl (x_move) ?_)
    refine ifB_elim hm (fun hb123 hm => ?_) (fun hb123 hm => ?_)
    · refine OW.cons (OP.no' rfl rfl hb123 rfl ?_)
      refine OW.cons (OP.no' rfl rfl hb123 rfl ?_)
      refine OW.cons (OP.no' rfl rfl hb123 rfl ?_)
      refine OW.cons (OP.no' rfl rfl hb123 rfl ?_)
      refine OW.cons (OP.val (v := (.bool true)) rfl (x_pickT' rfl hb123 rfl) ?_)
      refine OW.nil ?_
      exact ⟨true, hm, ⟨rfl, rfl, hL⟩⟩
    · refine OW.cons (OP.yes' rfl rfl hb123 (OP.val (v := v1) rfl (x_move) ?_))
      refine OW.cons (OP.yes' rfl rfl hb123 (OP.val (v := (.int .i64 (a1.length : Int))) rfl (x_lenR Try.underlying24 rfl (hL.rdS 0 rfl h2)) ?_))
      refine OW.cons (OP.yes' rfl rfl hb123 (OP.val (v := (.int .i64 a0)) rfl (x_move) ?_))
      refine OW.cons (OP.yes' rfl rfl hb123 (OP.val (v := (.bool ((a1.length : Int) != a0))) rfl (x_neq rfl rfl) ?_))
      refine OW.cons (OP.val (v := (.bool ((a1.length : Int) != a0))) rfl (x_pickF' rfl hb123 rfl) ?_)
      refine OW.nil ?_
      exact ⟨(a1.length : Int) != a0, hm, ⟨rfl, rfl, hL⟩⟩
  · intro s_j1 F9 wd10 hJ hm
    unfold M.impl_areFinishes_j1 at hm
    obtain ⟨f11, f12, hL⟩ := hJ
    refine CW.condM (t := s_j1) f12 hm (fun hb13 hm => ?_) (fun hb13 hm => ?_)
    · refine CW.seq ?_
      refine CW.regionL ?_
      refine OW.cons (OP.val (v := (.bool false)) rfl (x_assign) ?_)
      refine OW.nil ?_
      refine CW.ret ?_
      obtain rfl := Option.some.inj hm
      exact RR1 rfl rfl ⟨rfl, hL.fresh 0 rfl [] (by decide) (by decide) rfl⟩
    · refine CW.skip ?_
      refine CW.seq ?_
      refine CW.seq ?_
      refine CW.regionL ?_
      refine OW.cons (OP.val (v := v1) rfl (x_mv f11) ?_)
      refine OW.cons (OP.val (v := (.int .i64 (a1.length : Int))) rfl (x_lenR Try.underlying24 rfl (hL.rdS 0 rfl h2)) ?_)
      refine OW.cons (OP.val (v := (.int .i64 0)) rfl (x_move) ?_)
      refine OW.nil ?_
      obtain ⟨o76, ho77, hm⟩ := bndE hm
      refine CW.loopB (fun (s_l1 : Int) (F : Fr) (w : World) => F 16 = v1 ∧ F 17 = (.int .i64 (a1.length : Int)) ∧ F 18 = (.int .i64 s_l1) ∧ Hp w0 [Ent.snap w0 w0.heap.size] w) (fun o => outc o (fun x => some x) (fun s => M.impl_areFinishes_a1 s) = some r) ho77 hm ⟨rfl, rfl, rfl, hL⟩ ?_ ?_
      · intro s_l1 F78 wd79 hJ hm
        have hm := outcE hm
        have hm : M.impl_areFinishes_a1 s_l1 = some r := hm
        unfold M.impl_areFinishes_a1 at hm
        obtain ⟨f80, f81, f82, hL⟩ := hJ
        refine CW.seq ?_
        refine CW.regionL ?_
        refine OW.cons (OP.val (v := (.bool true)) rfl (x_assign) ?_)
        refine OW.nil ?_
        refine CW.ret ?_
        obtain rfl := Option.some.inj hm
        exact RR1 rfl rfl ⟨rfl, hL.fresh 0 rfl [] (by decide) (by decide) rfl⟩
      · intro s_l1 F83 wd84 t74 hJ hm hr75
        unfold M.impl_areFinishes_l1 at hm
        obtain ⟨f85, f86, f87, hL⟩ := hJ
        refine CW.seq ?_
        refine CW.regionL ?_
        refine OW.cons (OP.val (v := (.bool (decide (s_l1 < (a1.length : Int))))) rfl (x_lss f87 f86) ?_)
        refine OW.nil ?_
        refine CW.seq ?_
        refine CW.condM (t := decide (s_l1 < (a1.length : Int))) rfl hm (fun hb88 hm => ?_) (fun hb88 hm => ?_)
        · refine CW.skip ?_
          refine CW.seq ?_
          refine CW.block ?_
          refine CW.seq ?_
          refine CW.regionL ?_
          refine OW.cons (OP.val (v := (.int .i64 s_l1)) rfl (x_mv f87) ?_)
          obtain ⟨x89, ha90, hm⟩ := bndE hm
          obtain ⟨hz91, ha95⟩ := idxE ha90
          obtain ⟨b92, q93, hix94⟩ := rdL_ix (hL.rdS 0 rfl h2) hz91 ha95
          refine OW.cons (OP.val (v := (.pointer (some ⟨b92, q93, none⟩))) rfl (x_ix Try.underlying24 Try_T31 f85 f87 hix94) ?_)
          refine OW.cons (OP.val (v := (.agg #[(.int .i64 x89.Boat), (.int .i64 x89.Code), (.int .i64 x89.Time)])) rfl (x_loadN (cs := [(.int .i64 x89.Boat), (.int .i64 x89.Code), (.int .i64 x89.Time)]) Try.underlying31 Try_T31 rfl rfl (rdF_cells (hL.rdS 0 rfl h2) hix94 ha95)) ?_)
          refine OW.cons (S_alloc (cs := #[(.int .i64 0), (.int .i64 0), (.int .i64 0)]) hL Try_T31 rfl rfl ?_)
          intro wd96 b97 hL
          refine OW.cons (OP.val (v := (.int .i64 s_l1)) rfl (x_assign) ?_)
          refine OW.cons (S_storeN (l := [(.int .i64 x89.Boat), (.int .i64 x89.Code), (.int .i64 x89.Time)]) (cs' := #[(.int .i64 x89.Boat), (.int .i64 x89.Code), (.int .i64 x89.Time)]) hL 0 rfl Try_T31 rfl rfl (List.forall_mem_cons.2 ⟨rfl, (List.forall_mem_cons.2 ⟨rfl, (List.forall_mem_cons.2 ⟨rfl, (fun _ h => by cases h)⟩)⟩)⟩) rfl (Nat.le_of_ble_eq_true rfl) rfl ?_)
          intro wd98 hL
          refine OW.nil ?_
          refine CW.seqJ (fun (s_j2 : Bool) (F : Fr) (w : World) => F 16 = v1 ∧ F 17 = (.int .i64 (a1.length : Int)) ∧ F 18 = (.int .i64 s_l1) ∧ F 31 = (.bool s_j2) ∧ Hp w0 [Ent.blk b97 31 #[(.int .i64 x89.Boat), (.int .i64 x89.Code), (.int .i64 x89.Time)], Ent.snap w0 w0.heap.size] w) (fun s_j2 => M.impl_areFinishes_j2 s_l1 s_j2 = some t74) ?_ ?_
          · refine CW.regionL ?_
            refine OW.cons (OP.val (v := (.pointer (some ⟨b97, 0, none⟩))) rfl (x_fieldAddr (fsz := 1) 0 0 0 Try.underlying31 rfl Try_T2 rfl rfl rfl) ?_)
            refine OW.cons (OP.val (v := (.int .i64 x89.Boat)) rfl (x_load1 Try.underlying2 rfl rfl (hL.cellB 0 rfl rfl)) ?_)
            refine OW.cons (OP.val (v := (.int .i64 s_l1)) rfl (x_move) ?_)
            refine OW.cons (OP.val (v := (.bool (x89.Boat != s_l1))) rfl (x_neq rfl rfl) ?_)
            refine OW.cons (OP.val (v := (.bool (x89.Boat != s_l1))) rfl (x_move) ?_)
            refine ifB_elim hm (fun hb112 hm => ?_) (fun hb112 hm => ?_)
            · refine OW.cons (OP.no' rfl rfl hb112 rfl ?_)
              refine OW.cons (OP.no' rfl rfl hb112 rfl ?_)
              refine OW.cons (OP.no' rfl rfl hb112 rfl ?_)
              refine OW.cons (OP.val (v := (.bool true)) rfl (x_pickT' rfl hb112 rfl) ?_)
              refine OW.nil ?_
              exact ⟨true, hm, ⟨f85, f86, f87, rfl, hL⟩⟩
            · refine OW.cons (OP.yes' rfl rfl hb112 (OP.val (v := (.agg #[(.int .i64 x89.Boat), (.int .i64 x89.Code), (.int .i64 x89.Time)])) rfl (x_loadN (cs := [(.int .i64 x89.Boat), (.int .i64 x89.Code), (.int .i64 x89.Time)]) Try.underlying31 Try_T31 rfl rfl (hL.cellsB 0 rfl (o := 0) (l := [(.int .i64 x89.Boat), (.int .i64 x89.Code), (.int .i64 x89.Time)]) (by intro j u hj; exact (by simpa using hj)))) ?_))
              obtain ⟨x113, hx114, hm⟩ := bndE hm
              refine OW.cons (OP.yes' rfl rfl hb112 (OP.call rfl (x_call (vs := [(.agg #[(.int .i64 x89.Boat), (.int .i64 x89.Code), (.int .i64 x89.Time)])]) Try_C54 ⟨rfl, trivial⟩) (M.impl_IsFinish_ok _ x89 hx114) ?_))
              rintro e115 wd116 ⟨rfl, hF117⟩
              refine ⟨_, rfl, ?_⟩
              have hL := hL.pushAll hF117
              simp only [lA, lB, lC, lD] at hL
              refine OW.cons (OP.yes' rfl rfl hb112 (OP.val (v := (.bool (!x113))) rfl (x_not rfl) ?_))
              refine OW.cons (OP.val (v := (.bool (!x113))) rfl (x_pickF' rfl hb112 rfl) ?_)
              refine OW.nil ?_
              exact ⟨!x113, hm, ⟨f85, f86, f87, rfl, hL⟩⟩
          · intro s_j2 F105 wd106 hJ hm
            unfold M.impl_areFinishes_j2 at hm
            obtain ⟨f107, f108, f109, f110, hL⟩ := hJ
            refine CW.condM (t := s_j2) f110 hm (fun hb111 hm => ?_) (fun hb111 hm => ?_)
            · refine CW.seq ?_
              refine CW.regionL ?_
              refine OW.cons (OP.val (v := (.bool false)) rfl (x_assign) ?_)
              refine OW.nil ?_
              refine CW.ret ?_
              obtain rfl := Option.some.inj hm
              have hm := hr75 _ rfl
              obtain rfl := Option.some.inj hm
              exact RR1 rfl rfl ⟨rfl, hL.fresh 1 rfl [] (by decide) (by decide) rfl⟩
            · refine CW.skip ?_
              refine CW.regionL ?_
              refine OW.cons (OP.val (v := (.int .i64 (w64 (s_l1 + 1)))) rfl (x_add f109 rfl) ?_)
              refine OW.cons (OP.val (v := (.int .i64 (w64 (s_l1 + 1)))) rfl (x_move) ?_)
              refine OW.nil ?_
              have hL := hL.sel [1] (by decide) rfl
              obtain rfl := Option.some.inj hm
              exact ⟨_, rfl, ⟨f107, f108, rfl, hL⟩⟩
        · refine CW.exit ?_
          refine XJ.hit ?_
          obtain rfl := Option.some.inj hm
          exact ⟨_, rfl, ⟨f85, f86, f87, hL⟩⟩

theorem M.slices_IndexFunc_____impl_CurvePoint___impl_CurvePoint__ok (w0 : World) (a0 : List (List CurvePoint)) {v1 : Value} (h2 : rdL (· < w0.heap.size) w0 v1 a0) (a1 : (List CurvePoint) → Option Bool) {fk3 : FuncId} {cp4 : List Value} (hq5 : FnQ Try.prog fk3 cp4 (· < w0.heap.size) w0 (fun yw yvs yv => ∃ (y0 : List CurvePoint) (yu0 : Value) (yr : Bool), yvs = [yu0] ∧ rdL (· < yw.heap.size) yw yu0 y0 ∧ a1 y0 = some yr ∧ yv = (.bool yr))) {r : Int} (hm : M.slices_IndexFunc_____impl_CurvePoint___impl_CurvePoint_ a0 a1 = some r) :
    Calls Try.prog 55 #[v1, (.func (.func fk3) #[] cp4.toArray)] w0 fun e w' => e = .returned (.int .i64 r) ∧ Fresh w0 w' [] := by
  unfold M.slices_IndexFunc_____impl_CurvePoint___impl_CurvePoint_ at hm
  refine calls_CW (args := [v1, (.func (.func fk3) #[] cp4.toArray)]) Try.func55 rfl rfl rfl ?_
  have hL := Hp.start w0
  refine CW.seq ?_
  refine CW.regionL ?_
  refine OW.cons (OP.val (v := (.int .i64 0)) rfl (x_assign) ?_)
  refine OW.nil ?_
  refine CW.seq ?_
  refine CW.seq ?_
  refine CW.regionL ?_
  refine OW.cons (OP.val (v := v1) rfl (x_move) ?_)
  refine OW.cons (OP.val (v := (.int .i64 (a0.length : Int))) rfl (x_lenR Try.underlying25 rfl (hL.rdS 0 rfl h2)) ?_)
  refine OW.cons (OP.val (v := (.int .i64 0)) rfl (x_move) ?_)
  refine OW.nil ?_
  obtain ⟨o44, ho45, hm⟩ := bndE hm
  refine CW.loopB (fun (s_l1 : Int) (F : Fr) (w : World) => F 0 = v1 ∧ F 1 = (.func (.func fk3) #[] cp4.toArray) ∧ F 7 = (.int .i64 (a0.length : Int)) ∧ F 8 = (.int .i64 s_l1) ∧ Hp w0 [Ent.snap w0 w0.heap.size] w) (fun o => outc o (fun x => some x) (fun s => M.slices_IndexFunc_____impl_CurvePoint___impl_CurvePoint__a1 s) = some r) ho45 hm ⟨rfl, rfl, rfl, rfl, hL⟩ ?_ ?_
  · intro s_l1 F46 wd47 hJ hm
    have hm := outcE hm
    have hm : M.slices_IndexFunc_____impl_CurvePoint___impl_CurvePoint__a1 s_l1 = some r := hm
    unfold M.slices_IndexFunc_____impl_CurvePoint___impl_CurvePoint__a1 at hm
    obtain ⟨f48, f49, f50, f51, hL⟩ := hJ
    refine CW.seq ?_
    refine CW.regionL ?_
    refine OW.cons (OP.val (v := (.int .i64 (-1))) rfl (x_assign) ?_)
    refine OW.nil ?_
    refine CW.ret ?_
    obtain rfl := Option.some.inj hm
    exact RR1 rfl rfl ⟨rfl, hL.fresh 0 rfl [] (by decide) (by decide) rfl⟩
  · intro s_l1 F52 wd53 t42 hJ hm hr43
    unfold M.slices_IndexFunc_____impl_CurvePoint___impl_CurvePoint__l1 at hm
    obtain ⟨f54, f55, f56, f57, hL⟩ := hJ
    refine CW.seq ?_
    refine CW.regionL ?_
    refine OW.cons (OP.val (v := (.bool (decide (s_l1 < (a0.length : Int))))) rfl (x_lss f57 f56) ?_)
    refine OW.nil ?_
    refine CW.seq ?_
    refine CW.condM (t := decide (s_l1 < (a0.length : Int))) rfl hm (fun hb58 hm => ?_) (fun hb58 hm => ?_)
    · refine CW.skip ?_
      refine CW.seq ?_
      refine CW.block ?_
      refine CW.seq ?_
      refine CW.regionL ?_
      refine OW.cons (OP.val (v := (.int .i64 s_l1)) rfl (x_mv f57) ?_)
      refine OW.cons (OP.val (v := (.int .i64 s_l1)) rfl (x_assign) ?_)
      refine OW.nil ?_
      refine CW.seq ?_
      refine CW.regionL ?_
      refine OW.cons (OP.val (v := (.func (.func fk3) #[] cp4.toArray)) rfl (x_mv f55) ?_)
      refine OW.cons (OP.val (v := v1) rfl (x_mv f54) ?_)
      refine OW.cons (OP.val (v := (.int .i64 s_l1)) rfl (x_move) ?_)
      obtain ⟨x59, ha60, hm⟩ := bndE hm
      obtain ⟨hz61, ha69⟩ := idxE ha60
      obtain ⟨b62, q63, v64, hix65, hs66, hc67, hr68⟩ := rdN_at h2 hz61 ha69
      refine OW.cons (OP.val (v := (.pointer (some ⟨b62, q63, none⟩))) rfl (x_ix Try.underlying25 Try_T34 rfl rfl hix65) ?_)
      refine OW.cons (OP.val (v := v64) rfl (x_load1 Try.underlying34 rfl rfl (hL.cellS 0 rfl hs66 hc67)) ?_)
      obtain ⟨x70, hx71, hm⟩ := bndE hm
      refine OW.cons (OP.call rfl (x_callV (vs := [v64]) (cap := cp4) hq5.1 rfl ⟨rfl, trivial⟩) (hq5.2 _ (hL.agS 0 rfl) [v64] _ ⟨x59, v64, x70, rfl, (hL.rdS 0 rfl hr68), hx71, rfl⟩) ?_)
      rintro e72 wd73 ⟨rfl, hF74⟩
      refine ⟨_, rfl, ?_⟩
      have hL := hL.pushAll hF74
      simp only [lA, lB, lC, lD] at hL
      refine OW.nil ?_
      refine CW.condM (t := x70) rfl hm (fun hb75 hm => ?_) (fun hb75 hm => ?_)
      · refine CW.seq ?_
        refine CW.regionL ?_
        refine OW.cons (OP.val (v := (.int .i64 s_l1)) rfl (x_move) ?_)
        refine OW.cons (OP.val (v := (.int .i64 s_l1)) rfl (x_assign) ?_)
        refine OW.nil ?_
        refine CW.ret ?_
        obtain rfl := Option.some.inj hm
        have hm := hr43 _ rfl
        obtain rfl := Option.some.inj hm
        exact RR1 rfl rfl ⟨rfl, hL.fresh 0 rfl [] (by decide) (by decide) rfl⟩
      · refine CW.skip ?_
        refine CW.regionL ?_
        refine OW.cons (OP.val (v := (.int .i64 (w64 (s_l1 + 1)))) rfl (x_add f57 rfl) ?_)
        refine OW.cons (OP.val (v := (.int .i64 (w64 (s_l1 + 1)))) rfl (x_move) ?_)
        refine OW.nil ?_
        obtain rfl := Option.some.inj hm
        exact ⟨_, rfl, ⟨f54, f55, f56, rfl, hL⟩⟩
    · refine CW.exit ?_
      refine XJ.hit ?_
      obtain rfl := Option.some.inj hm
      exact ⟨_, rfl, ⟨f54, f55, f56, f57, hL⟩⟩

theorem M.slices_ContainsFunc_____impl_CurvePoint___impl_CurvePoint__ok (w0 : World) (a0 : List (List CurvePoint)) {v1 : Value} (h2 : rdL (· < w0.heap.size) w0 v1 a0) (a1 : (List CurvePoint) → Option Bool) {fk3 : FuncId} {cp4 : List Value} (hq5 : FnQ Try.prog fk3 cp4 (· < w0.heap.size) w0 (fun yw yvs yv => ∃ (y0 : List CurvePoint) (yu0 : Value) (yr : Bool), yvs = [yu0] ∧ rdL (· < yw.heap.size) yw yu0 y0 ∧ a1 y0 = some yr ∧ yv = (.bool yr))) {r : Bool} (hm : M.slices_ContainsFunc_____impl_CurvePoint___impl_CurvePoint_ a0 a1 = some r) :
    Calls Try.prog 34 #[v1, (.func (.func fk3) #[] cp4.toArray)] w0 fun e w' => e = .returned (.bool r) ∧ Fresh w0 w' [] := by
  unfold M.slices_ContainsFunc_____impl_CurvePoint___impl_CurvePoint_ at hm
  refine calls_CW (args := [v1, (.func (.func fk3) #[] cp4.toArray)]) Try.func34 rfl rfl rfl ?_
  have hL := Hp.start w0
  refine CW.seq ?_
  refine CW.regionL ?_
  refine OW.cons (OP.val (v := (.bool false)) rfl (x_assign) ?_)
  refine OW.nil ?_
  refine CW.seq ?_
  refine CW.regionL ?_
  refine OW.cons (OP.val (v := v1) rfl (x_move) ?_)
  refine OW.cons (OP.val (v := (.func (.func fk3) #[] cp4.toArray)) rfl (x_move) ?_)
  obtain ⟨x6, hx7, hm⟩ := bndE hm
  refine OW.cons (OP.call rfl (x_call (vs := [v1, (.func (.func fk3) #[] cp4.toArray)]) Try_C55 ⟨rfl, rfl, trivial⟩) (M.slices_IndexFunc_____impl_CurvePoint___impl_CurvePoint__ok _ a0 (hL.rdS 0 rfl h2) a1 (hL.fnS 0 rfl hq5) hx7) ?_)
  rintro e8 wd9 ⟨rfl, hF10⟩
  refine ⟨_, rfl, ?_⟩
  have hL := hL.pushAll hF10
  simp only [lA, lB, lC, lD] at hL
  refine OW.cons (OP.val (v := (.bool (decide (0 ≤ x6)))) rfl (x_geq rfl rfl) ?_)
  refine OW.cons (OP.val (v := (.bool (decide (0 ≤ x6)))) rfl (x_assign) ?_)
  refine OW.nil ?_
  refine CW.ret ?_
  obtain rfl := Option.some.inj hm
  exact RR1 rfl rfl ⟨rfl, hL.fresh 0 rfl [] (by decide) (by decide) rfl⟩

theorem M.impl_IsCurve_ok (w0 : World) (a0 : List CurvePoint) {v1 : Value} (h2 : rdL (· < w0.heap.size) w0 v1 a0) {r : Bool} (hm : M.impl_IsCurve a0 = some r) :
    Calls Try.prog 36 #[v1] w0 fun e w' => e = .returned (.bool r) ∧ Fresh w0 w' [] := by
  unfold M.impl_IsCurve at hm
  refine calls_CW (args := [v1]) Try.func36 rfl rfl rfl ?_
  have hL := Hp.start w0
  refine CW.seq ?_
  refine CW.regionL ?_
  refine OW.cons (OP.val (v := (.bool false)) rfl (x_assign) ?_)
  refine OW.nil ?_
  refine CW.seq ?_
  refine CW.seq ?_
  refine CW.regionL ?_
  refine OW.cons (OP.val (v := v1) rfl (x_move) ?_)
  refine OW.cons (OP.val (v := (.int .i64 (a0.length : Int))) rfl (x_lenR Try.underlying34 rfl (hL.rdS 0 rfl h2)) ?_)
  refine OW.cons (OP.val (v := (.int .i64 0)) rfl (x_move) ?_)
  refine OW.nil ?_
  obtain ⟨o151, ho152, hm⟩ := bndE hm
  refine CW.loopB (fun (s_l1 : Int) (F : Fr) (w : World) => F 0 = v1 ∧ F 5 = v1 ∧ F 6 = (.int .i64 (a0.length : Int)) ∧ F 7 = (.int .i64 s_l1) ∧ Hp w0 [Ent.snap w0 w0.heap.size] w) (fun o => outc o (fun x => some x) (fun s => M.impl_IsCurve_a1 a0 s) = some r) ho152 hm ⟨rfl, rfl, rfl, rfl, hL⟩ ?_ ?_
  · intro s_l1 F153 wd154 hJ hm
    have hm := outcE hm
    have hm : M.impl_IsCurve_a1 a0 s_l1 = some r := hm
    unfold M.impl_IsCurve_a1 at hm
    obtain ⟨f155, f156, f157, f158, hL⟩ := hJ
    refine CW.seqJ (fun (s_j1 : Bool) (F : Fr) (w : World) => F 2 = (.bool s_j1) ∧ Hp w0 [Ent.snap w0 w0.heap.size] w) (fun s_j1 => M.impl_IsCurve_j1 s_j1 = some r) ?_ ?_
    · refine CW.regionL ?_
      refine OW.cons (OP.val (v := v1) rfl (x_mv f155) ?_)
      refine OW.cons (OP.val (v := (.int .i64 (a0.length : Int))) rfl (x_lenR Try.underlying34 rfl (hL.rdS 0 rfl h2)) ?_)
      refine OW.cons (OP.val (v := (.bool (decide (2 ≤ (a0.length : Int))))) rfl (x_geq rfl rfl) ?_)
      refine OW.cons (OP.val (v := (.bool (decide (2 ≤ (a0.length : Int))))) rfl (x_move) ?_)
      refine ifB_elim hm (fun hb163 hm => ?_) (fun hb163 hm => ?_)
      · refine OW.cons (OP.yes' rfl rfl hb163 (OP.val (v := v1) rfl (x_mv f155) ?_))
        refine OW.cons (OP.yes' rfl rfl hb163 (OP.val (v := (.int .i64 (a0.length : Int))) rfl (x_lenR Try.underlying34 rfl (hL.rdS 0 rfl h2)) ?_))
        refine OW.cons (OP.yes' rfl rfl hb163 (OP.val (v := (.bool (decide ((a0.length : Int) ≤ 12)))) rfl (x_leq rfl rfl) ?_))
        refine OW.cons (OP.val (v := (.bool (decide ((a0.length : Int) ≤ 12)))) rfl (x_pickT' rfl hb163 rfl) ?_)
        refine OW.cons (OP.val (v := (.bool (decide ((a0.length : Int) ≤ 12)))) rfl (x_assign) ?_)
        refine OW.nil ?_
        exact ⟨decide ((a0.length : Int) ≤ 12), hm, ⟨rfl, hL⟩⟩
      · refine OW.cons (OP.no' rfl rfl hb163 rfl ?_)
        refine OW.cons (OP.no' rfl rfl hb163 rfl ?_)
        refine OW.cons (OP.no' rfl rfl hb163 rfl ?_)
        refine OW.cons (OP.val (v := (.bool false)) rfl (x_pickF' rfl hb163 rfl) ?_)
        refine OW.cons (OP.val (v := (.bool false)) rfl (x_assign) ?_)
        refine OW.nil ?_
        exact ⟨false, hm, ⟨rfl, hL⟩⟩
    · intro s_j1 F160 wd161 hJ hm
      unfold M.impl_IsCurve_j1 at hm
      obtain ⟨f162, hL⟩ := hJ
      refine CW.ret ?_
      obtain rfl := Option.some.inj hm
      exact RR1 rfl f162 ⟨rfl, hL.fresh 0 rfl [] (by decide) (by decide) rfl⟩
  · intro s_l1 F164 wd165 t149 hJ hm hr150
    unfold M.impl_IsCurve_l1 at hm
    obtain ⟨f166, f167, f168, f169, hL⟩ := hJ
    refine CW.seq ?_
    refine CW.regionL ?_
    refine OW.cons (OP.val (v := (.bool (decide (s_l1 < (a0.length : Int))))) rfl (x_lss f169 f168) ?_)
    refine OW.nil ?_
    refine CW.seq ?_
    refine CW.condM (t := decide (s_l1 < (a0.length : Int))) rfl hm (fun hb170 hm => ?_) (fun hb170 hm => ?_)
    · refine CW.skip ?_
      refine CW.seq ?_
      refine CW.block ?_
      refine CW.seq ?_
      refine CW.regionL ?_
      refine OW.cons (OP.val (v := (.int .i64 s_l1)) rfl (x_mv f169) ?_)
      obtain ⟨x171, ha172, hm⟩ := bndE hm
      obtain ⟨hz173, ha177⟩ := idxE ha172
      obtain ⟨b174, q175, hix176⟩ := rdL_ix (hL.rdS 0 rfl h2) hz173 ha177
      refine OW.cons (OP.val (v := (.pointer (some ⟨b174, q175, none⟩))) rfl (x_ix Try.underlying34 Try_T62 f167 f169 hix176) ?_)
      refine OW.cons (OP.val (v := (.agg #[(.int .i64 x171.Wind), (.int .i64 x171.Pace)])) rfl (x_loadN (cs := [(.int .i64 x171.Wind), (.int .i64 x171.Pace)]) Try.underlying62 Try_T62 rfl rfl (rdF_cells (hL.rdS 0 rfl h2) hix176 ha177)) ?_)
      refine OW.cons (S_alloc (cs := #[(.int .i64 0), (.int .i64 0)]) hL Try_T62 rfl rfl ?_)
      intro wd178 b179 hL
      refine OW.cons (OP.val (v := (.int .i64 s_l1)) rfl (x_assign) ?_)
      refine OW.cons (S_storeN (l := [(.int .i64 x171.Wind), (.int .i64 x171.Pace)]) (cs' := #[(.int .i64 x171.Wind), (.int .i64 x171.Pace)]) hL 0 rfl Try_T62 rfl rfl (List.forall_mem_cons.2 ⟨rfl, (List.forall_mem_cons.2 ⟨rfl, (fun _ h => by cases h)⟩)⟩) rfl (Nat.le_of_ble_eq_true rfl) rfl ?_)
      intro wd180 hL
      refine OW.nil ?_
      refine CW.seqJ (fun (s_j2 : Bool) (F : Fr) (w : World) => F 0 = v1 ∧ F 5 = v1 ∧ F 6 = (.int .i64 (a0.length : Int)) ∧ F 7 = (.int .i64 s_l1) ∧ F 47 = (.bool s_j2) ∧ Hp w0 [Ent.blk b179 62 #[(.int .i64 x171.Wind), (.int .i64 x171.Pace)], Ent.snap w0 w0.heap.size] w) (fun s_j2 => M.impl_IsCurve_j2 s_l1 s_j2 = some t149) ?_ ?_
      · refine CW.draw Try_mixed ?_
        have hL := hL.call (Mod.drew _)
        refine DW.pre (fuel := 0) (fin := (((((((((((((((((((((((((((((((((((((Array.replicate 36 false).setIfInBounds 0 true).setIfInBounds 1 true).setIfInBounds 2 true).setIfInBounds 3 true).setIfInBounds 4 true).setIfInBounds 5 true).setIfInBounds 6 true).setIfInBounds 7 true).setIfInBounds 8 true).setIfInBounds 9 true).setIfInBounds 10 true).setIfInBounds 11 true).setIfInBounds 12 true).setIfInBounds 13 true).setIfInBounds 14 true).setIfInBounds 15 true).setIfInBounds 16 true).setIfInBounds 17 true).setIfInBounds 18 true).setIfInBounds 19 true).setIfInBounds 20 true).setIfInBounds 21 true).setIfInBounds 22 true).setIfInBounds 23 true).setIfInBounds 24 true).setIfInBounds 25 true).setIfInBounds 26 true).setIfInBounds 27 true).setIfInBounds 28 true).setIfInBounds 29 true).setIfInBounds 30 true).setIfInBounds 31 true).setIfInBounds 32 true).setIfInBounds 33 true).setIfInBounds 34 true).setIfInBounds 35 true)) (C := fun w' => Mod None_ _ w') [0, 1, 2, 3, 4, 5, 6, 7, 8, 9, 10, 11, 12, 13, 14, 15, 16, 17, 18, 19, 20, 21, 22, 23, 24, 25, 26, 27, 28, 29, 30, 31, 32, 33, 34, 35] (Mod.refl _ _) (by kernel_rfl) (by kernel_rfl) ?_
        refine QW.cons rfl (QP.val (v := (.pointer (some ⟨b179, 0, none⟩))) rfl (fun w' hm' => x_fieldAddr (fsz := 1) 0 0 0 Try.underlying62 rfl Try_T2 rfl rfl rfl) ?_)
        refine QW.cons rfl (QP.val (v := (.int .i64 x171.Wind)) rfl (fun w' hm' => x_load1 Try.underlying2 rfl rfl ((hL.call hm').cellB 0 rfl rfl)) ?_)
        obtain ⟨x216, hx217, hm⟩ := bndE hm
        refine QW.cons rfl (QP.call (v := (.bool x216)) rfl (fun w' hm' => x_call (vs := [(.int .i64 x171.Wind), (.int .i64 0), (.int .i64 1000)]) Try_C37 ⟨rfl, rfl, rfl, trivial⟩) (fun w' hm' => (M.impl_within_ok w' x171.Wind 0 1000 hx217).mono (fun e w'' h => ⟨h.1, hm'.trans h.2.mod⟩)) ?_)
        refine QW.cons rfl (QP.val (v := (.bool (!x216))) rfl (fun w' hm' => x_not rfl) ?_)
        refine QW.cons rfl (QP.val (v := (.bool (!x216))) rfl (fun w' hm' => x_move) ?_)
        refine ifB_elim hm (fun hb218 hm => ?_) (fun hb218 hm => ?_)
        · refine QW.cons rfl (QP.no' rfl rfl hb218 rfl ?_)
          refine QW.cons rfl (QP.no' rfl rfl hb218 rfl ?_)
          refine QW.cons rfl (QP.no' rfl rfl hb218 rfl ?_)
          refine QW.cons rfl (QP.no' rfl rfl hb218 rfl ?_)
          refine QW.cons rfl (QP.val (v := (.bool true)) rfl (fun w' hm' => x_pickT' rfl hb218 rfl) ?_)
          refine QW.cons rfl (QP.val (v := (.bool true)) rfl (fun w' hm' => x_move) ?_)
          refine QW.cons rfl (QP.no' rfl rfl rfl rfl ?_)
          refine QW.cons rfl (QP.no' rfl rfl rfl rfl ?_)
          refine QW.cons rfl (QP.no' rfl rfl rfl rfl ?_)
          refine QW.cons rfl (QP.noU rfl rfl rfl ?_)
          refine QW.cons rfl (QP.noU rfl rfl rfl ?_)
          refine QW.cons rfl (QP.noU rfl rfl rfl ?_)
          refine QW.cons rfl (QP.noU rfl rfl rfl ?_)
          refine QW.cons rfl (QP.noU rfl rfl rfl ?_)
          refine QW.cons rfl (QP.noU rfl rfl rfl ?_)
          refine QW.cons rfl (QP.noU rfl rfl rfl ?_)
          refine QW.cons rfl (QP.noU rfl rfl rfl ?_)
          refine QW.cons rfl (QP.noU rfl rfl rfl ?_)
          refine QW.cons rfl (QP.noU rfl rfl rfl ?_)
          refine QW.cons rfl (QP.noU rfl rfl rfl ?_)
          refine QW.cons rfl (QP.noU rfl rfl rfl ?_)
          refine QW.cons rfl (QP.noU rfl rfl rfl ?_)
          refine QW.cons rfl (QP.noU rfl rfl rfl ?_)
          refine QW.cons rfl (QP.noU rfl rfl rfl ?_)
          refine QW.cons rfl (QP.noU rfl rfl rfl ?_)
          refine QW.cons rfl (QP.noU rfl rfl rfl ?_)
          refine QW.cons rfl (QP.noU rfl rfl rfl ?_)
          refine QW.cons rfl (QP.noU rfl rfl rfl ?_)
          refine QW.cons rfl (QP.noU rfl rfl rfl ?_)
          refine QW.cons rfl (QP.no' rfl rfl rfl rfl ?_)
          refine QW.cons rfl (QP.val (v := (.bool true)) rfl (fun w' hm' => x_pickT' rfl rfl rfl) ?_)
          refine QW.nil ?_
          intro wd219 hmod
          have hL := hL.call hmod
          refine DW.done (by kernel_rfl) ?_
          exact ⟨true, hm, ⟨f166, f167, f168, f169, rfl, hL⟩⟩
        · refine QW.cons rfl (QP.yes' rfl rfl hb218 (QP.val (v := (.pointer (some ⟨b179, 1, none⟩))) rfl (fun w' hm' => x_fieldAddr (fsz := 1) 0 1 1 Try.underlying62 rfl Try_T2 rfl rfl rfl) ?_))
          refine QW.cons rfl (QP.yes' rfl rfl hb218 (QP.val (v := (.int .i64 x171.Pace)) rfl (fun w' hm' => x_load1 Try.underlying2 rfl rfl ((hL.call hm').cellB 0 rfl rfl)) ?_))
          obtain ⟨x220, hx221, hm⟩ := bndE hm
          refine QW.cons rfl (QP.yes' rfl rfl hb218 (QP.call (v := (.bool x220)) rfl (fun w' hm' => x_call (vs := [(.int .i64 x171.Pace), (.int .i64 1), (.int .i64 1000000)]) Try_C37 ⟨rfl, rfl, rfl, trivial⟩) (fun w' hm' => (M.impl_within_ok w' x171.Pace 1 1000000 hx221).mono (fun e w'' h => ⟨h.1, hm'.trans h.2.mod⟩)) ?_))
          refine QW.cons rfl (QP.yes' rfl rfl hb218 (QP.val (v := (.bool (!x220))) rfl (fun w' hm' => x_not rfl) ?_))
          refine QW.cons rfl (QP.val (v := (.bool (!x220))) rfl (fun w' hm' => x_pickF' rfl hb218 rfl) ?_)
          refine QW.cons rfl (QP.val (v := (.bool (!x220))) rfl (fun w' hm' => x_move) ?_)
          refine ifB_elim hm (fun hb222 hm => ?_) (fun hb222 hm => ?_)
          · refine QW.cons rfl (QP.no' rfl rfl hb222 rfl ?_)
            refine QW.cons rfl (QP.no' rfl rfl hb222 rfl ?_)
            refine QW.cons rfl (QP.no' rfl rfl hb222 rfl ?_)
            refine QW.cons rfl (QP.noU rfl rfl rfl ?_)
            refine QW.cons rfl (QP.noU rfl rfl rfl ?_)
            refine QW.cons rfl (QP.noU rfl rfl rfl ?_)
            refine QW.cons rfl (QP.noU rfl rfl rfl ?_)
            refine QW.cons rfl (QP.noU rfl rfl rfl ?_)
            refine QW.cons rfl (QP.noU rfl rfl rfl ?_)
            refine QW.cons rfl (QP.noU rfl rfl rfl ?_)
            refine QW.cons rfl (QP.noU rfl rfl rfl ?_)
            refine QW.cons rfl (QP.noU rfl rfl rfl ?_)
            refine QW.cons rfl (QP.noU rfl rfl rfl ?_)
            refine QW.cons rfl (QP.noU rfl rfl rfl ?_)
            refine QW.cons rfl (QP.noU rfl rfl rfl ?_)
            refine QW.cons rfl (QP.noU rfl rfl rfl ?_)
            refine QW.cons rfl (QP.noU rfl rfl rfl ?_)
            refine QW.cons rfl (QP.noU rfl rfl rfl ?_)
            refine QW.cons rfl (QP.noU rfl rfl rfl ?_)
            refine QW.cons rfl (QP.noU rfl rfl rfl ?_)
            refine QW.cons rfl (QP.noU rfl rfl rfl ?_)
            refine QW.cons rfl (QP.noU rfl rfl rfl ?_)
            refine QW.cons rfl (QP.noU rfl rfl rfl ?_)
            refine QW.cons rfl (QP.no' rfl rfl hb222 rfl ?_)
            refine QW.cons rfl (QP.val (v := (.bool true)) rfl (fun w' hm' => x_pickT' rfl hb222 rfl) ?_)
            refine QW.nil ?_
            intro wd223 hmod
            have hL := hL.call hmod
            refine DW.done (by kernel_rfl) ?_
            exact ⟨true, hm, ⟨f166, f167, f168, f169, rfl, hL⟩⟩
          · refine QW.cons rfl (QP.yes' rfl rfl hb222 (QP.val (v := (.int .i64 s_l1)) rfl (fun w' hm' => x_move) ?_))
            refine QW.cons rfl (QP.yes' rfl rfl hb222 (QP.val (v := (.bool (decide (0 < s_l1)))) rfl (fun w' hm' => x_gtr rfl rfl) ?_))
            refine QW.cons rfl (QP.yes' rfl rfl hb222 (QP.val (v := (.bool (decide (0 < s_l1)))) rfl (fun w' hm' => x_move) ?_))
            refine ifB_elim hm (fun hb224 hm => ?_) (fun hb224 hm => ?_)
            · refine QW.cons rfl (QP.yes' rfl rfl hb224 (QP.val (v := v1) rfl (fun w' hm' => x_mv f166) ?_))
              refine QW.cons rfl (QP.yes' rfl rfl hb224 (QP.val (v := (.int .i64 s_l1)) rfl (fun w' hm' => x_move) ?_))
              refine QW.cons rfl (QP.yes' rfl rfl hb224 (QP.val (v := (.int .i64 (w64 (s_l1 - 1)))) rfl (fun w' hm' => x_sub rfl rfl) ?_))
              obtain ⟨x225, ha226, hm⟩ := bndE hm
              obtain ⟨hz227, ha231⟩ := idxE ha226
              obtain ⟨b228, q229, hix230⟩ := rdL_ix (hL.rdS 1 rfl h2) hz227 ha231
              refine QW.cons rfl (QP.yes' rfl rfl hb224 (QP.val (v := (.pointer (some ⟨b228, q229, none⟩))) rfl (fun w' hm' => x_ix Try.underlying34 Try_T62 rfl rfl hix230) ?_))
              refine QW.cons rfl (QP.yes' rfl rfl hb224 (QP.val (v := (.pointer (some ⟨b228, q229, none⟩))) rfl (fun w' hm' => x_fieldAddr (fsz := 1) q229 0 q229 Try.underlying62 rfl Try_T2 rfl rfl rfl) ?_))
              refine QW.cons rfl (QP.yes' rfl rfl hb224 (QP.val (v := (.int .i64 x225.Wind)) rfl (fun w' hm' => x_load1 Try.underlying2 rfl rfl (rdF_cells ((hL.call hm').rdS 1 rfl h2) hix230 ha231 0 _ rfl)) ?_))
              refine QW.cons rfl (QP.yes' rfl rfl hb224 (QP.val (v := (.pointer (some ⟨b179, 0, none⟩))) rfl (fun w' hm' => x_fieldAddr (fsz := 1) 0 0 0 Try.underlying62 rfl Try_T2 rfl rfl rfl) ?_))
              refine QW.cons rfl (QP.yes' rfl rfl hb224 (QP.val (v := (.int .i64 x171.Wind)) rfl (fun w' hm' => x_load1 Try.underlying2 rfl rfl ((hL.call hm').cellB 0 rfl rfl)) ?_))
              refine QW.cons rfl (QP.yes' rfl rfl hb224 (QP.val (v := (.bool (decide (x171.Wind ≤ x225.Wind)))) rfl (fun w' hm' => x_geq rfl rfl) ?_))
              refine QW.cons rfl (QP.yes' rfl rfl hb224 (QP.val (v := (.bool (decide (x171.Wind ≤ x225.Wind)))) rfl (fun w' hm' => x_move) ?_))
              refine ifB_elim hm (fun hb232 hm => ?_) (fun hb232 hm => ?_)
              · refine QW.cons rfl (QP.no' rfl rfl hb232 rfl ?_)
                refine QW.cons rfl (QP.no' rfl rfl hb232 rfl ?_)
                refine QW.cons rfl (QP.no' rfl rfl hb232 rfl ?_)
                refine QW.cons rfl (QP.no' rfl rfl hb232 rfl ?_)
                refine QW.cons rfl (QP.no' rfl rfl hb232 rfl ?_)
                refine QW.cons rfl (QP.no' rfl rfl hb232 rfl ?_)
                refine QW.cons rfl (QP.no' rfl rfl hb232 rfl ?_)
                refine QW.cons rfl (QP.no' rfl rfl hb232 rfl ?_)
                refine QW.cons rfl (QP.no' rfl rfl hb232 rfl ?_)
                refine QW.cons rfl (QP.yes' rfl rfl hb224 (QP.val (v := (.bool true)) rfl (fun w' hm' => x_pickT' rfl hb232 rfl) ?_))
                refine QW.cons rfl (QP.yes' rfl rfl hb222 (QP.val (v := (.bool true)) rfl (fun w' hm' => x_pickT' rfl hb224 rfl) ?_))
                refine QW.cons rfl (QP.val (v := (.bool true)) rfl (fun w' hm' => x_pickF' rfl hb222 rfl) ?_)
                refine QW.nil ?_
                intro wd233 hmod
                have hL := hL.call hmod
                refine DW.done (by kernel_rfl) ?_
                exact ⟨true, hm, ⟨f166, f167, f168, f169, rfl, hL⟩⟩
              · refine QW.cons rfl (QP.yes' rfl rfl hb232 (QP.val (v := v1) rfl (fun w' hm' => x_mv f166) ?_))
                refine QW.cons rfl (QP.yes' rfl rfl hb232 (QP.val (v := (.int .i64 s_l1)) rfl (fun w' hm' => x_move) ?_))
                refine QW.cons rfl (QP.yes' rfl rfl hb232 (QP.val (v := (.int .i64 (w64 (s_l1 - 1)))) rfl (fun w' hm' => x_sub rfl rfl) ?_))
                obtain ⟨x234, ha235, hm⟩ := bndE hm
                obtain ⟨hz236, ha240⟩ := idxE ha235
                obtain ⟨b237, q238, hix239⟩ := rdL_ix (hL.rdS 1 rfl h2) hz236 ha240
                refine QW.cons rfl (QP.yes' rfl rfl hb232 (QP.val (v := (.pointer (some ⟨b237, q238, none⟩))) rfl (fun w' hm' => x_ix Try.underlying34 Try_T62 rfl rfl hix239) ?_))
                refine QW.cons rfl (QP.yes' rfl rfl hb232 (QP.val (v := (.pointer (some ⟨b237, q238 + 1, none⟩))) rfl (fun w' hm' => x_fieldAddr (fsz := 1) q238 1 (q238 + 1) Try.underlying62 rfl Try_T2 rfl rfl rfl) ?_))
                refine QW.cons rfl (QP.yes' rfl rfl hb232 (QP.val (v := (.int .i64 x234.Pace)) rfl (fun w' hm' => x_load1 Try.underlying2 rfl rfl (rdF_cells ((hL.call hm').rdS 1 rfl h2) hix239 ha240 1 _ rfl)) ?_))
                refine QW.cons rfl (QP.yes' rfl rfl hb232 (QP.val (v := (.pointer (some ⟨b179, 1, none⟩))) rfl (fun w' hm' => x_fieldAddr (fsz := 1) 0 1 1 Try.underlying62 rfl Try_T2 rfl rfl rfl) ?_))
                refine QW.cons rfl (QP.yes' rfl rfl hb232 (QP.val (v := (.int .i64 x171.Pace)) rfl (fun w' hm' => x_load1 Try.underlying2 rfl rfl ((hL.call hm').cellB 0 rfl rfl)) ?_))
                refine QW.cons rfl (QP.yes' rfl rfl hb232 (QP.val (v := (.bool (decide (x234.Pace ≤ x171.Pace)))) rfl (fun w' hm' => x_leq rfl rfl) ?_))
                refine QW.cons rfl (QP.yes' rfl rfl hb224 (QP.val (v := (.bool (decide (x234.Pace ≤ x171.Pace)))) rfl (fun w' hm' => x_pickF' rfl hb232 rfl) ?_))
                refine QW.cons rfl (QP.yes' rfl rfl hb222 (QP.val (v := (.bool (decide (x234.Pace ≤ x171.Pace)))) rfl (fun w' hm' => x_pickT' rfl hb224 rfl) ?_))
                refine QW.cons rfl (QP.val (v := (.bool (decide (x234.Pace ≤ x171.Pace)))) rfl (fun w' hm' => x_pickF' rfl hb222 rfl) ?_)
                refine QW.nil ?_
                intro wd241 hmod
                have hL := hL.call hmod
                refine DW.done (by kernel_rfl) ?_
                exact ⟨decide (x234.Pace ≤ x171.Pace), hm, ⟨f166, f167, f168, f169, rfl, hL⟩⟩
            · refine QW.cons rfl (QP.no' rfl rfl hb224 rfl ?_)
              refine QW.cons rfl (QP.no' rfl rfl hb224 rfl ?_)
              refine QW.cons rfl (QP.no' rfl rfl hb224 rfl ?_)
              refine QW.cons rfl (QP.no' rfl rfl hb224 rfl ?_)
              refine QW.cons rfl (QP.no' rfl rfl hb224 rfl ?_)
              refine QW.cons rfl (QP.no' rfl rfl hb224 rfl ?_)
              refine QW.cons rfl (QP.no' rfl rfl hb224 rfl ?_)
              refine QW.cons rfl (QP.no' rfl rfl hb224 rfl ?_)
              refine QW.cons rfl (QP.no' rfl rfl hb224 rfl ?_)
              refine QW.cons rfl (QP.no' rfl rfl hb224 rfl ?_)
              refine QW.cons rfl (QP.noU rfl rfl rfl ?_)
              refine QW.cons rfl (QP.noU rfl rfl rfl ?_)
              refine QW.cons rfl (QP.noU rfl rfl rfl ?_)
              refine QW.cons rfl (QP.noU rfl rfl rfl ?_)
              refine QW.cons rfl (QP.noU rfl rfl rfl ?_)
              refine QW.cons rfl (QP.noU rfl rfl rfl ?_)
              refine QW.cons rfl (QP.noU rfl rfl rfl ?_)
              refine QW.cons rfl (QP.noU rfl rfl rfl ?_)
              refine QW.cons rfl (QP.noU rfl rfl rfl ?_)
              refine QW.cons rfl (QP.no' rfl rfl hb224 rfl ?_)
              refine QW.cons rfl (QP.yes' rfl rfl hb222 (QP.val (v := (.bool false)) rfl (fun w' hm' => x_pickF' rfl hb224 rfl) ?_))
              refine QW.cons rfl (QP.val (v := (.bool false)) rfl (fun w' hm' => x_pickF' rfl hb222 rfl) ?_)
              refine QW.nil ?_
              intro wd242 hmod
              have hL := hL.call hmod
              refine DW.done (by kernel_rfl) ?_
              exact ⟨false, hm, ⟨f166, f167, f168, f169, rfl, hL⟩⟩
      · intro s_j2 F208 wd209 hJ hm
        unfold M.impl_IsCurve_j2 at hm
        obtain ⟨f210, f211, f212, f213, f214, hL⟩ := hJ
        refine CW.condM (t := s_j2) f214 hm (fun hb215 hm => ?_) (fun hb215 hm => ?_)
        · refine CW.seq ?_
          refine CW.regionL ?_
          refine OW.cons (OP.val (v := (.bool false)) rfl (x_assign) ?_)
          refine OW.nil ?_
          refine CW.ret ?_
          obtain rfl := Option.some.inj hm
          have hm := hr150 _ rfl
          obtain rfl := Option.some.inj hm
          exact RR1 rfl rfl ⟨rfl, hL.fresh 1 rfl [] (by decide) (by decide) rfl⟩
        · refine CW.skip ?_
          refine CW.regionL ?_
          refine OW.cons (OP.val (v := (.int .i64 (w64 (s_l1 + 1)))) rfl (x_add f213 rfl) ?_)
          refine OW.cons (OP.val (v := (.int .i64 (w64 (s_l1 + 1)))) rfl (x_move) ?_)
          refine OW.nil ?_
          have hL := hL.sel [1] (by decide) rfl
          obtain rfl := Option.some.inj hm
          exact ⟨_, rfl, ⟨f210, f211, f212, rfl, hL⟩⟩
    · refine CW.exit ?_
      refine XJ.hit ?_
      obtain rfl := Option.some.inj hm
      exact ⟨_, rfl, ⟨f166, f167, f168, f169, hL⟩⟩

theorem M.impl_CorrectByCurves_1_ok (w0 : World) (a0 : List CurvePoint) {v1 : Value} (h2 : rdL (· < w0.heap.size) w0 v1 a0) {r : Bool} (hm : M.impl_CorrectByCurves_1 a0 = some r) :
    Calls Try.prog 35 #[v1] w0 fun e w' => e = .returned (.bool r) ∧ Fresh w0 w' [] := by
  unfold M.impl_CorrectByCurves_1 at hm
  refine calls_CW (args := [v1]) Try.func35 rfl rfl rfl ?_
  have hL := Hp.start w0
  refine CW.seq ?_
  refine CW.regionL ?_
  refine OW.cons (OP.val (v := (.bool false)) rfl (x_assign) ?_)
  refine OW.nil ?_
  refine CW.seq ?_
  refine CW.regionL ?_
  refine OW.cons (OP.val (v := v1) rfl (x_move) ?_)
  obtain ⟨x3, hx4, hm⟩ := bndE hm
  refine OW.cons (OP.call rfl (x_call (vs := [v1]) Try_C36 ⟨rfl, trivial⟩) (M.impl_IsCurve_ok _ a0 (hL.rdS 0 rfl h2) hx4) ?_)
  rintro e5 wd6 ⟨rfl, hF7⟩
  refine ⟨_, rfl, ?_⟩
  have hL := hL.pushAll hF7
  simp only [lA, lB, lC, lD] at hL
  refine OW.cons (OP.val (v := (.bool (!x3))) rfl (x_not rfl) ?_)
  refine OW.cons (OP.val (v := (.bool (!x3))) rfl (x_assign) ?_)
  refine OW.nil ?_
  refine CW.ret ?_
  obtain rfl := Option.some.inj hm
  exact RR1 rfl rfl ⟨rfl, hL.fresh 0 rfl [] (by decide) (by decide) rfl⟩

theorem M.impl_isDistance_ok (w0 : World) (a0 : Int) {r : Bool} (hm : M.impl_isDistance a0 = some r) :
    Calls Try.prog 38 #[(.int .i64 a0)] w0 fun e w' => e = .returned (.bool r) ∧ Fresh w0 w' [] := by
  unfold M.impl_isDistance at hm
  refine calls_CW (args := [(.int .i64 a0)]) Try.func38 rfl rfl rfl ?_
  have hL := Hp.start w0
  refine CW.seq ?_
  refine CW.regionL ?_
  refine OW.cons (OP.val (v := (.bool false)) rfl (x_assign) ?_)
  refine OW.nil ?_
  refine CW.seq ?_
  refine CW.regionL ?_
  refine OW.cons (OP.val (v := (.int .i64 a0)) rfl (x_move) ?_)
  obtain ⟨x1, hx2, hm⟩ := bndE hm
  refine OW.cons (OP.call rfl (x_call (vs := [(.int .i64 a0), (.int .i64 1), (.int .i64 10000000)]) Try_C37 ⟨rfl, rfl, rfl, trivial⟩) (M.impl_within_ok _ a0 1 10000000 hx2) ?_)
  rintro e3 wd4 ⟨rfl, hF5⟩
  refine ⟨_, rfl, ?_⟩
  have hL := hL.pushAll hF5
  simp only [lA, lB, lC, lD] at hL
  refine OW.cons (OP.val (v := (.bool x1)) rfl (x_assign) ?_)
  refine OW.nil ?_
  refine CW.ret ?_
  obtain rfl := Option.some.inj hm
  exact RR1 rfl rfl ⟨rfl, hL.fresh 0 rfl [] (by decide) (by decide) rfl⟩

theorem M.impl_floorDiv_ok (w0 : World) (a0 : Int) (a1 : Int) {r : Int} (hm : M.impl_floorDiv a0 a1 = some r) :
    Calls Try.prog 65 #[(.int .i64 a0), (.int .i64 a1)] w0 fun e w' => e = .returned (.int .i64 r) ∧ Fresh w0 w' [] := by
  unfold M.impl_floorDiv at hm
  refine calls_CW (args := [(.int .i64 a0), (.int .i64 a1)]) Try.func65 rfl rfl rfl ?_
  have hL := Hp.start w0
  refine CW.seq ?_
  refine CW.regionL ?_
  refine OW.cons (OP.val (v := (.int .i64 0)) rfl (x_assign) ?_)
  refine OW.nil ?_
  refine CW.seq ?_
  refine CW.regionL ?_
  refine OW.cons (OP.val (v := (.int .i64 a0)) rfl (x_move) ?_)
  refine OW.cons (OP.val (v := (.int .i64 a1)) rfl (x_move) ?_)
  obtain ⟨hc1, hm⟩ := chkE hm
  refine OW.cons (OP.val (v := (.int .i64 (w64 (a0.tdiv a1)))) rfl (x_quo rfl rfl hc1) ?_)
  refine OW.cons (OP.val (v := (.int .i64 (w64 (a0.tdiv a1)))) rfl (x_assign) ?_)
  refine OW.nil ?_
  refine CW.seqJ (fun (s_j1 : Int) (F : Fr) (w : World) => F 5 = (.int .i64 s_j1) ∧ Hp w0 [Ent.snap w0 w0.heap.size] w) (fun s_j1 => M.impl_floorDiv_j1 s_j1 = some r) ?_ ?_
  · refine CW.seq ?_
    refine CW.regionL ?_
    refine OW.cons (OP.val (v := (.int .i64 a0)) rfl (x_move) ?_)
    refine OW.cons (OP.val (v := (.int .i64 a1)) rfl (x_move) ?_)
    obtain ⟨hc7, hm⟩ := chkE hm
    refine OW.cons (OP.val (v := (.int .i64 (a0.tmod a1))) rfl (x_rem rfl rfl hc7) ?_)
    refine OW.cons (OP.val (v := (.bool (decide ((a0.tmod a1) < 0)))) rfl (x_lss rfl rfl) ?_)
    refine OW.nil ?_
    refine CW.condM (t := decide ((a0.tmod a1) < 0)) rfl hm (fun hb8 hm => ?_) (fun hb8 hm => ?_)
    · refine CW.regionL ?_
      refine OW.cons (OP.val (v := (.int .i64 (w64 (a0.tdiv a1)))) rfl (x_move) ?_)
      refine OW.cons (OP.val (v := (.int .i64 (w64 ((w64 (a0.tdiv a1)) - 1)))) rfl (x_sub rfl rfl) ?_)
      refine OW.cons (OP.val (v := (.int .i64 (w64 ((w64 (a0.tdiv a1)) - 1)))) rfl (x_assign) ?_)
      refine OW.nil ?_
      exact ⟨w64 ((w64 (a0.tdiv a1)) - 1), hm, ⟨rfl, hL⟩⟩
    · refine CW.skip ?_
      exact ⟨w64 (a0.tdiv a1), hm, ⟨rfl, hL⟩⟩
  · intro s_j1 F4 wd5 hJ hm
    unfold M.impl_floorDiv_j1 at hm
    obtain ⟨f6, hL⟩ := hJ
    refine CW.seq ?_
    refine CW.regionL ?_
    refine OW.cons (OP.val (v := (.int .i64 s_j1)) rfl (x_mv f6) ?_)
    refine OW.cons (OP.val (v := (.int .i64 s_j1)) rfl (x_assign) ?_)
    refine OW.nil ?_
    refine CW.ret ?_
    obtain rfl := Option.some.inj hm
    exact RR1 rfl rfl ⟨rfl, hL.fresh 0 rfl [] (by decide) (by decide) rfl⟩

theorem M.impl_paceAt_ok (w0 : World) (a0 : List CurvePoint) {v1 : Value} (h2 : rdL (· < w0.heap.size) w0 v1 a0) (a1 : Int) {r : Int} (hm : M.impl_paceAt a0 a1 = some r) :
    Calls Try.prog 51 #[v1, (.int .i64 a1)] w0 fun e w' => e = .returned (.int .i64 r) ∧ Fresh w0 w' [] := by
  unfold M.impl_paceAt at hm
  refine calls_CW (args := [v1, (.int .i64 a1)]) Try.func51 rfl rfl rfl ?_
  have hL := Hp.start w0
  refine CW.seq ?_
  refine CW.regionL ?_
  refine OW.cons (OP.val (v := (.int .i64 0)) rfl (x_assign) ?_)
  refine OW.nil ?_
  refine CW.seq ?_
  refine CW.seq ?_
  refine CW.regionL ?_
  refine OW.cons (OP.val (v := v1) rfl (x_move) ?_)
  refine OW.cons (OP.val (v := (.int .i64 (a0.length : Int))) rfl (x_lenR Try.underlying34 rfl (hL.rdS 0 rfl h2)) ?_)
  refine OW.cons (OP.val (v := (.int .i64 0)) rfl (x_move) ?_)
  refine OW.nil ?_
  obtain ⟨o57, ho58, hm⟩ := bndE hm
  refine CW.loopB (fun (s_l1 : Int) (F : Fr) (w : World) => F 0 = v1 ∧ F 1 = (.int .i64 a1) ∧ F 8 = v1 ∧ F 9 = (.int .i64 (a0.length : Int)) ∧ F 10 = (.int .i64 s_l1) ∧ Hp w0 [Ent.snap w0 w0.heap.size] w) (fun o => outc o (fun x => some x) (fun s => M.impl_paceAt_a1 a0 s) = some r) ho58 hm ⟨rfl, rfl, rfl, rfl, rfl, hL⟩ ?_ ?_
  · intro s_l1 F59 wd60 hJ hm
    have hm := outcE hm
    have hm : M.impl_paceAt_a1 a0 s_l1 = some r := hm
    unfold M.impl_paceAt_a1 at hm
    obtain ⟨f61, f62, f63, f64, f65, hL⟩ := hJ
    refine CW.seq ?_
    refine CW.regionL ?_
    refine OW.cons (OP.val (v := v1) rfl (x_mv f61) ?_)
    refine OW.cons (OP.val (v := v1) rfl (x_mv f61) ?_)
    refine OW.cons (OP.val (v := (.int .i64 (a0.length : Int))) rfl (x_lenR Try.underlying34 rfl (hL.rdS 0 rfl h2)) ?_)
    refine OW.cons (OP.val (v := (.int .i64 (w64 ((a0.length : Int) - 1)))) rfl (x_sub rfl rfl) ?_)
    obtain ⟨x66, ha67, hm⟩ := bndE hm
    obtain ⟨hz68, ha72⟩ := idxE ha67
    obtain ⟨b69, q70, hix71⟩ := rdL_ix (hL.rdS 0 rfl h2) hz68 ha72
    refine OW.cons (OP.val (v := (.pointer (some ⟨b69, q70, none⟩))) rfl (x_ix Try.underlying34 Try_T62 rfl rfl hix71) ?_)
    refine OW.cons (OP.val (v := (.pointer (some ⟨b69, q70 + 1, none⟩))) rfl (x_fieldAddr (fsz := 1) q70 1 (q70 + 1) Try.underlying62 rfl Try_T2 rfl rfl rfl) ?_)
    refine OW.cons (OP.val (v := (.int .i64 x66.Pace)) rfl (x_load1 Try.underlying2 rfl rfl (rdF_cells (hL.rdS 0 rfl h2) hix71 ha72 1 _ rfl)) ?_)
    refine OW.cons (OP.val (v := (.int .i64 x66.Pace)) rfl (x_assign) ?_)
    refine OW.nil ?_
    refine CW.ret ?_
    obtain rfl := Option.some.inj hm
    exact RR1 rfl rfl ⟨rfl, hL.fresh 0 rfl [] (by decide) (by decide) rfl⟩
  · intro s_l1 F73 wd74 t55 hJ hm hr56
    unfold M.impl_paceAt_l1 at hm
    obtain ⟨f75, f76, f77, f78, f79, hL⟩ := hJ
    refine CW.seq ?_
    refine CW.regionL ?_
    refine OW.cons (OP.val (v := (.bool (decide (s_l1 < (a0.length : Int))))) rfl (x_lss f79 f78) ?_)
    refine OW.nil ?_
    refine CW.seq ?_
    refine CW.condM (t := decide (s_l1 < (a0.length : Int))) rfl hm (fun hb80 hm => ?_) (fun hb80 hm => ?_)
    · refine CW.skip ?_
      refine CW.seq ?_
      refine CW.block ?_
      refine CW.seq ?_
      refine CW.regionL ?_
      refine OW.cons (OP.val (v := (.int .i64 s_l1)) rfl (x_mv f79) ?_)
      obtain ⟨x81, ha82, hm⟩ := bndE hm
      obtain ⟨hz83, ha87⟩ := idxE ha82
      obtain ⟨b84, q85, hix86⟩ := rdL_ix (hL.rdS 0 rfl h2) hz83 ha87
      refine OW.cons (OP.val (v := (.pointer (some ⟨b84, q85, none⟩))) rfl (x_ix Try.underlying34 Try_T62 f77 f79 hix86) ?_)
      refine OW.cons (OP.val (v := (.agg #[(.int .i64 x81.Wind), (.int .i64 x81.Pace)])) rfl (x_loadN (cs := [(.int .i64 x81.Wind), (.int .i64 x81.Pace)]) Try.underlying62 Try_T62 rfl rfl (rdF_cells (hL.rdS 0 rfl h2) hix86 ha87)) ?_)
      refine OW.cons (S_alloc (cs := #[(.int .i64 0), (.int .i64 0)]) hL Try_T62 rfl rfl ?_)
      intro wd88 b89 hL
      refine OW.cons (OP.val (v := (.int .i64 s_l1)) rfl (x_assign) ?_)
      refine OW.cons (S_storeN (l := [(.int .i64 x81.Wind), (.int .i64 x81.Pace)]) (cs' := #[(.int .i64 x81.Wind), (.int .i64 x81.Pace)]) hL 0 rfl Try_T62 rfl rfl (List.forall_mem_cons.2 ⟨rfl, (List.forall_mem_cons.2 ⟨rfl, (fun _ h => by cases h)⟩)⟩) rfl (Nat.le_of_ble_eq_true rfl) rfl ?_)
      intro wd90 hL
      refine OW.nil ?_
      refine CW.seq ?_
      refine CW.seq ?_
      refine CW.regionL ?_
      refine OW.cons (OP.val (v := (.int .i64 a1)) rfl (x_mv f76) ?_)
      refine OW.cons (OP.val (v := (.pointer (some ⟨b89, 0, none⟩))) rfl (x_fieldAddr (fsz := 1) 0 0 0 Try.underlying62 rfl Try_T2 rfl rfl rfl) ?_)
      refine OW.cons (OP.val (v := (.int .i64 x81.Wind)) rfl (x_load1 Try.underlying2 rfl rfl (hL.cellB 0 rfl rfl)) ?_)
      refine OW.cons (OP.val (v := (.bool (decide (x81.Wind < a1)))) rfl (x_gtr rfl rfl) ?_)
      refine OW.nil ?_
      refine CW.condM (t := decide (x81.Wind < a1)) rfl hm (fun hb91 hm => ?_) (fun hb91 hm => ?_)
      · refine CW.exit ?_
        refine XX.hit ?_
        refine CW.regionL ?_
        refine OW.cons (OP.val (v := (.int .i64 (w64 (s_l1 + 1)))) rfl (x_add f79 rfl) ?_)
        refine OW.cons (OP.val (v := (.int .i64 (w64 (s_l1 + 1)))) rfl (x_move) ?_)
        refine OW.nil ?_
        have hL := hL.sel [1] (by decide) rfl
        obtain rfl := Option.some.inj hm
        exact ⟨_, rfl, ⟨f75, f76, f77, f78, rfl, hL⟩⟩
      · refine CW.skip ?_
        refine CW.seq ?_
        refine CW.seq ?_
        refine CW.regionL ?_
        refine OW.cons (OP.val (v := (.int .i64 s_l1)) rfl (x_move) ?_)
        refine OW.cons (OP.val (v := (.bool (s_l1 == 0))) rfl (x_eql rfl rfl) ?_)
        refine OW.nil ?_
        refine CW.condM (t := s_l1 == 0) rfl hm (fun hb92 hm => ?_) (fun hb92 hm => ?_)
        · refine CW.seq ?_
          refine CW.regionL ?_
          refine OW.cons (OP.val (v := (.pointer (some ⟨b89, 1, none⟩))) rfl (x_fieldAddr (fsz := 1) 0 1 1 Try.underlying62 rfl Try_T2 rfl rfl rfl) ?_)
          refine OW.cons (OP.val (v := (.int .i64 x81.Pace)) rfl (x_load1 Try.underlying2 rfl rfl (hL.cellB 0 rfl rfl)) ?_)
          refine OW.cons (OP.val (v := (.int .i64 x81.Pace)) rfl (x_assign) ?_)
          refine OW.nil ?_
          refine CW.ret ?_
          obtain rfl := Option.some.inj hm
          have hm := hr56 _ rfl
          obtain rfl := Option.some.inj hm
          exact RR1 rfl rfl ⟨rfl, hL.fresh 1 rfl [] (by decide) (by decide) rfl⟩
        · refine CW.skip ?_
          refine CW.seq ?_
          refine CW.regionL ?_
          refine OW.cons (OP.val (v := v1) rfl (x_mv f75) ?_)
          refine OW.cons (OP.val (v := (.int .i64 s_l1)) rfl (x_move) ?_)
          refine OW.cons (OP.val (v := (.int .i64 (w64 (s_l1 - 1)))) rfl (x_sub rfl rfl) ?_)
          obtain ⟨x93, ha94, hm⟩ := bndE hm
          obtain ⟨hz95, ha99⟩ := idxE ha94
          obtain ⟨b96, q97, hix98⟩ := rdL_ix (hL.rdS 1 rfl h2) hz95 ha99
          refine OW.cons (OP.val (v := (.pointer (some ⟨b96, q97, none⟩))) rfl (x_ix Try.underlying34 Try_T62 rfl rfl hix98) ?_)
          refine OW.cons (OP.val (v := (.agg #[(.int .i64 x93.Wind), (.int .i64 x93.Pace)])) rfl (x_loadN (cs := [(.int .i64 x93.Wind), (.int .i64 x93.Pace)]) Try.underlying62 Try_T62 rfl rfl (rdF_cells (hL.rdS 1 rfl h2) hix98 ha99)) ?_)
          refine OW.cons (S_alloc (cs := #[(.int .i64 0), (.int .i64 0)]) hL Try_T62 rfl rfl ?_)
          intro wd100 b101 hL
          refine OW.cons (S_storeN (l := [(.int .i64 x93.Wind), (.int .i64 x93.Pace)]) (cs' := #[(.int .i64 x93.Wind), (.int .i64 x93.Pace)]) hL 0 rfl Try_T62 rfl rfl (List.forall_mem_cons.2 ⟨rfl, (List.forall_mem_cons.2 ⟨rfl, (fun _ h => by cases h)⟩)⟩) rfl (Nat.le_of_ble_eq_true rfl) rfl ?_)
          intro wd102 hL
          refine OW.nil ?_
          refine CW.seq ?_
          refine CW.draw Try_mixed ?_
          have hL := hL.call (Mod.drew _)
          refine DW.pre (fuel := 0) (fin := (((((((((((((((((((((Array.replicate 20 false).setIfInBounds 0 true).setIfInBounds 1 true).setIfInBounds 2 true).setIfInBounds 3 true).setIfInBounds 4 true).setIfInBounds 5 true).setIfInBounds 6 true).setIfInBounds 7 true).setIfInBounds 8 true).setIfInBounds 9 true).setIfInBounds 10 true).setIfInBounds 11 true).setIfInBounds 12 true).setIfInBounds 13 true).setIfInBounds 14 true).setIfInBounds 15 true).setIfInBounds 16 true).setIfInBounds 17 true).setIfInBounds 18 true).setIfInBounds 19 true)) (C := fun w' => Mod None_ _ w') [0, 1, 2, 3, 4, 5, 6, 7, 8, 9, 10, 11, 12, 13, 14, 15, 16, 17, 18, 19] (Mod.refl _ _) (by kernel_rfl) (by kernel_rfl) ?_
          refine QW.cons rfl (QP.val (v := (.pointer (some ⟨b101, 1, none⟩))) rfl (fun w' hm' => x_fieldAddr (fsz := 1) 0 1 1 Try.underlying62 rfl Try_T2 rfl rfl rfl) ?_)
          refine QW.cons rfl (QP.val (v := (.int .i64 x93.Pace)) rfl (fun w' hm' => x_load1 Try.underlying2 rfl rfl ((hL.call hm').cellB 0 rfl rfl)) ?_)
          refine QW.cons rfl (QP.val (v := (.pointer (some ⟨b89, 1, none⟩))) rfl (fun w' hm' => x_fieldAddr (fsz := 1) 0 1 1 Try.underlying62 rfl Try_T2 rfl rfl rfl) ?_)
          refine QW.cons rfl (QP.val (v := (.int .i64 x81.Pace)) rfl (fun w' hm' => x_load1 Try.underlying2 rfl rfl ((hL.call hm').cellB 1 rfl rfl)) ?_)
          refine QW.cons rfl (QP.val (v := (.pointer (some ⟨b101, 1, none⟩))) rfl (fun w' hm' => x_fieldAddr (fsz := 1) 0 1 1 Try.underlying62 rfl Try_T2 rfl rfl rfl) ?_)
          refine QW.cons rfl (QP.val (v := (.int .i64 x93.Pace)) rfl (fun w' hm' => x_load1 Try.underlying2 rfl rfl ((hL.call hm').cellB 0 rfl rfl)) ?_)
          refine QW.cons rfl (QP.val (v := (.int .i64 (w64 (x81.Pace - x93.Pace)))) rfl (fun w' hm' => x_sub rfl rfl) ?_)
          refine QW.cons rfl (QP.val (v := (.int .i64 a1)) rfl (fun w' hm' => x_mv f76) ?_)
          refine QW.cons rfl (QP.val (v := (.pointer (some ⟨b101, 0, none⟩))) rfl (fun w' hm' => x_fieldAddr (fsz := 1) 0 0 0 Try.underlying62 rfl Try_T2 rfl rfl rfl) ?_)
          refine QW.cons rfl (QP.val (v := (.int .i64 x93.Wind)) rfl (fun w' hm' => x_load1 Try.underlying2 rfl rfl ((hL.call hm').cellB 0 rfl rfl)) ?_)
          refine QW.cons rfl (QP.val (v := (.int .i64 (w64 (a1 - x93.Wind)))) rfl (fun w' hm' => x_sub rfl rfl) ?_)
          refine QW.cons rfl (QP.val (v := (.int .i64 (w64 ((w64 (x81.Pace - x93.Pace)) * (w64 (a1 - x93.Wind)))))) rfl (fun w' hm' => x_mul rfl rfl) ?_)
          refine QW.cons rfl (QP.val (v := (.pointer (some ⟨b89, 0, none⟩))) rfl (fun w' hm' => x_fieldAddr (fsz := 1) 0 0 0 Try.underlying62 rfl Try_T2 rfl rfl rfl) ?_)
          refine QW.cons rfl (QP.val (v := (.int .i64 x81.Wind)) rfl (fun w' hm' => x_load1 Try.underlying2 rfl rfl ((hL.call hm').cellB 1 rfl rfl)) ?_)
          refine QW.cons rfl (QP.val (v := (.pointer (some ⟨b101, 0, none⟩))) rfl (fun w' hm' => x_fieldAddr (fsz := 1) 0 0 0 Try.underlying62 rfl Try_T2 rfl rfl rfl) ?_)
          refine QW.cons rfl (QP.val (v := (.int .i64 x93.Wind)) rfl (fun w' hm' => x_load1 Try.underlying2 rfl rfl ((hL.call hm').cellB 0 rfl rfl)) ?_)
          refine QW.cons rfl (QP.val (v := (.int .i64 (w64 (x81.Wind - x93.Wind)))) rfl (fun w' hm' => x_sub rfl rfl) ?_)
          obtain ⟨x103, hx104, hm⟩ := bndE hm
          refine QW.cons rfl (QP.call (v := (.int .i64 x103)) rfl (fun w' hm' => x_call (vs := [(.int .i64 (w64 ((w64 (x81.Pace - x93.Pace)) * (w64 (a1 - x93.Wind))))), (.int .i64 (w64 (x81.Wind - x93.Wind)))]) Try_C65 ⟨rfl, rfl, trivial⟩) (fun w' hm' => (M.impl_floorDiv_ok w' (w64 ((w64 (x81.Pace - x93.Pace)) * (w64 (a1 - x93.Wind)))) (w64 (x81.Wind - x93.Wind)) hx104).mono (fun e w'' h => ⟨h.1, hm'.trans h.2.mod⟩)) ?_)
          refine QW.cons rfl (QP.val (v := (.int .i64 (w64 (x93.Pace + x103)))) rfl (fun w' hm' => x_add rfl rfl) ?_)
          refine QW.cons rfl (QP.val (v := (.int .i64 (w64 (x93.Pace + x103)))) rfl (fun w' hm' => x_assign) ?_)
          refine QW.nil ?_
          intro wd105 hmod
          have hL := hL.call hmod
          refine DW.done (by kernel_rfl) ?_
          refine CW.ret ?_
          obtain rfl := Option.some.inj hm
          have hm := hr56 _ rfl
          obtain rfl := Option.some.inj hm
          exact RR1 rfl rfl ⟨rfl, hL.fresh 2 rfl [] (by decide) (by decide) rfl⟩
    · refine CW.exit ?_
      refine XJ.hit ?_
      obtain rfl := Option.some.inj hm
      exact ⟨_, rfl, ⟨f75, f76, f77, f78, f79, hL⟩⟩

theorem M.impl_ceilDiv_ok (w0 : World) (a0 : Int) (a1 : Int) {r : Int} (hm : M.impl_ceilDiv a0 a1 = some r) :
    Calls Try.prog 68 #[(.int .i64 a0), (.int .i64 a1)] w0 fun e w' => e = .returned (.int .i64 r) ∧ Fresh w0 w' [] := by
  unfold M.impl_ceilDiv at hm
  refine calls_CW (args := [(.int .i64 a0), (.int .i64 a1)]) Try.func68 rfl rfl rfl ?_
  have hL := Hp.start w0
  refine CW.seq ?_
  refine CW.regionL ?_
  refine OW.cons (OP.val (v := (.int .i64 0)) rfl (x_assign) ?_)
  refine OW.nil ?_
  refine CW.seq ?_
  refine CW.regionL ?_
  refine OW.cons (OP.val (v := (.int .i64 a0)) rfl (x_move) ?_)
  refine OW.cons (OP.val (v := (.int .i64 (w64 (0 - a0)))) rfl (x_neg rfl) ?_)
  refine OW.cons (OP.val (v := (.int .i64 a1)) rfl (x_move) ?_)
  obtain ⟨x1, hx2, hm⟩ := bndE hm
  refine OW.cons (OP.call rfl (x_call (vs := [(.int .i64 (w64 (0 - a0))), (.int .i64 a1)]) Try_C65 ⟨rfl, rfl, trivial⟩) (M.impl_floorDiv_ok _ (w64 (0 - a0)) a1 hx2) ?_)
  rintro e3 wd4 ⟨rfl, hF5⟩
  refine ⟨_, rfl, ?_⟩
  have hL := hL.pushAll hF5
  simp only [lA, lB, lC, lD] at hL
  refine OW.cons (OP.val (v := (.int .i64 (w64 (0 - x1)))) rfl (x_neg rfl) ?_)
  refine OW.cons (OP.val (v := (.int .i64 (w64 (0 - x1)))) rfl (x_assign) ?_)
  refine OW.nil ?_
  refine CW.ret ?_
  obtain rfl := Option.some.inj hm
  exact RR1 rfl rfl ⟨rfl, hL.fresh 0 rfl [] (by decide) (by decide) rfl⟩

theorem M.impl_curveTime_ok (w0 : World) (a0 : List CurvePoint) {v1 : Value} (h2 : rdL (· < w0.heap.size) w0 v1 a0) (a1 : Int) (a2 : Int) {r : Int} (hm : M.impl_curveTime a0 a1 a2 = some r) :
    Calls Try.prog 57 #[v1, (.int .i64 a1), (.int .i64 a2)] w0 fun e w' => e = .returned (.int .i64 r) ∧ Fresh w0 w' [] := by
  unfold M.impl_curveTime at hm
  refine calls_CW (args := [v1, (.int .i64 a1), (.int .i64 a2)]) Try.func57 rfl rfl rfl ?_
  have hL := Hp.start w0
  refine CW.seq ?_
  refine CW.regionL ?_
  refine OW.cons (OP.val (v := (.int .i64 0)) rfl (x_assign) ?_)
  refine OW.nil ?_
  refine CW.seq ?_
  refine CW.regionL ?_
  refine OW.cons (OP.val (v := v1) rfl (x_move) ?_)
  refine OW.cons (OP.val (v := (.int .i64 a1)) rfl (x_move) ?_)
  obtain ⟨x3, hx4, hm⟩ := bndE hm
  refine OW.cons (OP.call rfl (x_call (vs := [v1, (.int .i64 a1)]) Try_C51 ⟨rfl, rfl, trivial⟩) (M.impl_paceAt_ok _ a0 (hL.rdS 0 rfl h2) a1 hx4) ?_)
  rintro e5 wd6 ⟨rfl, hF7⟩
  refine ⟨_, rfl, ?_⟩
  have hL := hL.pushAll hF7
  simp only [lA, lB, lC, lD] at hL
  refine OW.cons (OP.val (v := (.int .i64 a2)) rfl (x_move) ?_)
  refine OW.cons (OP.val (v := (.int .i64 (w64 (x3 * a2)))) rfl (x_mul rfl rfl) ?_)
  obtain ⟨x8, hx9, hm⟩ := bndE hm
  refine OW.cons (OP.call rfl (x_call (vs := [(.int .i64 (w64 (x3 * a2))), (.int .i64 10000)]) Try_C68 ⟨rfl, rfl, trivial⟩) (M.impl_ceilDiv_ok _ (w64 (x3 * a2)) 10000 hx9) ?_)
  rintro e10 wd11 ⟨rfl, hF12⟩
  refine ⟨_, rfl, ?_⟩
  have hL := hL.pushAll hF12
  simp only [lA, lB, lC, lD] at hL
  refine OW.cons (OP.val (v := (.int .i64 x8)) rfl (x_assign) ?_)
  refine OW.nil ?_
  refine CW.ret ?_
  obtain rfl := Option.some.inj hm
  exact RR1 rfl rfl ⟨rfl, hL.fresh 0 rfl [] (by decide) (by decide) rfl⟩

theorem M.impl_impliedWind_ok (w0 : World) (a0 : List CurvePoint) {v1 : Value} (h2 : rdL (· < w0.heap.size) w0 v1 a0) (a1 : Int) (a2 : Int) {r : Int} (hm : M.impl_impliedWind a0 a1 a2 = some r) :
    Calls Try.prog 56 #[v1, (.int .i64 a1), (.int .i64 a2)] w0 fun e w' => e = .returned (.int .i64 r) ∧ Fresh w0 w' [] := by
  unfold M.impl_impliedWind at hm
  refine calls_CW (args := [v1, (.int .i64 a1), (.int .i64 a2)]) Try.func56 rfl rfl rfl ?_
  have hL := Hp.start w0
  refine CW.seq ?_
  refine CW.regionL ?_
  refine OW.cons (OP.val (v := (.int .i64 0)) rfl (x_assign) ?_)
  refine OW.nil ?_
  refine CW.seq ?_
  refine CW.seq ?_
  refine CW.regionL ?_
  refine OW.cons (OP.val (v := (.int .i64 0)) rfl (x_move) ?_)
  refine OW.nil ?_
  obtain ⟨o19, ho20, hm⟩ := bndE hm
  refine CW.loopB (fun (s_l1 : Int) (F : Fr) (w : World) => F 0 = v1 ∧ F 1 = (.int .i64 a1) ∧ F 2 = (.int .i64 a2) ∧ F 8 = (.int .i64 s_l1) ∧ Hp w0 [Ent.snap w0 w0.heap.size] w) (fun o => outc o (fun x => some x) (fun s => M.impl_impliedWind_a1 s) = some r) ho20 hm ⟨rfl, rfl, rfl, rfl, hL⟩ ?_ ?_
  · intro s_l1 F21 wd22 hJ hm
    have hm := outcE hm
    have hm : M.impl_impliedWind_a1 s_l1 = some r := hm
    unfold M.impl_impliedWind_a1 at hm
    obtain ⟨f23, f24, f25, f26, hL⟩ := hJ
    refine CW.seq ?_
    refine CW.regionL ?_
    refine OW.cons (OP.val (v := (.int .i64 (-1))) rfl (x_assign) ?_)
    refine OW.nil ?_
    refine CW.ret ?_
    obtain rfl := Option.some.inj hm
    exact RR1 rfl rfl ⟨rfl, hL.fresh 0 rfl [] (by decide) (by decide) rfl⟩
  · intro s_l1 F27 wd28 t17 hJ hm hr18
    unfold M.impl_impliedWind_l1 at hm
    obtain ⟨f29, f30, f31, f32, hL⟩ := hJ
    refine CW.seq ?_
    refine CW.regionL ?_
    refine OW.cons (OP.val (v := (.bool (decide (s_l1 < 1001)))) rfl (x_lss f32 rfl) ?_)
    refine OW.nil ?_
    refine CW.seq ?_
    refine CW.condM (t := decide (s_l1 < 1001)) rfl hm (fun hb33 hm => ?_) (fun hb33 hm => ?_)
    · refine CW.skip ?_
      refine CW.seq ?_
      refine CW.block ?_
      refine CW.seq ?_
      refine CW.regionL ?_
      refine OW.cons (OP.val (v := (.int .i64 s_l1)) rfl (x_mv f32) ?_)
      refine OW.cons (OP.val (v := (.int .i64 s_l1)) rfl (x_assign) ?_)
      refine OW.nil ?_
      refine CW.seq ?_
      refine CW.regionL ?_
      refine OW.cons (OP.val (v := v1) rfl (x_mv f29) ?_)
      refine OW.cons (OP.val (v := (.int .i64 s_l1)) rfl (x_move) ?_)
      refine OW.cons (OP.val (v := (.int .i64 a2)) rfl (x_mv f31) ?_)
      obtain ⟨x34, hx35, hm⟩ := bndE hm
      refine OW.cons (OP.call rfl (x_call (vs := [v1, (.int .i64 s_l1), (.int .i64 a2)]) Try_C57 ⟨rfl, rfl, rfl, trivial⟩) (M.impl_curveTime_ok _ a0 (hL.rdS 0 rfl h2) s_l1 a2 hx35) ?_)
      rintro e36 wd37 ⟨rfl, hF38⟩
      refine ⟨_, rfl, ?_⟩
      have hL := hL.pushAll hF38
      simp only [lA, lB, lC, lD] at hL
      refine OW.cons (OP.val (v := (.int .i64 a1)) rfl (x_mv f30) ?_)
      refine OW.cons (OP.val (v := (.bool (decide (x34 ≤ a1)))) rfl (x_leq rfl rfl) ?_)
      refine OW.nil ?_
      refine CW.condM (t := decide (x34 ≤ a1)) rfl hm (fun hb39 hm => ?_) (fun hb39 hm => ?_)
      · refine CW.seq ?_
        refine CW.regionL ?_
        refine OW.cons (OP.val (v := (.int .i64 s_l1)) rfl (x_move) ?_)
        refine OW.cons (OP.val (v := (.int .i64 s_l1)) rfl (x_assign) ?_)
        refine OW.nil ?_
        refine CW.ret ?_
        obtain rfl := Option.some.inj hm
        have hm := hr18 _ rfl
        obtain rfl := Option.some.inj hm
        exact RR1 rfl rfl ⟨rfl, hL.fresh 0 rfl [] (by decide) (by decide) rfl⟩
      · refine CW.skip ?_
        refine CW.regionL ?_
        refine OW.cons (OP.val (v := (.int .i64 (w64 (s_l1 + 1)))) rfl (x_add f32 rfl) ?_)
        refine OW.cons (OP.val (v := (.int .i64 (w64 (s_l1 + 1)))) rfl (x_move) ?_)
        refine OW.nil ?_
        obtain rfl := Option.some.inj hm
        exact ⟨_, rfl, ⟨f29, f30, f31, rfl, hL⟩⟩
    · refine CW.exit ?_
      refine XJ.hit ?_
      obtain rfl := Option.some.inj hm
      exact ⟨_, rfl, ⟨f29, f30, f31, f32, hL⟩⟩

theorem M.impl_curveCorrected_ok (w0 : World) (a0 : List CurvePoint) {v1 : Value} (h2 : rdL (· < w0.heap.size) w0 v1 a0) (a1 : List CurvePoint) {v3 : Value} (h4 : rdL (· < w0.heap.size) w0 v3 a1) (a2 : Int) (a3 : Int) {r : Int} (hm : M.impl_curveCorrected a0 a1 a2 a3 = some r) :
    Calls Try.prog 39 #[v1, v3, (.int .i64 a2), (.int .i64 a3)] w0 fun e w' => e = .returned (.int .i64 r) ∧ Fresh w0 w' [] := by
  unfold M.impl_curveCorrected at hm
  refine calls_CW (args := [v1, v3, (.int .i64 a2), (.int .i64 a3)]) Try.func39 rfl rfl rfl ?_
  have hL := Hp.start w0
  refine CW.seq ?_
  refine CW.regionL ?_
  refine OW.cons (OP.val (v := (.int .i64 0)) rfl (x_assign) ?_)
  refine OW.nil ?_
  refine CW.seq ?_
  refine CW.regionL ?_
  refine OW.cons (OP.val (v := v1) rfl (x_move) ?_)
  refine OW.cons (OP.val (v := (.int .i64 a2)) rfl (x_move) ?_)
  refine OW.cons (OP.val (v := (.int .i64 a3)) rfl (x_move) ?_)
  obtain ⟨x5, hx6, hm⟩ := bndE hm
  refine OW.cons (OP.call rfl (x_call (vs := [v1, (.int .i64 a2), (.int .i64 a3)]) Try_C56 ⟨rfl, rfl, rfl, trivial⟩) (M.impl_impliedWind_ok _ a0 (hL.rdS 0 rfl h2) a2 a3 hx6) ?_)
  rintro e7 wd8 ⟨rfl, hF9⟩
  refine ⟨_, rfl, ?_⟩
  have hL := hL.pushAll hF9
  simp only [lA, lB, lC, lD] at hL
  refine OW.cons (OP.val (v := (.int .i64 x5)) rfl (x_assign) ?_)
  refine OW.nil ?_
  refine CW.seq ?_
  refine CW.seq ?_
  refine CW.regionL ?_
  refine OW.cons (OP.val (v := (.int .i64 x5)) rfl (x_move) ?_)
  refine OW.cons (OP.val (v := (.bool (decide (x5 < 0)))) rfl (x_lss rfl rfl) ?_)
  refine OW.nil ?_
  refine CW.condM (t := decide (x5 < 0)) rfl hm (fun hb10 hm => ?_) (fun hb10 hm => ?_)
  · refine CW.seq ?_
    refine CW.regionL ?_
    refine OW.cons (OP.val (v := (.int .i64 a2)) rfl (x_move) ?_)
    refine OW.cons (OP.val (v := (.int .i64 a2)) rfl (x_assign) ?_)
    refine OW.nil ?_
    refine CW.ret ?_
    obtain rfl := Option.some.inj hm
    exact RR1 rfl rfl ⟨rfl, hL.fresh 0 rfl [] (by decide) (by decide) rfl⟩
  · refine CW.skip ?_
    refine CW.seq ?_
    refine CW.regionL ?_
    refine OW.cons (OP.val (v := v3) rfl (x_move) ?_)
    refine OW.cons (OP.val (v := (.int .i64 x5)) rfl (x_move) ?_)
    refine OW.cons (OP.val (v := (.int .i64 a3)) rfl (x_move) ?_)
    obtain ⟨x11, hx12, hm⟩ := bndE hm
    refine OW.cons (OP.call rfl (x_call (vs := [v3, (.int .i64 x5), (.int .i64 a3)]) Try_C57 ⟨rfl, rfl, rfl, trivial⟩) (M.impl_curveTime_ok _ a1 (hL.rdS 0 rfl h4) x5 a3 hx12) ?_)
    rintro e13 wd14 ⟨rfl, hF15⟩
    refine ⟨_, rfl, ?_⟩
    have hL := hL.pushAll hF15
    simp only [lA, lB, lC, lD] at hL
    refine OW.cons (OP.val (v := (.int .i64 x11)) rfl (x_assign) ?_)
    refine OW.nil ?_
    refine CW.ret ?_
    obtain rfl := Option.some.inj hm
    exact RR1 rfl rfl ⟨rfl, hL.fresh 0 rfl [] (by decide) (by decide) rfl⟩

theorem M.impl_CorrectByCurves_ok (w0 : World) (a0 : Int) (a1 : List Finish) {v1 : Value} (h2 : rdL (· < w0.heap.size) w0 v1 a1) (a2 : List (List CurvePoint)) {v3 : Value} (h4 : rdL (· < w0.heap.size) w0 v3 a2) (a3 : Int) (a4 : Int) {r : (List Finish) × Int} (hm : M.impl_CorrectByCurves a0 a1 a2 a3 a4 = some r) :
    Calls Try.prog 8 #[(.int .i64 a0), v1, v3, (.int .i64 a3), (.int .i64 a4)] w0 fun e w' => ∃ (rv0 : Value) (rS0 : Nat → Prop), e = .returned (.tuple #[rv0, (.int .i64 r.2)]) ∧ Fresh w0 w' [Ent.own 31 rS0 rv0 r.1] := by
  unfold M.impl_CorrectByCurves at hm
  refine calls_CW (args := [(.int .i64 a0), v1, v3, (.int .i64 a3), (.int .i64 a4)]) Try.func8 rfl rfl rfl ?_
  have hL := Hp.start w0
  refine CW.seq ?_
  refine CW.regionL ?_
  refine OW.cons (OP.val (v := (.slice none 0 0)) rfl (x_assign) ?_)
  refine OW.cons (OP.val (v := (.int .i64 0)) rfl (x_assign) ?_)
  refine OW.nil ?_
  refine CW.seq ?_
  refine CW.seqJ (fun (s_j1 : Bool) (F : Fr) (w : World) => F 0 = (.int .i64 a0) ∧ F 1 = v1 ∧ F 2 = v3 ∧ F 3 = (.int .i64 a3) ∧ F 4 = (.int .i64 a4) ∧ F 24 = (.bool s_j1) ∧ Hp w0 [Ent.snap w0 w0.heap.size] w) (fun s_j1 => M.impl_CorrectByCurves_j1 a0 a1 a2 a3 a4 s_j1 = some r) ?_ ?_
  · refine CW.regionL ?_
    refine OW.cons (OP.val (v := (.int .i64 a0)) rfl (x_move) ?_)
    refine OW.cons (OP.val (v := v1) rfl (x_move) ?_)
    obtain ⟨x334, hx335, hm⟩ := bndE hm
    refine OW.cons (OP.call rfl (x_call (vs := [(.int .i64 a0), v1]) Try_C33 ⟨rfl, rfl, trivial⟩) (M.impl_areFinishes_ok _ a0 a1 (hL.rdS 0 rfl h2) hx335) ?_)
    rintro e336 wd337 ⟨rfl, hF338⟩
    refine ⟨_, rfl, ?_⟩
    have hL := hL.pushAll hF338
    simp only [lA, lB, lC, lD] at hL
    refine OW.cons (OP.val (v := (.bool (!x334))) rfl (x_not rfl) ?_)
    refine OW.cons (OP.val (v := (.bool (!x334))) rfl (x_move) ?_)
    refine ifB_elim hm (fun hb339 hm => ?_) (fun hb339 hm => ?_)
    · refine OW.cons (OP.no' rfl rfl hb339 rfl ?_)
      refine OW.cons (OP.no' rfl rfl hb339 rfl ?_)
      refine OW.cons (OP.no' rfl rfl hb339 rfl ?_)
      refine OW.cons (OP.no' rfl rfl hb339 rfl ?_)
      refine OW.cons (OP.val (v := (.bool true)) rfl (x_pickT' rfl hb339 rfl) ?_)
      refine OW.nil ?_
      exact ⟨true, hm, ⟨rfl, rfl, rfl, rfl, rfl, rfl, hL⟩⟩
    · refine OW.cons (OP.yes' rfl rfl hb339 (OP.val (v := v3) rfl (x_move) ?_))
      refine OW.cons (OP.yes' rfl rfl hb339 (OP.val (v := (.int .i64 (a2.length : Int))) rfl (x_lenR Try.underlying25 rfl (hL.rdS 0 rfl h4)) ?_))
      refine OW.cons (OP.yes' rfl rfl hb339 (OP.val (v := (.int .i64 a0)) rfl (x_move) ?_))
      refine OW.cons (OP.yes' rfl rfl hb339 (OP.val (v := (.bool ((a2.length : Int) != a0))) rfl (x_neq rfl rfl) ?_))
      refine OW.cons (OP.val (v := (.bool ((a2.length : Int) != a0))) rfl (x_pickF' rfl hb339 rfl) ?_)
      refine OW.nil ?_
      exact ⟨(a2.length : Int) != a0, hm, ⟨rfl, rfl, rfl, rfl, rfl, rfl, hL⟩⟩
  · intro s_j1 F11 wd12 hJ hm
    unfold M.impl_CorrectByCurves_j1 at hm
    obtain ⟨f13, f14, f15, f16, f17, f18, hL⟩ := hJ
    refine CW.condM (t := s_j1) f18 hm (fun hb19 hm => ?_) (fun hb19 hm => ?_)
    · refine CW.seq ?_
      refine CW.regionL ?_
      refine OW.cons (OP.val (v := (.slice none 0 0)) rfl (x_assign) ?_)
      refine OW.cons (OP.val (v := (.int .i64 1)) rfl (x_assign) ?_)
      refine OW.nil ?_
      refine CW.ret ?_
      have hL := hL.pushNil Finish 31
      obtain rfl := Option.some.inj hm
      exact RR2 rfl rfl rfl ⟨(.slice none 0 0), None_, rfl, hL.fresh 1 rfl [0] (by decide) (by decide) rfl⟩
    · refine CW.skip ?_
      refine CW.seq ?_
      refine CW.seq ?_
      refine CW.regionL ?_
      refine OW.cons (OP.val (v := v3) rfl (x_mv f15) ?_)
      obtain ⟨x20, hx21, hm⟩ := bndE hm
      refine OW.cons (OP.call rfl (x_call (vs := [v3, (.func (.func 35) #[] #[])]) Try_C34 ⟨rfl, rfl, trivial⟩) (M.slices_ContainsFunc_____impl_CurvePoint___impl_CurvePoint__ok _ a2 (hL.rdS 0 rfl h4) (fun y0 => M.impl_CorrectByCurves_1 y0) ⟨Try_C35, fun yw hag yvs yv hR => by obtain ⟨y0, yu0, yr, rfl, yc0, hyf, rfl⟩ := hR; exact M.impl_CorrectByCurves_1_ok yw y0 yc0 hyf⟩ hx21) ?_)
      rintro e22 wd23 ⟨rfl, hF24⟩
      refine ⟨_, rfl, ?_⟩
      have hL := hL.pushAll hF24
      simp only [lA, lB, lC, lD] at hL
      refine OW.nil ?_
      refine CW.condM (t := x20) rfl hm (fun hb25 hm => ?_) (fun hb25 hm => ?_)
      · refine CW.seq ?_
        refine CW.regionL ?_
        refine OW.cons (OP.val (v := (.slice none 0 0)) rfl (x_assign) ?_)
        refine OW.cons (OP.val (v := (.int .i64 1)) rfl (x_assign) ?_)
        refine OW.nil ?_
        refine CW.ret ?_
        have hL := hL.pushNil Finish 31
        obtain rfl := Option.some.inj hm
        exact RR2 rfl rfl rfl ⟨(.slice none 0 0), None_, rfl, hL.fresh 1 rfl [0] (by decide) (by decide) rfl⟩
      · refine CW.skip ?_
        refine CW.seq ?_
        refine CW.seqJ (fun (s_j2 : Bool) (F : Fr) (w : World) => F 1 = v1 ∧ F 2 = v3 ∧ F 3 = (.int .i64 a3) ∧ F 4 = (.int .i64 a4) ∧ F 36 = (.bool s_j2) ∧ Hp w0 [Ent.snap w0 w0.heap.size] w) (fun s_j2 => M.impl_CorrectByCurves_j2 a1 a2 a3 a4 s_j2 = some r) ?_ ?_
        · refine CW.regionL ?_
          refine OW.cons (OP.val (v := (.int .i64 a3)) rfl (x_mv f16) ?_)
          refine OW.cons (OP.val (v := (.int .i64 a0)) rfl (x_mv f13) ?_)
          refine OW.cons (OP.val (v := (.int .i64 (w64 (a0 - 1)))) rfl (x_sub rfl rfl) ?_)
          obtain ⟨x323, hx324, hm⟩ := bndE hm
          refine OW.cons (OP.call rfl (x_call (vs := [(.int .i64 a3), (.int .i64 0), (.int .i64 (w64 (a0 - 1)))]) Try_C37 ⟨rfl, rfl, rfl, trivial⟩) (M.impl_within_ok _ a3 0 (w64 (a0 - 1)) hx324) ?_)
          rintro e325 wd326 ⟨rfl, hF327⟩
          refine ⟨_, rfl, ?_⟩
          have hL := hL.pushAll hF327
          simp only [lA, lB, lC, lD] at hL
          refine OW.cons (OP.val (v := (.bool (!x323))) rfl (x_not rfl) ?_)
          refine OW.cons (OP.val (v := (.bool (!x323))) rfl (x_move) ?_)
          refine ifB_elim hm (fun hb328 hm => ?_) (fun hb328 hm => ?_)
          · refine OW.cons (OP.no' rfl rfl hb328 rfl ?_)
            refine OW.cons (OP.no' rfl rfl hb328 rfl ?_)
            refine OW.cons (OP.no' rfl rfl hb328 rfl ?_)
            refine OW.cons (OP.val (v := (.bool true)) rfl (x_pickT' rfl hb328 rfl) ?_)
            refine OW.nil ?_
            exact ⟨true, hm, ⟨f14, f15, f16, f17, rfl, hL⟩⟩
          · refine OW.cons (OP.yes' rfl rfl hb328 (OP.val (v := (.int .i64 a4)) rfl (x_mv f17) ?_))
            obtain ⟨x329, hx330, hm⟩ := bndE hm
            refine OW.cons (OP.yes' rfl rfl hb328 (OP.call rfl (x_call (vs := [(.int .i64 a4)]) Try_C38 ⟨rfl, trivial⟩) (M.impl_isDistance_ok _ a4 hx330) ?_))
            rintro e331 wd332 ⟨rfl, hF333⟩
            refine ⟨_, rfl, ?_⟩
            have hL := hL.pushAll hF333
            simp only [lA, lB, lC, lD] at hL
            refine OW.cons (OP.yes' rfl rfl hb328 (OP.val (v := (.bool (!x329))) rfl (x_not rfl) ?_))
            refine OW.cons (OP.val (v := (.bool (!x329))) rfl (x_pickF' rfl hb328 rfl) ?_)
            refine OW.nil ?_
            exact ⟨!x329, hm, ⟨f14, f15, f16, f17, rfl, hL⟩⟩
        · intro s_j2 F37 wd38 hJ hm
          unfold M.impl_CorrectByCurves_j2 at hm
          obtain ⟨f39, f40, f41, f42, f43, hL⟩ := hJ
          refine CW.condM (t := s_j2) f43 hm (fun hb44 hm => ?_) (fun hb44 hm => ?_)
          · refine CW.seq ?_
            refine CW.regionL ?_
            refine OW.cons (OP.val (v := (.slice none 0 0)) rfl (x_assign) ?_)
            refine OW.cons (OP.val (v := (.int .i64 2)) rfl (x_assign) ?_)
            refine OW.nil ?_
            refine CW.ret ?_
            have hL := hL.pushNil Finish 31
            obtain rfl := Option.some.inj hm
            exact RR2 rfl rfl rfl ⟨(.slice none 0 0), None_, rfl, hL.fresh 1 rfl [0] (by decide) (by decide) rfl⟩
          · refine CW.skip ?_
            refine CW.seq ?_
            refine CW.regionL ?_
            refine OW.cons (S_lit ([] : List Finish) hL Try.underlying24 Try_T31 rfl (by decide) (by first | (simp [Instr.fill, madeCells, Value.cells, ev, upd, Flat.enc, Flat.sz]; done) | rfl | kernel_rfl) rfl rfl ?_)
            intro wd45 v46 S47 hL
            refine OW.cons (OP.val (v := v46) rfl (x_assign) ?_)
            refine OW.nil ?_
            refine CW.seq ?_
            refine CW.seq ?_
            refine CW.regionL ?_
            refine OW.cons (OP.val (v := v1) rfl (x_mv f39) ?_)
            refine OW.cons (OP.val (v := (.int .i64 (a1.length : Int))) rfl (x_lenR Try.underlying24 rfl (hL.rdS 1 rfl h2)) ?_)
            refine OW.cons (OP.val (v := (.int .i64 0)) rfl (x_move) ?_)
            refine OW.nil ?_
            obtain ⟨o220, ho221, hm⟩ := bndE hm
            refine CW.loopB (fun (s_l1 : (List Finish) × Int) (F : Fr) (w : World) => ∃ (v216 : Value) (S217 : Nat → Prop), F 2 = v3 ∧ F 3 = (.int .i64 a3) ∧ F 4 = (.int .i64 a4) ∧ F 12 = v216 ∧ F 38 = v1 ∧ F 39 = (.int .i64 (a1.length : Int)) ∧ F 40 = (.int .i64 s_l1.2) ∧ Hp w0 [Ent.own 31 S217 v216 s_l1.1, Ent.snap w0 w0.heap.size] w) (fun o => outc o (fun x => some x) (fun s => M.impl_CorrectByCurves_a1 s) = some r) ho221 hm ⟨v46, S47, f40, f41, f42, rfl, rfl, rfl, rfl, hL⟩ ?_ ?_
            · intro s_l1 F222 wd223 hJ hm
              have hm := outcE hm
              have hm : M.impl_CorrectByCurves_a1 s_l1 = some r := hm
              unfold M.impl_CorrectByCurves_a1 at hm
              obtain ⟨v216, S217, f224, f225, f226, f227, f228, f229, f230, hL⟩ := hJ
              refine CW.seq ?_
              refine CW.regionL ?_
              refine OW.cons (OP.val (v := v216) rfl (x_mv f227) ?_)
              refine OW.cons (OP.val (v := v216) rfl (x_assign) ?_)
              refine OW.cons (OP.val (v := (.int .i64 0)) rfl (x_assign) ?_)
              refine OW.nil ?_
              refine CW.ret ?_
              obtain rfl := Option.some.inj hm
              exact RR2 rfl rfl rfl ⟨v216, S217, rfl, hL.fresh 1 rfl [0] (by decide) (by decide) rfl⟩
            · intro s_l1 F231 wd232 t218 hJ hm hr219
              unfold M.impl_CorrectByCurves_l1 at hm
              obtain ⟨v216, S217, f233, f234, f235, f236, f237, f238, f239, hL⟩ := hJ
              refine CW.seq ?_
              refine CW.regionL ?_
              refine OW.cons (OP.val (v := (.bool (decide (s_l1.2 < (a1.length : Int))))) rfl (x_lss f239 f238) ?_)
              refine OW.nil ?_
              refine CW.seq ?_
              refine CW.condM (t := decide (s_l1.2 < (a1.length : Int))) rfl hm (fun hb240 hm => ?_) (fun hb240 hm => ?_)
              · refine CW.skip ?_
                refine CW.seq ?_
                refine CW.block ?_
                refine CW.seq ?_
                refine CW.regionL ?_
                refine OW.cons (OP.val (v := (.int .i64 s_l1.2)) rfl (x_mv f239) ?_)
                obtain ⟨x241, ha242, hm⟩ := bndE hm
                obtain ⟨hz243, ha247⟩ := idxE ha242
                obtain ⟨b244, q245, hix246⟩ := rdL_ix (hL.rdS 1 rfl h2) hz243 ha247
                refine OW.cons (OP.val (v := (.pointer (some ⟨b244, q245, none⟩))) rfl (x_ix Try.underlying24 Try_T31 f237 f239 hix246) ?_)
                refine OW.cons (OP.val (v := (.agg #[(.int .i64 x241.Boat), (.int .i64 x241.Code), (.int .i64 x241.Time)])) rfl (x_loadN (cs := [(.int .i64 x241.Boat), (.int .i64 x241.Code), (.int .i64 x241.Time)]) Try.underlying31 Try_T31 rfl rfl (rdF_cells (hL.rdS 1 rfl h2) hix246 ha247)) ?_)
                refine OW.cons (S_alloc (cs := #[(.int .i64 0), (.int .i64 0), (.int .i64 0)]) hL Try_T31 rfl rfl ?_)
                intro wd248 b249 hL
                refine OW.cons (OP.val (v := (.int .i64 s_l1.2)) rfl (x_assign) ?_)
                refine OW.cons (S_storeN (l := [(.int .i64 x241.Boat), (.int .i64 x241.Code), (.int .i64 x241.Time)]) (cs' := #[(.int .i64 x241.Boat), (.int .i64 x241.Code), (.int .i64 x241.Time)]) hL 0 rfl Try_T31 rfl rfl (List.forall_mem_cons.2 ⟨rfl, (List.forall_mem_cons.2 ⟨rfl, (List.forall_mem_cons.2 ⟨rfl, (fun _ h => by cases h)⟩)⟩)⟩) rfl (Nat.le_of_ble_eq_true rfl) rfl ?_)
                intro wd250 hL
                refine OW.nil ?_
                refine CW.seqJ (fun (s_j3 : Int) (F : Fr) (w : World) => F 2 = v3 ∧ F 3 = (.int .i64 a3) ∧ F 4 = (.int .i64 a4) ∧ F 12 = v216 ∧ F 14 = (.pointer (some ⟨b249, 0, none⟩)) ∧ F 38 = v1 ∧ F 39 = (.int .i64 (a1.length : Int)) ∧ F 40 = (.int .i64 s_l1.2) ∧ Hp w0 [Ent.blk b249 31 #[(.int .i64 x241.Boat), (.int .i64 x241.Code), (.int .i64 s_j3)], Ent.own 31 S217 v216 s_l1.1, Ent.snap w0 w0.heap.size] w) (fun s_j3 => M.impl_CorrectByCurves_j3 s_l1 x241 s_j3 = some t218) ?_ ?_
                · refine CW.seq ?_
                  refine CW.regionL ?_
                  refine OW.cons (OP.val (v := (.pointer (some ⟨b249, 1, none⟩))) rfl (x_fieldAddr (fsz := 1) 0 1 1 Try.underlying31 rfl Try_T2 rfl rfl rfl) ?_)
                  refine OW.cons (OP.val (v := (.int .i64 x241.Code)) rfl (x_load1 Try.underlying2 rfl rfl (hL.cellB 0 rfl rfl)) ?_)
                  refine OW.cons (OP.val (v := (.bool (x241.Code == 0))) rfl (x_eql rfl rfl) ?_)
                  refine OW.nil ?_
                  refine CW.condM (t := x241.Code == 0) rfl hm (fun hb296 hm => ?_) (fun hb296 hm => ?_)
                  · refine CW.draw Try_mixed ?_
                    have hL := hL.call (Mod.drew _)
                    refine DW.pre (fuel := 1) (fin := ((((((((((((((Array.replicate 14 false).setIfInBounds 0 true).setIfInBounds 1 true).setIfInBounds 2 true).setIfInBounds 3 true).setIfInBounds 4 true).setIfInBounds 5 true).setIfInBounds 6 true).setIfInBounds 7 true).setIfInBounds 8 true).setIfInBounds 9 true).setIfInBounds 10 true).setIfInBounds 11 true).setIfInBounds 12 true)) (C := fun w' => Mod None_ _ w') [0, 1, 2, 3, 4, 5, 6, 7, 8, 9, 10, 11, 12] (Mod.refl _ _) (by kernel_rfl) (by kernel_rfl) ?_
                    refine QW.cons rfl (QP.val (v := v3) rfl (fun w' hm' => x_mv f233) ?_)
                    refine QW.cons rfl (QP.val (v := (.int .i64 s_l1.2)) rfl (fun w' hm' => x_move) ?_)
                    obtain ⟨x297, ha298, hm⟩ := bndE hm
                    obtain ⟨hz299, ha307⟩ := idxE ha298
                    obtain ⟨b300, q301, v302, hix303, hs304, hc305, hr306⟩ := rdN_at h4 hz299 ha307
                    refine QW.cons rfl (QP.val (v := (.pointer (some ⟨b300, q301, none⟩))) rfl (fun w' hm' => x_ix Try.underlying25 Try_T34 rfl rfl hix303) ?_)
                    refine QW.cons rfl (QP.val (v := v302) rfl (fun w' hm' => x_load1 Try.underlying34 rfl rfl ((hL.call hm').cellS 2 rfl hs304 hc305)) ?_)
                    refine QW.cons rfl (QP.val (v := v3) rfl (fun w' hm' => x_mv f233) ?_)
                    refine QW.cons rfl (QP.val (v := (.int .i64 a3)) rfl (fun w' hm' => x_mv f234) ?_)
                    obtain ⟨x308, ha309, hm⟩ := bndE hm
                    obtain ⟨hz310, ha318⟩ := idxE ha309
                    obtain ⟨b311, q312, v313, hix314, hs315, hc316, hr317⟩ := rdN_at h4 hz310 ha318
                    refine QW.cons rfl (QP.val (v := (.pointer (some ⟨b311, q312, none⟩))) rfl (fun w' hm' => x_ix Try.underlying25 Try_T34 rfl rfl hix314) ?_)
                    refine QW.cons rfl (QP.val (v := v313) rfl (fun w' hm' => x_load1 Try.underlying34 rfl rfl ((hL.call hm').cellS 2 rfl hs315 hc316)) ?_)
                    refine QW.cons rfl (QP.val (v := (.pointer (some ⟨b249, 2, none⟩))) rfl (fun w' hm' => x_fieldAddr (fsz := 1) 0 2 2 Try.underlying31 rfl Try_T2 rfl rfl rfl) ?_)
                    refine QW.cons rfl (QP.val (v := (.int .i64 x241.Time)) rfl (fun w' hm' => x_load1 Try.underlying2 rfl rfl ((hL.call hm').cellB 0 rfl rfl)) ?_)
                    refine QW.cons rfl (QP.val (v := (.int .i64 a4)) rfl (fun w' hm' => x_mv f235) ?_)
                    obtain ⟨x319, hx320, hm⟩ := bndE hm
                    refine QW.cons rfl (QP.call (v := (.int .i64 x319)) rfl (fun w' hm' => x_call (vs := [v302, v313, (.int .i64 x241.Time), (.int .i64 a4)]) Try_C39 ⟨rfl, rfl, rfl, rfl, trivial⟩) (fun w' hm' => (M.impl_curveCorrected_ok w' x297 ((hL.call hm').rdS 2 rfl hr306) x308 ((hL.call hm').rdS 2 rfl hr317) x241.Time a4 hx320).mono (fun e w'' h => ⟨h.1, hm'.trans h.2.mod⟩)) ?_)
                    refine QW.cons rfl (QP.val (v := (.pointer (some ⟨b249, 2, none⟩))) rfl (fun w' hm' => x_fieldAddr (fsz := 1) 0 2 2 Try.underlying31 rfl Try_T2 rfl rfl rfl) ?_)
                    refine QW.nil ?_
                    intro wd321 hmod
                    have hL := hL.call hmod
                    refine DW.only 13 rfl (by kernel_rfl) (S_store (cs' := #[(.int .i64 x241.Boat), (.int .i64 x241.Code), (.int .i64 x319)]) hL 0 rfl Try_T2 rfl rfl rfl rfl rfl ?_)
                    intro wd322 hL
                    refine DW.done (by kernel_rfl) ?_
                    exact ⟨x319, hm, ⟨f233, f234, f235, f236, rfl, f237, f238, f239, hL⟩⟩
                  · refine CW.skip ?_
                    exact ⟨x241.Time, hm, ⟨f233, f234, f235, f236, rfl, f237, f238, f239, hL⟩⟩
                · intro s_j3 F278 wd279 hJ hm
                  unfold M.impl_CorrectByCurves_j3 at hm
                  obtain ⟨f280, f281, f282, f283, f284, f285, f286, f287, hL⟩ := hJ
                  refine CW.seq ?_
                  refine CW.seq ?_
                  refine CW.regionL ?_
                  refine OW.cons (OP.val (v := (.pointer (some ⟨b249, 2, none⟩))) rfl (x_fieldAddr (fsz := 1) 0 2 2 Try.underlying31 rfl Try_T2 rfl f284 rfl) ?_)
                  refine OW.cons (OP.val (v := (.int .i64 s_j3)) rfl (x_load1 Try.underlying2 rfl rfl (hL.cellB 0 rfl rfl)) ?_)
                  refine OW.cons (OP.val (v := (.bool (decide (1000000000 < s_j3)))) rfl (x_gtr rfl rfl) ?_)
                  refine OW.nil ?_
                  refine CW.condM (t := decide (1000000000 < s_j3)) rfl hm (fun hb288 hm => ?_) (fun hb288 hm => ?_)
                  · refine CW.seq ?_
                    refine CW.regionL ?_
                    refine OW.cons (OP.val (v := (.slice none 0 0)) rfl (x_assign) ?_)
                    refine OW.cons (OP.val (v := (.int .i64 3)) rfl (x_assign) ?_)
                    refine OW.nil ?_
                    refine CW.ret ?_
                    have hL := hL.pushNil Finish 31
                    obtain rfl := Option.some.inj hm
                    have hm := hr219 _ rfl
                    obtain rfl := Option.some.inj hm
                    exact RR2 rfl rfl rfl ⟨(.slice none 0 0), None_, rfl, hL.fresh 3 rfl [0] (by decide) (by decide) rfl⟩
                  · refine CW.skip ?_
                    refine CW.regionL ?_
                    refine OW.cons (OP.val (v := v216) rfl (x_mv f283) ?_)
                    refine OW.cons (OP.val (v := (.agg #[(.int .i64 x241.Boat), (.int .i64 x241.Code), (.int .i64 s_j3)])) rfl (x_loadN (cs := [(.int .i64 x241.Boat), (.int .i64 x241.Code), (.int .i64 s_j3)]) Try.underlying31 Try_T31 rfl f284 (hL.cellsB 0 rfl (o := 0) (l := [(.int .i64 x241.Boat), (.int .i64 x241.Code), (.int .i64 s_j3)]) (by intro j u hj; exact (by simpa using hj)))) ?_)
                    refine OW.cons (S_lit ([(Finish.mk x241.Boat x241.Code s_j3)] : List Finish) hL Try.underlying24 Try_T31 rfl (by decide) (by first | (simp [Instr.fill, madeCells, Value.cells, ev, upd, Flat.enc, Flat.sz]; done) | rfl | kernel_rfl) rfl rfl ?_)
                    intro wd289 v290 S291 hL
                    obtain ⟨hc295, hm⟩ := chkE hm
                    refine OW.cons (S_append (ys := ([(Finish.mk x241.Boat x241.Code s_j3)] : List Finish)) hL 2 rfl Try.underlying24 Try_T31 rfl rfl rfl (hL.rdO 0 rfl) hc295 (by decide) rfl ?_)
                    intro wd292 v293 S294 hL
                    refine OW.cons (OP.val (v := v293) rfl (x_assign) ?_)
                    refine OW.nil ?_
                    refine CW.regionL ?_
                    refine OW.cons (OP.val (v := (.int .i64 (w64 (s_l1.2 + 1)))) rfl (x_add f287 rfl) ?_)
                    refine OW.cons (OP.val (v := (.int .i64 (w64 (s_l1.2 + 1)))) rfl (x_move) ?_)
                    refine OW.nil ?_
                    have hL := hL.sel [2, 3] (by decide) rfl
                    obtain rfl := Option.some.inj hm
                    exact ⟨_, rfl, ⟨v293, S294, f280, f281, f282, rfl, f285, f286, rfl, hL⟩⟩
              · refine CW.exit ?_
                refine XJ.hit ?_
                obtain rfl := Option.some.inj hm
                exact ⟨_, rfl, ⟨v216, S217, f233, f234, f235, f236, f237, f238, f239, hL⟩⟩

theorem M.spec_IsFinish_ok (w0 : World) (a0 : Finish) {r : Bool} (hm : M.spec_IsFinish a0 = some r) :
    Calls Try.prog 58 #[(.agg #[(.int .i64 a0.Boat), (.int .i64 a0.Code), (.int .i64 a0.Time)])] w0 fun e w' => e = .returned (.bool r) ∧ Fresh w0 w' [] := by
  unfold M.spec_IsFinish at hm
  refine calls_CW (args := [(.agg #[(.int .i64 a0.Boat), (.int .i64 a0.Code), (.int .i64 a0.Time)])]) Try.func58 rfl rfl rfl ?_
  have hL := Hp.start w0
  refine CW.seq ?_
  refine CW.regionL ?_
  refine OW.cons (S_box (cs := #[(.int .i64 a0.Boat), (.int .i64 a0.Code), (.int .i64 a0.Time)]) hL rfl rfl rfl ?_)
  intro wd1 b2 hL
  refine OW.cons (OP.val (v := (.bool false)) rfl (x_assign) ?_)
  refine OW.nil ?_
  refine CW.seq ?_
  refine CW.seqJ (fun (s_j1 : Bool) (F : Fr) (w : World) => F 1 = (.pointer (some ⟨b2, 0, none⟩)) ∧ F 12 = (.bool s_j1) ∧ Hp w0 [Ent.blk b2 31 #[(.int .i64 a0.Boat), (.int .i64 a0.Code), (.int .i64 a0.Time)], Ent.snap w0 w0.heap.size] w) (fun s_j1 => M.spec_IsFinish_j1 a0 s_j1 = some r) ?_ ?_
  · refine CW.regionL ?_
    refine OW.cons (OP.val (v := (.pointer (some ⟨b2, 0, none⟩))) rfl (x_fieldAddr (fsz := 1) 0 0 0 Try.underlying31 rfl Try_T2 rfl rfl rfl) ?_)
    refine OW.cons (OP.val (v := (.int .i64 a0.Boat)) rfl (x_load1 Try.underlying2 rfl rfl (hL.cellB 0 rfl rfl)) ?_)
    obtain ⟨x25, hx26, hm⟩ := bndE hm
    refine OW.cons (OP.call rfl (x_call (vs := [(.int .i64 a0.Boat), (.int .i64 0), (.int .i64 15)]) Try_C41 ⟨rfl, rfl, rfl, trivial⟩) (M.spec_l01In_ok _ a0.Boat 0 15 hx26) ?_)
    rintro e27 wd28 ⟨rfl, hF29⟩
    refine ⟨_, rfl, ?_⟩
    have hL := hL.pushAll hF29
    simp only [lA, lB, lC, lD] at hL
    refine OW.cons (OP.val (v := (.bool (!x25))) rfl (x_not rfl) ?_)
    refine OW.cons (OP.val (v := (.bool (!x25))) rfl (x_move) ?_)
    refine ifB_elim hm (fun hb30 hm => ?_) (fun hb30 hm => ?_)
    · refine OW.cons (OP.no' rfl rfl hb30 rfl ?_)
      refine OW.cons (OP.no' rfl rfl hb30 rfl ?_)
      refine OW.cons (OP.no' rfl rfl hb30 rfl ?_)
      refine OW.cons (OP.no' rfl rfl hb30 rfl ?_)
      refine OW.cons (OP.val (v := (.bool true)) rfl (x_pickT' rfl hb30 rfl) ?_)
      refine OW.nil ?_
      exact ⟨true, hm, ⟨rfl, rfl, hL⟩⟩
    · refine OW.cons (OP.yes' rfl rfl hb30 (OP.val (v := (.pointer (some ⟨b2, 1, none⟩))) rfl (x_fieldAddr (fsz := 1) 0 1 1 Try.underlying31 rfl Try_T2 rfl rfl rfl) ?_))
      refine OW.cons (OP.yes' rfl rfl hb30 (OP.val (v := (.int .i64 a0.Code)) rfl (x_load1 Try.underlying2 rfl rfl (hL.cellB 0 rfl rfl)) ?_))
      obtain ⟨x31, hx32, hm⟩ := bndE hm
      refine OW.cons (OP.yes' rfl rfl hb30 (OP.call rfl (x_call (vs := [(.int .i64 a0.Code), (.int .i64 0), (.int .i64 9)]) Try_C41 ⟨rfl, rfl, rfl, trivial⟩) (M.spec_l01In_ok _ a0.Code 0 9 hx32) ?_))
      rintro e33 wd34 ⟨rfl, hF35⟩
      refine ⟨_, rfl, ?_⟩
      have hL := hL.pushAll hF35
      simp only [lA, lB, lC, lD] at hL
      refine OW.cons (OP.yes' rfl rfl hb30 (OP.val (v := (.bool (!x31))) rfl (x_not rfl) ?_))
      refine OW.cons (OP.val (v := (.bool (!x31))) rfl (x_pickF' rfl hb30 rfl) ?_)
      refine OW.nil ?_
      exact ⟨!x31, hm, ⟨rfl, rfl, hL⟩⟩
  · intro s_j1 F14 wd15 hJ hm
    unfold M.spec_IsFinish_j1 at hm
    obtain ⟨f16, f17, hL⟩ := hJ
    refine CW.condM (t := s_j1) f17 hm (fun hb18 hm => ?_) (fun hb18 hm => ?_)
    · refine CW.seq ?_
      refine CW.regionL ?_
      refine OW.cons (OP.val (v := (.bool false)) rfl (x_assign) ?_)
      refine OW.nil ?_
      refine CW.ret ?_
      obtain rfl := Option.some.inj hm
      exact RR1 rfl rfl ⟨rfl, hL.fresh 1 rfl [] (by decide) (by decide) rfl⟩
    · refine CW.skip ?_
      refine CW.seq ?_
      refine CW.seq ?_
      refine CW.regionL ?_
      refine OW.cons (OP.val (v := (.pointer (some ⟨b2, 1, none⟩))) rfl (x_fieldAddr (fsz := 1) 0 1 1 Try.underlying31 rfl Try_T2 rfl f16 rfl) ?_)
      refine OW.cons (OP.val (v := (.int .i64 a0.Code)) rfl (x_load1 Try.underlying2 rfl rfl (hL.cellB 0 rfl rfl)) ?_)
      refine OW.cons (OP.val (v := (.bool (a0.Code == 0))) rfl (x_eql rfl rfl) ?_)
      refine OW.nil ?_
      refine CW.condM (t := a0.Code == 0) rfl hm (fun hb19 hm => ?_) (fun hb19 hm => ?_)
      · refine CW.seq ?_
        refine CW.regionL ?_
        refine OW.cons (OP.val (v := (.pointer (some ⟨b2, 2, none⟩))) rfl (x_fieldAddr (fsz := 1) 0 2 2 Try.underlying31 rfl Try_T2 rfl f16 rfl) ?_)
        refine OW.cons (OP.val (v := (.int .i64 a0.Time)) rfl (x_load1 Try.underlying2 rfl rfl (hL.cellB 0 rfl rfl)) ?_)
        obtain ⟨x20, hx21, hm⟩ := bndE hm
        refine OW.cons (OP.call rfl (x_call (vs := [(.int .i64 a0.Time), (.int .i64 1), (.int .i64 1000000000)]) Try_C41 ⟨rfl, rfl, rfl, trivial⟩) (M.spec_l01In_ok _ a0.Time 1 1000000000 hx21) ?_)
        rintro e22 wd23 ⟨rfl, hF24⟩
        refine ⟨_, rfl, ?_⟩
        have hL := hL.pushAll hF24
        simp only [lA, lB, lC, lD] at hL
        refine OW.cons (OP.val (v := (.bool x20)) rfl (x_assign) ?_)
        refine OW.nil ?_
        refine CW.ret ?_
        obtain rfl := Option.some.inj hm
        exact RR1 rfl rfl ⟨rfl, hL.fresh 1 rfl [] (by decide) (by decide) rfl⟩
      · refine CW.skip ?_
        refine CW.seq ?_
        refine CW.regionL ?_
        refine OW.cons (OP.val (v := (.pointer (some ⟨b2, 2, none⟩))) rfl (x_fieldAddr (fsz := 1) 0 2 2 Try.underlying31 rfl Try_T2 rfl f16 rfl) ?_)
        refine OW.cons (OP.val (v := (.int .i64 a0.Time)) rfl (x_load1 Try.underlying2 rfl rfl (hL.cellB 0 rfl rfl)) ?_)
        refine OW.cons (OP.val (v := (.bool (a0.Time == 0))) rfl (x_eql rfl rfl) ?_)
        refine OW.cons (OP.val (v := (.bool (a0.Time == 0))) rfl (x_assign) ?_)
        refine OW.nil ?_
        refine CW.ret ?_
        obtain rfl := Option.some.inj hm
        exact RR1 rfl rfl ⟨rfl, hL.fresh 1 rfl [] (by decide) (by decide) rfl⟩

theorem M.spec_l22Race_ok (w0 : World) (a0 : Int) (a1 : List Finish) {v1 : Value} (h2 : rdL (· < w0.heap.size) w0 v1 a1) {r : Bool} (hm : M.spec_l22Race a0 a1 = some r) :
    Calls Try.prog 40 #[(.int .i64 a0), v1] w0 fun e w' => e = .returned (.bool r) ∧ Fresh w0 w' [] := by
  unfold M.spec_l22Race at hm
  refine calls_CW (args := [(.int .i64 a0), v1]) Try.func40 rfl rfl rfl ?_
  have hL := Hp.start w0
  refine CW.seq ?_
  refine CW.regionL ?_
  refine OW.cons (OP.val (v := (.bool false)) rfl (x_assign) ?_)
  refine OW.nil ?_
  refine CW.seq ?_
  refine CW.seqJ (fun (s_j1 : Bool) (F : Fr) (w : World) => F 1 = v1 ∧ F 14 = (.bool s_j1) ∧ Hp w0 [Ent.snap w0 w0.heap.size] w) (fun s_j1 => M.spec_l22Race_j1 a1 s_j1 = some r) ?_ ?_
  · refine CW.regionL ?_
    refine OW.cons (OP.val (v := (.int .i64 a0)) rfl (x_move) ?_)
    obtain ⟨x167, hx168, hm⟩ := bndE hm
    refine OW.cons (OP.call rfl (x_call (vs := [(.int .i64 a0), (.int .i64 1), (.int .i64 16)]) Try_C41 ⟨rfl, rfl, rfl, trivial⟩) (M.spec_l01In_ok _ a0 1 16 hx168) ?_)
    rintro e169 wd170 ⟨rfl, hF171⟩
    refine ⟨_, rfl, ?_⟩
    have hL := hL.pushAll hF171
    simp only [lA, lB, lC, lD] at hL
    refine OW.cons (OP.val (v := (.bool (!x167))) rfl (x_not rfl) ?_)
    refine OW.cons (OP.val (v := (.bool (!x167))) rfl (x_move) ?_)
    refine ifB_elim hm (fun hb172 hm => ?_) (fun hb172 hm => ?_)
    · refine OW.cons (OP.no' rfl rfl hb172 rfl ?_)
      refine OW.cons (OP.no' rfl rfl hb172 rfl ?_)
      refine OW.cons (OP.no' rfl rfl hb172 rfl ?_)
      refine OW.cons (OP.no' rfl rfl hb172 rfl ?_)
      refine OW.cons (OP.val (v := (.bool true)) rfl (x_pickT' rfl hb172 rfl) ?_)
      refine OW.nil ?_
      exact ⟨true, hm, ⟨rfl, rfl, hL⟩⟩
    · refine OW.cons (OP.yes' rfl rfl hb172 (OP.val (v := v1) rfl (x_move) ?_))
      refine OW.cons (OP.yes' rfl rfl hb172 (OP.val (v := (.int .i64 (a1.length : Int))) rfl (x_lenR Try.underlying24 rfl (hL.rdS 0 rfl h2)) ?_))
      refine OW.cons (OP.yes' rfl rfl hb172 (OP.val (v := (.int .i64 a0)) rfl (x_move) ?_))
      refine OW.cons (OP.yes' rfl rfl hb172 (OP.val (v := (.bool ((a1.length : Int) != a0))) rfl (x_neq rfl rfl) ?_))
      refine OW.cons (OP.val (v := (.bool ((a1.length : Int) != a0))) rfl (x_pickF' rfl hb172 rfl) ?_)
      refine OW.nil ?_
      exact ⟨(a1.length : Int) != a0, hm, ⟨rfl, rfl, hL⟩⟩
  · intro s_j1 F9 wd10 hJ hm
    unfold M.spec_l22Race_j1 at hm
    obtain ⟨f11, f12, hL⟩ := hJ
    refine CW.condM (t := s_j1) f12 hm (fun hb13 hm => ?_) (fun hb13 hm => ?_)
    · refine CW.seq ?_
      refine CW.regionL ?_
      refine OW.cons (OP.val (v := (.bool false)) rfl (x_assign) ?_)
      refine OW.nil ?_
      refine CW.ret ?_
      obtain rfl := Option.some.inj hm
      exact RR1 rfl rfl ⟨rfl, hL.fresh 0 rfl [] (by decide) (by decide) rfl⟩
    · refine CW.skip ?_
      refine CW.seq ?_
      refine CW.seq ?_
      refine CW.regionL ?_
      refine OW.cons (OP.val (v := (.int .i64 0)) rfl (x_assign) ?_)
      refine OW.nil ?_
      obtain ⟨o110, ho111, hm⟩ := bndE hm
      refine CW.loopB (fun (s_l1 : Int) (F : Fr) (w : World) => F 1 = v1 ∧ F 5 = (.int .i64 s_l1) ∧ Hp w0 [Ent.snap w0 w0.heap.size] w) (fun o => outc o (fun x => some x) (fun s => M.spec_l22Race_a1 s) = some r) ho111 hm ⟨f11, rfl, hL⟩ ?_ ?_
      · intro s_l1 F112 wd113 hJ hm
        have hm := outcE hm
        have hm : M.spec_l22Race_a1 s_l1 = some r := hm
        unfold M.spec_l22Race_a1 at hm
        obtain ⟨f114, f115, hL⟩ := hJ
        refine CW.seq ?_
        refine CW.regionL ?_
        refine OW.cons (OP.val (v := (.bool true)) rfl (x_assign) ?_)
        refine OW.nil ?_
        refine CW.ret ?_
        obtain rfl := Option.some.inj hm
        exact RR1 rfl rfl ⟨rfl, hL.fresh 0 rfl [] (by decide) (by decide) rfl⟩
      · intro s_l1 F116 wd117 t108 hJ hm hr109
        unfold M.spec_l22Race_l1 at hm
        obtain ⟨f118, f119, hL⟩ := hJ
        refine CW.seq ?_
        refine CW.seq ?_
        refine CW.regionL ?_
        refine OW.cons (OP.val (v := (.int .i64 s_l1)) rfl (x_mv f119) ?_)
        refine OW.cons (OP.val (v := v1) rfl (x_mv f118) ?_)
        refine OW.cons (OP.val (v := (.int .i64 (a1.length : Int))) rfl (x_lenR Try.underlying24 rfl (hL.rdS 0 rfl h2)) ?_)
        refine OW.cons (OP.val (v := (.bool (decide (s_l1 < (a1.length : Int))))) rfl (x_lss rfl rfl) ?_)
        refine OW.nil ?_
        refine CW.condM (t := decide (s_l1 < (a1.length : Int))) rfl hm (fun hb120 hm => ?_) (fun hb120 hm => ?_)
        · refine CW.skip ?_
          refine CW.seq ?_
          refine CW.block ?_
          refine CW.seqJ (fun (s_j2 : Bool) (F : Fr) (w : World) => F 1 = v1 ∧ F 5 = (.int .i64 s_l1) ∧ F 35 = (.bool s_j2) ∧ Hp w0 [Ent.snap w0 w0.heap.size] w) (fun s_j2 => M.spec_l22Race_j2 s_l1 s_j2 = some t108) ?_ ?_
          · refine CW.regionL ?_
            refine OW.cons (OP.val (v := v1) rfl (x_mv f118) ?_)
            refine OW.cons (OP.val (v := (.int .i64 s_l1)) rfl (x_mv f119) ?_)
            obtain ⟨x147, ha148, hm⟩ := bndE hm
            obtain ⟨hz149, ha153⟩ := idxE ha148
            obtain ⟨b150, q151, hix152⟩ := rdL_ix (hL.rdS 0 rfl h2) hz149 ha153
            refine OW.cons (OP.val (v := (.pointer (some ⟨b150, q151, none⟩))) rfl (x_ix Try.underlying24 Try_T31 rfl rfl hix152) ?_)
            refine OW.cons (OP.val (v := (.pointer (some ⟨b150, q151, none⟩))) rfl (x_fieldAddr (fsz := 1) q151 0 q151 Try.underlying31 rfl Try_T2 rfl rfl rfl) ?_)
            refine OW.cons (OP.val (v := (.int .i64 x147.Boat)) rfl (x_load1 Try.underlying2 rfl rfl (rdF_cells (hL.rdS 0 rfl h2) hix152 ha153 0 _ rfl)) ?_)
            refine OW.cons (OP.val (v := (.int .i64 s_l1)) rfl (x_mv f119) ?_)
            refine OW.cons (OP.val (v := (.bool (x147.Boat != s_l1))) rfl (x_neq rfl rfl) ?_)
            refine OW.cons (OP.val (v := (.bool (x147.Boat != s_l1))) rfl (x_move) ?_)
            refine ifB_elim hm (fun hb154 hm => ?_) (fun hb154 hm => ?_)
            · refine OW.cons (OP.no' rfl rfl hb154 rfl ?_)
              refine OW.cons (OP.no' rfl rfl hb154 rfl ?_)
              refine OW.cons (OP.no' rfl rfl hb154 rfl ?_)
              refine OW.cons (OP.no' rfl rfl hb154 rfl ?_)
              refine OW.cons (OP.no' rfl rfl hb154 rfl ?_)
              refine OW.cons (OP.no' rfl rfl hb154 rfl ?_)
              refine OW.cons (OP.val (v := (.bool true)) rfl (x_pickT' rfl hb154 rfl) ?_)
              refine OW.nil ?_
              exact ⟨true, hm, ⟨f118, f119, rfl, hL⟩⟩
            · refine OW.cons (OP.yes' rfl rfl hb154 (OP.val (v := v1) rfl (x_mv f118) ?_))
              refine OW.cons (OP.yes' rfl rfl hb154 (OP.val (v := (.int .i64 s_l1)) rfl (x_mv f119) ?_))
              obtain ⟨x155, ha156, hm⟩ := bndE hm
              obtain ⟨hz157, ha161⟩ := idxE ha156
              obtain ⟨b158, q159, hix160⟩ := rdL_ix (hL.rdS 0 rfl h2) hz157 ha161
              refine OW.cons (OP.yes' rfl rfl hb154 (OP.val (v := (.pointer (some ⟨b158, q159, none⟩))) rfl (x_ix Try.underlying24 Try_T31 rfl rfl hix160) ?_))
              refine OW.cons (OP.yes' rfl rfl hb154 (OP.val (v := (.agg #[(.int .i64 x155.Boat), (.int .i64 x155.Code), (.int .i64 x155.Time)])) rfl (x_loadN (cs := [(.int .i64 x155.Boat), (.int .i64 x155.Code), (.int .i64 x155.Time)]) Try.underlying31 Try_T31 rfl rfl (rdF_cells (hL.rdS 0 rfl h2) hix160 ha161)) ?_))
              obtain ⟨x162, hx163, hm⟩ := bndE hm
              refine OW.cons (OP.yes' rfl rfl hb154 (OP.call rfl (x_call (vs := [(.agg #[(.int .i64 x155.Boat), (.int .i64 x155.Code), (.int .i64 x155.Time)])]) Try_C58 ⟨rfl, trivial⟩) (M.spec_IsFinish_ok _ x155 hx163) ?_))
              rintro e164 wd165 ⟨rfl, hF166⟩
              refine ⟨_, rfl, ?_⟩
              have hL := hL.pushAll hF166
              simp only [lA, lB, lC, lD] at hL
              refine OW.cons (OP.yes' rfl rfl hb154 (OP.val (v := (.bool (!x162))) rfl (x_not rfl) ?_))
              refine OW.cons (OP.val (v := (.bool (!x162))) rfl (x_pickF' rfl hb154 rfl) ?_)
              refine OW.nil ?_
              exact ⟨!x162, hm, ⟨f118, f119, rfl, hL⟩⟩
          · intro s_j2 F141 wd142 hJ hm
            unfold M.spec_l22Race_j2 at hm
            obtain ⟨f143, f144, f145, hL⟩ := hJ
            refine CW.condM (t := s_j2) f145 hm (fun hb146 hm => ?_) (fun hb146 hm => ?_)
            · refine CW.seq ?_
              refine CW.regionL ?_
              refine OW.cons (OP.val (v := (.bool false)) rfl (x_assign) ?_)
              refine OW.nil ?_
              refine CW.ret ?_
              obtain rfl := Option.some.inj hm
              have hm := hr109 _ rfl
              obtain rfl := Option.some.inj hm
              exact RR1 rfl rfl ⟨rfl, hL.fresh 0 rfl [] (by decide) (by decide) rfl⟩
            · refine CW.skip ?_
              refine CW.regionL ?_
              refine OW.cons (OP.val (v := (.int .i64 s_l1)) rfl (x_mv f144) ?_)
              refine OW.cons (OP.val (v := (.int .i64 (w64 (s_l1 + 1)))) rfl (x_add rfl rfl) ?_)
              refine OW.cons (OP.val (v := (.int .i64 (w64 (s_l1 + 1)))) rfl (x_assign) ?_)
              refine OW.nil ?_
              obtain rfl := Option.some.inj hm
              exact ⟨_, rfl, ⟨f143, rfl, hL⟩⟩
        · refine CW.exit ?_
          refine XJ.hit ?_
          obtain rfl := Option.some.inj hm
          exact ⟨_, rfl, ⟨f118, f119, hL⟩⟩

theorem M.spec_l23Distance_ok (w0 : World) (a0 : Int) {r : Bool} (hm : M.spec_l23Distance a0 = some r) :
    Calls Try.prog 42 #[(.int .i64 a0)] w0 fun e w' => e = .returned (.bool r) ∧ Fresh w0 w' [] := by
  unfold M.spec_l23Distance at hm
  refine calls_CW (args := [(.int .i64 a0)]) Try.func42 rfl rfl rfl ?_
  have hL := Hp.start w0
  refine CW.seq ?_
  refine CW.regionL ?_
  refine OW.cons (OP.val (v := (.bool false)) rfl (x_assign) ?_)
  refine OW.nil ?_
  refine CW.seq ?_
  refine CW.regionL ?_
  refine OW.cons (OP.val (v := (.int .i64 a0)) rfl (x_move) ?_)
  obtain ⟨x1, hx2, hm⟩ := bndE hm
  refine OW.cons (OP.call rfl (x_call (vs := [(.int .i64 a0), (.int .i64 1), (.int .i64 10000000)]) Try_C41 ⟨rfl, rfl, rfl, trivial⟩) (M.spec_l01In_ok _ a0 1 10000000 hx2) ?_)
  rintro e3 wd4 ⟨rfl, hF5⟩
  refine ⟨_, rfl, ?_⟩
  have hL := hL.pushAll hF5
  simp only [lA, lB, lC, lD] at hL
  refine OW.cons (OP.val (v := (.bool x1)) rfl (x_assign) ?_)
  refine OW.nil ?_
  refine CW.ret ?_
  obtain rfl := Option.some.inj hm
  exact RR1 rfl rfl ⟨rfl, hL.fresh 0 rfl [] (by decide) (by decide) rfl⟩

theorem M.spec_l01Floor_ok (w0 : World) (a0 : Int) (a1 : Int) {r : Int} (hm : M.spec_l01Floor a0 a1 = some r) :
    Calls Try.prog 69 #[(.int .i64 a0), (.int .i64 a1)] w0 fun e w' => e = .returned (.int .i64 r) ∧ Fresh w0 w' [] := by
  unfold M.spec_l01Floor at hm
  refine calls_CW (args := [(.int .i64 a0), (.int .i64 a1)]) Try.func69 rfl rfl rfl ?_
  have hL := Hp.start w0
  refine CW.seq ?_
  refine CW.regionL ?_
  refine OW.cons (OP.val (v := (.int .i64 0)) rfl (x_assign) ?_)
  refine OW.nil ?_
  refine CW.seq ?_
  refine CW.regionL ?_
  refine OW.cons (OP.val (v := (.int .i64 a0)) rfl (x_move) ?_)
  refine OW.cons (OP.val (v := (.int .i64 a1)) rfl (x_move) ?_)
  obtain ⟨hc1, hm⟩ := chkE hm
  refine OW.cons (OP.val (v := (.int .i64 (w64 (a0.tdiv a1)))) rfl (x_quo rfl rfl hc1) ?_)
  refine OW.cons (OP.val (v := (.int .i64 (w64 (a0.tdiv a1)))) rfl (x_assign) ?_)
  refine OW.nil ?_
  refine CW.seqJ (fun (s_j1 : Int) (F : Fr) (w : World) => F 5 = (.int .i64 s_j1) ∧ Hp w0 [Ent.snap w0 w0.heap.size] w) (fun s_j1 => M.spec_l01Floor_j1 s_j1 = some r) ?_ ?_
  · refine CW.seq ?_
    refine CW.regionL ?_
    refine OW.cons (OP.val (v := (.int .i64 a0)) rfl (x_move) ?_)
    refine OW.cons (OP.val (v := (.int .i64 a1)) rfl (x_move) ?_)
    obtain ⟨hc7, hm⟩ := chkE hm
    refine OW.cons (OP.val (v := (.int .i64 (a0.tmod a1))) rfl (x_rem rfl rfl hc7) ?_)
    refine OW.cons (OP.val (v := (.bool (decide ((a0.tmod a1) < 0)))) rfl (x_lss rfl rfl) ?_)
    refine OW.nil ?_
    refine CW.condM (t := decide ((a0.tmod a1) < 0)) rfl hm (fun hb8 hm => ?_) (fun hb8 hm => ?_)
    · refine CW.regionL ?_
      refine OW.cons (OP.val (v := (.int .i64 (w64 (a0.tdiv a1)))) rfl (x_move) ?_)
      refine OW.cons (OP.val (v := (.int .i64 (w64 ((w64 (a0.tdiv a1)) - 1)))) rfl (x_sub rfl rfl) ?_)
      refine OW.cons (OP.val (v := (.int .i64 (w64 ((w64 (a0.tdiv a1)) - 1)))) rfl (x_assign) ?_)
      refine OW.nil ?_
      exact ⟨w64 ((w64 (a0.tdiv a1)) - 1), hm, ⟨rfl, hL⟩⟩
    · refine CW.skip ?_
      exact ⟨w64 (a0.tdiv a1), hm, ⟨rfl, hL⟩⟩
  · intro s_j1 F4 wd5 hJ hm
    unfold M.spec_l01Floor_j1 at hm
    obtain ⟨f6, hL⟩ := hJ
    refine CW.seq ?_
    refine CW.regionL ?_
    refine OW.cons (OP.val (v := (.int .i64 s_j1)) rfl (x_mv f6) ?_)
    refine OW.cons (OP.val (v := (.int .i64 s_j1)) rfl (x_assign) ?_)
    refine OW.nil ?_
    refine CW.ret ?_
    obtain rfl := Option.some.inj hm
    exact RR1 rfl rfl ⟨rfl, hL.fresh 0 rfl [] (by decide) (by decide) rfl⟩

end Go.Proofs.Ytpnehnkhhibliaa
