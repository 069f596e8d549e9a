/- Links: each Go function returns what its model computes and leaves what was there. Printed by my generator. -/
import Derived.Test.YtiacilijcnbblaaMod
import Derived.Test.YtiacilijcnbblaaProg
import Derived.KernelRfl
namespace Go.Proofs.Ytiacilijcnbblaa
set_option maxRecDepth 10000
open Go Go.RowKit Go.ChangeShapes Go.WideShapes
set_option linter.unusedVariables false
set_option linter.unusedSimpArgs false

theorem Try_mixed : Try.prog.follows .mixedOrders = true := by kernel_rfl
theorem Try_T2 : TyI Try.prog 2 1 8 (.int .i64 0) := by unfold TyI; kernel_rfl
theorem Try_T3 : TyI Try.prog 3 1 8 (.int .i64 0) := by unfold TyI; kernel_rfl
theorem Try_T5 : TyI Try.prog 5 1 1 (.int .u8 0) := by unfold TyI; kernel_rfl
theorem Try_T22 : TyI Try.prog 22 1 24 (.slice none 0 0) := by unfold TyI; kernel_rfl
theorem Try_T25 : TyI Try.prog 25 4 32 (.agg #[.int .i64 0, .int .i64 0, .int .i64 0, .int .i64 0]) := by unfold TyI; kernel_rfl
theorem Try_T31 : TyI Try.prog 31 4 32 (.agg #[.int .i64 0, .int .i64 0, .int .i64 0, .int .i64 0]) := by unfold TyI; kernel_rfl
theorem Try_T52 : TyI Try.prog 52 3 24 (.agg #[.int .i64 0, .int .i64 0, .int .i64 0]) := by unfold TyI; kernel_rfl
theorem Try_T67 : TyI Try.prog 67 2 16 (.agg #[.int .i64 0, .int .i64 0]) := by unfold TyI; kernel_rfl
theorem Try_T90 : TyI Try.prog 90 2 16 (.agg #[.int .i64 0, .int .i64 0]) := by unfold TyI; kernel_rfl
theorem Try_T98 : TyI Try.prog 98 3 24 (.agg #[.int .i64 0, .int .i64 0, .int .i64 0]) := by unfold TyI; kernel_rfl
theorem Try_B25 : BuildI Try.prog 25 [(0, 1), (1, 1), (2, 1), (3, 1)] #[.int .i64 0, .int .i64 0, .int .i64 0, .int .i64 0] := by unfold BuildI; kernel_rfl
theorem Try_B52 : BuildI Try.prog 52 [(0, 1), (1, 1), (2, 1)] #[.int .i64 0, .int .i64 0, .int .i64 0] := by unfold BuildI; kernel_rfl
theorem Try_B67 : BuildI Try.prog 67 [(0, 1), (1, 1)] #[.int .i64 0, .int .i64 0] := by unfold BuildI; kernel_rfl
theorem Try_B112 : BuildI Try.prog 112 [(0, 1), (1, 1), (2, 1)] #[.slice none 0 0, .int .i64 0, .int .i64 0] := by unfold BuildI; kernel_rfl
theorem Try_C13 : CallOK Try.prog 13 := ⟨_, _, Try.func13, rfl, by kernel_rfl⟩
theorem Try_C14 : CallOK Try.prog 14 := ⟨_, _, Try.func14, rfl, by kernel_rfl⟩
theorem Try_C15 : CallOK Try.prog 15 := ⟨_, _, Try.func15, rfl, by kernel_rfl⟩
theorem Try_C16 : CallOK Try.prog 16 := ⟨_, _, Try.func16, rfl, by kernel_rfl⟩
theorem Try_C17 : CallOK Try.prog 17 := ⟨_, _, Try.func17, rfl, by kernel_rfl⟩
theorem Try_C18 : CallOK Try.prog 18 := ⟨_, _, Try.func18, rfl, by kernel_rfl⟩
theorem Try_C19 : CallOK Try.prog 19 := ⟨_, _, Try.func19, rfl, by kernel_rfl⟩
theorem Try_C20 : CallOK Try.prog 20 := ⟨_, _, Try.func20, rfl, by kernel_rfl⟩
theorem Try_C21 : CallOK Try.prog 21 := ⟨_, _, Try.func21, rfl, by kernel_rfl⟩
theorem Try_C22 : CallOK Try.prog 22 := ⟨_, _, Try.func22, rfl, by kernel_rfl⟩
theorem Try_C23 : CallOK Try.prog 23 := ⟨_, _, Try.func23, rfl, by kernel_rfl⟩
theorem Try_C24 : CallOK Try.prog 24 := ⟨_, _, Try.func24, rfl, by kernel_rfl⟩
theorem Try_C25 : CallOK Try.prog 25 := ⟨_, _, Try.func25, rfl, by kernel_rfl⟩
theorem Try_C26 : CallOK Try.prog 26 := ⟨_, _, Try.func26, rfl, by kernel_rfl⟩
theorem Try_C27 : CallOK Try.prog 27 := ⟨_, _, Try.func27, rfl, by kernel_rfl⟩
theorem Try_C28 : CallOK Try.prog 28 := ⟨_, _, Try.func28, rfl, by kernel_rfl⟩
theorem Try_C30 : CallOK Try.prog 30 := ⟨_, _, Try.func30, rfl, by kernel_rfl⟩
theorem Try_C32 : CallOK Try.prog 32 := ⟨_, _, Try.func32, rfl, by kernel_rfl⟩
theorem Try_C33 : CallOK Try.prog 33 := ⟨_, _, Try.func33, rfl, by kernel_rfl⟩
theorem Try_C35 : CallOK Try.prog 35 := ⟨_, _, Try.func35, rfl, by kernel_rfl⟩
theorem Try_C38 : CallOK Try.prog 38 := ⟨_, _, Try.func38, rfl, by kernel_rfl⟩
theorem Try_C41 : CallOK Try.prog 41 := ⟨_, _, Try.func41, rfl, by kernel_rfl⟩
theorem Try_C53 : CallOK Try.prog 53 := ⟨_, _, Try.func53, rfl, by kernel_rfl⟩
theorem Try_C54 : CallOK Try.prog 54 := ⟨_, _, Try.func54, rfl, by kernel_rfl⟩
theorem Try_C55 : CallOK Try.prog 55 := ⟨_, _, Try.func55, rfl, by kernel_rfl⟩
theorem Try_C56 : CallOK Try.prog 56 := ⟨_, _, Try.func56, rfl, by kernel_rfl⟩
theorem Try_C57 : CallOK Try.prog 57 := ⟨_, _, Try.func57, rfl, by kernel_rfl⟩
theorem Try_C58 : CallOK Try.prog 58 := ⟨_, _, Try.func58, rfl, by kernel_rfl⟩
theorem Try_C59 : CallOK Try.prog 59 := ⟨_, _, Try.func59, rfl, by kernel_rfl⟩
theorem Try_C60 : CallOK Try.prog 60 := ⟨_, _, Try.func60, rfl, by kernel_rfl⟩
theorem Try_C61 : CallOK Try.prog 61 := ⟨_, _, Try.func61, rfl, by kernel_rfl⟩
theorem Try_C62 : CallOK Try.prog 62 := ⟨_, _, Try.func62, rfl, by kernel_rfl⟩
theorem Try_C63 : CallOK Try.prog 63 := ⟨_, _, Try.func63, rfl, by kernel_rfl⟩
theorem Try_C64 : CallOK Try.prog 64 := ⟨_, _, Try.func64, rfl, by kernel_rfl⟩
theorem Try_C65 : CallOK Try.prog 65 := ⟨_, _, Try.func65, rfl, by kernel_rfl⟩
theorem Try_C66 : CallOK Try.prog 66 := ⟨_, _, Try.func66, rfl, by kernel_rfl⟩
theorem Try_C67 : CallOK Try.prog 67 := ⟨_, _, Try.func67, rfl, by kernel_rfl⟩
theorem Try_C69 : CallOK Try.prog 69 := ⟨_, _, Try.func69, rfl, by kernel_rfl⟩
theorem Try_C70 : CallOK Try.prog 70 := ⟨_, _, Try.func70, rfl, by kernel_rfl⟩
theorem Try_C71 : CallOK Try.prog 71 := ⟨_, _, Try.func71, rfl, by kernel_rfl⟩
theorem Try_C72 : CallOK Try.prog 72 := ⟨_, _, Try.func72, rfl, by kernel_rfl⟩
theorem Try_C73 : CallOK Try.prog 73 := ⟨_, _, Try.func73, rfl, by kernel_rfl⟩
theorem Try_C74 : CallOK Try.prog 74 := ⟨_, _, Try.func74, rfl, by kernel_rfl⟩
theorem Try_C76 : CallOK Try.prog 76 := ⟨_, _, Try.func76, rfl, by kernel_rfl⟩
theorem Try_C78 : CallOK Try.prog 78 := ⟨_, _, Try.func78, rfl, by kernel_rfl⟩
theorem Try_C79 : CallOK Try.prog 79 := ⟨_, _, Try.func79, rfl, by kernel_rfl⟩
theorem Try_C80 : CallOK Try.prog 80 := ⟨_, _, Try.func80, rfl, by kernel_rfl⟩
theorem Try_C84 : CallOK Try.prog 84 := ⟨_, _, Try.func84, rfl, by kernel_rfl⟩
theorem Try_C85 : CallOK Try.prog 85 := ⟨_, _, Try.func85, rfl, by kernel_rfl⟩
theorem Try_C86 : CallOK Try.prog 86 := ⟨_, _, Try.func86, rfl, by kernel_rfl⟩
theorem Try_C88 : CallOK Try.prog 88 := ⟨_, _, Try.func88, rfl, by kernel_rfl⟩
theorem Try_C89 : CallOK Try.prog 89 := ⟨_, _, Try.func89, rfl, by kernel_rfl⟩
theorem Try_C91 : CallOK Try.prog 91 := ⟨_, _, Try.func91, rfl, by kernel_rfl⟩
theorem Try_C97 : CallOK Try.prog 97 := ⟨_, _, Try.func97, rfl, by kernel_rfl⟩
theorem Try_C98 : CallOK Try.prog 98 := ⟨_, _, Try.func98, rfl, by kernel_rfl⟩

theorem M.laws_big_ok (w0 : World) (a0 : List UInt8) {v1 : Value} (h2 : rdL (· < w0.heap.size) w0 v1 a0) {r : Bool} (hm : M.laws_big a0 = some r) :
    Calls Try.prog 13 #[v1] w0 fun e w' => e = .returned (.bool r) ∧ Fresh w0 w' [] := by
  unfold M.laws_big at hm
  refine calls_CW (args := [v1]) Try.func13 rfl rfl rfl ?_
  have hL := Hp.start w0
  refine CW.seq ?_
  refine CW.regionL ?_
  refine OW.cons (OP.val (v := (.bool false)) rfl (x_assign) ?_)
  refine OW.nil ?_
  refine CW.seq ?_
  refine CW.regionL ?_
  refine OW.cons (OP.val (v := v1) rfl (x_move) ?_)
  refine OW.cons (OP.val (v := (.int .i64 (a0.length : Int))) rfl (x_lenR Try.underlying22 rfl (hL.rdS 0 rfl h2)) ?_)
  refine OW.cons (OP.val (v := (.bool (decide (4096 < (a0.length : Int))))) rfl (x_gtr rfl rfl) ?_)
  refine OW.cons (OP.val (v := (.bool (decide (4096 < (a0.length : Int))))) rfl (x_assign) ?_)
  refine OW.nil ?_
  refine CW.ret ?_
  obtain rfl := Option.some.inj hm
  exact RR1 rfl rfl ⟨rfl, hL.fresh 0 rfl [] (by decide) (by decide) rfl⟩

theorem M.spec_l01From_ok (w0 : World) (a0 : List UInt8) {v1 : Value} (h2 : rdL (· < w0.heap.size) w0 v1 a0) {r : (Int × Int)} (hm : M.spec_l01From a0 = some r) :
    Calls Try.prog 53 #[v1] w0 fun e w' => ∃ rb : Nat, e = .returned (.pointer (some ⟨rb, 0, none⟩)) ∧ Fresh w0 w' [Ent.blk rb 112 #[v1, .int .i64 r.1, .int .i64 r.2]] := by
  unfold M.spec_l01From at hm
  refine calls_CW (args := [v1]) Try.func53 rfl rfl rfl ?_
  have hL := Hp.start w0
  refine CW.seq ?_
  refine CW.regionL ?_
  refine OW.cons (OP.val (v := (.pointer none)) rfl (x_assign) ?_)
  refine OW.nil ?_
  refine CW.seq ?_
  refine CW.regionL ?_
  refine OW.cons (OP.val (v := v1) rfl (x_move) ?_)
  refine OW.cons (OP.val (v := (.agg #[v1, (.int .i64 0), (.int .i64 61657)])) rfl (x_build Try_B112 (ps := [(0, v1), (2, (.int .i64 61657))]) ⟨⟨rfl, rfl⟩, ⟨rfl, rfl⟩, trivial⟩ (by simp [Instr.fill, cells_int, cells_bool, cells_string, cells_agg, cells_slice, cells_pointer, (rdL_cells (hL.rdS 0 rfl h2))])) ?_)
  refine OW.cons (S_box (cs := #[v1, (.int .i64 0), (.int .i64 61657)]) hL rfl rfl rfl ?_)
  intro wd3 b4 hL
  refine OW.cons (OP.val (v := (.pointer (some ⟨b4, 0, none⟩))) rfl (x_assign) ?_)
  refine OW.nil ?_
  refine CW.seq ?_
  refine CW.seq ?_
  refine CW.regionL ?_
  refine OW.cons (OP.val (v := (.int .i64 0)) rfl (x_assign) ?_)
  refine OW.nil ?_
  obtain ⟨o53, ho54, hm⟩ := bndE hm
  refine CW.loopB (fun (s_l1 : Int × Int) (F : Fr) (w : World) => F 0 = v1 ∧ F 3 = (.pointer (some ⟨b4, 0, none⟩)) ∧ F 4 = (.int .i64 s_l1.2) ∧ Hp w0 [Ent.blk b4 112 #[v1, (.int .i64 0), (.int .i64 s_l1.1)], Ent.snap w0 w0.heap.size] w) (fun o => outc o (fun x => some x) (fun s => M.spec_l01From_a1 s) = some r) ho54 hm ⟨rfl, rfl, rfl, hL⟩ ?_ ?_
  · intro s_l1 F55 wd56 hJ hm
    have hm : M.spec_l01From_a1 s_l1 = some r := hm
    unfold M.spec_l01From_a1 at hm
    obtain ⟨f57, f58, f59, hL⟩ := hJ
    refine CW.seq ?_
    refine CW.regionL ?_
    refine OW.cons (OP.val (v := (.pointer (some ⟨b4, 0, none⟩))) rfl (x_mv f58) ?_)
    refine OW.cons (OP.val (v := (.pointer (some ⟨b4, 0, none⟩))) rfl (x_assign) ?_)
    refine OW.nil ?_
    refine CW.ret ?_
    obtain rfl := Option.some.inj hm
    exact RR1 rfl rfl ⟨b4, rfl, hL.fresh 1 rfl [0] (by decide) (by decide) rfl⟩
  · intro s_l1 F60 wd61 t51 hJ hm hr52
    unfold M.spec_l01From_l1 at hm
    obtain ⟨f62, f63, f64, hL⟩ := hJ
    refine CW.seq ?_
    refine CW.seqJ (fun (s_j1 : Bool) (F : Fr) (w : World) => F 0 = v1 ∧ F 3 = (.pointer (some ⟨b4, 0, none⟩)) ∧ F 4 = (.int .i64 s_l1.2) ∧ F 15 = (.bool s_j1) ∧ Hp w0 [Ent.blk b4 112 #[v1, (.int .i64 0), (.int .i64 s_l1.1)], Ent.snap w0 w0.heap.size] w) (fun s_j1 => M.spec_l01From_j1 a0 s_l1 s_j1 = some t51) ?_ ?_
    · refine CW.regionL ?_
      refine OW.cons (OP.val (v := (.int .i64 s_l1.2)) rfl (x_mv f64) ?_)
      refine OW.cons (OP.val (v := v1) rfl (x_mv f62) ?_)
      refine OW.cons (OP.val (v := (.int .i64 (a0.length : Int))) rfl (x_lenR Try.underlying22 rfl (hL.rdS 1 rfl h2)) ?_)
      refine OW.cons (OP.val (v := (.bool (decide (s_l1.2 < (a0.length : Int))))) rfl (x_lss rfl rfl) ?_)
      refine OW.cons (OP.val (v := (.bool (decide (s_l1.2 < (a0.length : Int))))) rfl (x_move) ?_)
      refine ifB_elim hm (fun hb87 hm => ?_) (fun hb87 hm => ?_)
      · refine OW.cons (OP.yes' rfl rfl hb87 (OP.val (v := (.int .i64 s_l1.2)) rfl (x_mv f64) ?_))
        refine OW.cons (OP.yes' rfl rfl hb87 (OP.val (v := (.bool (decide (s_l1.2 < 64)))) rfl (x_lss rfl rfl) ?_))
        refine OW.cons (OP.val (v := (.bool (decide (s_l1.2 < 64)))) rfl (x_pickT' rfl hb87 rfl) ?_)
        refine OW.nil ?_
        exact ⟨decide (s_l1.2 < 64), hm, ⟨f62, f63, f64, rfl, hL⟩⟩
      · refine OW.cons (OP.no' rfl rfl hb87 rfl ?_)
        refine OW.cons (OP.no' rfl rfl hb87 rfl ?_)
        refine OW.cons (OP.val (v := (.bool false)) rfl (x_pickF' rfl hb87 rfl) ?_)
        refine OW.nil ?_
        exact ⟨false, hm, ⟨f62, f63, f64, rfl, hL⟩⟩
    · intro s_j1 F66 wd67 hJ hm
      unfold M.spec_l01From_j1 at hm
      obtain ⟨f68, f69, f70, f71, hL⟩ := hJ
      refine CW.condM (t := s_j1) f71 hm (fun hb72 hm => ?_) (fun hb72 hm => ?_)
      · refine CW.skip ?_
        refine CW.seq ?_
        refine CW.block ?_
        refine CW.drawH (fun w' => Hp w0 [Ent.snap w0 w0.heap.size] w') Try_mixed ?_
        have hL := hL.call (Mod.drew _)
        have hS := (hL.sel [1] (by decide) rfl)
        refine DH.take 0 rfl (by kernel_rfl) (by kernel_rfl) (by kernel_rfl) rfl rfl hS (YH.val (v := (.pointer (some ⟨b4, 0, none⟩))) (fun w' hS' => x_mv f69)) ?_
        have hS := (hL.sel [1] (by decide) rfl)
        refine DH.take 1 rfl (by kernel_rfl) (by kernel_rfl) (by kernel_rfl) rfl rfl hS (YH.val (v := (.pointer (some ⟨b4, 0, none⟩))) (fun w' hS' => x_mv f69)) ?_
        have hS := (hL.sel [1] (by decide) rfl)
        refine DH.take 2 rfl (by kernel_rfl) (by kernel_rfl) (by kernel_rfl) rfl rfl hS (YH.val (v := (.pointer (some ⟨b4, 0, none⟩))) (fun w' hS' => x_nilCheck rfl)) ?_
        have hS := (hL.sel [1] (by decide) rfl)
        refine DH.take 3 rfl (by kernel_rfl) (by kernel_rfl) (by kernel_rfl) rfl rfl hS (YH.val (v := (.pointer (some ⟨b4, 2, none⟩))) (fun w' hS' => x_fieldAddr (fsz := 1) 0 2 2 Try.underlying112 rfl Try_T2 rfl rfl rfl)) ?_
        have hS := (hL.sel [1] (by decide) rfl)
        refine DH.take 6 rfl (by kernel_rfl) (by kernel_rfl) (by kernel_rfl) rfl rfl hS (YH.val (v := v1) (fun w' hS' => x_mv f68)) ?_
        have hS := (hL.sel [1] (by decide) rfl)
        refine DH.take 7 rfl (by kernel_rfl) (by kernel_rfl) (by kernel_rfl) rfl rfl hS (YH.val (v := (.int .i64 s_l1.2)) (fun w' hS' => x_mv f70)) ?_
        have hS := (hL.sel [1] (by decide) rfl)
        obtain ⟨x80, ha81, hm⟩ := bndE hm
        obtain ⟨hz82, ha81⟩ := idxE ha81
        obtain ⟨b83, q84, hix85⟩ := rdL_ix (hL.rdS 1 rfl h2) hz82 ha81
        refine DH.take 8 rfl (by kernel_rfl) (by kernel_rfl) (by kernel_rfl) rfl rfl hS (YH.val (v := (.pointer (some ⟨b83, q84, none⟩))) (fun w' hS' => x_ix Try.underlying22 Try_T5 rfl rfl hix85)) ?_
        have hS := (hL.sel [1] (by decide) rfl)
        refine DH.take 9 rfl (by kernel_rfl) (by kernel_rfl) (by kernel_rfl) rfl rfl hS (YH.val (v := (.int .u8 (x80.toNat : Int))) (fun w' hS' => x_load1 Try.underlying5 rfl rfl (rdF_cells (hS'.rdS 0 rfl h2) hix85 ha81 0 _ rfl))) ?_
        have hS := (hL.sel [1] (by decide) rfl)
        refine DH.take 10 rfl (by kernel_rfl) (by kernel_rfl) (by kernel_rfl) rfl rfl hS (YH.val (v := (.int .i64 (IntKind.i64.wrap (x80.toNat : Int)))) (fun w' hS' => x_conv Try.underlying5 Try.underlying2 rfl)) ?_
        refine DH.only 4 rfl (by kernel_rfl) (OP.val (v := (.int .i64 s_l1.1)) rfl (x_load1 Try.underlying2 rfl rfl (hL.cellB 0 rfl rfl)) ?_)
        refine ⟨(hL.sel [1] (by decide) rfl), ?_⟩
        have hS := (hL.sel [1] (by decide) rfl)
        refine DH.take 5 rfl (by kernel_rfl) (by kernel_rfl) (by kernel_rfl) rfl rfl hS (YH.val (v := (.int .i64 (w64 (s_l1.1 * 53)))) (fun w' hS' => x_mul rfl rfl)) ?_
        have hS := (hL.sel [1] (by decide) rfl)
        refine DH.take 11 rfl (by kernel_rfl) (by kernel_rfl) (by kernel_rfl) rfl rfl hS (YH.val (v := (.int .i64 (w64 ((w64 (s_l1.1 * 53)) + (IntKind.i64.wrap (x80.toNat : Int)))))) (fun w' hS' => x_add rfl rfl)) ?_
        have hS := (hL.sel [1] (by decide) rfl)
        refine DH.take 12 rfl (by kernel_rfl) (by kernel_rfl) (by kernel_rfl) rfl rfl hS (YH.val (v := (.int .i64 ((w64 ((w64 (s_l1.1 * 53)) + (IntKind.i64.wrap (x80.toNat : Int)))).tmod 2147483647))) (fun w' hS' => x_rem rfl rfl (by decide))) ?_
        have hS := (hL.sel [1] (by decide) rfl)
        refine DH.take 13 rfl (by kernel_rfl) (by kernel_rfl) (by kernel_rfl) rfl rfl hS (YH.val (v := (.pointer (some ⟨b4, 0, none⟩))) (fun w' hS' => x_nilCheck rfl)) ?_
        have hS := (hL.sel [1] (by decide) rfl)
        refine DH.take 14 rfl (by kernel_rfl) (by kernel_rfl) (by kernel_rfl) rfl rfl hS (YH.val (v := (.pointer (some ⟨b4, 2, none⟩))) (fun w' hS' => x_fieldAddr (fsz := 1) 0 2 2 Try.underlying112 rfl Try_T2 rfl rfl rfl)) ?_
        refine DH.only 15 rfl (by kernel_rfl) (S_store (cs' := #[v1, (.int .i64 0), (.int .i64 ((w64 ((w64 (s_l1.1 * 53)) + (IntKind.i64.wrap (x80.toNat : Int)))).tmod 2147483647))]) hL 0 rfl Try_T2 rfl rfl rfl rfl rfl ?_)
        intro wd86 hL
        refine ⟨(hL.sel [1] (by decide) rfl), ?_⟩
        refine DH.done (by kernel_rfl) ?_
        refine CW.regionL ?_
        refine OW.cons (OP.val (v := (.int .i64 s_l1.2)) rfl (x_mv f70) ?_)
        refine OW.cons (OP.val (v := (.int .i64 (w64 (s_l1.2 + 1)))) rfl (x_add rfl rfl) ?_)
        refine OW.cons (OP.val (v := (.int .i64 (w64 (s_l1.2 + 1)))) rfl (x_assign) ?_)
        refine OW.nil ?_
        obtain rfl := Option.some.inj hm
        exact ⟨_, rfl, ⟨f68, f69, rfl, hL⟩⟩
      · refine CW.exit ?_
        refine XJ.hit ?_
        obtain rfl := Option.some.inj hm
        exact ⟨_, rfl, ⟨f68, f69, f70, hL⟩⟩

theorem M.spec_l01Next_ok (w0 : World) {b1 : Nat} {v2 : Value} (a0 : Src) (h3 : rdL (fun k => k < w0.heap.size ∧ ¬ (Ent.blk b1 112 #[v2, .int .i64 a0.at_, .int .i64 a0.seed]).S k) w0 v2 a0.code) (he4 : (Ent.blk b1 112 #[v2, .int .i64 a0.at_, .int .i64 a0.seed]).H w0) (a1 : Int) {r : (Int) × (Int × Int)} (hm : M.spec_l01Next a0 a1 = some r) :
    Calls Try.prog 85 #[(.pointer (some ⟨b1, 0, none⟩)), (.int .i64 a1)] w0 fun e w' => e = .returned (.int .i64 r.1) ∧ Mut w0 w' (Ent.blk b1 112 #[v2, .int .i64 a0.at_, .int .i64 a0.seed]).S [Ent.blk b1 112 #[v2, .int .i64 r.2.1, .int .i64 r.2.2]] := by
  unfold M.spec_l01Next at hm
  refine calls_CW (args := [(.pointer (some ⟨b1, 0, none⟩)), (.int .i64 a1)]) Try.func85 rfl rfl rfl ?_
  have hL := Hp.startIO he4
  refine CW.seq ?_
  refine CW.regionL ?_
  refine OW.cons (OP.val (v := (.int .i64 0)) rfl (x_assign) ?_)
  refine OW.nil ?_
  refine CW.seq ?_
  refine CW.seq ?_
  refine CW.regionL ?_
  refine OW.cons (OP.val (v := (.int .i64 a1)) rfl (x_move) ?_)
  refine OW.cons (OP.val (v := (.bool (decide (a1 ≤ 1)))) rfl (x_leq rfl rfl) ?_)
  refine OW.nil ?_
  refine CW.condM (t := decide (a1 ≤ 1)) rfl hm (fun hb5 hm => ?_) (fun hb5 hm => ?_)
  · refine CW.seq ?_
    refine CW.regionL ?_
    refine OW.cons (OP.val (v := (.int .i64 0)) rfl (x_assign) ?_)
    refine OW.nil ?_
    refine CW.ret ?_
    obtain rfl := Option.some.inj hm
    exact RR1 rfl rfl ⟨rfl, hL.mutOut 1 rfl [0] (by decide) (by decide) rfl⟩
  · refine CW.skip ?_
    refine CW.seq ?_
    refine CW.regionL ?_
    refine OW.cons (OP.val (v := (.pointer (some ⟨b1, 0, none⟩))) rfl (x_move) ?_)
    refine OW.cons (OP.val (v := (.pointer (some ⟨b1, 0, none⟩))) rfl (x_move) ?_)
    refine OW.cons (OP.val (v := (.pointer (some ⟨b1, 0, none⟩))) rfl (x_nilCheck rfl) ?_)
    refine OW.cons (OP.val (v := (.pointer (some ⟨b1, 2, none⟩))) rfl (x_fieldAddr (fsz := 1) 0 2 2 Try.underlying112 rfl Try_T2 rfl rfl rfl) ?_)
    refine OW.cons (OP.val (v := (.int .i64 a0.seed)) rfl (x_load1 Try.underlying2 rfl rfl (hL.cellB 0 rfl rfl)) ?_)
    refine OW.cons (OP.val (v := (.int .i64 (w64 (a0.seed * 48271)))) rfl (x_mul rfl rfl) ?_)
    refine OW.cons (OP.val (v := (.int .i64 (w64 ((w64 (a0.seed * 48271)) + 23)))) rfl (x_add rfl rfl) ?_)
    refine OW.cons (OP.val (v := (.int .i64 ((w64 ((w64 (a0.seed * 48271)) + 23)).tmod 2147483647))) rfl (x_rem rfl rfl (by decide)) ?_)
    refine OW.cons (OP.val (v := (.pointer (some ⟨b1, 0, none⟩))) rfl (x_nilCheck rfl) ?_)
    refine OW.cons (OP.val (v := (.pointer (some ⟨b1, 2, none⟩))) rfl (x_fieldAddr (fsz := 1) 0 2 2 Try.underlying112 rfl Try_T2 rfl rfl rfl) ?_)
    refine OW.cons (S_store (cs' := #[v2, (.int .i64 a0.at_), (.int .i64 ((w64 ((w64 (a0.seed * 48271)) + 23)).tmod 2147483647))]) hL 0 rfl Try_T2 rfl rfl rfl rfl rfl ?_)
    intro wd6 hL
    refine OW.nil ?_
    refine CW.seq ?_
    refine CW.regionL ?_
    refine OW.cons (OP.val (v := (.pointer (some ⟨b1, 0, none⟩))) rfl (x_move) ?_)
    refine OW.cons (OP.val (v := (.pointer (some ⟨b1, 0, none⟩))) rfl (x_nilCheck rfl) ?_)
    refine OW.cons (OP.val (v := (.pointer (some ⟨b1, 2, none⟩))) rfl (x_fieldAddr (fsz := 1) 0 2 2 Try.underlying112 rfl Try_T2 rfl rfl rfl) ?_)
    refine OW.cons (OP.val (v := (.int .i64 ((w64 ((w64 (a0.seed * 48271)) + 23)).tmod 2147483647))) rfl (x_load1 Try.underlying2 rfl rfl (hL.cellB 0 rfl rfl)) ?_)
    refine OW.cons (OP.val (v := (.int .i64 (w64 (((w64 ((w64 (a0.seed * 48271)) + 23)).tmod 2147483647).tdiv 17)))) rfl (x_quo rfl rfl (by decide)) ?_)
    refine OW.cons (OP.val (v := (.int .i64 (w64 (((w64 ((w64 (a0.seed * 48271)) + 23)).tmod 2147483647).tdiv 17)))) rfl (x_assign) ?_)
    refine OW.nil ?_
    refine CW.seqJ (fun (s_j1 : Int × Int) (F : Fr) (w : World) => F 1 = (.int .i64 a1) ∧ F 5 = (.int .i64 s_j1.2) ∧ Hp w0 [Ent.blk b1 112 #[v2, (.int .i64 s_j1.1), (.int .i64 ((w64 ((w64 (a0.seed * 48271)) + 23)).tmod 2147483647))], Ent.frz w0 (Ent.blk b1 112 #[v2, .int .i64 a0.at_, .int .i64 a0.seed]).S] w) (fun s_j1 => M.spec_l01Next_j1 a0 a1 s_j1 = some r) ?_ ?_
    · refine CW.seq ?_
      refine CW.draw Try_mixed ?_
      have hL := hL.call (Mod.drew _)
      refine DW.pre (fuel := 0) (fin := (((((((((((Array.replicate 10 false).setIfInBounds 0 true).setIfInBounds 1 true).setIfInBounds 2 true).setIfInBounds 3 true).setIfInBounds 4 true).setIfInBounds 5 true).setIfInBounds 6 true).setIfInBounds 7 true).setIfInBounds 8 true).setIfInBounds 9 true)) (C := fun w' => Mod None_ _ w') [0, 1, 2, 3, 4, 5, 6, 7, 8, 9] (Mod.refl _ _) (by kernel_rfl) (by kernel_rfl) ?_
      refine QW.cons rfl (QP.val (v := (.pointer (some ⟨b1, 0, none⟩))) rfl (fun w' hm' => x_move) ?_)
      refine QW.cons rfl (QP.val (v := (.pointer (some ⟨b1, 0, none⟩))) rfl (fun w' hm' => x_nilCheck rfl) ?_)
      refine QW.cons rfl (QP.val (v := (.pointer (some ⟨b1, 1, none⟩))) rfl (fun w' hm' => x_fieldAddr (fsz := 1) 0 1 1 Try.underlying112 rfl Try_T3 rfl rfl rfl) ?_)
      refine QW.cons rfl (QP.val (v := (.int .i64 a0.at_)) rfl (fun w' hm' => x_load1 Try.underlying3 rfl rfl ((hL.call hm').cellB 0 rfl rfl)) ?_)
      refine QW.cons rfl (QP.val (v := (.pointer (some ⟨b1, 0, none⟩))) rfl (fun w' hm' => x_move) ?_)
      refine QW.cons rfl (QP.val (v := (.pointer (some ⟨b1, 0, none⟩))) rfl (fun w' hm' => x_nilCheck rfl) ?_)
      refine QW.cons rfl (QP.val (v := (.pointer (some ⟨b1, 0, none⟩))) rfl (fun w' hm' => x_fieldAddr (fsz := 1) 0 0 0 Try.underlying112 rfl Try_T22 rfl rfl rfl) ?_)
      refine QW.cons rfl (QP.val (v := v2) rfl (fun w' hm' => x_load1 Try.underlying22 rfl rfl ((hL.call hm').cellB 0 rfl rfl)) ?_)
      refine QW.cons rfl (QP.val (v := (.int .i64 (a0.code.length : Int))) rfl (fun w' hm' => x_lenR Try.underlying22 rfl ((hL.call hm').rdZ 1 rfl h3)) ?_)
      refine QW.cons rfl (QP.val (v := (.bool (decide (a0.at_ < (a0.code.length : Int))))) rfl (fun w' hm' => x_lss rfl rfl) ?_)
      refine QW.nil ?_
      intro wd38 hmod
      have hL := hL.call hmod
      refine DW.done (by kernel_rfl) ?_
      refine CW.condM (t := decide (a0.at_ < (a0.code.length : Int))) rfl hm (fun hb39 hm => ?_) (fun hb39 hm => ?_)
      · refine CW.seq ?_
        refine CW.draw Try_mixed ?_
        have hL := hL.call (Mod.drew _)
        refine DW.pre (fuel := 0) (fin := (((((((((((((((Array.replicate 14 false).setIfInBounds 0 true).setIfInBounds 1 true).setIfInBounds 2 true).setIfInBounds 3 true).setIfInBounds 4 true).setIfInBounds 5 true).setIfInBounds 6 true).setIfInBounds 7 true).setIfInBounds 8 true).setIfInBounds 9 true).setIfInBounds 10 true).setIfInBounds 11 true).setIfInBounds 12 true).setIfInBounds 13 true)) (C := fun w' => Mod None_ _ w') [0, 1, 2, 3, 4, 5, 6, 7, 8, 9, 10, 11, 12, 13] (Mod.refl _ _) (by kernel_rfl) (by kernel_rfl) ?_
        refine QW.cons rfl (QP.val (v := (.int .i64 (w64 (((w64 ((w64 (a0.seed * 48271)) + 23)).tmod 2147483647).tdiv 17)))) rfl (fun w' hm' => x_move) ?_)
        refine QW.cons rfl (QP.val (v := (.pointer (some ⟨b1, 0, none⟩))) rfl (fun w' hm' => x_move) ?_)
        refine QW.cons rfl (QP.val (v := (.pointer (some ⟨b1, 0, none⟩))) rfl (fun w' hm' => x_nilCheck rfl) ?_)
        refine QW.cons rfl (QP.val (v := (.pointer (some ⟨b1, 0, none⟩))) rfl (fun w' hm' => x_fieldAddr (fsz := 1) 0 0 0 Try.underlying112 rfl Try_T22 rfl rfl rfl) ?_)
        refine QW.cons rfl (QP.val (v := v2) rfl (fun w' hm' => x_load1 Try.underlying22 rfl rfl ((hL.call hm').cellB 0 rfl rfl)) ?_)
        refine QW.cons rfl (QP.val (v := (.pointer (some ⟨b1, 0, none⟩))) rfl (fun w' hm' => x_move) ?_)
        refine QW.cons rfl (QP.val (v := (.pointer (some ⟨b1, 0, none⟩))) rfl (fun w' hm' => x_nilCheck rfl) ?_)
        refine QW.cons rfl (QP.val (v := (.pointer (some ⟨b1, 1, none⟩))) rfl (fun w' hm' => x_fieldAddr (fsz := 1) 0 1 1 Try.underlying112 rfl Try_T3 rfl rfl rfl) ?_)
        refine QW.cons rfl (QP.val (v := (.int .i64 a0.at_)) rfl (fun w' hm' => x_load1 Try.underlying3 rfl rfl ((hL.call hm').cellB 0 rfl rfl)) ?_)
        obtain ⟨x40, ha41, hm⟩ := bndE hm
        obtain ⟨hz42, ha41⟩ := idxE ha41
        obtain ⟨b43, q44, hix45⟩ := rdL_ix (hL.rdZ 1 rfl h3) hz42 ha41
        refine QW.cons rfl (QP.val (v := (.pointer (some ⟨b43, q44, none⟩))) rfl (fun w' hm' => x_ix Try.underlying22 Try_T5 rfl rfl hix45) ?_)
        refine QW.cons rfl (QP.val (v := (.int .u8 (x40.toNat : Int))) rfl (fun w' hm' => x_load1 Try.underlying5 rfl rfl (rdF_cells ((hL.call hm').rdZ 1 rfl h3) hix45 ha41 0 _ rfl)) ?_)
        refine QW.cons rfl (QP.val (v := (.int .i64 (IntKind.i64.wrap (x40.toNat : Int)))) rfl (fun w' hm' => x_conv Try.underlying5 Try.underlying2 rfl) ?_)
        refine QW.cons rfl (QP.val (v := (.int .i64 (w64 ((w64 (((w64 ((w64 (a0.seed * 48271)) + 23)).tmod 2147483647).tdiv 17)) + (IntKind.i64.wrap (x40.toNat : Int)))))) rfl (fun w' hm' => x_add rfl rfl) ?_)
        refine QW.cons rfl (QP.val (v := (.int .i64 (w64 ((w64 (((w64 ((w64 (a0.seed * 48271)) + 23)).tmod 2147483647).tdiv 17)) + (IntKind.i64.wrap (x40.toNat : Int)))))) rfl (fun w' hm' => x_assign) ?_)
        refine QW.nil ?_
        intro wd46 hmod
        have hL := hL.call hmod
        refine DW.done (by kernel_rfl) ?_
        refine CW.seq ?_
        refine CW.regionL ?_
        refine OW.cons (OP.val (v := (.pointer (some ⟨b1, 0, none⟩))) rfl (x_move) ?_)
        refine OW.cons (OP.val (v := (.pointer (some ⟨b1, 0, none⟩))) rfl (x_nilCheck rfl) ?_)
        refine OW.cons (OP.val (v := (.pointer (some ⟨b1, 1, none⟩))) rfl (x_fieldAddr (fsz := 1) 0 1 1 Try.underlying112 rfl Try_T3 rfl rfl rfl) ?_)
        refine OW.cons (OP.val (v := (.int .i64 a0.at_)) rfl (x_load1 Try.underlying3 rfl rfl (hL.cellB 0 rfl rfl)) ?_)
        refine OW.cons (OP.val (v := (.int .i64 (w64 (a0.at_ + 1)))) rfl (x_add rfl rfl) ?_)
        refine OW.cons (OP.val (v := (.pointer (some ⟨b1, 0, none⟩))) rfl (x_nilCheck rfl) ?_)
        refine OW.cons (OP.val (v := (.pointer (some ⟨b1, 1, none⟩))) rfl (x_fieldAddr (fsz := 1) 0 1 1 Try.underlying112 rfl Try_T3 rfl rfl rfl) ?_)
        refine OW.cons (S_store (cs' := #[v2, (.int .i64 (w64 (a0.at_ + 1))), (.int .i64 ((w64 ((w64 (a0.seed * 48271)) + 23)).tmod 2147483647))]) hL 0 rfl Try_T3 rfl rfl rfl rfl rfl ?_)
        intro wd47 hL
        refine OW.nil ?_
        refine CW.seqJ (fun (s_j2 : Bool) (F : Fr) (w : World) => F 0 = (.pointer (some ⟨b1, 0, none⟩)) ∧ F 1 = (.int .i64 a1) ∧ F 5 = (.int .i64 (w64 ((w64 (((w64 ((w64 (a0.seed * 48271)) + 23)).tmod 2147483647).tdiv 17)) + (IntKind.i64.wrap (x40.toNat : Int))))) ∧ F 62 = (.bool s_j2) ∧ Hp w0 [Ent.blk b1 112 #[v2, (.int .i64 (w64 (a0.at_ + 1))), (.int .i64 ((w64 ((w64 (a0.seed * 48271)) + 23)).tmod 2147483647))], Ent.frz w0 (Ent.blk b1 112 #[v2, .int .i64 a0.at_, .int .i64 a0.seed]).S] w) (fun s_j2 => M.spec_l01Next_j2 a0 a1 x40 s_j2 = some r) ?_ ?_
        · refine CW.regionL ?_
          refine OW.cons (OP.val (v := (.int .i64 a1)) rfl (x_move) ?_)
          refine OW.cons (OP.val (v := (.bool (decide (a1 ≤ 256)))) rfl (x_leq rfl rfl) ?_)
          refine OW.cons (OP.val (v := (.bool (decide (a1 ≤ 256)))) rfl (x_move) ?_)
          refine ifB_elim hm (fun hb63 hm => ?_) (fun hb63 hm => ?_)
          · refine OW.cons (OP.yes' rfl rfl hb63 (OP.val (v := (.pointer (some ⟨b1, 0, none⟩))) rfl (x_move) ?_))
            refine OW.cons (OP.yes' rfl rfl hb63 (OP.val (v := (.pointer (some ⟨b1, 0, none⟩))) rfl (x_nilCheck rfl) ?_))
            refine OW.cons (OP.yes' rfl rfl hb63 (OP.val (v := (.pointer (some ⟨b1, 1, none⟩))) rfl (x_fieldAddr (fsz := 1) 0 1 1 Try.underlying112 rfl Try_T3 rfl rfl rfl) ?_))
            refine OW.cons (OP.yes' rfl rfl hb63 (OP.val (v := (.int .i64 (w64 (a0.at_ + 1)))) rfl (x_load1 Try.underlying3 rfl rfl (hL.cellB 0 rfl rfl)) ?_))
            refine OW.cons (OP.yes' rfl rfl hb63 (OP.val (v := (.int .i64 ((w64 (a0.at_ + 1)).tmod 2))) rfl (x_rem rfl rfl (by decide)) ?_))
            refine OW.cons (OP.yes' rfl rfl hb63 (OP.val (v := (.bool (((w64 (a0.at_ + 1)).tmod 2) == 0))) rfl (x_eql rfl rfl) ?_))
            refine OW.cons (OP.val (v := (.bool (((w64 (a0.at_ + 1)).tmod 2) == 0))) rfl (x_pickT' rfl hb63 rfl) ?_)
            refine OW.nil ?_
            exact ⟨((w64 (a0.at_ + 1)).tmod 2) == 0, hm, ⟨rfl, rfl, rfl, rfl, hL⟩⟩
          · refine OW.cons (OP.no' rfl rfl hb63 rfl ?_)
            refine OW.cons (OP.no' rfl rfl hb63 rfl ?_)
            refine OW.cons (OP.no' rfl rfl hb63 rfl ?_)
            refine OW.cons (OP.no' rfl rfl hb63 rfl ?_)
            refine OW.cons (OP.no' rfl rfl hb63 rfl ?_)
            refine OW.cons (OP.no' rfl rfl hb63 rfl ?_)
            refine OW.cons (OP.val (v := (.bool false)) rfl (x_pickF' rfl hb63 rfl) ?_)
            refine OW.nil ?_
            exact ⟨false, hm, ⟨rfl, rfl, rfl, rfl, hL⟩⟩
        · intro s_j2 F49 wd50 hJ hm
          unfold M.spec_l01Next_j2 at hm
          obtain ⟨f51, f52, f53, f54, hL⟩ := hJ
          refine CW.condM (t := s_j2) f54 hm (fun hb55 hm => ?_) (fun hb55 hm => ?_)
          · refine CW.draw Try_mixed ?_
            have hL := hL.call (Mod.drew _)
            refine DW.pre (fuel := 0) (fin := ((((((((((((((Array.replicate 13 false).setIfInBounds 0 true).setIfInBounds 1 true).setIfInBounds 2 true).setIfInBounds 3 true).setIfInBounds 4 true).setIfInBounds 5 true).setIfInBounds 6 true).setIfInBounds 7 true).setIfInBounds 8 true).setIfInBounds 9 true).setIfInBounds 10 true).setIfInBounds 11 true).setIfInBounds 12 true)) (C := fun w' => Mod None_ _ w') [0, 1, 2, 3, 4, 5, 6, 7, 8, 9, 10, 11, 12] (Mod.refl _ _) (by kernel_rfl) (by kernel_rfl) ?_
            refine QW.cons rfl (QP.val (v := (.pointer (some ⟨b1, 0, none⟩))) rfl (fun w' hm' => x_mv f51) ?_)
            refine QW.cons rfl (QP.val (v := (.pointer (some ⟨b1, 0, none⟩))) rfl (fun w' hm' => x_nilCheck rfl) ?_)
            refine QW.cons rfl (QP.val (v := (.pointer (some ⟨b1, 0, none⟩))) rfl (fun w' hm' => x_fieldAddr (fsz := 1) 0 0 0 Try.underlying112 rfl Try_T22 rfl rfl rfl) ?_)
            refine QW.cons rfl (QP.val (v := v2) rfl (fun w' hm' => x_load1 Try.underlying22 rfl rfl ((hL.call hm').cellB 0 rfl rfl)) ?_)
            refine QW.cons rfl (QP.val (v := (.pointer (some ⟨b1, 0, none⟩))) rfl (fun w' hm' => x_mv f51) ?_)
            refine QW.cons rfl (QP.val (v := (.pointer (some ⟨b1, 0, none⟩))) rfl (fun w' hm' => x_nilCheck rfl) ?_)
            refine QW.cons rfl (QP.val (v := (.pointer (some ⟨b1, 1, none⟩))) rfl (fun w' hm' => x_fieldAddr (fsz := 1) 0 1 1 Try.underlying112 rfl Try_T3 rfl rfl rfl) ?_)
            refine QW.cons rfl (QP.val (v := (.int .i64 (w64 (a0.at_ + 1)))) rfl (fun w' hm' => x_load1 Try.underlying3 rfl rfl ((hL.call hm').cellB 0 rfl rfl)) ?_)
            refine QW.cons rfl (QP.val (v := (.int .i64 (w64 ((w64 (a0.at_ + 1)) - 1)))) rfl (fun w' hm' => x_sub rfl rfl) ?_)
            obtain ⟨x56, ha57, hm⟩ := bndE hm
            obtain ⟨hz58, ha57⟩ := idxE ha57
            obtain ⟨b59, q60, hix61⟩ := rdL_ix (hL.rdZ 1 rfl h3) hz58 ha57
            refine QW.cons rfl (QP.val (v := (.pointer (some ⟨b59, q60, none⟩))) rfl (fun w' hm' => x_ix Try.underlying22 Try_T5 rfl rfl hix61) ?_)
            refine QW.cons rfl (QP.val (v := (.int .u8 (x56.toNat : Int))) rfl (fun w' hm' => x_load1 Try.underlying5 rfl rfl (rdF_cells ((hL.call hm').rdZ 1 rfl h3) hix61 ha57 0 _ rfl)) ?_)
            refine QW.cons rfl (QP.val (v := (.int .i64 (IntKind.i64.wrap (x56.toNat : Int)))) rfl (fun w' hm' => x_conv Try.underlying5 Try.underlying2 rfl) ?_)
            refine QW.cons rfl (QP.val (v := (.int .i64 (IntKind.i64.wrap (x56.toNat : Int)))) rfl (fun w' hm' => x_assign) ?_)
            refine QW.nil ?_
            intro wd62 hmod
            have hL := hL.call hmod
            refine DW.done (by kernel_rfl) ?_
            exact ⟨(w64 (a0.at_ + 1), IntKind.i64.wrap (x56.toNat : Int)), hm, ⟨f52, rfl, hL⟩⟩
          · refine CW.skip ?_
            exact ⟨(w64 (a0.at_ + 1), w64 ((w64 (((w64 ((w64 (a0.seed * 48271)) + 23)).tmod 2147483647).tdiv 17)) + (IntKind.i64.wrap (x40.toNat : Int)))), hm, ⟨f52, f53, hL⟩⟩
      · refine CW.skip ?_
        exact ⟨(a0.at_, w64 (((w64 ((w64 (a0.seed * 48271)) + 23)).tmod 2147483647).tdiv 17)), hm, ⟨rfl, rfl, hL⟩⟩
    · intro s_j1 F33 wd34 hJ hm
      unfold M.spec_l01Next_j1 at hm
      obtain ⟨f35, f36, hL⟩ := hJ
      refine CW.seq ?_
      refine CW.regionL ?_
      refine OW.cons (OP.val (v := (.int .i64 s_j1.2)) rfl (x_mv f36) ?_)
      refine OW.cons (OP.val (v := (.int .i64 a1)) rfl (x_mv f35) ?_)
      obtain ⟨hc37, hm⟩ := chkE hm
      refine OW.cons (OP.val (v := (.int .i64 (s_j1.2.tmod a1))) rfl (x_rem rfl rfl hc37) ?_)
      refine OW.cons (OP.val (v := (.int .i64 (s_j1.2.tmod a1))) rfl (x_assign) ?_)
      refine OW.nil ?_
      refine CW.ret ?_
      obtain rfl := Option.some.inj hm
      exact RR1 rfl rfl ⟨rfl, hL.mutOut 1 rfl [0] (by decide) (by decide) rfl⟩

theorem M.spec_l25Draw_ok (w0 : World) {b1 : Nat} {v2 : Value} (a0 : Src) (h3 : rdL (fun k => k < w0.heap.size ∧ ¬ (Ent.blk b1 112 #[v2, .int .i64 a0.at_, .int .i64 a0.seed]).S k) w0 v2 a0.code) (he4 : (Ent.blk b1 112 #[v2, .int .i64 a0.at_, .int .i64 a0.seed]).H w0) {r : (ProgressRules) × (Int × Int)} (hm : M.spec_l25Draw a0 = some r) :
    Calls Try.prog 54 #[(.pointer (some ⟨b1, 0, none⟩))] w0 fun e w' => e = .returned (.agg #[(.int .i64 r.1.Gain), (.int .i64 r.1.Step), (.int .i64 r.1.Low), (.int .i64 r.1.High)]) ∧ Mut w0 w' (Ent.blk b1 112 #[v2, .int .i64 a0.at_, .int .i64 a0.seed]).S [Ent.blk b1 112 #[v2, .int .i64 r.2.1, .int .i64 r.2.2]] := by
  unfold M.spec_l25Draw at hm
  refine calls_CW (args := [(.pointer (some ⟨b1, 0, none⟩))]) Try.func54 rfl rfl rfl ?_
  have hL := Hp.startIO he4
  refine CW.seq ?_
  refine CW.regionL ?_
  refine OW.cons (S_alloc (cs := #[(.int .i64 0), (.int .i64 0), (.int .i64 0), (.int .i64 0)]) hL Try_T25 rfl rfl ?_)
  intro wd5 b6 hL
  refine OW.nil ?_
  refine CW.seq ?_
  refine CW.regionL ?_
  refine OW.cons (OP.val (v := (.pointer (some ⟨b1, 0, none⟩))) rfl (x_move) ?_)
  obtain ⟨x7, hx8, hm⟩ := bndE hm
  refine OW.cons (OP.call rfl (x_call (vs := [(.pointer (some ⟨b1, 0, none⟩)), (.int .i64 1001)]) Try_C85 ⟨rfl, rfl, trivial⟩) (M.spec_l01Next_ok _ (Src.mk a0.code a0.at_ a0.seed) (hL.exZ 2 1 (by decide) rfl rfl h3) (hL.get 1 rfl) 1001 hx8) ?_)
  rintro e9 wd10 ⟨rfl, hF11⟩
  refine ⟨_, rfl, ?_⟩
  have hL := hL.mut 1 rfl hF11
  simp only [List.cons_append, List.nil_append, List.set_cons_zero, List.set_cons_succ] at hL
  refine OW.cons (OP.val (v := (.pointer (some ⟨b1, 0, none⟩))) rfl (x_move) ?_)
  obtain ⟨x12, hx13, hm⟩ := bndE hm
  refine OW.cons (OP.call rfl (x_call (vs := [(.pointer (some ⟨b1, 0, none⟩)), (.int .i64 60)]) Try_C85 ⟨rfl, rfl, trivial⟩) (M.spec_l01Next_ok _ (Src.mk a0.code x7.2.1 x7.2.2) (hL.exZ 2 1 (by decide) rfl rfl h3) (hL.get 1 rfl) 60 hx13) ?_)
  rintro e14 wd15 ⟨rfl, hF16⟩
  refine ⟨_, rfl, ?_⟩
  have hL := hL.mut 1 rfl hF16
  simp only [List.cons_append, List.nil_append, List.set_cons_zero, List.set_cons_succ] at hL
  refine OW.cons (OP.val (v := (.pointer (some ⟨b1, 0, none⟩))) rfl (x_move) ?_)
  obtain ⟨x17, hx18, hm⟩ := bndE hm
  refine OW.cons (OP.call rfl (x_call (vs := [(.pointer (some ⟨b1, 0, none⟩)), (.int .i64 300)]) Try_C85 ⟨rfl, rfl, trivial⟩) (M.spec_l01Next_ok _ (Src.mk a0.code x12.2.1 x12.2.2) (hL.exZ 2 1 (by decide) rfl rfl h3) (hL.get 1 rfl) 300 hx18) ?_)
  rintro e19 wd20 ⟨rfl, hF21⟩
  refine ⟨_, rfl, ?_⟩
  have hL := hL.mut 1 rfl hF21
  simp only [List.cons_append, List.nil_append, List.set_cons_zero, List.set_cons_succ] at hL
  refine OW.cons (OP.val (v := (.int .i64 (w64 (600 + x17.1)))) rfl (x_add rfl rfl) ?_)
  refine OW.cons (OP.val (v := (.pointer (some ⟨b1, 0, none⟩))) rfl (x_move) ?_)
  obtain ⟨x22, hx23, hm⟩ := bndE hm
  refine OW.cons (OP.call rfl (x_call (vs := [(.pointer (some ⟨b1, 0, none⟩)), (.int .i64 500)]) Try_C85 ⟨rfl, rfl, trivial⟩) (M.spec_l01Next_ok _ (Src.mk a0.code x17.2.1 x17.2.2) (hL.exZ 2 1 (by decide) rfl rfl h3) (hL.get 1 rfl) 500 hx23) ?_)
  rintro e24 wd25 ⟨rfl, hF26⟩
  refine ⟨_, rfl, ?_⟩
  have hL := hL.mut 1 rfl hF26
  simp only [List.cons_append, List.nil_append, List.set_cons_zero, List.set_cons_succ] at hL
  refine OW.cons (OP.val (v := (.int .i64 (w64 (1000 + x22.1)))) rfl (x_add rfl rfl) ?_)
  refine OW.cons (OP.val (v := (.agg #[(.int .i64 x7.1), (.int .i64 x12.1), (.int .i64 (w64 (600 + x17.1))), (.int .i64 (w64 (1000 + x22.1)))])) rfl (x_build Try_B25 (ps := [(0, (.int .i64 x7.1)), (1, (.int .i64 x12.1)), (2, (.int .i64 (w64 (600 + x17.1)))), (3, (.int .i64 (w64 (1000 + x22.1))))]) ⟨⟨rfl, rfl⟩, ⟨rfl, rfl⟩, ⟨rfl, rfl⟩, ⟨rfl, rfl⟩, trivial⟩ (by simp [Instr.fill, cells_int, cells_bool, cells_string, cells_agg, cells_slice, cells_pointer])) ?_)
  refine OW.cons (S_alloc (cs := #[(.int .i64 0), (.int .i64 0), (.int .i64 0), (.int .i64 0)]) hL Try_T25 rfl rfl ?_)
  intro wd27 b28 hL
  refine OW.cons (S_storeN (l := [(.int .i64 x7.1), (.int .i64 x12.1), (.int .i64 (w64 (600 + x17.1))), (.int .i64 (w64 (1000 + x22.1)))]) (cs' := #[(.int .i64 x7.1), (.int .i64 x12.1), (.int .i64 (w64 (600 + x17.1))), (.int .i64 (w64 (1000 + x22.1)))]) hL 0 rfl Try_T25 rfl rfl (by simp [Value.oneCell']) rfl (by decide) rfl ?_)
  intro wd29 hL
  refine OW.nil ?_
  refine CW.seqJ (fun (s_j1 : Int × Int × Int × Int × Int × Int) (F : Fr) (w : World) => F 2 = (.pointer (some ⟨b6, 0, none⟩)) ∧ F 3 = (.pointer (some ⟨b28, 0, none⟩)) ∧ Hp w0 [Ent.blk b28 25 #[(.int .i64 s_j1.2.2.1), (.int .i64 s_j1.2.2.2.1), (.int .i64 s_j1.2.2.2.2.1), (.int .i64 s_j1.2.2.2.2.2)], Ent.blk b6 25 #[(.int .i64 0), (.int .i64 0), (.int .i64 0), (.int .i64 0)], Ent.blk b1 112 #[v2, (.int .i64 s_j1.1), (.int .i64 s_j1.2.1)], Ent.frz w0 (Ent.blk b1 112 #[v2, .int .i64 a0.at_, .int .i64 a0.seed]).S] w) (fun s_j1 => M.spec_l25Draw_j1 s_j1 = some r) ?_ ?_
  · refine CW.seq ?_
    refine CW.regionL ?_
    refine OW.cons (OP.val (v := (.pointer (some ⟨b1, 0, none⟩))) rfl (x_move) ?_)
    obtain ⟨x426, hx427, hm⟩ := bndE hm
    refine OW.cons (OP.call rfl (x_call (vs := [(.pointer (some ⟨b1, 0, none⟩)), (.int .i64 30)]) Try_C85 ⟨rfl, rfl, trivial⟩) (M.spec_l01Next_ok _ (Src.mk a0.code x22.2.1 x22.2.2) (hL.exZ 3 2 (by decide) rfl rfl h3) (hL.get 2 rfl) 30 hx427) ?_)
    rintro e428 wd429 ⟨rfl, hF430⟩
    refine ⟨_, rfl, ?_⟩
    have hL := hL.mut 2 rfl hF430
    simp only [List.cons_append, List.nil_append, List.set_cons_zero, List.set_cons_succ] at hL
    refine OW.nil ?_
    refine CW.blockJ (fun (s_j2 : Int × Int × Int × Int × Int × Int) (F : Fr) (w : World) => F 2 = (.pointer (some ⟨b6, 0, none⟩)) ∧ F 3 = (.pointer (some ⟨b28, 0, none⟩)) ∧ Hp w0 [Ent.blk b28 25 #[(.int .i64 s_j2.2.2.1), (.int .i64 s_j2.2.2.2.1), (.int .i64 s_j2.2.2.2.2.1), (.int .i64 s_j2.2.2.2.2.2)], Ent.blk b6 25 #[(.int .i64 0), (.int .i64 0), (.int .i64 0), (.int .i64 0)], Ent.blk b1 112 #[v2, (.int .i64 s_j2.1), (.int .i64 s_j2.2.1)], Ent.frz w0 (Ent.blk b1 112 #[v2, .int .i64 a0.at_, .int .i64 a0.seed]).S] w) (fun s_j2 => M.spec_l25Draw_j2 s_j2 = some r) ?_ ?_
    · refine CW.seq ?_
      refine CW.regionL ?_
      refine OW.cons (OP.val (v := (.bool (x426.1 == 0))) rfl (x_eql rfl rfl) ?_)
      refine OW.cons (OP.val (v := (.bool (x426.1 == 0))) rfl (x_assign) ?_)
      refine OW.nil ?_
      refine CW.condM (t := x426.1 == 0) rfl hm (fun hb626 hm => ?_) (fun hb626 hm => ?_)
      · refine CW.regionL ?_
        refine OW.cons (S_lit ([(-1), 1001] : List Int) hL Try.underlying34 Try_T2 rfl (by decide) (by first | (simp [Instr.fill, madeCells, Value.cells, ev, upd, Flat.enc, Flat.sz]; done) | rfl | kernel_rfl) rfl rfl ?_)
        intro wd627 v628 S629 hL
        refine OW.cons (OP.val (v := (.pointer (some ⟨b1, 0, none⟩))) rfl (x_move) ?_)
        obtain ⟨x630, hx631, hm⟩ := bndE hm
        refine OW.cons (OP.call rfl (x_call (vs := [(.pointer (some ⟨b1, 0, none⟩)), (.int .i64 2)]) Try_C85 ⟨rfl, rfl, trivial⟩) (M.spec_l01Next_ok _ (Src.mk a0.code x426.2.1 x426.2.2) (hL.exZ 4 3 (by decide) rfl rfl h3) (hL.get 3 rfl) 2 hx631) ?_)
        rintro e632 wd633 ⟨rfl, hF634⟩
        refine ⟨_, rfl, ?_⟩
        have hL := hL.mut 3 rfl hF634
        simp only [List.cons_append, List.nil_append, List.set_cons_zero, List.set_cons_succ] at hL
        obtain ⟨x635, ha636, hm⟩ := bndE hm
        obtain ⟨hz637, ha636⟩ := idxE ha636
        obtain ⟨b638, q639, hix640⟩ := rdL_ix (hL.rdO 0 rfl) hz637 ha636
        refine OW.cons (OP.val (v := (.pointer (some ⟨b638, q639, none⟩))) rfl (x_ix Try.underlying34 Try_T2 rfl rfl hix640) ?_)
        refine OW.cons (OP.val (v := (.int .i64 x635)) rfl (x_load1 Try.underlying2 rfl rfl (rdF_cells (hL.rdO 0 rfl) hix640 ha636 0 _ rfl)) ?_)
        refine OW.cons (OP.val (v := (.pointer (some ⟨b28, 0, none⟩))) rfl (x_fieldAddr (fsz := 1) 0 0 0 Try.underlying25 rfl Try_T2 rfl rfl rfl) ?_)
        refine OW.cons (S_store (cs' := #[(.int .i64 x635), (.int .i64 x12.1), (.int .i64 (w64 (600 + x17.1))), (.int .i64 (w64 (1000 + x22.1)))]) hL 1 rfl Try_T2 rfl rfl rfl rfl rfl ?_)
        intro wd641 hL
        refine OW.nil ?_
        have hL := hL.sel [1, 2, 3, 4] (by decide) rfl
        exact ⟨(x630.2.1, x630.2.2, x635, x12.1, w64 (600 + x17.1), w64 (1000 + x22.1)), hm, ⟨rfl, rfl, hL⟩⟩
      · refine CW.seq ?_
        refine CW.regionL ?_
        refine OW.cons (OP.val (v := (.bool (x426.1 == 1))) rfl (x_eql rfl rfl) ?_)
        refine OW.cons (OP.val (v := (.bool (x426.1 == 1))) rfl (x_assign) ?_)
        refine OW.nil ?_
        refine CW.condM (t := x426.1 == 1) rfl hm (fun hb642 hm => ?_) (fun hb642 hm => ?_)
        · refine CW.drawH (fun w' => Hp w0 [Ent.blk b6 25 #[(.int .i64 0), (.int .i64 0), (.int .i64 0), (.int .i64 0)], Ent.frz w0 (Ent.blk b1 112 #[v2, .int .i64 a0.at_, .int .i64 a0.seed]).S] w') Try_mixed ?_
          have hL := hL.call (Mod.drew _)
          have hS := (hL.sel [1, 3] (by decide) rfl)
          refine DH.take 0 rfl (by kernel_rfl) (by kernel_rfl) (by kernel_rfl) rfl rfl hS (YH.val (v := (.pointer (some ⟨b28, 3, none⟩))) (fun w' hS' => x_fieldAddr (fsz := 1) 0 3 3 Try.underlying25 rfl Try_T2 rfl rfl rfl)) ?_
          have hS := (hL.sel [1, 3] (by decide) rfl)
          refine DH.take 2 rfl (by kernel_rfl) (by kernel_rfl) (by kernel_rfl) rfl rfl hS (YH.val (v := (.pointer (some ⟨b28, 3, none⟩))) (fun w' hS' => x_fieldAddr (fsz := 1) 0 3 3 Try.underlying25 rfl Try_T2 rfl rfl rfl)) ?_
          have hS := (hL.sel [1, 3] (by decide) rfl)
          refine DH.take 6 rfl (by kernel_rfl) (by kernel_rfl) (by kernel_rfl) rfl rfl hS (YH.val (v := (.pointer (some ⟨b1, 0, none⟩))) (fun w' hS' => x_move)) ?_
          refine DH.all (rs := [1, 3, 7]) (by kernel_rfl) (by simp) ?_
          intro i658 hi659
          simp only [List.mem_cons, List.not_mem_nil, or_false] at hi659
          rcases hi659 with rfl | rfl | rfl
          · refine ⟨_, rfl, ?_⟩
            refine OP.val (v := (.int .i64 (w64 (1000 + x22.1)))) rfl (x_load1 Try.underlying2 rfl rfl (hL.cellB 0 rfl rfl)) ?_
            refine ⟨(hL.sel [1, 3] (by decide) rfl), ?_⟩
            refine DH.all (rs := [3, 7]) (by kernel_rfl) (by simp) ?_
            intro i660 hi661
            simp only [List.mem_cons, List.not_mem_nil, or_false] at hi661
            rcases hi661 with rfl | rfl
            · refine ⟨_, rfl, ?_⟩
              refine OP.val (v := (.int .i64 (w64 (1000 + x22.1)))) rfl (x_load1 Try.underlying2 rfl rfl (hL.cellB 0 rfl rfl)) ?_
              refine ⟨(hL.sel [1, 3] (by decide) rfl), ?_⟩
              have hS := (hL.sel [1, 3] (by decide) rfl)
              refine DH.take 4 rfl (by kernel_rfl) (by kernel_rfl) (by kernel_rfl) rfl rfl hS (YH.val (v := (.int .i64 (w64 ((w64 (1000 + x22.1)) + 1)))) (fun w' hS' => x_add rfl rfl)) ?_
              refine DH.all (rs := [5, 7]) (by kernel_rfl) (by simp) ?_
              intro i662 hi663
              simp only [List.mem_cons, List.not_mem_nil, or_false] at hi663
              rcases hi663 with rfl | rfl
              · refine ⟨_, rfl, ?_⟩
                refine S_lit ([0, w64 (1000 + x22.1), w64 ((w64 (1000 + x22.1)) + 1)] : List Int) hL Try.underlying34 Try_T2 rfl (by decide) (by first | (simp [Instr.fill, madeCells, Value.cells, ev, upd, Flat.enc, Flat.sz]; done) | rfl | kernel_rfl) rfl rfl ?_
                intro wd664 v665 S666 hL
                refine ⟨(hL.sel [2, 4] (by decide) rfl), ?_⟩
                obtain ⟨x667, hx668, hm⟩ := bndE hm
                refine DH.only 7 rfl (by kernel_rfl) (OP.call rfl (x_call (vs := [(.pointer (some ⟨b1, 0, none⟩)), (.int .i64 3)]) Try_C85 ⟨rfl, rfl, trivial⟩) (M.spec_l01Next_ok _ (Src.mk a0.code x426.2.1 x426.2.2) (hL.exZ 4 3 (by decide) rfl rfl h3) (hL.get 3 rfl) 3 hx668) ?_)
                rintro e669 wd670 ⟨rfl, hF671⟩
                refine ⟨_, rfl, ?_⟩
                have hL := hL.mut 3 rfl hF671
                simp only [List.cons_append, List.nil_append, List.set_cons_zero, List.set_cons_succ] at hL
                refine ⟨(hL.sel [2, 4] (by decide) rfl), ?_⟩
                have hS := (hL.sel [2, 4] (by decide) rfl)
                obtain ⟨x672, ha673, hm⟩ := bndE hm
                obtain ⟨hz674, ha673⟩ := idxE ha673
                obtain ⟨b675, q676, hix677⟩ := rdL_ix (hL.rdO 0 rfl) hz674 ha673
                refine DH.take 8 rfl (by kernel_rfl) (by kernel_rfl) (by kernel_rfl) rfl rfl hS (YH.val (v := (.pointer (some ⟨b675, q676, none⟩))) (fun w' hS' => x_ix Try.underlying34 Try_T2 rfl rfl hix677)) ?_
                refine DH.only 9 rfl (by kernel_rfl) (OP.val (v := (.int .i64 x672)) rfl (x_load1 Try.underlying2 rfl rfl (rdF_cells (hL.rdO 0 rfl) hix677 ha673 0 _ rfl)) ?_)
                refine ⟨(hL.sel [2, 4] (by decide) rfl), ?_⟩
                have hS := (hL.sel [2, 4] (by decide) rfl)
                refine DH.take 10 rfl (by kernel_rfl) (by kernel_rfl) (by kernel_rfl) rfl rfl hS (YH.val (v := (.pointer (some ⟨b28, 2, none⟩))) (fun w' hS' => x_fieldAddr (fsz := 1) 0 2 2 Try.underlying25 rfl Try_T2 rfl rfl rfl)) ?_
                refine DH.only 11 rfl (by kernel_rfl) (S_store (cs' := #[(.int .i64 x7.1), (.int .i64 x12.1), (.int .i64 x672), (.int .i64 (w64 (1000 + x22.1)))]) hL 1 rfl Try_T2 rfl rfl rfl rfl rfl ?_)
                intro wd678 hL
                refine ⟨(hL.sel [2, 4] (by decide) rfl), ?_⟩
                refine DH.done (by kernel_rfl) ?_
                have hL := hL.sel [1, 2, 3, 4] (by decide) rfl
                exact ⟨(x667.2.1, x667.2.2, x7.1, x12.1, x672, w64 (1000 + x22.1)), hm, ⟨rfl, rfl, hL⟩⟩
              · refine ⟨_, rfl, ?_⟩
                obtain ⟨x679, hx680, hm⟩ := bndE hm
                refine OP.call rfl (x_call (vs := [(.pointer (some ⟨b1, 0, none⟩)), (.int .i64 3)]) Try_C85 ⟨rfl, rfl, trivial⟩) (M.spec_l01Next_ok _ (Src.mk a0.code x426.2.1 x426.2.2) (hL.exZ 3 2 (by decide) rfl rfl h3) (hL.get 2 rfl) 3 hx680) ?_
                rintro e681 wd682 ⟨rfl, hF683⟩
                refine ⟨_, rfl, ?_⟩
                have hL := hL.mut 2 rfl hF683
                simp only [List.cons_append, List.nil_append, List.set_cons_zero, List.set_cons_succ] at hL
                refine ⟨(hL.sel [1, 3] (by decide) rfl), ?_⟩
                refine DH.only 5 rfl (by kernel_rfl) (S_lit ([0, w64 (1000 + x22.1), w64 ((w64 (1000 + x22.1)) + 1)] : List Int) hL Try.underlying34 Try_T2 rfl (by decide) (by first | (simp [Instr.fill, madeCells, Value.cells, ev, upd, Flat.enc, Flat.sz]; done) | rfl | kernel_rfl) rfl rfl ?_)
                intro wd684 v685 S686 hL
                refine ⟨(hL.sel [2, 4] (by decide) rfl), ?_⟩
                have hS := (hL.sel [2, 4] (by decide) rfl)
                obtain ⟨x687, ha688, hm⟩ := bndE hm
                obtain ⟨hz689, ha688⟩ := idxE ha688
                obtain ⟨b690, q691, hix692⟩ := rdL_ix (hL.rdO 0 rfl) hz689 ha688
                refine DH.take 8 rfl (by kernel_rfl) (by kernel_rfl) (by kernel_rfl) rfl rfl hS (YH.val (v := (.pointer (some ⟨b690, q691, none⟩))) (fun w' hS' => x_ix Try.underlying34 Try_T2 rfl rfl hix692)) ?_
                refine DH.only 9 rfl (by kernel_rfl) (OP.val (v := (.int .i64 x687)) rfl (x_load1 Try.underlying2 rfl rfl (rdF_cells (hL.rdO 0 rfl) hix692 ha688 0 _ rfl)) ?_)
                refine ⟨(hL.sel [2, 4] (by decide) rfl), ?_⟩
                have hS := (hL.sel [2, 4] (by decide) rfl)
                refine DH.take 10 rfl (by kernel_rfl) (by kernel_rfl) (by kernel_rfl) rfl rfl hS (YH.val (v := (.pointer (some ⟨b28, 2, none⟩))) (fun w' hS' => x_fieldAddr (fsz := 1) 0 2 2 Try.underlying25 rfl Try_T2 rfl rfl rfl)) ?_
                refine DH.only 11 rfl (by kernel_rfl) (S_store (cs' := #[(.int .i64 x7.1), (.int .i64 x12.1), (.int .i64 x687), (.int .i64 (w64 (1000 + x22.1)))]) hL 1 rfl Try_T2 rfl rfl rfl rfl rfl ?_)
                intro wd693 hL
                refine ⟨(hL.sel [2, 4] (by decide) rfl), ?_⟩
                refine DH.done (by kernel_rfl) ?_
                have hL := hL.sel [1, 2, 3, 4] (by decide) rfl
                exact ⟨(x679.2.1, x679.2.2, x7.1, x12.1, x687, w64 (1000 + x22.1)), hm, ⟨rfl, rfl, hL⟩⟩
            · refine ⟨_, rfl, ?_⟩
              obtain ⟨x694, hx695, hm⟩ := bndE hm
              refine OP.call rfl (x_call (vs := [(.pointer (some ⟨b1, 0, none⟩)), (.int .i64 3)]) Try_C85 ⟨rfl, rfl, trivial⟩) (M.spec_l01Next_ok _ (Src.mk a0.code x426.2.1 x426.2.2) (hL.exZ 3 2 (by decide) rfl rfl h3) (hL.get 2 rfl) 3 hx695) ?_
              rintro e696 wd697 ⟨rfl, hF698⟩
              refine ⟨_, rfl, ?_⟩
              have hL := hL.mut 2 rfl hF698
              simp only [List.cons_append, List.nil_append, List.set_cons_zero, List.set_cons_succ] at hL
              refine ⟨(hL.sel [1, 3] (by decide) rfl), ?_⟩
              refine DH.only 3 rfl (by kernel_rfl) (OP.val (v := (.int .i64 (w64 (1000 + x22.1)))) rfl (x_load1 Try.underlying2 rfl rfl (hL.cellB 0 rfl rfl)) ?_)
              refine ⟨(hL.sel [1, 3] (by decide) rfl), ?_⟩
              have hS := (hL.sel [1, 3] (by decide) rfl)
              refine DH.take 4 rfl (by kernel_rfl) (by kernel_rfl) (by kernel_rfl) rfl rfl hS (YH.val (v := (.int .i64 (w64 ((w64 (1000 + x22.1)) + 1)))) (fun w' hS' => x_add rfl rfl)) ?_
              refine DH.only 5 rfl (by kernel_rfl) (S_lit ([0, w64 (1000 + x22.1), w64 ((w64 (1000 + x22.1)) + 1)] : List Int) hL Try.underlying34 Try_T2 rfl (by decide) (by first | (simp [Instr.fill, madeCells, Value.cells, ev, upd, Flat.enc, Flat.sz]; done) | rfl | kernel_rfl) rfl rfl ?_)
              intro wd699 v700 S701 hL
              refine ⟨(hL.sel [2, 4] (by decide) rfl), ?_⟩
              have hS := (hL.sel [2, 4] (by decide) rfl)
              obtain ⟨x702, ha703, hm⟩ := bndE hm
              obtain ⟨hz704, ha703⟩ := idxE ha703
              obtain ⟨b705, q706, hix707⟩ := rdL_ix (hL.rdO 0 rfl) hz704 ha703
              refine DH.take 8 rfl (by kernel_rfl) (by kernel_rfl) (by kernel_rfl) rfl rfl hS (YH.val (v := (.pointer (some ⟨b705, q706, none⟩))) (fun w' hS' => x_ix Try.underlying34 Try_T2 rfl rfl hix707)) ?_
              refine DH.only 9 rfl (by kernel_rfl) (OP.val (v := (.int .i64 x702)) rfl (x_load1 Try.underlying2 rfl rfl (rdF_cells (hL.rdO 0 rfl) hix707 ha703 0 _ rfl)) ?_)
              refine ⟨(hL.sel [2, 4] (by decide) rfl), ?_⟩
              have hS := (hL.sel [2, 4] (by decide) rfl)
              refine DH.take 10 rfl (by kernel_rfl) (by kernel_rfl) (by kernel_rfl) rfl rfl hS (YH.val (v := (.pointer (some ⟨b28, 2, none⟩))) (fun w' hS' => x_fieldAddr (fsz := 1) 0 2 2 Try.underlying25 rfl Try_T2 rfl rfl rfl)) ?_
              refine DH.only 11 rfl (by kernel_rfl) (S_store (cs' := #[(.int .i64 x7.1), (.int .i64 x12.1), (.int .i64 x702), (.int .i64 (w64 (1000 + x22.1)))]) hL 1 rfl Try_T2 rfl rfl rfl rfl rfl ?_)
              intro wd708 hL
              refine ⟨(hL.sel [2, 4] (by decide) rfl), ?_⟩
              refine DH.done (by kernel_rfl) ?_
              have hL := hL.sel [1, 2, 3, 4] (by decide) rfl
              exact ⟨(x694.2.1, x694.2.2, x7.1, x12.1, x702, w64 (1000 + x22.1)), hm, ⟨rfl, rfl, hL⟩⟩
          · refine ⟨_, rfl, ?_⟩
            refine OP.val (v := (.int .i64 (w64 (1000 + x22.1)))) rfl (x_load1 Try.underlying2 rfl rfl (hL.cellB 0 rfl rfl)) ?_
            refine ⟨(hL.sel [1, 3] (by decide) rfl), ?_⟩
            have hS := (hL.sel [1, 3] (by decide) rfl)
            refine DH.take 4 rfl (by kernel_rfl) (by kernel_rfl) (by kernel_rfl) rfl rfl hS (YH.val (v := (.int .i64 (w64 ((w64 (1000 + x22.1)) + 1)))) (fun w' hS' => x_add rfl rfl)) ?_
            refine DH.all (rs := [1, 7]) (by kernel_rfl) (by simp) ?_
            intro i709 hi710
            simp only [List.mem_cons, List.not_mem_nil, or_false] at hi710
            rcases hi710 with rfl | rfl
            · refine ⟨_, rfl, ?_⟩
              refine OP.val (v := (.int .i64 (w64 (1000 + x22.1)))) rfl (x_load1 Try.underlying2 rfl rfl (hL.cellB 0 rfl rfl)) ?_
              refine ⟨(hL.sel [1, 3] (by decide) rfl), ?_⟩
              refine DH.all (rs := [5, 7]) (by kernel_rfl) (by simp) ?_
              intro i711 hi712
              simp only [List.mem_cons, List.not_mem_nil, or_false] at hi712
              rcases hi712 with rfl | rfl
              · refine ⟨_, rfl, ?_⟩
                refine S_lit ([0, w64 (1000 + x22.1), w64 ((w64 (1000 + x22.1)) + 1)] : List Int) hL Try.underlying34 Try_T2 rfl (by decide) (by first | (simp [Instr.fill, madeCells, Value.cells, ev, upd, Flat.enc, Flat.sz]; done) | rfl | kernel_rfl) rfl rfl ?_
                intro wd713 v714 S715 hL
                refine ⟨(hL.sel [2, 4] (by decide) rfl), ?_⟩
                obtain ⟨x716, hx717, hm⟩ := bndE hm
                refine DH.only 7 rfl (by kernel_rfl) (OP.call rfl (x_call (vs := [(.pointer (some ⟨b1, 0, none⟩)), (.int .i64 3)]) Try_C85 ⟨rfl, rfl, trivial⟩) (M.spec_l01Next_ok _ (Src.mk a0.code x426.2.1 x426.2.2) (hL.exZ 4 3 (by decide) rfl rfl h3) (hL.get 3 rfl) 3 hx717) ?_)
                rintro e718 wd719 ⟨rfl, hF720⟩
                refine ⟨_, rfl, ?_⟩
                have hL := hL.mut 3 rfl hF720
                simp only [List.cons_append, List.nil_append, List.set_cons_zero, List.set_cons_succ] at hL
                refine ⟨(hL.sel [2, 4] (by decide) rfl), ?_⟩
                have hS := (hL.sel [2, 4] (by decide) rfl)
                obtain ⟨x721, ha722, hm⟩ := bndE hm
                obtain ⟨hz723, ha722⟩ := idxE ha722
                obtain ⟨b724, q725, hix726⟩ := rdL_ix (hL.rdO 0 rfl) hz723 ha722
                refine DH.take 8 rfl (by kernel_rfl) (by kernel_rfl) (by kernel_rfl) rfl rfl hS (YH.val (v := (.pointer (some ⟨b724, q725, none⟩))) (fun w' hS' => x_ix Try.underlying34 Try_T2 rfl rfl hix726)) ?_
                refine DH.only 9 rfl (by kernel_rfl) (OP.val (v := (.int .i64 x721)) rfl (x_load1 Try.underlying2 rfl rfl (rdF_cells (hL.rdO 0 rfl) hix726 ha722 0 _ rfl)) ?_)
                refine ⟨(hL.sel [2, 4] (by decide) rfl), ?_⟩
                have hS := (hL.sel [2, 4] (by decide) rfl)
                refine DH.take 10 rfl (by kernel_rfl) (by kernel_rfl) (by kernel_rfl) rfl rfl hS (YH.val (v := (.pointer (some ⟨b28, 2, none⟩))) (fun w' hS' => x_fieldAddr (fsz := 1) 0 2 2 Try.underlying25 rfl Try_T2 rfl rfl rfl)) ?_
                refine DH.only 11 rfl (by kernel_rfl) (S_store (cs' := #[(.int .i64 x7.1), (.int .i64 x12.1), (.int .i64 x721), (.int .i64 (w64 (1000 + x22.1)))]) hL 1 rfl Try_T2 rfl rfl rfl rfl rfl ?_)
                intro wd727 hL
                refine ⟨(hL.sel [2, 4] (by decide) rfl), ?_⟩
                refine DH.done (by kernel_rfl) ?_
                have hL := hL.sel [1, 2, 3, 4] (by decide) rfl
                exact ⟨(x716.2.1, x716.2.2, x7.1, x12.1, x721, w64 (1000 + x22.1)), hm, ⟨rfl, rfl, hL⟩⟩
              · refine ⟨_, rfl, ?_⟩
                obtain ⟨x728, hx729, hm⟩ := bndE hm
                refine OP.call rfl (x_call (vs := [(.pointer (some ⟨b1, 0, none⟩)), (.int .i64 3)]) Try_C85 ⟨rfl, rfl, trivial⟩) (M.spec_l01Next_ok _ (Src.mk a0.code x426.2.1 x426.2.2) (hL.exZ 3 2 (by decide) rfl rfl h3) (hL.get 2 rfl) 3 hx729) ?_
                rintro e730 wd731 ⟨rfl, hF732⟩
                refine ⟨_, rfl, ?_⟩
                have hL := hL.mut 2 rfl hF732
                simp only [List.cons_append, List.nil_append, List.set_cons_zero, List.set_cons_succ] at hL
                refine ⟨(hL.sel [1, 3] (by decide) rfl), ?_⟩
                refine DH.only 5 rfl (by kernel_rfl) (S_lit ([0, w64 (1000 + x22.1), w64 ((w64 (1000 + x22.1)) + 1)] : List Int) hL Try.underlying34 Try_T2 rfl (by decide) (by first | (simp [Instr.fill, madeCells, Value.cells, ev, upd, Flat.enc, Flat.sz]; done) | rfl | kernel_rfl) rfl rfl ?_)
                intro wd733 v734 S735 hL
                refine ⟨(hL.sel [2, 4] (by decide) rfl), ?_⟩
                have hS := (hL.sel [2, 4] (by decide) rfl)
                obtain ⟨x736, ha737, hm⟩ := bndE hm
                obtain ⟨hz738, ha737⟩ := idxE ha737
                obtain ⟨b739, q740, hix741⟩ := rdL_ix (hL.rdO 0 rfl) hz738 ha737
                refine DH.take 8 rfl (by kernel_rfl) (by kernel_rfl) (by kernel_rfl) rfl rfl hS (YH.val (v := (.pointer (some ⟨b739, q740, none⟩))) (fun w' hS' => x_ix Try.underlying34 Try_T2 rfl rfl hix741)) ?_
                refine DH.only 9 rfl (by kernel_rfl) (OP.val (v := (.int .i64 x736)) rfl (x_load1 Try.underlying2 rfl rfl (rdF_cells (hL.rdO 0 rfl) hix741 ha737 0 _ rfl)) ?_)
                refine ⟨(hL.sel [2, 4] (by decide) rfl), ?_⟩
                have hS := (hL.sel [2, 4] (by decide) rfl)
                refine DH.take 10 rfl (by kernel_rfl) (by kernel_rfl) (by kernel_rfl) rfl rfl hS (YH.val (v := (.pointer (some ⟨b28, 2, none⟩))) (fun w' hS' => x_fieldAddr (fsz := 1) 0 2 2 Try.underlying25 rfl Try_T2 rfl rfl rfl)) ?_
                refine DH.only 11 rfl (by kernel_rfl) (S_store (cs' := #[(.int .i64 x7.1), (.int .i64 x12.1), (.int .i64 x736), (.int .i64 (w64 (1000 + x22.1)))]) hL 1 rfl Try_T2 rfl rfl rfl rfl rfl ?_)
                intro wd742 hL
                refine ⟨(hL.sel [2, 4] (by decide) rfl), ?_⟩
                refine DH.done (by kernel_rfl) ?_
                have hL := hL.sel [1, 2, 3, 4] (by decide) rfl
                exact ⟨(x728.2.1, x728.2.2, x7.1, x12.1, x736, w64 (1000 + x22.1)), hm, ⟨rfl, rfl, hL⟩⟩
            · refine ⟨_, rfl, ?_⟩
              obtain ⟨x743, hx744, hm⟩ := bndE hm
              refine OP.call rfl (x_call (vs := [(.pointer (some ⟨b1, 0, none⟩)), (.int .i64 3)]) Try_C85 ⟨rfl, rfl, trivial⟩) (M.spec_l01Next_ok _ (Src.mk a0.code x426.2.1 x426.2.2) (hL.exZ 3 2 (by decide) rfl rfl h3) (hL.get 2 rfl) 3 hx744) ?_
              rintro e745 wd746 ⟨rfl, hF747⟩
              refine ⟨_, rfl, ?_⟩
              have hL := hL.mut 2 rfl hF747
              simp only [List.cons_append, List.nil_append, List.set_cons_zero, List.set_cons_succ] at hL
              refine ⟨(hL.sel [1, 3] (by decide) rfl), ?_⟩
              refine DH.only 1 rfl (by kernel_rfl) (OP.val (v := (.int .i64 (w64 (1000 + x22.1)))) rfl (x_load1 Try.underlying2 rfl rfl (hL.cellB 0 rfl rfl)) ?_)
              refine ⟨(hL.sel [1, 3] (by decide) rfl), ?_⟩
              refine DH.only 5 rfl (by kernel_rfl) (S_lit ([0, w64 (1000 + x22.1), w64 ((w64 (1000 + x22.1)) + 1)] : List Int) hL Try.underlying34 Try_T2 rfl (by decide) (by first | (simp [Instr.fill, madeCells, Value.cells, ev, upd, Flat.enc, Flat.sz]; done) | rfl | kernel_rfl) rfl rfl ?_)
              intro wd748 v749 S750 hL
              refine ⟨(hL.sel [2, 4] (by decide) rfl), ?_⟩
              have hS := (hL.sel [2, 4] (by decide) rfl)
              obtain ⟨x751, ha752, hm⟩ := bndE hm
              obtain ⟨hz753, ha752⟩ := idxE ha752
              obtain ⟨b754, q755, hix756⟩ := rdL_ix (hL.rdO 0 rfl) hz753 ha752
              refine DH.take 8 rfl (by kernel_rfl) (by kernel_rfl) (by kernel_rfl) rfl rfl hS (YH.val (v := (.pointer (some ⟨b754, q755, none⟩))) (fun w' hS' => x_ix Try.underlying34 Try_T2 rfl rfl hix756)) ?_
              refine DH.only 9 rfl (by kernel_rfl) (OP.val (v := (.int .i64 x751)) rfl (x_load1 Try.underlying2 rfl rfl (rdF_cells (hL.rdO 0 rfl) hix756 ha752 0 _ rfl)) ?_)
              refine ⟨(hL.sel [2, 4] (by decide) rfl), ?_⟩
              have hS := (hL.sel [2, 4] (by decide) rfl)
              refine DH.take 10 rfl (by kernel_rfl) (by kernel_rfl) (by kernel_rfl) rfl rfl hS (YH.val (v := (.pointer (some ⟨b28, 2, none⟩))) (fun w' hS' => x_fieldAddr (fsz := 1) 0 2 2 Try.underlying25 rfl Try_T2 rfl rfl rfl)) ?_
              refine DH.only 11 rfl (by kernel_rfl) (S_store (cs' := #[(.int .i64 x7.1), (.int .i64 x12.1), (.int .i64 x751), (.int .i64 (w64 (1000 + x22.1)))]) hL 1 rfl Try_T2 rfl rfl rfl rfl rfl ?_)
              intro wd757 hL
              refine ⟨(hL.sel [2, 4] (by decide) rfl), ?_⟩
              refine DH.done (by kernel_rfl) ?_
              have hL := hL.sel [1, 2, 3, 4] (by decide) rfl
              exact ⟨(x743.2.1, x743.2.2, x7.1, x12.1, x751, w64 (1000 + x22.1)), hm, ⟨rfl, rfl, hL⟩⟩
          · refine ⟨_, rfl, ?_⟩
            obtain ⟨x758, hx759, hm⟩ := bndE hm
            refine OP.call rfl (x_call (vs := [(.pointer (some ⟨b1, 0, none⟩)), (.int .i64 3)]) Try_C85 ⟨rfl, rfl, trivial⟩) (M.spec_l01Next_ok _ (Src.mk a0.code x426.2.1 x426.2.2) (hL.exZ 3 2 (by decide) rfl rfl h3) (hL.get 2 rfl) 3 hx759) ?_
            rintro e760 wd761 ⟨rfl, hF762⟩
            refine ⟨_, rfl, ?_⟩
            have hL := hL.mut 2 rfl hF762
            simp only [List.cons_append, List.nil_append, List.set_cons_zero, List.set_cons_succ] at hL
            refine ⟨(hL.sel [1, 3] (by decide) rfl), ?_⟩
            refine DH.all (rs := [1, 3]) (by kernel_rfl) (by simp) ?_
            intro i763 hi764
            simp only [List.mem_cons, List.not_mem_nil, or_false] at hi764
            rcases hi764 with rfl | rfl
            · refine ⟨_, rfl, ?_⟩
              refine OP.val (v := (.int .i64 (w64 (1000 + x22.1)))) rfl (x_load1 Try.underlying2 rfl rfl (hL.cellB 0 rfl rfl)) ?_
              refine ⟨(hL.sel [1, 3] (by decide) rfl), ?_⟩
              refine DH.only 3 rfl (by kernel_rfl) (OP.val (v := (.int .i64 (w64 (1000 + x22.1)))) rfl (x_load1 Try.underlying2 rfl rfl (hL.cellB 0 rfl rfl)) ?_)
              refine ⟨(hL.sel [1, 3] (by decide) rfl), ?_⟩
              have hS := (hL.sel [1, 3] (by decide) rfl)
              refine DH.take 4 rfl (by kernel_rfl) (by kernel_rfl) (by kernel_rfl) rfl rfl hS (YH.val (v := (.int .i64 (w64 ((w64 (1000 + x22.1)) + 1)))) (fun w' hS' => x_add rfl rfl)) ?_
              refine DH.only 5 rfl (by kernel_rfl) (S_lit ([0, w64 (1000 + x22.1), w64 ((w64 (1000 + x22.1)) + 1)] : List Int) hL Try.underlying34 Try_T2 rfl (by decide) (by first | (simp [Instr.fill, madeCells, Value.cells, ev, upd, Flat.enc, Flat.sz]; done) | rfl | kernel_rfl) rfl rfl ?_)
              intro wd765 v766 S767 hL
              refine ⟨(hL.sel [2, 4] (by decide) rfl), ?_⟩
              have hS := (hL.sel [2, 4] (by decide) rfl)
              obtain ⟨x768, ha769, hm⟩ := bndE hm
              obtain ⟨hz770, ha769⟩ := idxE ha769
              obtain ⟨b771, q772, hix773⟩ := rdL_ix (hL.rdO 0 rfl) hz770 ha769
              refine DH.take 8 rfl (by kernel_rfl) (by kernel_rfl) (by kernel_rfl) rfl rfl hS (YH.val (v := (.pointer (some ⟨b771, q772, none⟩))) (fun w' hS' => x_ix Try.underlying34 Try_T2 rfl rfl hix773)) ?_
              refine DH.only 9 rfl (by kernel_rfl) (OP.val (v := (.int .i64 x768)) rfl (x_load1 Try.underlying2 rfl rfl (rdF_cells (hL.rdO 0 rfl) hix773 ha769 0 _ rfl)) ?_)
              refine ⟨(hL.sel [2, 4] (by decide) rfl), ?_⟩
              have hS := (hL.sel [2, 4] (by decide) rfl)
              refine DH.take 10 rfl (by kernel_rfl) (by kernel_rfl) (by kernel_rfl) rfl rfl hS (YH.val (v := (.pointer (some ⟨b28, 2, none⟩))) (fun w' hS' => x_fieldAddr (fsz := 1) 0 2 2 Try.underlying25 rfl Try_T2 rfl rfl rfl)) ?_
              refine DH.only 11 rfl (by kernel_rfl) (S_store (cs' := #[(.int .i64 x7.1), (.int .i64 x12.1), (.int .i64 x768), (.int .i64 (w64 (1000 + x22.1)))]) hL 1 rfl Try_T2 rfl rfl rfl rfl rfl ?_)
              intro wd774 hL
              refine ⟨(hL.sel [2, 4] (by decide) rfl), ?_⟩
              refine DH.done (by kernel_rfl) ?_
              have hL := hL.sel [1, 2, 3, 4] (by decide) rfl
              exact ⟨(x758.2.1, x758.2.2, x7.1, x12.1, x768, w64 (1000 + x22.1)), hm, ⟨rfl, rfl, hL⟩⟩
            · refine ⟨_, rfl, ?_⟩
              refine OP.val (v := (.int .i64 (w64 (1000 + x22.1)))) rfl (x_load1 Try.underlying2 rfl rfl (hL.cellB 0 rfl rfl)) ?_
              refine ⟨(hL.sel [1, 3] (by decide) rfl), ?_⟩
              have hS := (hL.sel [1, 3] (by decide) rfl)
              refine DH.take 4 rfl (by kernel_rfl) (by kernel_rfl) (by kernel_rfl) rfl rfl hS (YH.val (v := (.int .i64 (w64 ((w64 (1000 + x22.1)) + 1)))) (fun w' hS' => x_add rfl rfl)) ?_
              refine DH.only 1 rfl (by kernel_rfl) (OP.val (v := (.int .i64 (w64 (1000 + x22.1)))) rfl (x_load1 Try.underlying2 rfl rfl (hL.cellB 0 rfl rfl)) ?_)
              refine ⟨(hL.sel [1, 3] (by decide) rfl), ?_⟩
              refine DH.only 5 rfl (by kernel_rfl) (S_lit ([0, w64 (1000 + x22.1), w64 ((w64 (1000 + x22.1)) + 1)] : List Int) hL Try.underlying34 Try_T2 rfl (by decide) (by first | (simp [Instr.fill, madeCells, Value.cells, ev, upd, Flat.enc, Flat.sz]; done) | rfl | kernel_rfl) rfl rfl ?_)
              intro wd775 v776 S777 hL
              refine ⟨(hL.sel [2, 4] (by decide) rfl), ?_⟩
              have hS := (hL.sel [2, 4] (by decide) rfl)
              obtain ⟨x778, ha779, hm⟩ := bndE hm
              obtain ⟨hz780, ha779⟩ := idxE ha779
              obtain ⟨b781, q782, hix783⟩ := rdL_ix (hL.rdO 0 rfl) hz780 ha779
              refine DH.take 8 rfl (by kernel_rfl) (by kernel_rfl) (by kernel_rfl) rfl rfl hS (YH.val (v := (.pointer (some ⟨b781, q782, none⟩))) (fun w' hS' => x_ix Try.underlying34 Try_T2 rfl rfl hix783)) ?_
              refine DH.only 9 rfl (by kernel_rfl) (OP.val (v := (.int .i64 x778)) rfl (x_load1 Try.underlying2 rfl rfl (rdF_cells (hL.rdO 0 rfl) hix783 ha779 0 _ rfl)) ?_)
              refine ⟨(hL.sel [2, 4] (by decide) rfl), ?_⟩
              have hS := (hL.sel [2, 4] (by decide) rfl)
              refine DH.take 10 rfl (by kernel_rfl) (by kernel_rfl) (by kernel_rfl) rfl rfl hS (YH.val (v := (.pointer (some ⟨b28, 2, none⟩))) (fun w' hS' => x_fieldAddr (fsz := 1) 0 2 2 Try.underlying25 rfl Try_T2 rfl rfl rfl)) ?_
              refine DH.only 11 rfl (by kernel_rfl) (S_store (cs' := #[(.int .i64 x7.1), (.int .i64 x12.1), (.int .i64 x778), (.int .i64 (w64 (1000 + x22.1)))]) hL 1 rfl Try_T2 rfl rfl rfl rfl rfl ?_)
              intro wd784 hL
              refine ⟨(hL.sel [2, 4] (by decide) rfl), ?_⟩
              refine DH.done (by kernel_rfl) ?_
              have hL := hL.sel [1, 2, 3, 4] (by decide) rfl
              exact ⟨(x758.2.1, x758.2.2, x7.1, x12.1, x778, w64 (1000 + x22.1)), hm, ⟨rfl, rfl, hL⟩⟩
        · refine CW.seq ?_
          refine CW.regionL ?_
          refine OW.cons (OP.val (v := (.bool (x426.1 == 2))) rfl (x_eql rfl rfl) ?_)
          refine OW.cons (OP.val (v := (.bool (x426.1 == 2))) rfl (x_assign) ?_)
          refine OW.nil ?_
          refine CW.condM (t := x426.1 == 2) rfl hm (fun hb785 hm => ?_) (fun hb785 hm => ?_)
          · refine CW.regionL ?_
            refine OW.cons (S_lit ([3000, 3001] : List Int) hL Try.underlying34 Try_T2 rfl (by decide) (by first | (simp [Instr.fill, madeCells, Value.cells, ev, upd, Flat.enc, Flat.sz]; done) | rfl | kernel_rfl) rfl rfl ?_)
            intro wd786 v787 S788 hL
            refine OW.cons (OP.val (v := (.pointer (some ⟨b1, 0, none⟩))) rfl (x_move) ?_)
            obtain ⟨x789, hx790, hm⟩ := bndE hm
            refine OW.cons (OP.call rfl (x_call (vs := [(.pointer (some ⟨b1, 0, none⟩)), (.int .i64 2)]) Try_C85 ⟨rfl, rfl, trivial⟩) (M.spec_l01Next_ok _ (Src.mk a0.code x426.2.1 x426.2.2) (hL.exZ 4 3 (by decide) rfl rfl h3) (hL.get 3 rfl) 2 hx790) ?_)
            rintro e791 wd792 ⟨rfl, hF793⟩
            refine ⟨_, rfl, ?_⟩
            have hL := hL.mut 3 rfl hF793
            simp only [List.cons_append, List.nil_append, List.set_cons_zero, List.set_cons_succ] at hL
            obtain ⟨x794, ha795, hm⟩ := bndE hm
            obtain ⟨hz796, ha795⟩ := idxE ha795
            obtain ⟨b797, q798, hix799⟩ := rdL_ix (hL.rdO 0 rfl) hz796 ha795
            refine OW.cons (OP.val (v := (.pointer (some ⟨b797, q798, none⟩))) rfl (x_ix Try.underlying34 Try_T2 rfl rfl hix799) ?_)
            refine OW.cons (OP.val (v := (.int .i64 x794)) rfl (x_load1 Try.underlying2 rfl rfl (rdF_cells (hL.rdO 0 rfl) hix799 ha795 0 _ rfl)) ?_)
            refine OW.cons (OP.val (v := (.pointer (some ⟨b28, 3, none⟩))) rfl (x_fieldAddr (fsz := 1) 0 3 3 Try.underlying25 rfl Try_T2 rfl rfl rfl) ?_)
            refine OW.cons (S_store (cs' := #[(.int .i64 x7.1), (.int .i64 x12.1), (.int .i64 (w64 (600 + x17.1))), (.int .i64 x794)]) hL 1 rfl Try_T2 rfl rfl rfl rfl rfl ?_)
            intro wd800 hL
            refine OW.nil ?_
            have hL := hL.sel [1, 2, 3, 4] (by decide) rfl
            exact ⟨(x789.2.1, x789.2.2, x7.1, x12.1, w64 (600 + x17.1), x794), hm, ⟨rfl, rfl, hL⟩⟩
          · refine CW.seq ?_
            refine CW.regionL ?_
            refine OW.cons (OP.val (v := (.bool (x426.1 == 3))) rfl (x_eql rfl rfl) ?_)
            refine OW.cons (OP.val (v := (.bool (x426.1 == 3))) rfl (x_assign) ?_)
            refine OW.nil ?_
            refine CW.condM (t := x426.1 == 3) rfl hm (fun hb801 hm => ?_) (fun hb801 hm => ?_)
            · refine CW.regionL ?_
              refine OW.cons (S_lit ([(-1), 3000, 3001] : List Int) hL Try.underlying34 Try_T2 rfl (by decide) (by first | (simp [Instr.fill, madeCells, Value.cells, ev, upd, Flat.enc, Flat.sz]; done) | rfl | kernel_rfl) rfl rfl ?_)
              intro wd802 v803 S804 hL
              refine OW.cons (OP.val (v := (.pointer (some ⟨b1, 0, none⟩))) rfl (x_move) ?_)
              obtain ⟨x805, hx806, hm⟩ := bndE hm
              refine OW.cons (OP.call rfl (x_call (vs := [(.pointer (some ⟨b1, 0, none⟩)), (.int .i64 3)]) Try_C85 ⟨rfl, rfl, trivial⟩) (M.spec_l01Next_ok _ (Src.mk a0.code x426.2.1 x426.2.2) (hL.exZ 4 3 (by decide) rfl rfl h3) (hL.get 3 rfl) 3 hx806) ?_)
              rintro e807 wd808 ⟨rfl, hF809⟩
              refine ⟨_, rfl, ?_⟩
              have hL := hL.mut 3 rfl hF809
              simp only [List.cons_append, List.nil_append, List.set_cons_zero, List.set_cons_succ] at hL
              obtain ⟨x810, ha811, hm⟩ := bndE hm
              obtain ⟨hz812, ha811⟩ := idxE ha811
              obtain ⟨b813, q814, hix815⟩ := rdL_ix (hL.rdO 0 rfl) hz812 ha811
              refine OW.cons (OP.val (v := (.pointer (some ⟨b813, q814, none⟩))) rfl (x_ix Try.underlying34 Try_T2 rfl rfl hix815) ?_)
              refine OW.cons (OP.val (v := (.int .i64 x810)) rfl (x_load1 Try.underlying2 rfl rfl (rdF_cells (hL.rdO 0 rfl) hix815 ha811 0 _ rfl)) ?_)
              refine OW.cons (OP.val (v := (.pointer (some ⟨b28, 1, none⟩))) rfl (x_fieldAddr (fsz := 1) 0 1 1 Try.underlying25 rfl Try_T2 rfl rfl rfl) ?_)
              refine OW.cons (S_store (cs' := #[(.int .i64 x7.1), (.int .i64 x810), (.int .i64 (w64 (600 + x17.1))), (.int .i64 (w64 (1000 + x22.1)))]) hL 1 rfl Try_T2 rfl rfl rfl rfl rfl ?_)
              intro wd816 hL
              refine OW.nil ?_
              have hL := hL.sel [1, 2, 3, 4] (by decide) rfl
              exact ⟨(x805.2.1, x805.2.2, x7.1, x810, w64 (600 + x17.1), w64 (1000 + x22.1)), hm, ⟨rfl, rfl, hL⟩⟩
            · refine CW.skip ?_
              exact ⟨(x426.2.1, x426.2.2, x7.1, x12.1, w64 (600 + x17.1), w64 (1000 + x22.1)), hm, ⟨rfl, rfl, hL⟩⟩
    · intro s_j2 F622 wd623 hJ hm
      unfold M.spec_l25Draw_j2 at hm
      obtain ⟨f624, f625, hL⟩ := hJ
      exact ⟨(s_j2.1, s_j2.2.1, s_j2.2.2.1, s_j2.2.2.2.1, s_j2.2.2.2.2.1, s_j2.2.2.2.2.2), hm, ⟨f624, f625, hL⟩⟩
  · intro s_j1 F421 wd422 hJ hm
    unfold M.spec_l25Draw_j1 at hm
    obtain ⟨f423, f424, hL⟩ := hJ
    refine CW.seq ?_
    refine CW.regionL ?_
    refine OW.cons (OP.val (v := (.agg #[(.int .i64 s_j1.2.2.1), (.int .i64 s_j1.2.2.2.1), (.int .i64 s_j1.2.2.2.2.1), (.int .i64 s_j1.2.2.2.2.2)])) rfl (x_loadN (cs := [(.int .i64 s_j1.2.2.1), (.int .i64 s_j1.2.2.2.1), (.int .i64 s_j1.2.2.2.2.1), (.int .i64 s_j1.2.2.2.2.2)]) Try.underlying25 Try_T25 rfl f424 (hL.cellsB 0 rfl (o := 0) (l := [(.int .i64 s_j1.2.2.1), (.int .i64 s_j1.2.2.2.1), (.int .i64 s_j1.2.2.2.2.1), (.int .i64 s_j1.2.2.2.2.2)]) (by intro j u hj; exact (by simpa using hj)))) ?_)
    refine OW.cons (S_storeN (l := [(.int .i64 s_j1.2.2.1), (.int .i64 s_j1.2.2.2.1), (.int .i64 s_j1.2.2.2.2.1), (.int .i64 s_j1.2.2.2.2.2)]) (cs' := #[(.int .i64 s_j1.2.2.1), (.int .i64 s_j1.2.2.2.1), (.int .i64 s_j1.2.2.2.2.1), (.int .i64 s_j1.2.2.2.2.2)]) hL 1 rfl Try_T25 f423 rfl (by simp [Value.oneCell']) rfl (by decide) rfl ?_)
    intro wd425 hL
    refine OW.nil ?_
    refine CW.ret ?_
    obtain rfl := Option.some.inj hm
    exact RRc rfl f423 (run_loadBlk Try.underlying25 Try_T25 (hL.get 1 rfl) rfl) ⟨rfl, hL.mutOut 3 rfl [2] (by decide) (by decide) rfl⟩

theorem M.spec_l22DrawFactor_ok (w0 : World) {b1 : Nat} {v2 : Value} (a0 : Src) (h3 : rdL (fun k => k < w0.heap.size ∧ ¬ (Ent.blk b1 112 #[v2, .int .i64 a0.at_, .int .i64 a0.seed]).S k) w0 v2 a0.code) (he4 : (Ent.blk b1 112 #[v2, .int .i64 a0.at_, .int .i64 a0.seed]).H w0) {r : (Int) × (Int × Int)} (hm : M.spec_l22DrawFactor a0 = some r) :
    Calls Try.prog 55 #[(.pointer (some ⟨b1, 0, none⟩))] w0 fun e w' => e = .returned (.int .i64 r.1) ∧ Mut w0 w' (Ent.blk b1 112 #[v2, .int .i64 a0.at_, .int .i64 a0.seed]).S [Ent.blk b1 112 #[v2, .int .i64 r.2.1, .int .i64 r.2.2]] := by
  unfold M.spec_l22DrawFactor at hm
  refine calls_CW (args := [(.pointer (some ⟨b1, 0, none⟩))]) Try.func55 rfl rfl rfl ?_
  have hL := Hp.startIO he4
  refine CW.seq ?_
  refine CW.regionL ?_
  refine OW.cons (OP.val (v := (.int .i64 0)) rfl (x_assign) ?_)
  refine OW.nil ?_
  refine CW.seq ?_
  refine CW.seq ?_
  refine CW.regionL ?_
  refine OW.cons (OP.val (v := (.pointer (some ⟨b1, 0, none⟩))) rfl (x_move) ?_)
  obtain ⟨x5, hx6, hm⟩ := bndE hm
  refine OW.cons (OP.call rfl (x_call (vs := [(.pointer (some ⟨b1, 0, none⟩)), (.int .i64 24)]) Try_C85 ⟨rfl, rfl, trivial⟩) (M.spec_l01Next_ok _ (Src.mk a0.code a0.at_ a0.seed) (hL.exZ 1 0 (by decide) rfl rfl h3) (hL.get 0 rfl) 24 hx6) ?_)
  rintro e7 wd8 ⟨rfl, hF9⟩
  refine ⟨_, rfl, ?_⟩
  have hL := hL.mut 0 rfl hF9
  simp only [List.cons_append, List.nil_append, List.set_cons_zero, List.set_cons_succ] at hL
  refine OW.cons (OP.val (v := (.bool (x5.1 == 0))) rfl (x_eql rfl rfl) ?_)
  refine OW.nil ?_
  refine CW.condM (t := x5.1 == 0) rfl hm (fun hb10 hm => ?_) (fun hb10 hm => ?_)
  · refine CW.seq ?_
    refine CW.regionL ?_
    refine OW.cons (S_lit ([0, 1, 3000, 3001] : List Int) hL Try.underlying34 Try_T2 rfl (by decide) (by first | (simp [Instr.fill, madeCells, Value.cells, ev, upd, Flat.enc, Flat.sz]; done) | rfl | kernel_rfl) rfl rfl ?_)
    intro wd11 v12 S13 hL
    refine OW.cons (OP.val (v := (.pointer (some ⟨b1, 0, none⟩))) rfl (x_move) ?_)
    obtain ⟨x14, hx15, hm⟩ := bndE hm
    refine OW.cons (OP.call rfl (x_call (vs := [(.pointer (some ⟨b1, 0, none⟩)), (.int .i64 4)]) Try_C85 ⟨rfl, rfl, trivial⟩) (M.spec_l01Next_ok _ (Src.mk a0.code x5.2.1 x5.2.2) (hL.exZ 2 1 (by decide) rfl rfl h3) (hL.get 1 rfl) 4 hx15) ?_)
    rintro e16 wd17 ⟨rfl, hF18⟩
    refine ⟨_, rfl, ?_⟩
    have hL := hL.mut 1 rfl hF18
    simp only [List.cons_append, List.nil_append, List.set_cons_zero, List.set_cons_succ] at hL
    obtain ⟨x19, ha20, hm⟩ := bndE hm
    obtain ⟨hz21, ha20⟩ := idxE ha20
    obtain ⟨b22, q23, hix24⟩ := rdL_ix (hL.rdO 0 rfl) hz21 ha20
    refine OW.cons (OP.val (v := (.pointer (some ⟨b22, q23, none⟩))) rfl (x_ix Try.underlying34 Try_T2 rfl rfl hix24) ?_)
    refine OW.cons (OP.val (v := (.int .i64 x19)) rfl (x_load1 Try.underlying2 rfl rfl (rdF_cells (hL.rdO 0 rfl) hix24 ha20 0 _ rfl)) ?_)
    refine OW.cons (OP.val (v := (.int .i64 x19)) rfl (x_assign) ?_)
    refine OW.nil ?_
    refine CW.ret ?_
    obtain rfl := Option.some.inj hm
    exact RR1 rfl rfl ⟨rfl, hL.mutOut 2 rfl [1] (by decide) (by decide) rfl⟩
  · refine CW.skip ?_
    refine CW.seq ?_
    refine CW.regionL ?_
    refine OW.cons (OP.val (v := (.pointer (some ⟨b1, 0, none⟩))) rfl (x_move) ?_)
    obtain ⟨x25, hx26, hm⟩ := bndE hm
    refine OW.cons (OP.call rfl (x_call (vs := [(.pointer (some ⟨b1, 0, none⟩)), (.int .i64 700)]) Try_C85 ⟨rfl, rfl, trivial⟩) (M.spec_l01Next_ok _ (Src.mk a0.code x5.2.1 x5.2.2) (hL.exZ 1 0 (by decide) rfl rfl h3) (hL.get 0 rfl) 700 hx26) ?_)
    rintro e27 wd28 ⟨rfl, hF29⟩
    refine ⟨_, rfl, ?_⟩
    have hL := hL.mut 0 rfl hF29
    simp only [List.cons_append, List.nil_append, List.set_cons_zero, List.set_cons_succ] at hL
    refine OW.cons (OP.val (v := (.int .i64 (w64 (700 + x25.1)))) rfl (x_add rfl rfl) ?_)
    refine OW.cons (OP.val (v := (.int .i64 (w64 (700 + x25.1)))) rfl (x_assign) ?_)
    refine OW.nil ?_
    refine CW.ret ?_
    obtain rfl := Option.some.inj hm
    exact RR1 rfl rfl ⟨rfl, hL.mutOut 1 rfl [0] (by decide) (by decide) rfl⟩

theorem M.spec_DrawProgressFactor_ok (w0 : World) (a0 : List UInt8) {v1 : Value} (h2 : rdL (· < w0.heap.size) w0 v1 a0) {r : ProgressRules × Int × Int} (hm : M.spec_DrawProgressFactor a0 = some r) :
    Calls Try.prog 14 #[v1] w0 fun e w' => e = .returned (.tuple #[(.agg #[(.int .i64 r.1.Gain), (.int .i64 r.1.Step), (.int .i64 r.1.Low), (.int .i64 r.1.High)]), (.int .i64 r.2.1), (.int .i64 r.2.2)]) ∧ Fresh w0 w' [] := by
  unfold M.spec_DrawProgressFactor at hm
  refine calls_CW (args := [v1]) Try.func14 rfl rfl rfl ?_
  have hL := Hp.start w0
  refine CW.seq ?_
  refine CW.regionL ?_
  refine OW.cons (S_alloc (cs := #[(.int .i64 0), (.int .i64 0), (.int .i64 0), (.int .i64 0)]) hL Try_T25 rfl rfl ?_)
  intro wd3 b4 hL
  refine OW.cons (OP.val (v := (.int .i64 0)) rfl (x_assign) ?_)
  refine OW.cons (OP.val (v := (.int .i64 0)) rfl (x_assign) ?_)
  refine OW.nil ?_
  refine CW.seq ?_
  refine CW.regionL ?_
  refine OW.cons (OP.val (v := v1) rfl (x_move) ?_)
  obtain ⟨x5, hx6, hm⟩ := bndE hm
  refine OW.cons (OP.call rfl (x_call (vs := [v1]) Try_C53 ⟨rfl, trivial⟩) (M.spec_l01From_ok _ a0 (hL.rdS 1 rfl h2) hx6) ?_)
  rintro e8 wd9 ⟨b7, rfl, hF10⟩
  refine ⟨_, rfl, ?_⟩
  have hL := hL.pushAll hF10
  simp only [List.cons_append, List.nil_append, List.set_cons_zero, List.set_cons_succ] at hL
  refine OW.cons (OP.val (v := (.pointer (some ⟨b7, 0, none⟩))) rfl (x_assign) ?_)
  refine OW.nil ?_
  refine CW.seq ?_
  refine CW.regionL ?_
  refine OW.cons (OP.val (v := (.pointer (some ⟨b7, 0, none⟩))) rfl (x_move) ?_)
  obtain ⟨x11, hx12, hm⟩ := bndE hm
  refine OW.cons (OP.call rfl (x_call (vs := [(.pointer (some ⟨b7, 0, none⟩))]) Try_C54 ⟨rfl, trivial⟩) (M.spec_l25Draw_ok _ (Src.mk a0 x5.1 x5.2) (hL.exS 2 0 (by decide) rfl rfl h2) (hL.get 0 rfl) hx12) ?_)
  rintro e13 wd14 ⟨rfl, hF15⟩
  refine ⟨_, rfl, ?_⟩
  have hL := hL.mut 0 rfl hF15
  simp only [List.cons_append, List.nil_append, List.set_cons_zero, List.set_cons_succ] at hL
  refine OW.cons (S_alloc (cs := #[(.int .i64 0), (.int .i64 0), (.int .i64 0), (.int .i64 0)]) hL Try_T25 rfl rfl ?_)
  intro wd16 b17 hL
  refine OW.cons (S_storeN (l := [(.int .i64 x11.1.Gain), (.int .i64 x11.1.Step), (.int .i64 x11.1.Low), (.int .i64 x11.1.High)]) (cs' := #[(.int .i64 x11.1.Gain), (.int .i64 x11.1.Step), (.int .i64 x11.1.Low), (.int .i64 x11.1.High)]) hL 0 rfl Try_T25 rfl rfl (by simp [Value.oneCell']) rfl (by decide) rfl ?_)
  intro wd18 hL
  refine OW.nil ?_
  refine CW.seq ?_
  refine CW.regionL ?_
  refine OW.cons (OP.val (v := (.pointer (some ⟨b7, 0, none⟩))) rfl (x_move) ?_)
  obtain ⟨x19, hx20, hm⟩ := bndE hm
  refine OW.cons (OP.call rfl (x_call (vs := [(.pointer (some ⟨b7, 0, none⟩))]) Try_C55 ⟨rfl, trivial⟩) (M.spec_l22DrawFactor_ok _ (Src.mk a0 x11.2.1 x11.2.2) (hL.exS 3 1 (by decide) rfl rfl h2) (hL.get 1 rfl) hx20) ?_)
  rintro e21 wd22 ⟨rfl, hF23⟩
  refine ⟨_, rfl, ?_⟩
  have hL := hL.mut 1 rfl hF23
  simp only [List.cons_append, List.nil_append, List.set_cons_zero, List.set_cons_succ] at hL
  refine OW.cons (OP.val (v := (.int .i64 x19.1)) rfl (x_assign) ?_)
  refine OW.nil ?_
  refine CW.seq ?_
  refine CW.drawH (fun w' => Hp w0 [Ent.blk b17 25 #[(.int .i64 x11.1.Gain), (.int .i64 x11.1.Step), (.int .i64 x11.1.Low), (.int .i64 x11.1.High)], Ent.snap w0 w0.heap.size] w') Try_mixed ?_
  have hL := hL.call (Mod.drew _)
  have hS := (hL.sel [0, 3] (by decide) rfl)
  refine DH.take 0 rfl (by kernel_rfl) (by kernel_rfl) (by kernel_rfl) rfl rfl hS (YH.val (v := (.agg #[(.int .i64 x11.1.Gain), (.int .i64 x11.1.Step), (.int .i64 x11.1.Low), (.int .i64 x11.1.High)])) (fun w' hS' => x_loadN (cs := [(.int .i64 x11.1.Gain), (.int .i64 x11.1.Step), (.int .i64 x11.1.Low), (.int .i64 x11.1.High)]) Try.underlying25 Try_T25 rfl rfl (hS'.cellsB 0 rfl (o := 0) (l := [(.int .i64 x11.1.Gain), (.int .i64 x11.1.Step), (.int .i64 x11.1.Low), (.int .i64 x11.1.High)]) (by intro j u hj; exact (by simpa using hj))))) ?_
  have hS := (hL.sel [0, 3] (by decide) rfl)
  refine DH.take 1 rfl (by kernel_rfl) (by kernel_rfl) (by kernel_rfl) rfl rfl hS (YH.val (v := (.int .i64 x19.1)) (fun w' hS' => x_move)) ?_
  have hS := (hL.sel [0, 3] (by decide) rfl)
  refine DH.take 2 rfl (by kernel_rfl) (by kernel_rfl) (by kernel_rfl) rfl rfl hS (YH.val (v := (.pointer (some ⟨b7, 0, none⟩))) (fun w' hS' => x_move)) ?_
  obtain ⟨x30, hx31, hm⟩ := bndE hm
  refine DH.only 3 rfl (by kernel_rfl) (OP.call rfl (x_call (vs := [(.pointer (some ⟨b7, 0, none⟩))]) Try_C55 ⟨rfl, trivial⟩) (M.spec_l22DrawFactor_ok _ (Src.mk a0 x19.2.1 x19.2.2) (hL.exS 3 1 (by decide) rfl rfl h2) (hL.get 1 rfl) hx31) ?_)
  rintro e32 wd33 ⟨rfl, hF34⟩
  refine ⟨_, rfl, ?_⟩
  have hL := hL.mut 1 rfl hF34
  simp only [List.cons_append, List.nil_append, List.set_cons_zero, List.set_cons_succ] at hL
  refine ⟨(hL.sel [0, 3] (by decide) rfl), ?_⟩
  refine DH.only 4 rfl (by kernel_rfl) (S_storeN (l := [(.int .i64 x11.1.Gain), (.int .i64 x11.1.Step), (.int .i64 x11.1.Low), (.int .i64 x11.1.High)]) (cs' := #[(.int .i64 x11.1.Gain), (.int .i64 x11.1.Step), (.int .i64 x11.1.Low), (.int .i64 x11.1.High)]) hL 2 rfl Try_T25 rfl rfl (by simp [Value.oneCell']) rfl (by decide) rfl ?_)
  intro wd35 hL
  refine ⟨(hL.sel [0, 3] (by decide) rfl), ?_⟩
  have hS := (hL.sel [0, 3] (by decide) rfl)
  refine DH.take 5 rfl (by kernel_rfl) (by kernel_rfl) (by kernel_rfl) rfl rfl hS (YH.val (v := (.int .i64 x19.1)) (fun w' hS' => x_assign)) ?_
  have hS := (hL.sel [0, 3] (by decide) rfl)
  refine DH.take 6 rfl (by kernel_rfl) (by kernel_rfl) (by kernel_rfl) rfl rfl hS (YH.val (v := (.int .i64 x30.1)) (fun w' hS' => x_assign)) ?_
  refine DH.done (by kernel_rfl) ?_
  refine CW.ret ?_
  obtain rfl := Option.some.inj hm
  exact RRs (v := (.agg #[(.int .i64 x11.1.Gain), (.int .i64 x11.1.Step), (.int .i64 x11.1.Low), (.int .i64 x11.1.High)])) (v2 := (.int .i64 x19.1)) (vs := [(.int .i64 x30.1)]) (rs := [.cell 2 25, .tmp 3, .tmp 4]) rfl ⟨resCell rfl (run_loadBlk Try.underlying25 Try_T25 (hL.get 2 rfl) rfl), resTmp rfl, resTmp rfl, trivial⟩ ⟨rfl, hL.fresh 3 rfl [] (by decide) (by decide) rfl⟩

theorem M.impl_within_ok (w0 : World) (a0 : Int) (a1 : Int) (a2 : Int) {r : Bool} (hm : M.impl_within a0 a1 a2 = some r) :
    Calls Try.prog 61 #[(.int .i64 a0), (.int .i64 a1), (.int .i64 a2)] w0 fun e w' => e = .returned (.bool r) ∧ Fresh w0 w' [] := by
  unfold M.impl_within at hm
  refine calls_CW (args := [(.int .i64 a0), (.int .i64 a1), (.int .i64 a2)]) Try.func61 rfl rfl rfl ?_
  have hL := Hp.start w0
  refine CW.seq ?_
  refine CW.regionL ?_
  refine OW.cons (OP.val (v := (.bool false)) rfl (x_assign) ?_)
  refine OW.nil ?_
  refine CW.seqJ (fun (s_j1 : Bool) (F : Fr) (w : World) => F 6 = (.bool s_j1) ∧ Hp w0 [Ent.snap w0 w0.heap.size] w) (fun s_j1 => M.impl_within_j1 s_j1 = some r) ?_ ?_
  · refine CW.regionL ?_
    refine OW.cons (OP.val (v := (.int .i64 a0)) rfl (x_move) ?_)
    refine OW.cons (OP.val (v := (.int .i64 a1)) rfl (x_move) ?_)
    refine OW.cons (OP.val (v := (.bool (decide (a1 ≤ a0)))) rfl (x_geq rfl rfl) ?_)
    refine OW.cons (OP.val (v := (.bool (decide (a1 ≤ a0)))) rfl (x_move) ?_)
    refine ifB_elim hm (fun hb5 hm => ?_) (fun hb5 hm => ?_)
    · refine OW.cons (OP.yes' rfl rfl hb5 (OP.val (v := (.int .i64 a0)) rfl (x_move) ?_))
      refine OW.cons (OP.yes' rfl rfl hb5 (OP.val (v := (.int .i64 a2)) rfl (x_move) ?_))
      refine OW.cons (OP.yes' rfl rfl hb5 (OP.val (v := (.bool (decide (a0 ≤ a2)))) rfl (x_leq rfl rfl) ?_))
      refine OW.cons (OP.val (v := (.bool (decide (a0 ≤ a2)))) rfl (x_pickT' rfl hb5 rfl) ?_)
      refine OW.cons (OP.val (v := (.bool (decide (a0 ≤ a2)))) rfl (x_assign) ?_)
      refine OW.nil ?_
      exact ⟨decide (a0 ≤ a2), hm, ⟨rfl, hL⟩⟩
    · refine OW.cons (OP.no' rfl rfl hb5 rfl ?_)
      refine OW.cons (OP.no' rfl rfl hb5 rfl ?_)
      refine OW.cons (OP.no' rfl rfl hb5 rfl ?_)
      refine OW.cons (OP.val (v := (.bool false)) rfl (x_pickF' rfl hb5 rfl) ?_)
      refine OW.cons (OP.val (v := (.bool false)) rfl (x_assign) ?_)
      refine OW.nil ?_
      exact ⟨false, hm, ⟨rfl, hL⟩⟩
  · intro s_j1 F2 wd3 hJ hm
    unfold M.impl_within_j1 at hm
    obtain ⟨f4, hL⟩ := hJ
    refine CW.ret ?_
    obtain rfl := Option.some.inj hm
    exact RR1 rfl f4 ⟨rfl, hL.fresh 0 rfl [] (by decide) (by decide) rfl⟩

theorem M.impl_IsProgress_ok (w0 : World) (a0 : ProgressRules) {r : Bool} (hm : M.impl_IsProgress a0 = some r) :
    Calls Try.prog 17 #[(.agg #[(.int .i64 a0.Gain), (.int .i64 a0.Step), (.int .i64 a0.Low), (.int .i64 a0.High)])] w0 fun e w' => e = .returned (.bool r) ∧ Fresh w0 w' [] := by
  unfold M.impl_IsProgress at hm
  refine calls_CW (args := [(.agg #[(.int .i64 a0.Gain), (.int .i64 a0.Step), (.int .i64 a0.Low), (.int .i64 a0.High)])]) Try.func17 rfl rfl rfl ?_
  have hL := Hp.start w0
  refine CW.seq ?_
  refine CW.regionL ?_
  refine OW.cons (S_box (cs := #[(.int .i64 a0.Gain), (.int .i64 a0.Step), (.int .i64 a0.Low), (.int .i64 a0.High)]) hL rfl rfl rfl ?_)
  intro wd1 b2 hL
  refine OW.cons (OP.val (v := (.bool false)) rfl (x_assign) ?_)
  refine OW.nil ?_
  refine CW.seqJ (fun (s_j1 : Bool) (F : Fr) (w : World) => F 2 = (.bool s_j1) ∧ Hp w0 [Ent.blk b2 25 #[(.int .i64 a0.Gain), (.int .i64 a0.Step), (.int .i64 a0.Low), (.int .i64 a0.High)], Ent.snap w0 w0.heap.size] w) (fun s_j1 => M.impl_IsProgress_j1 s_j1 = some r) ?_ ?_
  · refine CW.regionL ?_
    refine OW.cons (OP.val (v := (.pointer (some ⟨b2, 0, none⟩))) rfl (x_fieldAddr (fsz := 1) 0 0 0 Try.underlying25 rfl Try_T2 rfl rfl rfl) ?_)
    refine OW.cons (OP.val (v := (.int .i64 a0.Gain)) rfl (x_load1 Try.underlying2 rfl rfl (hL.cellB 0 rfl rfl)) ?_)
    obtain ⟨x24, hx25, hm⟩ := bndE hm
    refine OW.cons (OP.call rfl (x_call (vs := [(.int .i64 a0.Gain), (.int .i64 0), (.int .i64 1000)]) Try_C61 ⟨rfl, rfl, rfl, trivial⟩) (M.impl_within_ok _ a0.Gain 0 1000 hx25) ?_)
    rintro e26 wd27 ⟨rfl, hF28⟩
    refine ⟨_, rfl, ?_⟩
    have hL := hL.pushAll hF28
    simp only [List.cons_append, List.nil_append, List.set_cons_zero, List.set_cons_succ] at hL
    refine OW.cons (OP.val (v := (.bool x24)) rfl (x_move) ?_)
    refine ifB_elim hm (fun hb29 hm => ?_) (fun hb29 hm => ?_)
    · refine OW.cons (OP.yes' rfl rfl hb29 (OP.val (v := (.pointer (some ⟨b2, 1, none⟩))) rfl (x_fieldAddr (fsz := 1) 0 1 1 Try.underlying25 rfl Try_T2 rfl rfl rfl) ?_))
      refine OW.cons (OP.yes' rfl rfl hb29 (OP.val (v := (.int .i64 a0.Step)) rfl (x_load1 Try.underlying2 rfl rfl (hL.cellB 0 rfl rfl)) ?_))
      obtain ⟨x30, hx31, hm⟩ := bndE hm
      refine OW.cons (OP.yes' rfl rfl hb29 (OP.call rfl (x_call (vs := [(.int .i64 a0.Step), (.int .i64 0), (.int .i64 3000)]) Try_C61 ⟨rfl, rfl, rfl, trivial⟩) (M.impl_within_ok _ a0.Step 0 3000 hx31) ?_))
      rintro e32 wd33 ⟨rfl, hF34⟩
      refine ⟨_, rfl, ?_⟩
      have hL := hL.pushAll hF34
      simp only [List.cons_append, List.nil_append, List.set_cons_zero, List.set_cons_succ] at hL
      refine OW.cons (OP.val (v := (.bool x30)) rfl (x_pickT' rfl hb29 rfl) ?_)
      refine OW.cons (OP.val (v := (.bool x30)) rfl (x_move) ?_)
      refine ifB_elim hm (fun hb35 hm => ?_) (fun hb35 hm => ?_)
      · refine OW.cons (OP.yes' rfl rfl hb35 (OP.val (v := (.pointer (some ⟨b2, 2, none⟩))) rfl (x_fieldAddr (fsz := 1) 0 2 2 Try.underlying25 rfl Try_T2 rfl rfl rfl) ?_))
        refine OW.cons (OP.yes' rfl rfl hb35 (OP.val (v := (.int .i64 a0.Low)) rfl (x_load1 Try.underlying2 rfl rfl (hL.cellB 0 rfl rfl)) ?_))
        refine OW.cons (OP.yes' rfl rfl hb35 (OP.val (v := (.pointer (some ⟨b2, 3, none⟩))) rfl (x_fieldAddr (fsz := 1) 0 3 3 Try.underlying25 rfl Try_T2 rfl rfl rfl) ?_))
        refine OW.cons (OP.yes' rfl rfl hb35 (OP.val (v := (.int .i64 a0.High)) rfl (x_load1 Try.underlying2 rfl rfl (hL.cellB 0 rfl rfl)) ?_))
        obtain ⟨x36, hx37, hm⟩ := bndE hm
        refine OW.cons (OP.yes' rfl rfl hb35 (OP.call rfl (x_call (vs := [(.int .i64 a0.Low), (.int .i64 1), (.int .i64 a0.High)]) Try_C61 ⟨rfl, rfl, rfl, trivial⟩) (M.impl_within_ok _ a0.Low 1 a0.High hx37) ?_))
        rintro e38 wd39 ⟨rfl, hF40⟩
        refine ⟨_, rfl, ?_⟩
        have hL := hL.pushAll hF40
        simp only [List.cons_append, List.nil_append, List.set_cons_zero, List.set_cons_succ] at hL
        refine OW.cons (OP.val (v := (.bool x36)) rfl (x_pickT' rfl hb35 rfl) ?_)
        refine OW.cons (OP.val (v := (.bool x36)) rfl (x_move) ?_)
        refine ifB_elim hm (fun hb41 hm => ?_) (fun hb41 hm => ?_)
        · refine OW.cons (OP.yes' rfl rfl hb41 (OP.val (v := (.pointer (some ⟨b2, 3, none⟩))) rfl (x_fieldAddr (fsz := 1) 0 3 3 Try.underlying25 rfl Try_T2 rfl rfl rfl) ?_))
          refine OW.cons (OP.yes' rfl rfl hb41 (OP.val (v := (.int .i64 a0.High)) rfl (x_load1 Try.underlying2 rfl rfl (hL.cellB 0 rfl rfl)) ?_))
          refine OW.cons (OP.yes' rfl rfl hb41 (OP.val (v := (.bool (decide (a0.High ≤ 3000)))) rfl (x_leq rfl rfl) ?_))
          refine OW.cons (OP.val (v := (.bool (decide (a0.High ≤ 3000)))) rfl (x_pickT' rfl hb41 rfl) ?_)
          refine OW.cons (OP.val (v := (.bool (decide (a0.High ≤ 3000)))) rfl (x_assign) ?_)
          refine OW.nil ?_
          exact ⟨decide (a0.High ≤ 3000), hm, ⟨rfl, hL⟩⟩
        · refine OW.cons (OP.no' rfl rfl hb41 rfl ?_)
          refine OW.cons (OP.no' rfl rfl hb41 rfl ?_)
          refine OW.cons (OP.no' rfl rfl hb41 rfl ?_)
          refine OW.cons (OP.val (v := (.bool false)) rfl (x_pickF' rfl hb41 rfl) ?_)
          refine OW.cons (OP.val (v := (.bool false)) rfl (x_assign) ?_)
          refine OW.nil ?_
          exact ⟨false, hm, ⟨rfl, hL⟩⟩
      · refine OW.cons (OP.no' rfl rfl hb35 rfl ?_)
        refine OW.cons (OP.no' rfl rfl hb35 rfl ?_)
        refine OW.cons (OP.no' rfl rfl hb35 rfl ?_)
        refine OW.cons (OP.no' rfl rfl hb35 rfl ?_)
        refine OW.cons (OP.no' rfl rfl hb35 rfl ?_)
        refine OW.cons (OP.val (v := (.bool false)) rfl (x_pickF' rfl hb35 rfl) ?_)
        refine OW.cons (OP.val (v := (.bool false)) rfl (x_move) ?_)
        refine OW.cons (OP.no' rfl rfl rfl rfl ?_)
        refine OW.cons (OP.no' rfl rfl rfl rfl ?_)
        refine OW.cons (OP.no' rfl rfl rfl rfl ?_)
        refine OW.cons (OP.val (v := (.bool false)) rfl (x_pickF' rfl rfl rfl) ?_)
        refine OW.cons (OP.val (v := (.bool false)) rfl (x_assign) ?_)
        refine OW.nil ?_
        exact ⟨false, hm, ⟨rfl, hL⟩⟩
    · refine OW.cons (OP.no' rfl rfl hb29 rfl ?_)
      refine OW.cons (OP.no' rfl rfl hb29 rfl ?_)
      refine OW.cons (OP.no' rfl rfl hb29 rfl ?_)
      refine OW.cons (OP.val (v := (.bool false)) rfl (x_pickF' rfl hb29 rfl) ?_)
      refine OW.cons (OP.val (v := (.bool false)) rfl (x_move) ?_)
      refine OW.cons (OP.no' rfl rfl rfl rfl ?_)
      refine OW.cons (OP.no' rfl rfl rfl rfl ?_)
      refine OW.cons (OP.no' rfl rfl rfl rfl ?_)
      refine OW.cons (OP.no' rfl rfl rfl rfl ?_)
      refine OW.cons (OP.no' rfl rfl rfl rfl ?_)
      refine OW.cons (OP.val (v := (.bool false)) rfl (x_pickF' rfl rfl rfl) ?_)
      refine OW.cons (OP.val (v := (.bool false)) rfl (x_move) ?_)
      refine OW.cons (OP.no' rfl rfl rfl rfl ?_)
      refine OW.cons (OP.no' rfl rfl rfl rfl ?_)
      refine OW.cons (OP.no' rfl rfl rfl rfl ?_)
      refine OW.cons (OP.val (v := (.bool false)) rfl (x_pickF' rfl rfl rfl) ?_)
      refine OW.cons (OP.val (v := (.bool false)) rfl (x_assign) ?_)
      refine OW.nil ?_
      exact ⟨false, hm, ⟨rfl, hL⟩⟩
  · intro s_j1 F21 wd22 hJ hm
    unfold M.impl_IsProgress_j1 at hm
    obtain ⟨f23, hL⟩ := hJ
    refine CW.ret ?_
    obtain rfl := Option.some.inj hm
    exact RR1 rfl f23 ⟨rfl, hL.fresh 1 rfl [] (by decide) (by decide) rfl⟩

theorem M.impl_isFactor_ok (w0 : World) (a0 : Int) {r : Bool} (hm : M.impl_isFactor a0 = some r) :
    Calls Try.prog 56 #[(.int .i64 a0)] w0 fun e w' => e = .returned (.bool r) ∧ Fresh w0 w' [] := by
  unfold M.impl_isFactor at hm
  refine calls_CW (args := [(.int .i64 a0)]) Try.func56 rfl rfl rfl ?_
  have hL := Hp.start w0
  refine CW.seq ?_
  refine CW.regionL ?_
  refine OW.cons (OP.val (v := (.bool false)) rfl (x_assign) ?_)
  refine OW.nil ?_
  refine CW.seq ?_
  refine CW.regionL ?_
  refine OW.cons (OP.val (v := (.int .i64 a0)) rfl (x_move) ?_)
  obtain ⟨x1, hx2, hm⟩ := bndE hm
  refine OW.cons (OP.call rfl (x_call (vs := [(.int .i64 a0), (.int .i64 1), (.int .i64 3000)]) Try_C61 ⟨rfl, rfl, rfl, trivial⟩) (M.impl_within_ok _ a0 1 3000 hx2) ?_)
  rintro e3 wd4 ⟨rfl, hF5⟩
  refine ⟨_, rfl, ?_⟩
  have hL := hL.pushAll hF5
  simp only [List.cons_append, List.nil_append, List.set_cons_zero, List.set_cons_succ] at hL
  refine OW.cons (OP.val (v := (.bool x1)) rfl (x_assign) ?_)
  refine OW.nil ?_
  refine CW.ret ?_
  obtain rfl := Option.some.inj hm
  exact RR1 rfl rfl ⟨rfl, hL.fresh 0 rfl [] (by decide) (by decide) rfl⟩

theorem M.impl_progress_ok (w0 : World) (a0 : ProgressRules) (a1 : Int) (a2 : Int) {r : Int} (hm : M.impl_progress a0 a1 a2 = some r) :
    Calls Try.prog 57 #[(.agg #[(.int .i64 a0.Gain), (.int .i64 a0.Step), (.int .i64 a0.Low), (.int .i64 a0.High)]), (.int .i64 a1), (.int .i64 a2)] w0 fun e w' => e = .returned (.int .i64 r) ∧ Fresh w0 w' [] := by
  unfold M.impl_progress at hm
  refine calls_CW (args := [(.agg #[(.int .i64 a0.Gain), (.int .i64 a0.Step), (.int .i64 a0.Low), (.int .i64 a0.High)]), (.int .i64 a1), (.int .i64 a2)]) Try.func57 rfl rfl rfl ?_
  have hL := Hp.start w0
  refine CW.seq ?_
  refine CW.regionL ?_
  refine OW.cons (S_box (cs := #[(.int .i64 a0.Gain), (.int .i64 a0.Step), (.int .i64 a0.Low), (.int .i64 a0.High)]) hL rfl rfl rfl ?_)
  intro wd1 b2 hL
  refine OW.cons (OP.val (v := (.int .i64 0)) rfl (x_assign) ?_)
  refine OW.nil ?_
  refine CW.seq ?_
  refine CW.regionL ?_
  refine OW.cons (OP.val (v := (.pointer (some ⟨b2, 1, none⟩))) rfl (x_fieldAddr (fsz := 1) 0 1 1 Try.underlying25 rfl Try_T2 rfl rfl rfl) ?_)
  refine OW.cons (OP.val (v := (.int .i64 a0.Step)) rfl (x_load1 Try.underlying2 rfl rfl (hL.cellB 0 rfl rfl)) ?_)
  refine OW.cons (OP.val (v := (.int .i64 (w64 (0 - a0.Step)))) rfl (x_neg rfl) ?_)
  refine OW.cons (OP.val (v := (.pointer (some ⟨b2, 1, none⟩))) rfl (x_fieldAddr (fsz := 1) 0 1 1 Try.underlying25 rfl Try_T2 rfl rfl rfl) ?_)
  refine OW.cons (OP.val (v := (.int .i64 a0.Step)) rfl (x_load1 Try.underlying2 rfl rfl (hL.cellB 0 rfl rfl)) ?_)
  refine OW.cons (OP.val (v := (.pointer (some ⟨b2, 0, none⟩))) rfl (x_fieldAddr (fsz := 1) 0 0 0 Try.underlying25 rfl Try_T2 rfl rfl rfl) ?_)
  refine OW.cons (OP.val (v := (.int .i64 a0.Gain)) rfl (x_load1 Try.underlying2 rfl rfl (hL.cellB 0 rfl rfl)) ?_)
  refine OW.cons (OP.val (v := (.int .i64 a2)) rfl (x_move) ?_)
  refine OW.cons (OP.val (v := (.int .i64 a1)) rfl (x_move) ?_)
  refine OW.cons (OP.val (v := (.int .i64 (w64 (a2 - a1)))) rfl (x_sub rfl rfl) ?_)
  refine OW.cons (OP.val (v := (.int .i64 (w64 (a0.Gain * (w64 (a2 - a1)))))) rfl (x_mul rfl rfl) ?_)
  refine OW.cons (OP.val (v := (.int .i64 (w64 ((w64 (a0.Gain * (w64 (a2 - a1)))).tdiv 1000)))) rfl (x_quo rfl rfl (by decide)) ?_)
  refine OW.cons (OP.val (v := (.int .i64 (min a0.Step (w64 ((w64 (a0.Gain * (w64 (a2 - a1)))).tdiv 1000))))) rfl (x_min2 rfl rfl) ?_)
  refine OW.cons (OP.val (v := (.int .i64 (max (w64 (0 - a0.Step)) (min a0.Step (w64 ((w64 (a0.Gain * (w64 (a2 - a1)))).tdiv 1000)))))) rfl (x_max2 rfl rfl) ?_)
  refine OW.cons (OP.val (v := (.int .i64 (max (w64 (0 - a0.Step)) (min a0.Step (w64 ((w64 (a0.Gain * (w64 (a2 - a1)))).tdiv 1000)))))) rfl (x_assign) ?_)
  refine OW.nil ?_
  refine CW.seq ?_
  refine CW.regionL ?_
  refine OW.cons (OP.val (v := (.pointer (some ⟨b2, 2, none⟩))) rfl (x_fieldAddr (fsz := 1) 0 2 2 Try.underlying25 rfl Try_T2 rfl rfl rfl) ?_)
  refine OW.cons (OP.val (v := (.int .i64 a0.Low)) rfl (x_load1 Try.underlying2 rfl rfl (hL.cellB 0 rfl rfl)) ?_)
  refine OW.cons (OP.val (v := (.pointer (some ⟨b2, 3, none⟩))) rfl (x_fieldAddr (fsz := 1) 0 3 3 Try.underlying25 rfl Try_T2 rfl rfl rfl) ?_)
  refine OW.cons (OP.val (v := (.int .i64 a0.High)) rfl (x_load1 Try.underlying2 rfl rfl (hL.cellB 0 rfl rfl)) ?_)
  refine OW.cons (OP.val (v := (.int .i64 a1)) rfl (x_move) ?_)
  refine OW.cons (OP.val (v := (.int .i64 (max (w64 (0 - a0.Step)) (min a0.Step (w64 ((w64 (a0.Gain * (w64 (a2 - a1)))).tdiv 1000)))))) rfl (x_move) ?_)
  refine OW.cons (OP.val (v := (.int .i64 (w64 (a1 + (max (w64 (0 - a0.Step)) (min a0.Step (w64 ((w64 (a0.Gain * (w64 (a2 - a1)))).tdiv 1000)))))))) rfl (x_add rfl rfl) ?_)
  refine OW.cons (OP.val (v := (.int .i64 (min a0.High (w64 (a1 + (max (w64 (0 - a0.Step)) (min a0.Step (w64 ((w64 (a0.Gain * (w64 (a2 - a1)))).tdiv 1000))))))))) rfl (x_min2 rfl rfl) ?_)
  refine OW.cons (OP.val (v := (.int .i64 (max a0.Low (min a0.High (w64 (a1 + (max (w64 (0 - a0.Step)) (min a0.Step (w64 ((w64 (a0.Gain * (w64 (a2 - a1)))).tdiv 1000)))))))))) rfl (x_max2 rfl rfl) ?_)
  refine OW.cons (OP.val (v := (.int .i64 (max a0.Low (min a0.High (w64 (a1 + (max (w64 (0 - a0.Step)) (min a0.Step (w64 ((w64 (a0.Gain * (w64 (a2 - a1)))).tdiv 1000)))))))))) rfl (x_assign) ?_)
  refine OW.nil ?_
  refine CW.ret ?_
  obtain rfl := Option.some.inj hm
  exact RR1 rfl rfl ⟨rfl, hL.fresh 1 rfl [] (by decide) (by decide) rfl⟩

theorem M.impl_ProgressFactor_ok (w0 : World) (a0 : ProgressRules) (a1 : Int) (a2 : Int) {r : Int × Int} (hm : M.impl_ProgressFactor a0 a1 a2 = some r) :
    Calls Try.prog 15 #[(.agg #[(.int .i64 a0.Gain), (.int .i64 a0.Step), (.int .i64 a0.Low), (.int .i64 a0.High)]), (.int .i64 a1), (.int .i64 a2)] w0 fun e w' => e = .returned (.tuple #[(.int .i64 r.1), (.int .i64 r.2)]) ∧ Fresh w0 w' [] := by
  unfold M.impl_ProgressFactor at hm
  refine calls_CW (args := [(.agg #[(.int .i64 a0.Gain), (.int .i64 a0.Step), (.int .i64 a0.Low), (.int .i64 a0.High)]), (.int .i64 a1), (.int .i64 a2)]) Try.func15 rfl rfl rfl ?_
  have hL := Hp.start w0
  refine CW.seq ?_
  refine CW.regionL ?_
  refine OW.cons (S_box (cs := #[(.int .i64 a0.Gain), (.int .i64 a0.Step), (.int .i64 a0.Low), (.int .i64 a0.High)]) hL rfl rfl rfl ?_)
  intro wd1 b2 hL
  refine OW.cons (OP.val (v := (.int .i64 0)) rfl (x_assign) ?_)
  refine OW.cons (OP.val (v := (.int .i64 0)) rfl (x_assign) ?_)
  refine OW.nil ?_
  refine CW.seq ?_
  refine CW.seq ?_
  refine CW.regionL ?_
  refine OW.cons (OP.val (v := (.agg #[(.int .i64 a0.Gain), (.int .i64 a0.Step), (.int .i64 a0.Low), (.int .i64 a0.High)])) rfl (x_loadN (cs := [(.int .i64 a0.Gain), (.int .i64 a0.Step), (.int .i64 a0.Low), (.int .i64 a0.High)]) Try.underlying25 Try_T25 rfl rfl (hL.cellsB 0 rfl (o := 0) (l := [(.int .i64 a0.Gain), (.int .i64 a0.Step), (.int .i64 a0.Low), (.int .i64 a0.High)]) (by intro j u hj; exact (by simpa using hj)))) ?_)
  obtain ⟨x3, hx4, hm⟩ := bndE hm
  refine OW.cons (OP.call rfl (x_call (vs := [(.agg #[(.int .i64 a0.Gain), (.int .i64 a0.Step), (.int .i64 a0.Low), (.int .i64 a0.High)])]) Try_C17 ⟨rfl, trivial⟩) (M.impl_IsProgress_ok _ a0 hx4) ?_)
  rintro e5 wd6 ⟨rfl, hF7⟩
  refine ⟨_, rfl, ?_⟩
  have hL := hL.pushAll hF7
  simp only [List.cons_append, List.nil_append, List.set_cons_zero, List.set_cons_succ] at hL
  refine OW.cons (OP.val (v := (.bool (!x3))) rfl (x_not rfl) ?_)
  refine OW.nil ?_
  refine CW.condM (t := !x3) rfl hm (fun hb8 hm => ?_) (fun hb8 hm => ?_)
  · refine CW.seq ?_
    refine CW.regionL ?_
    refine OW.cons (OP.val (v := (.int .i64 0)) rfl (x_assign) ?_)
    refine OW.cons (OP.val (v := (.int .i64 1)) rfl (x_assign) ?_)
    refine OW.nil ?_
    refine CW.ret ?_
    obtain rfl := Option.some.inj hm
    exact RR2 rfl rfl rfl ⟨rfl, hL.fresh 1 rfl [] (by decide) (by decide) rfl⟩
  · refine CW.skip ?_
    refine CW.seq ?_
    refine CW.seqJ (fun (s_j1 : Bool) (F : Fr) (w : World) => F 1 = (.int .i64 a1) ∧ F 2 = (.int .i64 a2) ∧ F 3 = (.pointer (some ⟨b2, 0, none⟩)) ∧ F 18 = (.bool s_j1) ∧ Hp w0 [Ent.blk b2 25 #[(.int .i64 a0.Gain), (.int .i64 a0.Step), (.int .i64 a0.Low), (.int .i64 a0.High)], Ent.snap w0 w0.heap.size] w) (fun s_j1 => M.impl_ProgressFactor_j1 a0 a1 a2 s_j1 = some r) ?_ ?_
    · refine CW.regionL ?_
      refine OW.cons (OP.val (v := (.int .i64 a1)) rfl (x_move) ?_)
      obtain ⟨x32, hx33, hm⟩ := bndE hm
      refine OW.cons (OP.call rfl (x_call (vs := [(.int .i64 a1)]) Try_C56 ⟨rfl, trivial⟩) (M.impl_isFactor_ok _ a1 hx33) ?_)
      rintro e34 wd35 ⟨rfl, hF36⟩
      refine ⟨_, rfl, ?_⟩
      have hL := hL.pushAll hF36
      simp only [List.cons_append, List.nil_append, List.set_cons_zero, List.set_cons_succ] at hL
      refine OW.cons (OP.val (v := (.bool (!x32))) rfl (x_not rfl) ?_)
      refine OW.cons (OP.val (v := (.bool (!x32))) rfl (x_move) ?_)
      refine ifB_elim hm (fun hb37 hm => ?_) (fun hb37 hm => ?_)
      · refine OW.cons (OP.no' rfl rfl hb37 rfl ?_)
        refine OW.cons (OP.no' rfl rfl hb37 rfl ?_)
        refine OW.cons (OP.no' rfl rfl hb37 rfl ?_)
        refine OW.cons (OP.val (v := (.bool true)) rfl (x_pickT' rfl hb37 rfl) ?_)
        refine OW.nil ?_
        exact ⟨true, hm, ⟨rfl, rfl, rfl, rfl, hL⟩⟩
      · refine OW.cons (OP.yes' rfl rfl hb37 (OP.val (v := (.int .i64 a2)) rfl (x_move) ?_))
        obtain ⟨x38, hx39, hm⟩ := bndE hm
        refine OW.cons (OP.yes' rfl rfl hb37 (OP.call rfl (x_call (vs := [(.int .i64 a2)]) Try_C56 ⟨rfl, trivial⟩) (M.impl_isFactor_ok _ a2 hx39) ?_))
        rintro e40 wd41 ⟨rfl, hF42⟩
        refine ⟨_, rfl, ?_⟩
        have hL := hL.pushAll hF42
        simp only [List.cons_append, List.nil_append, List.set_cons_zero, List.set_cons_succ] at hL
        refine OW.cons (OP.yes' rfl rfl hb37 (OP.val (v := (.bool (!x38))) rfl (x_not rfl) ?_))
        refine OW.cons (OP.val (v := (.bool (!x38))) rfl (x_pickF' rfl hb37 rfl) ?_)
        refine OW.nil ?_
        exact ⟨!x38, hm, ⟨rfl, rfl, rfl, rfl, hL⟩⟩
    · intro s_j1 F20 wd21 hJ hm
      unfold M.impl_ProgressFactor_j1 at hm
      obtain ⟨f22, f23, f24, f25, hL⟩ := hJ
      refine CW.condM (t := s_j1) f25 hm (fun hb26 hm => ?_) (fun hb26 hm => ?_)
      · refine CW.seq ?_
        refine CW.regionL ?_
        refine OW.cons (OP.val (v := (.int .i64 0)) rfl (x_assign) ?_)
        refine OW.cons (OP.val (v := (.int .i64 2)) rfl (x_assign) ?_)
        refine OW.nil ?_
        refine CW.ret ?_
        obtain rfl := Option.some.inj hm
        exact RR2 rfl rfl rfl ⟨rfl, hL.fresh 1 rfl [] (by decide) (by decide) rfl⟩
      · refine CW.skip ?_
        refine CW.seq ?_
        refine CW.regionL ?_
        refine OW.cons (OP.val (v := (.agg #[(.int .i64 a0.Gain), (.int .i64 a0.Step), (.int .i64 a0.Low), (.int .i64 a0.High)])) rfl (x_loadN (cs := [(.int .i64 a0.Gain), (.int .i64 a0.Step), (.int .i64 a0.Low), (.int .i64 a0.High)]) Try.underlying25 Try_T25 rfl f24 (hL.cellsB 0 rfl (o := 0) (l := [(.int .i64 a0.Gain), (.int .i64 a0.Step), (.int .i64 a0.Low), (.int .i64 a0.High)]) (by intro j u hj; exact (by simpa using hj)))) ?_)
        refine OW.cons (OP.val (v := (.int .i64 a1)) rfl (x_mv f22) ?_)
        refine OW.cons (OP.val (v := (.int .i64 a2)) rfl (x_mv f23) ?_)
        obtain ⟨x27, hx28, hm⟩ := bndE hm
        refine OW.cons (OP.call rfl (x_call (vs := [(.agg #[(.int .i64 a0.Gain), (.int .i64 a0.Step), (.int .i64 a0.Low), (.int .i64 a0.High)]), (.int .i64 a1), (.int .i64 a2)]) Try_C57 ⟨rfl, rfl, rfl, trivial⟩) (M.impl_progress_ok _ a0 a1 a2 hx28) ?_)
        rintro e29 wd30 ⟨rfl, hF31⟩
        refine ⟨_, rfl, ?_⟩
        have hL := hL.pushAll hF31
        simp only [List.cons_append, List.nil_append, List.set_cons_zero, List.set_cons_succ] at hL
        refine OW.cons (OP.val (v := (.int .i64 x27)) rfl (x_assign) ?_)
        refine OW.cons (OP.val (v := (.int .i64 0)) rfl (x_assign) ?_)
        refine OW.nil ?_
        refine CW.ret ?_
        obtain rfl := Option.some.inj hm
        exact RR2 rfl rfl rfl ⟨rfl, hL.fresh 1 rfl [] (by decide) (by decide) rfl⟩

theorem M.spec_l01In_ok (w0 : World) (a0 : Int) (a1 : Int) (a2 : Int) {r : Bool} (hm : M.spec_l01In a0 a1 a2 = some r) :
    Calls Try.prog 84 #[(.int .i64 a0), (.int .i64 a1), (.int .i64 a2)] w0 fun e w' => e = .returned (.bool r) ∧ Fresh w0 w' [] := by
  unfold M.spec_l01In at hm
  refine calls_CW (args := [(.int .i64 a0), (.int .i64 a1), (.int .i64 a2)]) Try.func84 rfl rfl rfl ?_
  have hL := Hp.start w0
  refine CW.seq ?_
  refine CW.regionL ?_
  refine OW.cons (OP.val (v := (.bool false)) rfl (x_assign) ?_)
  refine OW.nil ?_
  refine CW.seqJ (fun (s_j1 : Bool) (F : Fr) (w : World) => F 6 = (.bool s_j1) ∧ Hp w0 [Ent.snap w0 w0.heap.size] w) (fun s_j1 => M.spec_l01In_j1 s_j1 = some r) ?_ ?_
  · refine CW.regionL ?_
    refine OW.cons (OP.val (v := (.int .i64 a0)) rfl (x_move) ?_)
    refine OW.cons (OP.val (v := (.int .i64 a1)) rfl (x_move) ?_)
    refine OW.cons (OP.val (v := (.bool (decide (a1 ≤ a0)))) rfl (x_geq rfl rfl) ?_)
    refine OW.cons (OP.val (v := (.bool (decide (a1 ≤ a0)))) rfl (x_move) ?_)
    refine ifB_elim hm (fun hb5 hm => ?_) (fun hb5 hm => ?_)
    · refine OW.cons (OP.yes' rfl rfl hb5 (OP.val (v := (.int .i64 a0)) rfl (x_move) ?_))
      refine OW.cons (OP.yes' rfl rfl hb5 (OP.val (v := (.int .i64 a2)) rfl (x_move) ?_))
      refine OW.cons (OP.yes' rfl rfl hb5 (OP.val (v := (.bool (decide (a0 ≤ a2)))) rfl (x_leq rfl rfl) ?_))
      refine OW.cons (OP.val (v := (.bool (decide (a0 ≤ a2)))) rfl (x_pickT' rfl hb5 rfl) ?_)
      refine OW.cons (OP.val (v := (.bool (decide (a0 ≤ a2)))) rfl (x_assign) ?_)
      refine OW.nil ?_
      exact ⟨decide (a0 ≤ a2), hm, ⟨rfl, hL⟩⟩
    · refine OW.cons (OP.no' rfl rfl hb5 rfl ?_)
      refine OW.cons (OP.no' rfl rfl hb5 rfl ?_)
      refine OW.cons (OP.no' rfl rfl hb5 rfl ?_)
      refine OW.cons (OP.val (v := (.bool false)) rfl (x_pickF' rfl hb5 rfl) ?_)
      refine OW.cons (OP.val (v := (.bool false)) rfl (x_assign) ?_)
      refine OW.nil ?_
      exact ⟨false, hm, ⟨rfl, hL⟩⟩
  · intro s_j1 F2 wd3 hJ hm
    unfold M.spec_l01In_j1 at hm
    obtain ⟨f4, hL⟩ := hJ
    refine CW.ret ?_
    obtain rfl := Option.some.inj hm
    exact RR1 rfl f4 ⟨rfl, hL.fresh 0 rfl [] (by decide) (by decide) rfl⟩

theorem M.spec_l22Factor_ok (w0 : World) (a0 : Int) {r : Bool} (hm : M.spec_l22Factor a0 = some r) :
    Calls Try.prog 59 #[(.int .i64 a0)] w0 fun e w' => e = .returned (.bool r) ∧ Fresh w0 w' [] := by
  unfold M.spec_l22Factor at hm
  refine calls_CW (args := [(.int .i64 a0)]) Try.func59 rfl rfl rfl ?_
  have hL := Hp.start w0
  refine CW.seq ?_
  refine CW.regionL ?_
  refine OW.cons (OP.val (v := (.bool false)) rfl (x_assign) ?_)
  refine OW.nil ?_
  refine CW.seq ?_
  refine CW.regionL ?_
  refine OW.cons (OP.val (v := (.int .i64 a0)) rfl (x_move) ?_)
  obtain ⟨x1, hx2, hm⟩ := bndE hm
  refine OW.cons (OP.call rfl (x_call (vs := [(.int .i64 a0), (.int .i64 1), (.int .i64 3000)]) Try_C84 ⟨rfl, rfl, rfl, trivial⟩) (M.spec_l01In_ok _ a0 1 3000 hx2) ?_)
  rintro e3 wd4 ⟨rfl, hF5⟩
  refine ⟨_, rfl, ?_⟩
  have hL := hL.pushAll hF5
  simp only [List.cons_append, List.nil_append, List.set_cons_zero, List.set_cons_succ] at hL
  refine OW.cons (OP.val (v := (.bool x1)) rfl (x_assign) ?_)
  refine OW.nil ?_
  refine CW.ret ?_
  obtain rfl := Option.some.inj hm
  exact RR1 rfl rfl ⟨rfl, hL.fresh 0 rfl [] (by decide) (by decide) rfl⟩

theorem M.spec_IsProgress_ok (w0 : World) (a0 : ProgressRules) {r : Bool} (hm : M.spec_IsProgress a0 = some r) :
    Calls Try.prog 58 #[(.agg #[(.int .i64 a0.Gain), (.int .i64 a0.Step), (.int .i64 a0.Low), (.int .i64 a0.High)])] w0 fun e w' => e = .returned (.bool r) ∧ Fresh w0 w' [] := by
  unfold M.spec_IsProgress at hm
  refine calls_CW (args := [(.agg #[(.int .i64 a0.Gain), (.int .i64 a0.Step), (.int .i64 a0.Low), (.int .i64 a0.High)])]) Try.func58 rfl rfl rfl ?_
  have hL := Hp.start w0
  refine CW.seq ?_
  refine CW.regionL ?_
  refine OW.cons (S_box (cs := #[(.int .i64 a0.Gain), (.int .i64 a0.Step), (.int .i64 a0.Low), (.int .i64 a0.High)]) hL rfl rfl rfl ?_)
  intro wd1 b2 hL
  refine OW.cons (OP.val (v := (.bool false)) rfl (x_assign) ?_)
  refine OW.nil ?_
  refine CW.seqJ (fun (s_j1 : Bool) (F : Fr) (w : World) => F 2 = (.bool s_j1) ∧ Hp w0 [Ent.blk b2 25 #[(.int .i64 a0.Gain), (.int .i64 a0.Step), (.int .i64 a0.Low), (.int .i64 a0.High)], Ent.snap w0 w0.heap.size] w) (fun s_j1 => M.spec_IsProgress_j1 s_j1 = some r) ?_ ?_
  · refine CW.regionL ?_
    refine OW.cons (OP.val (v := (.pointer (some ⟨b2, 0, none⟩))) rfl (x_fieldAddr (fsz := 1) 0 0 0 Try.underlying25 rfl Try_T2 rfl rfl rfl) ?_)
    refine OW.cons (OP.val (v := (.int .i64 a0.Gain)) rfl (x_load1 Try.underlying2 rfl rfl (hL.cellB 0 rfl rfl)) ?_)
    obtain ⟨x30, hx31, hm⟩ := bndE hm
    refine OW.cons (OP.call rfl (x_call (vs := [(.int .i64 a0.Gain), (.int .i64 0), (.int .i64 1000)]) Try_C84 ⟨rfl, rfl, rfl, trivial⟩) (M.spec_l01In_ok _ a0.Gain 0 1000 hx31) ?_)
    rintro e32 wd33 ⟨rfl, hF34⟩
    refine ⟨_, rfl, ?_⟩
    have hL := hL.pushAll hF34
    simp only [List.cons_append, List.nil_append, List.set_cons_zero, List.set_cons_succ] at hL
    refine OW.cons (OP.val (v := (.bool x30)) rfl (x_move) ?_)
    refine ifB_elim hm (fun hb35 hm => ?_) (fun hb35 hm => ?_)
    · refine OW.cons (OP.yes' rfl rfl hb35 (OP.val (v := (.pointer (some ⟨b2, 1, none⟩))) rfl (x_fieldAddr (fsz := 1) 0 1 1 Try.underlying25 rfl Try_T2 rfl rfl rfl) ?_))
      refine OW.cons (OP.yes' rfl rfl hb35 (OP.val (v := (.int .i64 a0.Step)) rfl (x_load1 Try.underlying2 rfl rfl (hL.cellB 0 rfl rfl)) ?_))
      obtain ⟨x36, hx37, hm⟩ := bndE hm
      refine OW.cons (OP.yes' rfl rfl hb35 (OP.call rfl (x_call (vs := [(.int .i64 a0.Step), (.int .i64 0), (.int .i64 3000)]) Try_C84 ⟨rfl, rfl, rfl, trivial⟩) (M.spec_l01In_ok _ a0.Step 0 3000 hx37) ?_))
      rintro e38 wd39 ⟨rfl, hF40⟩
      refine ⟨_, rfl, ?_⟩
      have hL := hL.pushAll hF40
      simp only [List.cons_append, List.nil_append, List.set_cons_zero, List.set_cons_succ] at hL
      refine OW.cons (OP.val (v := (.bool x36)) rfl (x_pickT' rfl hb35 rfl) ?_)
      refine OW.cons (OP.val (v := (.bool x36)) rfl (x_move) ?_)
      refine ifB_elim hm (fun hb41 hm => ?_) (fun hb41 hm => ?_)
      · refine OW.cons (OP.yes' rfl rfl hb41 (OP.val (v := (.pointer (some ⟨b2, 2, none⟩))) rfl (x_fieldAddr (fsz := 1) 0 2 2 Try.underlying25 rfl Try_T2 rfl rfl rfl) ?_))
        refine OW.cons (OP.yes' rfl rfl hb41 (OP.val (v := (.int .i64 a0.Low)) rfl (x_load1 Try.underlying2 rfl rfl (hL.cellB 0 rfl rfl)) ?_))
        obtain ⟨x42, hx43, hm⟩ := bndE hm
        refine OW.cons (OP.yes' rfl rfl hb41 (OP.call rfl (x_call (vs := [(.int .i64 a0.Low)]) Try_C59 ⟨rfl, trivial⟩) (M.spec_l22Factor_ok _ a0.Low hx43) ?_))
        rintro e44 wd45 ⟨rfl, hF46⟩
        refine ⟨_, rfl, ?_⟩
        have hL := hL.pushAll hF46
        simp only [List.cons_append, List.nil_append, List.set_cons_zero, List.set_cons_succ] at hL
        refine OW.cons (OP.val (v := (.bool x42)) rfl (x_pickT' rfl hb41 rfl) ?_)
        refine OW.cons (OP.val (v := (.bool x42)) rfl (x_move) ?_)
        refine ifB_elim hm (fun hb47 hm => ?_) (fun hb47 hm => ?_)
        · refine OW.cons (OP.yes' rfl rfl hb47 (OP.val (v := (.pointer (some ⟨b2, 3, none⟩))) rfl (x_fieldAddr (fsz := 1) 0 3 3 Try.underlying25 rfl Try_T2 rfl rfl rfl) ?_))
          refine OW.cons (OP.yes' rfl rfl hb47 (OP.val (v := (.int .i64 a0.High)) rfl (x_load1 Try.underlying2 rfl rfl (hL.cellB 0 rfl rfl)) ?_))
          obtain ⟨x48, hx49, hm⟩ := bndE hm
          refine OW.cons (OP.yes' rfl rfl hb47 (OP.call rfl (x_call (vs := [(.int .i64 a0.High)]) Try_C59 ⟨rfl, trivial⟩) (M.spec_l22Factor_ok _ a0.High hx49) ?_))
          rintro e50 wd51 ⟨rfl, hF52⟩
          refine ⟨_, rfl, ?_⟩
          have hL := hL.pushAll hF52
          simp only [List.cons_append, List.nil_append, List.set_cons_zero, List.set_cons_succ] at hL
          refine OW.cons (OP.val (v := (.bool x48)) rfl (x_pickT' rfl hb47 rfl) ?_)
          refine OW.cons (OP.val (v := (.bool x48)) rfl (x_move) ?_)
          refine ifB_elim hm (fun hb53 hm => ?_) (fun hb53 hm => ?_)
          · refine OW.cons (OP.yes' rfl rfl hb53 (OP.val (v := (.pointer (some ⟨b2, 2, none⟩))) rfl (x_fieldAddr (fsz := 1) 0 2 2 Try.underlying25 rfl Try_T2 rfl rfl rfl) ?_))
            refine OW.cons (OP.yes' rfl rfl hb53 (OP.val (v := (.int .i64 a0.Low)) rfl (x_load1 Try.underlying2 rfl rfl (hL.cellB 0 rfl rfl)) ?_))
            refine OW.cons (OP.yes' rfl rfl hb53 (OP.val (v := (.pointer (some ⟨b2, 3, none⟩))) rfl (x_fieldAddr (fsz := 1) 0 3 3 Try.underlying25 rfl Try_T2 rfl rfl rfl) ?_))
            refine OW.cons (OP.yes' rfl rfl hb53 (OP.val (v := (.int .i64 a0.High)) rfl (x_load1 Try.underlying2 rfl rfl (hL.cellB 0 rfl rfl)) ?_))
            refine OW.cons (OP.yes' rfl rfl hb53 (OP.val (v := (.bool (decide (a0.Low ≤ a0.High)))) rfl (x_leq rfl rfl) ?_))
            refine OW.cons (OP.val (v := (.bool (decide (a0.Low ≤ a0.High)))) rfl (x_pickT' rfl hb53 rfl) ?_)
            refine OW.cons (OP.val (v := (.bool (decide (a0.Low ≤ a0.High)))) rfl (x_assign) ?_)
            refine OW.nil ?_
            exact ⟨decide (a0.Low ≤ a0.High), hm, ⟨rfl, hL⟩⟩
          · refine OW.cons (OP.no' rfl rfl hb53 rfl ?_)
            refine OW.cons (OP.no' rfl rfl hb53 rfl ?_)
            refine OW.cons (OP.no' rfl rfl hb53 rfl ?_)
            refine OW.cons (OP.no' rfl rfl hb53 rfl ?_)
            refine OW.cons (OP.no' rfl rfl hb53 rfl ?_)
            refine OW.cons (OP.val (v := (.bool false)) rfl (x_pickF' rfl hb53 rfl) ?_)
            refine OW.cons (OP.val (v := (.bool false)) rfl (x_assign) ?_)
            refine OW.nil ?_
            exact ⟨false, hm, ⟨rfl, hL⟩⟩
        · refine OW.cons (OP.no' rfl rfl hb47 rfl ?_)
          refine OW.cons (OP.no' rfl rfl hb47 rfl ?_)
          refine OW.cons (OP.no' rfl rfl hb47 rfl ?_)
          refine OW.cons (OP.val (v := (.bool false)) rfl (x_pickF' rfl hb47 rfl) ?_)
          refine OW.cons (OP.val (v := (.bool false)) rfl (x_move) ?_)
          refine OW.cons (OP.no' rfl rfl rfl rfl ?_)
          refine OW.cons (OP.no' rfl rfl rfl rfl ?_)
          refine OW.cons (OP.no' rfl rfl rfl rfl ?_)
          refine OW.cons (OP.no' rfl rfl rfl rfl ?_)
          refine OW.cons (OP.no' rfl rfl rfl rfl ?_)
          refine OW.cons (OP.val (v := (.bool false)) rfl (x_pickF' rfl rfl rfl) ?_)
          refine OW.cons (OP.val (v := (.bool false)) rfl (x_assign) ?_)
          refine OW.nil ?_
          exact ⟨false, hm, ⟨rfl, hL⟩⟩
      · refine OW.cons (OP.no' rfl rfl hb41 rfl ?_)
        refine OW.cons (OP.no' rfl rfl hb41 rfl ?_)
        refine OW.cons (OP.no' rfl rfl hb41 rfl ?_)
        refine OW.cons (OP.val (v := (.bool false)) rfl (x_pickF' rfl hb41 rfl) ?_)
        refine OW.cons (OP.val (v := (.bool false)) rfl (x_move) ?_)
        refine OW.cons (OP.no' rfl rfl rfl rfl ?_)
        refine OW.cons (OP.no' rfl rfl rfl rfl ?_)
        refine OW.cons (OP.no' rfl rfl rfl rfl ?_)
        refine OW.cons (OP.val (v := (.bool false)) rfl (x_pickF' rfl rfl rfl) ?_)
        refine OW.cons (OP.val (v := (.bool false)) rfl (x_move) ?_)
        refine OW.cons (OP.no' rfl rfl rfl rfl ?_)
        refine OW.cons (OP.no' rfl rfl rfl rfl ?_)
        refine OW.cons (OP.no' rfl rfl rfl rfl ?_)
        refine OW.cons (OP.no' rfl rfl rfl rfl ?_)
        refine OW.cons (OP.no' rfl rfl rfl rfl ?_)
        refine OW.cons (OP.val (v := (.bool false)) rfl (x_pickF' rfl rfl rfl) ?_)
        refine OW.cons (OP.val (v := (.bool false)) rfl (x_assign) ?_)
        refine OW.nil ?_
        exact ⟨false, hm, ⟨rfl, hL⟩⟩
    · refine OW.cons (OP.no' rfl rfl hb35 rfl ?_)
      refine OW.cons (OP.no' rfl rfl hb35 rfl ?_)
      refine OW.cons (OP.no' rfl rfl hb35 rfl ?_)
      refine OW.cons (OP.val (v := (.bool false)) rfl (x_pickF' rfl hb35 rfl) ?_)
      refine OW.cons (OP.val (v := (.bool false)) rfl (x_move) ?_)
      refine OW.cons (OP.no' rfl rfl rfl rfl ?_)
      refine OW.cons (OP.no' rfl rfl rfl rfl ?_)
      refine OW.cons (OP.no' rfl rfl rfl rfl ?_)
      refine OW.cons (OP.val (v := (.bool false)) rfl (x_pickF' rfl rfl rfl) ?_)
      refine OW.cons (OP.val (v := (.bool false)) rfl (x_move) ?_)
      refine OW.cons (OP.no' rfl rfl rfl rfl ?_)
      refine OW.cons (OP.no' rfl rfl rfl rfl ?_)
      refine OW.cons (OP.no' rfl rfl rfl rfl ?_)
      refine OW.cons (OP.val (v := (.bool false)) rfl (x_pickF' rfl rfl rfl) ?_)
      refine OW.cons (OP.val (v := (.bool false)) rfl (x_move) ?_)
      refine OW.cons (OP.no' rfl rfl rfl rfl ?_)
      refine OW.cons (OP.no' rfl rfl rfl rfl ?_)
      refine OW.cons (OP.no' rfl rfl rfl rfl ?_)
      refine OW.cons (OP.no' rfl rfl rfl rfl ?_)
      refine OW.cons (OP.no' rfl rfl rfl rfl ?_)
      refine OW.cons (OP.val (v := (.bool false)) rfl (x_pickF' rfl rfl rfl) ?_)
      refine OW.cons (OP.val (v := (.bool false)) rfl (x_assign) ?_)
      refine OW.nil ?_
      exact ⟨false, hm, ⟨rfl, hL⟩⟩
  · intro s_j1 F27 wd28 hJ hm
    unfold M.spec_IsProgress_j1 at hm
    obtain ⟨f29, hL⟩ := hJ
    refine CW.ret ?_
    obtain rfl := Option.some.inj hm
    exact RR1 rfl f29 ⟨rfl, hL.fresh 1 rfl [] (by decide) (by decide) rfl⟩

theorem M.spec_l25New_ok (w0 : World) (a0 : ProgressRules) (a1 : Int) (a2 : Int) {r : Int} (hm : M.spec_l25New a0 a1 a2 = some r) :
    Calls Try.prog 60 #[(.agg #[(.int .i64 a0.Gain), (.int .i64 a0.Step), (.int .i64 a0.Low), (.int .i64 a0.High)]), (.int .i64 a1), (.int .i64 a2)] w0 fun e w' => e = .returned (.int .i64 r) ∧ Fresh w0 w' [] := by
  unfold M.spec_l25New at hm
  refine calls_CW (args := [(.agg #[(.int .i64 a0.Gain), (.int .i64 a0.Step), (.int .i64 a0.Low), (.int .i64 a0.High)]), (.int .i64 a1), (.int .i64 a2)]) Try.func60 rfl rfl rfl ?_
  have hL := Hp.start w0
  refine CW.seq ?_
  refine CW.regionL ?_
  refine OW.cons (S_box (cs := #[(.int .i64 a0.Gain), (.int .i64 a0.Step), (.int .i64 a0.Low), (.int .i64 a0.High)]) hL rfl rfl rfl ?_)
  intro wd1 b2 hL
  refine OW.cons (OP.val (v := (.int .i64 0)) rfl (x_assign) ?_)
  refine OW.nil ?_
  refine CW.seq ?_
  refine CW.regionL ?_
  refine OW.cons (OP.val (v := (.pointer (some ⟨b2, 1, none⟩))) rfl (x_fieldAddr (fsz := 1) 0 1 1 Try.underlying25 rfl Try_T2 rfl rfl rfl) ?_)
  refine OW.cons (OP.val (v := (.int .i64 a0.Step)) rfl (x_load1 Try.underlying2 rfl rfl (hL.cellB 0 rfl rfl)) ?_)
  refine OW.cons (OP.val (v := (.int .i64 (w64 (0 - a0.Step)))) rfl (x_neg rfl) ?_)
  refine OW.cons (OP.val (v := (.pointer (some ⟨b2, 1, none⟩))) rfl (x_fieldAddr (fsz := 1) 0 1 1 Try.underlying25 rfl Try_T2 rfl rfl rfl) ?_)
  refine OW.cons (OP.val (v := (.int .i64 a0.Step)) rfl (x_load1 Try.underlying2 rfl rfl (hL.cellB 0 rfl rfl)) ?_)
  refine OW.cons (OP.val (v := (.pointer (some ⟨b2, 0, none⟩))) rfl (x_fieldAddr (fsz := 1) 0 0 0 Try.underlying25 rfl Try_T2 rfl rfl rfl) ?_)
  refine OW.cons (OP.val (v := (.int .i64 a0.Gain)) rfl (x_load1 Try.underlying2 rfl rfl (hL.cellB 0 rfl rfl)) ?_)
  refine OW.cons (OP.val (v := (.int .i64 a2)) rfl (x_move) ?_)
  refine OW.cons (OP.val (v := (.int .i64 a1)) rfl (x_move) ?_)
  refine OW.cons (OP.val (v := (.int .i64 (w64 (a2 - a1)))) rfl (x_sub rfl rfl) ?_)
  refine OW.cons (OP.val (v := (.int .i64 (w64 (a0.Gain * (w64 (a2 - a1)))))) rfl (x_mul rfl rfl) ?_)
  refine OW.cons (OP.val (v := (.int .i64 (w64 ((w64 (a0.Gain * (w64 (a2 - a1)))).tdiv 1000)))) rfl (x_quo rfl rfl (by decide)) ?_)
  refine OW.cons (OP.val (v := (.int .i64 (min a0.Step (w64 ((w64 (a0.Gain * (w64 (a2 - a1)))).tdiv 1000))))) rfl (x_min2 rfl rfl) ?_)
  refine OW.cons (OP.val (v := (.int .i64 (max (w64 (0 - a0.Step)) (min a0.Step (w64 ((w64 (a0.Gain * (w64 (a2 - a1)))).tdiv 1000)))))) rfl (x_max2 rfl rfl) ?_)
  refine OW.cons (OP.val (v := (.int .i64 (max (w64 (0 - a0.Step)) (min a0.Step (w64 ((w64 (a0.Gain * (w64 (a2 - a1)))).tdiv 1000)))))) rfl (x_assign) ?_)
  refine OW.nil ?_
  refine CW.seq ?_
  refine CW.regionL ?_
  refine OW.cons (OP.val (v := (.pointer (some ⟨b2, 2, none⟩))) rfl (x_fieldAddr (fsz := 1) 0 2 2 Try.underlying25 rfl Try_T2 rfl rfl rfl) ?_)
  refine OW.cons (OP.val (v := (.int .i64 a0.Low)) rfl (x_load1 Try.underlying2 rfl rfl (hL.cellB 0 rfl rfl)) ?_)
  refine OW.cons (OP.val (v := (.pointer (some ⟨b2, 3, none⟩))) rfl (x_fieldAddr (fsz := 1) 0 3 3 Try.underlying25 rfl Try_T2 rfl rfl rfl) ?_)
  refine OW.cons (OP.val (v := (.int .i64 a0.High)) rfl (x_load1 Try.underlying2 rfl rfl (hL.cellB 0 rfl rfl)) ?_)
  refine OW.cons (OP.val (v := (.int .i64 a1)) rfl (x_move) ?_)
  refine OW.cons (OP.val (v := (.int .i64 (max (w64 (0 - a0.Step)) (min a0.Step (w64 ((w64 (a0.Gain * (w64 (a2 - a1)))).tdiv 1000)))))) rfl (x_move) ?_)
  refine OW.cons (OP.val (v := (.int .i64 (w64 (a1 + (max (w64 (0 - a0.Step)) (min a0.Step (w64 ((w64 (a0.Gain * (w64 (a2 - a1)))).tdiv 1000)))))))) rfl (x_add rfl rfl) ?_)
  refine OW.cons (OP.val (v := (.int .i64 (min a0.High (w64 (a1 + (max (w64 (0 - a0.Step)) (min a0.Step (w64 ((w64 (a0.Gain * (w64 (a2 - a1)))).tdiv 1000))))))))) rfl (x_min2 rfl rfl) ?_)
  refine OW.cons (OP.val (v := (.int .i64 (max a0.Low (min a0.High (w64 (a1 + (max (w64 (0 - a0.Step)) (min a0.Step (w64 ((w64 (a0.Gain * (w64 (a2 - a1)))).tdiv 1000)))))))))) rfl (x_max2 rfl rfl) ?_)
  refine OW.cons (OP.val (v := (.int .i64 (max a0.Low (min a0.High (w64 (a1 + (max (w64 (0 - a0.Step)) (min a0.Step (w64 ((w64 (a0.Gain * (w64 (a2 - a1)))).tdiv 1000)))))))))) rfl (x_assign) ?_)
  refine OW.nil ?_
  refine CW.ret ?_
  obtain rfl := Option.some.inj hm
  exact RR1 rfl rfl ⟨rfl, hL.fresh 1 rfl [] (by decide) (by decide) rfl⟩

theorem M.spec_ProgressFactor_ok (w0 : World) (a0 : ProgressRules) (a1 : Int) (a2 : Int) {r : Int × Int} (hm : M.spec_ProgressFactor a0 a1 a2 = some r) :
    Calls Try.prog 16 #[(.agg #[(.int .i64 a0.Gain), (.int .i64 a0.Step), (.int .i64 a0.Low), (.int .i64 a0.High)]), (.int .i64 a1), (.int .i64 a2)] w0 fun e w' => e = .returned (.tuple #[(.int .i64 r.1), (.int .i64 r.2)]) ∧ Fresh w0 w' [] := by
  unfold M.spec_ProgressFactor at hm
  refine calls_CW (args := [(.agg #[(.int .i64 a0.Gain), (.int .i64 a0.Step), (.int .i64 a0.Low), (.int .i64 a0.High)]), (.int .i64 a1), (.int .i64 a2)]) Try.func16 rfl rfl rfl ?_
  have hL := Hp.start w0
  refine CW.seq ?_
  refine CW.regionL ?_
  refine OW.cons (S_box (cs := #[(.int .i64 a0.Gain), (.int .i64 a0.Step), (.int .i64 a0.Low), (.int .i64 a0.High)]) hL rfl rfl rfl ?_)
  intro wd1 b2 hL
  refine OW.cons (OP.val (v := (.int .i64 0)) rfl (x_assign) ?_)
  refine OW.cons (OP.val (v := (.int .i64 0)) rfl (x_assign) ?_)
  refine OW.nil ?_
  refine CW.seq ?_
  refine CW.seq ?_
  refine CW.regionL ?_
  refine OW.cons (OP.val (v := (.agg #[(.int .i64 a0.Gain), (.int .i64 a0.Step), (.int .i64 a0.Low), (.int .i64 a0.High)])) rfl (x_loadN (cs := [(.int .i64 a0.Gain), (.int .i64 a0.Step), (.int .i64 a0.Low), (.int .i64 a0.High)]) Try.underlying25 Try_T25 rfl rfl (hL.cellsB 0 rfl (o := 0) (l := [(.int .i64 a0.Gain), (.int .i64 a0.Step), (.int .i64 a0.Low), (.int .i64 a0.High)]) (by intro j u hj; exact (by simpa using hj)))) ?_)
  obtain ⟨x3, hx4, hm⟩ := bndE hm
  refine OW.cons (OP.call rfl (x_call (vs := [(.agg #[(.int .i64 a0.Gain), (.int .i64 a0.Step), (.int .i64 a0.Low), (.int .i64 a0.High)])]) Try_C58 ⟨rfl, trivial⟩) (M.spec_IsProgress_ok _ a0 hx4) ?_)
  rintro e5 wd6 ⟨rfl, hF7⟩
  refine ⟨_, rfl, ?_⟩
  have hL := hL.pushAll hF7
  simp only [List.cons_append, List.nil_append, List.set_cons_zero, List.set_cons_succ] at hL
  refine OW.cons (OP.val (v := (.bool (!x3))) rfl (x_not rfl) ?_)
  refine OW.nil ?_
  refine CW.condM (t := !x3) rfl hm (fun hb8 hm => ?_) (fun hb8 hm => ?_)
  · refine CW.seq ?_
    refine CW.regionL ?_
    refine OW.cons (OP.val (v := (.int .i64 0)) rfl (x_assign) ?_)
    refine OW.cons (OP.val (v := (.int .i64 1)) rfl (x_assign) ?_)
    refine OW.nil ?_
    refine CW.ret ?_
    obtain rfl := Option.some.inj hm
    exact RR2 rfl rfl rfl ⟨rfl, hL.fresh 1 rfl [] (by decide) (by decide) rfl⟩
  · refine CW.skip ?_
    refine CW.seq ?_
    refine CW.seqJ (fun (s_j1 : Bool) (F : Fr) (w : World) => F 1 = (.int .i64 a1) ∧ F 2 = (.int .i64 a2) ∧ F 3 = (.pointer (some ⟨b2, 0, none⟩)) ∧ F 18 = (.bool s_j1) ∧ Hp w0 [Ent.blk b2 25 #[(.int .i64 a0.Gain), (.int .i64 a0.Step), (.int .i64 a0.Low), (.int .i64 a0.High)], Ent.snap w0 w0.heap.size] w) (fun s_j1 => M.spec_ProgressFactor_j1 a0 a1 a2 s_j1 = some r) ?_ ?_
    · refine CW.regionL ?_
      refine OW.cons (OP.val (v := (.int .i64 a1)) rfl (x_move) ?_)
      obtain ⟨x32, hx33, hm⟩ := bndE hm
      refine OW.cons (OP.call rfl (x_call (vs := [(.int .i64 a1)]) Try_C59 ⟨rfl, trivial⟩) (M.spec_l22Factor_ok _ a1 hx33) ?_)
      rintro e34 wd35 ⟨rfl, hF36⟩
      refine ⟨_, rfl, ?_⟩
      have hL := hL.pushAll hF36
      simp only [List.cons_append, List.nil_append, List.set_cons_zero, List.set_cons_succ] at hL
      refine OW.cons (OP.val (v := (.bool (!x32))) rfl (x_not rfl) ?_)
      refine OW.cons (OP.val (v := (.bool (!x32))) rfl (x_move) ?_)
      refine ifB_elim hm (fun hb37 hm => ?_) (fun hb37 hm => ?_)
      · refine OW.cons (OP.no' rfl rfl hb37 rfl ?_)
        refine OW.cons (OP.no' rfl rfl hb37 rfl ?_)
        refine OW.cons (OP.no' rfl rfl hb37 rfl ?_)
        refine OW.cons (OP.val (v := (.bool true)) rfl (x_pickT' rfl hb37 rfl) ?_)
        refine OW.nil ?_
        exact ⟨true, hm, ⟨rfl, rfl, rfl, rfl, hL⟩⟩
      · refine OW.cons (OP.yes' rfl rfl hb37 (OP.val (v := (.int .i64 a2)) rfl (x_move) ?_))
        obtain ⟨x38, hx39, hm⟩ := bndE hm
        refine OW.cons (OP.yes' rfl rfl hb37 (OP.call rfl (x_call (vs := [(.int .i64 a2)]) Try_C59 ⟨rfl, trivial⟩) (M.spec_l22Factor_ok _ a2 hx39) ?_))
        rintro e40 wd41 ⟨rfl, hF42⟩
        refine ⟨_, rfl, ?_⟩
        have hL := hL.pushAll hF42
        simp only [List.cons_append, List.nil_append, List.set_cons_zero, List.set_cons_succ] at hL
        refine OW.cons (OP.yes' rfl rfl hb37 (OP.val (v := (.bool (!x38))) rfl (x_not rfl) ?_))
        refine OW.cons (OP.val (v := (.bool (!x38))) rfl (x_pickF' rfl hb37 rfl) ?_)
        refine OW.nil ?_
        exact ⟨!x38, hm, ⟨rfl, rfl, rfl, rfl, hL⟩⟩
    · intro s_j1 F20 wd21 hJ hm
      unfold M.spec_ProgressFactor_j1 at hm
      obtain ⟨f22, f23, f24, f25, hL⟩ := hJ
      refine CW.condM (t := s_j1) f25 hm (fun hb26 hm => ?_) (fun hb26 hm => ?_)
      · refine CW.seq ?_
        refine CW.regionL ?_
        refine OW.cons (OP.val (v := (.int .i64 0)) rfl (x_assign) ?_)
        refine OW.cons (OP.val (v := (.int .i64 2)) rfl (x_assign) ?_)
        refine OW.nil ?_
        refine CW.ret ?_
        obtain rfl := Option.some.inj hm
        exact RR2 rfl rfl rfl ⟨rfl, hL.fresh 1 rfl [] (by decide) (by decide) rfl⟩
      · refine CW.skip ?_
        refine CW.seq ?_
        refine CW.regionL ?_
        refine OW.cons (OP.val (v := (.agg #[(.int .i64 a0.Gain), (.int .i64 a0.Step), (.int .i64 a0.Low), (.int .i64 a0.High)])) rfl (x_loadN (cs := [(.int .i64 a0.Gain), (.int .i64 a0.Step), (.int .i64 a0.Low), (.int .i64 a0.High)]) Try.underlying25 Try_T25 rfl f24 (hL.cellsB 0 rfl (o := 0) (l := [(.int .i64 a0.Gain), (.int .i64 a0.Step), (.int .i64 a0.Low), (.int .i64 a0.High)]) (by intro j u hj; exact (by simpa using hj)))) ?_)
        refine OW.cons (OP.val (v := (.int .i64 a1)) rfl (x_mv f22) ?_)
        refine OW.cons (OP.val (v := (.int .i64 a2)) rfl (x_mv f23) ?_)
        obtain ⟨x27, hx28, hm⟩ := bndE hm
        refine OW.cons (OP.call rfl (x_call (vs := [(.agg #[(.int .i64 a0.Gain), (.int .i64 a0.Step), (.int .i64 a0.Low), (.int .i64 a0.High)]), (.int .i64 a1), (.int .i64 a2)]) Try_C60 ⟨rfl, rfl, rfl, trivial⟩) (M.spec_l25New_ok _ a0 a1 a2 hx28) ?_)
        rintro e29 wd30 ⟨rfl, hF31⟩
        refine ⟨_, rfl, ?_⟩
        have hL := hL.pushAll hF31
        simp only [List.cons_append, List.nil_append, List.set_cons_zero, List.set_cons_succ] at hL
        refine OW.cons (OP.val (v := (.int .i64 x27)) rfl (x_assign) ?_)
        refine OW.cons (OP.val (v := (.int .i64 0)) rfl (x_assign) ?_)
        refine OW.nil ?_
        refine CW.ret ?_
        obtain rfl := Option.some.inj hm
        exact RR2 rfl rfl rfl ⟨rfl, hL.fresh 1 rfl [] (by decide) (by decide) rfl⟩

theorem M.laws_FnProgress_ok (w0 : World) (a0 : List UInt8) {v1 : Value} (h2 : rdL (· < w0.heap.size) w0 v1 a0) {r : Bool} (hm : M.laws_FnProgress a0 = some r) :
    Calls Try.prog 3 #[v1] w0 fun e w' => e = .returned (.bool r) ∧ Fresh w0 w' [] := by
  unfold M.laws_FnProgress at hm
  refine calls_CW (args := [v1]) Try.func3 rfl rfl rfl ?_
  have hL := Hp.start w0
  refine CW.seq ?_
  refine CW.regionL ?_
  refine OW.cons (OP.val (v := (.bool false)) rfl (x_assign) ?_)
  refine OW.nil ?_
  refine CW.seq ?_
  refine CW.seq ?_
  refine CW.regionL ?_
  refine OW.cons (OP.val (v := v1) rfl (x_move) ?_)
  obtain ⟨x3, hx4, hm⟩ := bndE hm
  refine OW.cons (OP.call rfl (x_call (vs := [v1]) Try_C13 ⟨rfl, trivial⟩) (M.laws_big_ok _ a0 (hL.rdS 0 rfl h2) hx4) ?_)
  rintro e5 wd6 ⟨rfl, hF7⟩
  refine ⟨_, rfl, ?_⟩
  have hL := hL.pushAll hF7
  simp only [List.cons_append, List.nil_append, List.set_cons_zero, List.set_cons_succ] at hL
  refine OW.nil ?_
  refine CW.condM (t := x3) rfl hm (fun hb8 hm => ?_) (fun hb8 hm => ?_)
  · refine CW.seq ?_
    refine CW.regionL ?_
    refine OW.cons (OP.val (v := (.bool true)) rfl (x_assign) ?_)
    refine OW.nil ?_
    refine CW.ret ?_
    obtain rfl := Option.some.inj hm
    exact RR1 rfl rfl ⟨rfl, hL.fresh 0 rfl [] (by decide) (by decide) rfl⟩
  · refine CW.skip ?_
    refine CW.seq ?_
    refine CW.regionL ?_
    refine OW.cons (OP.val (v := v1) rfl (x_move) ?_)
    obtain ⟨x9, hx10, hm⟩ := bndE hm
    refine OW.cons (OP.call rfl (x_call (vs := [v1]) Try_C14 ⟨rfl, trivial⟩) (M.spec_DrawProgressFactor_ok _ a0 (hL.rdS 0 rfl h2) hx10) ?_)
    rintro e11 wd12 ⟨rfl, hF13⟩
    refine ⟨_, rfl, ?_⟩
    have hL := hL.pushAll hF13
    simp only [List.cons_append, List.nil_append, List.set_cons_zero, List.set_cons_succ] at hL
    refine OW.cons (OP.val (v := (.tuple #[(.agg #[(.int .i64 x9.1.Gain), (.int .i64 x9.1.Step), (.int .i64 x9.1.Low), (.int .i64 x9.1.High)]), (.int .i64 x9.2.1), (.int .i64 x9.2.2)])) rfl (x_move) ?_)
    refine OW.cons (OP.val (v := (.agg #[(.int .i64 x9.1.Gain), (.int .i64 x9.1.Step), (.int .i64 x9.1.Low), (.int .i64 x9.1.High)])) rfl (x_extract rfl rfl) ?_)
    refine OW.cons (OP.val (v := (.int .i64 x9.2.1)) rfl (x_extract rfl rfl) ?_)
    refine OW.cons (OP.val (v := (.int .i64 x9.2.2)) rfl (x_extract rfl rfl) ?_)
    refine OW.cons (S_alloc (cs := #[(.int .i64 0), (.int .i64 0), (.int .i64 0), (.int .i64 0)]) hL Try_T25 rfl rfl ?_)
    intro wd14 b15 hL
    refine OW.cons (S_storeN (l := [(.int .i64 x9.1.Gain), (.int .i64 x9.1.Step), (.int .i64 x9.1.Low), (.int .i64 x9.1.High)]) (cs' := #[(.int .i64 x9.1.Gain), (.int .i64 x9.1.Step), (.int .i64 x9.1.Low), (.int .i64 x9.1.High)]) hL 0 rfl Try_T25 rfl rfl (by simp [Value.oneCell']) rfl (by decide) rfl ?_)
    intro wd16 hL
    refine OW.cons (OP.val (v := (.int .i64 x9.2.1)) rfl (x_assign) ?_)
    refine OW.cons (OP.val (v := (.int .i64 x9.2.2)) rfl (x_assign) ?_)
    refine OW.nil ?_
    refine CW.seq ?_
    refine CW.regionL ?_
    refine OW.cons (OP.val (v := (.agg #[(.int .i64 x9.1.Gain), (.int .i64 x9.1.Step), (.int .i64 x9.1.Low), (.int .i64 x9.1.High)])) rfl (x_loadN (cs := [(.int .i64 x9.1.Gain), (.int .i64 x9.1.Step), (.int .i64 x9.1.Low), (.int .i64 x9.1.High)]) Try.underlying25 Try_T25 rfl rfl (hL.cellsB 0 rfl (o := 0) (l := [(.int .i64 x9.1.Gain), (.int .i64 x9.1.Step), (.int .i64 x9.1.Low), (.int .i64 x9.1.High)]) (by intro j u hj; exact (by simpa using hj)))) ?_)
    refine OW.cons (OP.val (v := (.int .i64 x9.2.1)) rfl (x_move) ?_)
    refine OW.cons (OP.val (v := (.int .i64 x9.2.2)) rfl (x_move) ?_)
    obtain ⟨x17, hx18, hm⟩ := bndE hm
    refine OW.cons (OP.call rfl (x_call (vs := [(.agg #[(.int .i64 x9.1.Gain), (.int .i64 x9.1.Step), (.int .i64 x9.1.Low), (.int .i64 x9.1.High)]), (.int .i64 x9.2.1), (.int .i64 x9.2.2)]) Try_C15 ⟨rfl, rfl, rfl, trivial⟩) (M.impl_ProgressFactor_ok _ x9.1 x9.2.1 x9.2.2 hx18) ?_)
    rintro e19 wd20 ⟨rfl, hF21⟩
    refine ⟨_, rfl, ?_⟩
    have hL := hL.pushAll hF21
    simp only [List.cons_append, List.nil_append, List.set_cons_zero, List.set_cons_succ] at hL
    refine OW.cons (OP.val (v := (.tuple #[(.int .i64 x17.1), (.int .i64 x17.2)])) rfl (x_move) ?_)
    refine OW.cons (OP.val (v := (.int .i64 x17.1)) rfl (x_extract rfl rfl) ?_)
    refine OW.cons (OP.val (v := (.int .i64 x17.2)) rfl (x_extract rfl rfl) ?_)
    refine OW.cons (OP.val (v := (.int .i64 x17.1)) rfl (x_assign) ?_)
    refine OW.cons (OP.val (v := (.int .i64 x17.2)) rfl (x_assign) ?_)
    refine OW.nil ?_
    refine CW.seq ?_
    refine CW.regionL ?_
    refine OW.cons (OP.val (v := (.agg #[(.int .i64 x9.1.Gain), (.int .i64 x9.1.Step), (.int .i64 x9.1.Low), (.int .i64 x9.1.High)])) rfl (x_loadN (cs := [(.int .i64 x9.1.Gain), (.int .i64 x9.1.Step), (.int .i64 x9.1.Low), (.int .i64 x9.1.High)]) Try.underlying25 Try_T25 rfl rfl (hL.cellsB 0 rfl (o := 0) (l := [(.int .i64 x9.1.Gain), (.int .i64 x9.1.Step), (.int .i64 x9.1.Low), (.int .i64 x9.1.High)]) (by intro j u hj; exact (by simpa using hj)))) ?_)
    refine OW.cons (OP.val (v := (.int .i64 x9.2.1)) rfl (x_move) ?_)
    refine OW.cons (OP.val (v := (.int .i64 x9.2.2)) rfl (x_move) ?_)
    obtain ⟨x22, hx23, hm⟩ := bndE hm
    refine OW.cons (OP.call rfl (x_call (vs := [(.agg #[(.int .i64 x9.1.Gain), (.int .i64 x9.1.Step), (.int .i64 x9.1.Low), (.int .i64 x9.1.High)]), (.int .i64 x9.2.1), (.int .i64 x9.2.2)]) Try_C16 ⟨rfl, rfl, rfl, trivial⟩) (M.spec_ProgressFactor_ok _ x9.1 x9.2.1 x9.2.2 hx23) ?_)
    rintro e24 wd25 ⟨rfl, hF26⟩
    refine ⟨_, rfl, ?_⟩
    have hL := hL.pushAll hF26
    simp only [List.cons_append, List.nil_append, List.set_cons_zero, List.set_cons_succ] at hL
    refine OW.cons (OP.val (v := (.tuple #[(.int .i64 x22.1), (.int .i64 x22.2)])) rfl (x_move) ?_)
    refine OW.cons (OP.val (v := (.int .i64 x22.1)) rfl (x_extract rfl rfl) ?_)
    refine OW.cons (OP.val (v := (.int .i64 x22.2)) rfl (x_extract rfl rfl) ?_)
    refine OW.cons (OP.val (v := (.int .i64 x22.1)) rfl (x_assign) ?_)
    refine OW.cons (OP.val (v := (.int .i64 x22.2)) rfl (x_assign) ?_)
    refine OW.nil ?_
    refine CW.seq ?_
    refine CW.seqJ (fun (s_j1 : Bool) (F : Fr) (w : World) => F 3 = (.pointer (some ⟨b15, 0, none⟩)) ∧ F 4 = (.int .i64 x9.2.1) ∧ F 5 = (.int .i64 x9.2.2) ∧ F 6 = (.int .i64 x17.1) ∧ F 7 = (.int .i64 x17.2) ∧ F 42 = (.bool s_j1) ∧ Hp w0 [Ent.blk b15 25 #[(.int .i64 x9.1.Gain), (.int .i64 x9.1.Step), (.int .i64 x9.1.Low), (.int .i64 x9.1.High)], Ent.snap w0 w0.heap.size] w) (fun s_j1 => M.laws_FnProgress_j1 x9 x17 s_j1 = some r) ?_ ?_
    · refine CW.regionL ?_
      refine OW.cons (OP.val (v := (.int .i64 x17.2)) rfl (x_move) ?_)
      refine OW.cons (OP.val (v := (.int .i64 x22.2)) rfl (x_move) ?_)
      refine OW.cons (OP.val (v := (.bool (x17.2 != x22.2))) rfl (x_neq rfl rfl) ?_)
      refine OW.cons (OP.val (v := (.bool (x17.2 != x22.2))) rfl (x_move) ?_)
      refine ifB_elim hm (fun hb91 hm => ?_) (fun hb91 hm => ?_)
      · refine OW.cons (OP.no' rfl rfl hb91 rfl ?_)
        refine OW.cons (OP.no' rfl rfl hb91 rfl ?_)
        refine OW.cons (OP.no' rfl rfl hb91 rfl ?_)
        refine OW.cons (OP.val (v := (.bool true)) rfl (x_pickT' rfl hb91 rfl) ?_)
        refine OW.nil ?_
        exact ⟨true, hm, ⟨rfl, rfl, rfl, rfl, rfl, rfl, hL⟩⟩
      · refine OW.cons (OP.yes' rfl rfl hb91 (OP.val (v := (.int .i64 x17.1)) rfl (x_move) ?_))
        refine OW.cons (OP.yes' rfl rfl hb91 (OP.val (v := (.int .i64 x22.1)) rfl (x_move) ?_))
        refine OW.cons (OP.yes' rfl rfl hb91 (OP.val (v := (.bool (x17.1 != x22.1))) rfl (x_neq rfl rfl) ?_))
        refine OW.cons (OP.val (v := (.bool (x17.1 != x22.1))) rfl (x_pickF' rfl hb91 rfl) ?_)
        refine OW.nil ?_
        exact ⟨x17.1 != x22.1, hm, ⟨rfl, rfl, rfl, rfl, rfl, rfl, hL⟩⟩
    · intro s_j1 F28 wd29 hJ hm
      unfold M.laws_FnProgress_j1 at hm
      obtain ⟨f30, f31, f32, f33, f34, f35, hL⟩ := hJ
      refine CW.condM (t := s_j1) f35 hm (fun hb36 hm => ?_) (fun hb36 hm => ?_)
      · refine CW.seq ?_
        refine CW.regionL ?_
        refine OW.cons (OP.val (v := (.bool false)) rfl (x_assign) ?_)
        refine OW.nil ?_
        refine CW.ret ?_
        obtain rfl := Option.some.inj hm
        exact RR1 rfl rfl ⟨rfl, hL.fresh 1 rfl [] (by decide) (by decide) rfl⟩
      · refine CW.skip ?_
        refine CW.seq ?_
        refine CW.seq ?_
        refine CW.regionL ?_
        refine OW.cons (OP.val (v := (.int .i64 x17.2)) rfl (x_mv f34) ?_)
        refine OW.cons (OP.val (v := (.bool (x17.2 != 0))) rfl (x_neq rfl rfl) ?_)
        refine OW.nil ?_
        refine CW.condM (t := x17.2 != 0) rfl hm (fun hb37 hm => ?_) (fun hb37 hm => ?_)
        · refine CW.seq ?_
          refine CW.regionL ?_
          refine OW.cons (OP.val (v := (.bool true)) rfl (x_assign) ?_)
          refine OW.nil ?_
          refine CW.ret ?_
          obtain rfl := Option.some.inj hm
          exact RR1 rfl rfl ⟨rfl, hL.fresh 1 rfl [] (by decide) (by decide) rfl⟩
        · refine CW.skip ?_
          refine CW.seq ?_
          refine CW.seqJ (fun (s_j2 : Bool) (F : Fr) (w : World) => F 3 = (.pointer (some ⟨b15, 0, none⟩)) ∧ F 4 = (.int .i64 x9.2.1) ∧ F 5 = (.int .i64 x9.2.2) ∧ F 6 = (.int .i64 x17.1) ∧ F 59 = (.bool s_j2) ∧ Hp w0 [Ent.blk b15 25 #[(.int .i64 x9.1.Gain), (.int .i64 x9.1.Step), (.int .i64 x9.1.Low), (.int .i64 x9.1.High)], Ent.snap w0 w0.heap.size] w) (fun s_j2 => M.laws_FnProgress_j2 x9 x17 s_j2 = some r) ?_ ?_
          · refine CW.regionL ?_
            refine OW.cons (OP.val (v := (.int .i64 x17.1)) rfl (x_mv f33) ?_)
            refine OW.cons (OP.val (v := (.pointer (some ⟨b15, 2, none⟩))) rfl (x_fieldAddr (fsz := 1) 0 2 2 Try.underlying25 rfl Try_T2 rfl f30 rfl) ?_)
            refine OW.cons (OP.val (v := (.int .i64 x9.1.Low)) rfl (x_load1 Try.underlying2 rfl rfl (hL.cellB 0 rfl rfl)) ?_)
            refine OW.cons (OP.val (v := (.bool (decide (x17.1 < x9.1.Low)))) rfl (x_lss rfl rfl) ?_)
            refine OW.cons (OP.val (v := (.bool (decide (x17.1 < x9.1.Low)))) rfl (x_move) ?_)
            refine ifB_elim hm (fun hb84 hm => ?_) (fun hb84 hm => ?_)
            · refine OW.cons (OP.no' rfl rfl hb84 rfl ?_)
              refine OW.cons (OP.no' rfl rfl hb84 rfl ?_)
              refine OW.cons (OP.no' rfl rfl hb84 rfl ?_)
              refine OW.cons (OP.no' rfl rfl hb84 rfl ?_)
              refine OW.cons (OP.val (v := (.bool true)) rfl (x_pickT' rfl hb84 rfl) ?_)
              refine OW.cons (OP.val (v := (.bool true)) rfl (x_move) ?_)
              refine OW.cons (OP.no' rfl rfl rfl rfl ?_)
              refine OW.cons (OP.no' rfl rfl rfl rfl ?_)
              refine OW.cons (OP.no' rfl rfl rfl rfl ?_)
              refine OW.cons (OP.val (v := (.bool true)) rfl (x_pickT' rfl rfl rfl) ?_)
              refine OW.nil ?_
              exact ⟨true, hm, ⟨f30, f31, f32, f33, rfl, hL⟩⟩
            · refine OW.cons (OP.yes' rfl rfl hb84 (OP.val (v := (.int .i64 x17.1)) rfl (x_mv f33) ?_))
              refine OW.cons (OP.yes' rfl rfl hb84 (OP.val (v := (.pointer (some ⟨b15, 3, none⟩))) rfl (x_fieldAddr (fsz := 1) 0 3 3 Try.underlying25 rfl Try_T2 rfl f30 rfl) ?_))
              refine OW.cons (OP.yes' rfl rfl hb84 (OP.val (v := (.int .i64 x9.1.High)) rfl (x_load1 Try.underlying2 rfl rfl (hL.cellB 0 rfl rfl)) ?_))
              refine OW.cons (OP.yes' rfl rfl hb84 (OP.val (v := (.bool (decide (x9.1.High < x17.1)))) rfl (x_gtr rfl rfl) ?_))
              refine OW.cons (OP.val (v := (.bool (decide (x9.1.High < x17.1)))) rfl (x_pickF' rfl hb84 rfl) ?_)
              refine OW.cons (OP.val (v := (.bool (decide (x9.1.High < x17.1)))) rfl (x_move) ?_)
              refine ifB_elim hm (fun hb85 hm => ?_) (fun hb85 hm => ?_)
              · refine OW.cons (OP.no' rfl rfl hb85 rfl ?_)
                refine OW.cons (OP.no' rfl rfl hb85 rfl ?_)
                refine OW.cons (OP.no' rfl rfl hb85 rfl ?_)
                refine OW.cons (OP.val (v := (.bool true)) rfl (x_pickT' rfl hb85 rfl) ?_)
                refine OW.nil ?_
                exact ⟨true, hm, ⟨f30, f31, f32, f33, rfl, hL⟩⟩
              · refine OW.cons (OP.yes' rfl rfl hb85 (OP.val (v := (.agg #[(.int .i64 x9.1.Gain), (.int .i64 x9.1.Step), (.int .i64 x9.1.Low), (.int .i64 x9.1.High)])) rfl (x_loadN (cs := [(.int .i64 x9.1.Gain), (.int .i64 x9.1.Step), (.int .i64 x9.1.Low), (.int .i64 x9.1.High)]) Try.underlying25 Try_T25 rfl f30 (hL.cellsB 0 rfl (o := 0) (l := [(.int .i64 x9.1.Gain), (.int .i64 x9.1.Step), (.int .i64 x9.1.Low), (.int .i64 x9.1.High)]) (by intro j u hj; exact (by simpa using hj)))) ?_))
                obtain ⟨x86, hx87, hm⟩ := bndE hm
                refine OW.cons (OP.yes' rfl rfl hb85 (OP.call rfl (x_call (vs := [(.agg #[(.int .i64 x9.1.Gain), (.int .i64 x9.1.Step), (.int .i64 x9.1.Low), (.int .i64 x9.1.High)])]) Try_C17 ⟨rfl, trivial⟩) (M.impl_IsProgress_ok _ x9.1 hx87) ?_))
                rintro e88 wd89 ⟨rfl, hF90⟩
                refine ⟨_, rfl, ?_⟩
                have hL := hL.pushAll hF90
                simp only [List.cons_append, List.nil_append, List.set_cons_zero, List.set_cons_succ] at hL
                refine OW.cons (OP.yes' rfl rfl hb85 (OP.val (v := (.bool (!x86))) rfl (x_not rfl) ?_))
                refine OW.cons (OP.val (v := (.bool (!x86))) rfl (x_pickF' rfl hb85 rfl) ?_)
                refine OW.nil ?_
                exact ⟨!x86, hm, ⟨f30, f31, f32, f33, rfl, hL⟩⟩
          · intro s_j2 F45 wd46 hJ hm
            unfold M.laws_FnProgress_j2 at hm
            obtain ⟨f47, f48, f49, f50, f51, hL⟩ := hJ
            refine CW.condM (t := s_j2) f51 hm (fun hb52 hm => ?_) (fun hb52 hm => ?_)
            · refine CW.seq ?_
              refine CW.regionL ?_
              refine OW.cons (OP.val (v := (.bool false)) rfl (x_assign) ?_)
              refine OW.nil ?_
              refine CW.ret ?_
              obtain rfl := Option.some.inj hm
              exact RR1 rfl rfl ⟨rfl, hL.fresh 1 rfl [] (by decide) (by decide) rfl⟩
            · refine CW.skip ?_
              refine CW.seq ?_
              refine CW.regionL ?_
              refine OW.cons (OP.val (v := (.agg #[(.int .i64 x9.1.Gain), (.int .i64 x9.1.Step), (.int .i64 x9.1.Low), (.int .i64 x9.1.High)])) rfl (x_loadN (cs := [(.int .i64 x9.1.Gain), (.int .i64 x9.1.Step), (.int .i64 x9.1.Low), (.int .i64 x9.1.High)]) Try.underlying25 Try_T25 rfl f47 (hL.cellsB 0 rfl (o := 0) (l := [(.int .i64 x9.1.Gain), (.int .i64 x9.1.Step), (.int .i64 x9.1.Low), (.int .i64 x9.1.High)]) (by intro j u hj; exact (by simpa using hj)))) ?_)
              refine OW.cons (OP.val (v := (.int .i64 x17.1)) rfl (x_mv f50) ?_)
              refine OW.cons (OP.val (v := (.int .i64 x17.1)) rfl (x_mv f50) ?_)
              obtain ⟨x53, hx54, hm⟩ := bndE hm
              refine OW.cons (OP.call rfl (x_call (vs := [(.agg #[(.int .i64 x9.1.Gain), (.int .i64 x9.1.Step), (.int .i64 x9.1.Low), (.int .i64 x9.1.High)]), (.int .i64 x17.1), (.int .i64 x17.1)]) Try_C15 ⟨rfl, rfl, rfl, trivial⟩) (M.impl_ProgressFactor_ok _ x9.1 x17.1 x17.1 hx54) ?_)
              rintro e55 wd56 ⟨rfl, hF57⟩
              refine ⟨_, rfl, ?_⟩
              have hL := hL.pushAll hF57
              simp only [List.cons_append, List.nil_append, List.set_cons_zero, List.set_cons_succ] at hL
              refine OW.cons (OP.val (v := (.tuple #[(.int .i64 x53.1), (.int .i64 x53.2)])) rfl (x_move) ?_)
              refine OW.cons (OP.val (v := (.int .i64 x53.1)) rfl (x_extract rfl rfl) ?_)
              refine OW.cons (OP.val (v := (.int .i64 x53.2)) rfl (x_extract rfl rfl) ?_)
              refine OW.cons (OP.val (v := (.int .i64 x53.1)) rfl (x_assign) ?_)
              refine OW.cons (OP.val (v := (.int .i64 x53.2)) rfl (x_assign) ?_)
              refine OW.nil ?_
              refine CW.seqJ (fun (s_j3 : Bool) (F : Fr) (w : World) => F 3 = (.pointer (some ⟨b15, 0, none⟩)) ∧ F 4 = (.int .i64 x9.2.1) ∧ F 5 = (.int .i64 x9.2.2) ∧ F 6 = (.int .i64 x17.1) ∧ F 10 = (.int .i64 x53.1) ∧ F 11 = (.int .i64 x53.2) ∧ F 12 = (.bool s_j3) ∧ Hp w0 [Ent.blk b15 25 #[(.int .i64 x9.1.Gain), (.int .i64 x9.1.Step), (.int .i64 x9.1.Low), (.int .i64 x9.1.High)], Ent.snap w0 w0.heap.size] w) (fun s_j3 => M.laws_FnProgress_j3 x9 x17 x53 s_j3 = some r) ?_ ?_
              · refine CW.regionL ?_
                refine OW.cons (OP.val (v := (.int .i64 x9.2.1)) rfl (x_mv f48) ?_)
                refine OW.cons (OP.val (v := (.pointer (some ⟨b15, 2, none⟩))) rfl (x_fieldAddr (fsz := 1) 0 2 2 Try.underlying25 rfl Try_T2 rfl f47 rfl) ?_)
                refine OW.cons (OP.val (v := (.int .i64 x9.1.Low)) rfl (x_load1 Try.underlying2 rfl rfl (hL.cellB 0 rfl rfl)) ?_)
                refine OW.cons (OP.val (v := (.bool (decide (x9.1.Low ≤ x9.2.1)))) rfl (x_geq rfl rfl) ?_)
                refine OW.cons (OP.val (v := (.bool (decide (x9.1.Low ≤ x9.2.1)))) rfl (x_move) ?_)
                refine ifB_elim hm (fun hb83 hm => ?_) (fun hb83 hm => ?_)
                · refine OW.cons (OP.yes' rfl rfl hb83 (OP.val (v := (.int .i64 x9.2.1)) rfl (x_mv f48) ?_))
                  refine OW.cons (OP.yes' rfl rfl hb83 (OP.val (v := (.pointer (some ⟨b15, 3, none⟩))) rfl (x_fieldAddr (fsz := 1) 0 3 3 Try.underlying25 rfl Try_T2 rfl f47 rfl) ?_))
                  refine OW.cons (OP.yes' rfl rfl hb83 (OP.val (v := (.int .i64 x9.1.High)) rfl (x_load1 Try.underlying2 rfl rfl (hL.cellB 0 rfl rfl)) ?_))
                  refine OW.cons (OP.yes' rfl rfl hb83 (OP.val (v := (.bool (decide (x9.2.1 ≤ x9.1.High)))) rfl (x_leq rfl rfl) ?_))
                  refine OW.cons (OP.val (v := (.bool (decide (x9.2.1 ≤ x9.1.High)))) rfl (x_pickT' rfl hb83 rfl) ?_)
                  refine OW.cons (OP.val (v := (.bool (decide (x9.2.1 ≤ x9.1.High)))) rfl (x_assign) ?_)
                  refine OW.nil ?_
                  exact ⟨decide (x9.2.1 ≤ x9.1.High), hm, ⟨f47, f48, f49, f50, rfl, rfl, rfl, hL⟩⟩
                · refine OW.cons (OP.no' rfl rfl hb83 rfl ?_)
                  refine OW.cons (OP.no' rfl rfl hb83 rfl ?_)
                  refine OW.cons (OP.no' rfl rfl hb83 rfl ?_)
                  refine OW.cons (OP.no' rfl rfl hb83 rfl ?_)
                  refine OW.cons (OP.val (v := (.bool false)) rfl (x_pickF' rfl hb83 rfl) ?_)
                  refine OW.cons (OP.val (v := (.bool false)) rfl (x_assign) ?_)
                  refine OW.nil ?_
                  exact ⟨false, hm, ⟨f47, f48, f49, f50, rfl, rfl, rfl, hL⟩⟩
              · intro s_j3 F59 wd60 hJ hm
                unfold M.laws_FnProgress_j3 at hm
                obtain ⟨f61, f62, f63, f64, f65, f66, f67, hL⟩ := hJ
                refine CW.seqJ (fun (s_j4 : Bool) (F : Fr) (w : World) => F 2 = (.bool s_j4) ∧ Hp w0 [Ent.blk b15 25 #[(.int .i64 x9.1.Gain), (.int .i64 x9.1.Step), (.int .i64 x9.1.Low), (.int .i64 x9.1.High)], Ent.snap w0 w0.heap.size] w) (fun s_j4 => M.laws_FnProgress_j4 s_j4 = some r) ?_ ?_
                · refine CW.regionL ?_
                  refine OW.cons (OP.val (v := (.int .i64 x53.2)) rfl (x_mv f66) ?_)
                  refine OW.cons (OP.val (v := (.bool (x53.2 == 0))) rfl (x_eql rfl rfl) ?_)
                  refine OW.cons (OP.val (v := (.bool (x53.2 == 0))) rfl (x_move) ?_)
                  refine ifB_elim hm (fun hb77 hm => ?_) (fun hb77 hm => ?_)
                  · refine OW.cons (OP.yes' rfl rfl hb77 (OP.val (v := (.int .i64 x53.1)) rfl (x_mv f65) ?_))
                    refine OW.cons (OP.yes' rfl rfl hb77 (OP.val (v := (.int .i64 x17.1)) rfl (x_mv f64) ?_))
                    refine OW.cons (OP.yes' rfl rfl hb77 (OP.val (v := (.bool (x53.1 == x17.1))) rfl (x_eql rfl rfl) ?_))
                    refine OW.cons (OP.val (v := (.bool (x53.1 == x17.1))) rfl (x_pickT' rfl hb77 rfl) ?_)
                    refine OW.cons (OP.val (v := (.bool (x53.1 == x17.1))) rfl (x_move) ?_)
                    refine ifB_elim hm (fun hb78 hm => ?_) (fun hb78 hm => ?_)
                    · refine OW.cons (OP.yes' rfl rfl hb78 (OP.val (v := (.bool s_j3)) rfl (x_mv f67) ?_))
                      refine OW.cons (OP.yes' rfl rfl hb78 (OP.val (v := (.bool (!s_j3))) rfl (x_not rfl) ?_))
                      refine OW.cons (OP.yes' rfl rfl hb78 (OP.val (v := (.bool (!s_j3))) rfl (x_move) ?_))
                      refine ifB_elim hm (fun hb79 hm => ?_) (fun hb79 hm => ?_)
                      · refine OW.cons (OP.no' rfl rfl hb79 rfl ?_)
                        refine OW.cons (OP.no' rfl rfl hb79 rfl ?_)
                        refine OW.cons (OP.no' rfl rfl hb79 rfl ?_)
                        refine OW.cons (OP.no' rfl rfl hb79 rfl ?_)
                        refine OW.cons (OP.no' rfl rfl hb79 rfl ?_)
                        refine OW.cons (OP.no' rfl rfl hb79 rfl ?_)
                        refine OW.cons (OP.no' rfl rfl hb79 rfl ?_)
                        refine OW.cons (OP.noU rfl rfl rfl ?_)
                        refine OW.cons (OP.noU rfl rfl rfl ?_)
                        refine OW.cons (OP.noU rfl rfl rfl ?_)
                        refine OW.cons (OP.noU rfl rfl rfl ?_)
                        refine OW.cons (OP.noU rfl rfl rfl ?_)
                        refine OW.cons (OP.noU rfl rfl rfl ?_)
                        refine OW.cons (OP.no' rfl rfl hb79 rfl ?_)
                        refine OW.cons (OP.yes' rfl rfl hb78 (OP.val (v := (.bool true)) rfl (x_pickT' rfl hb79 rfl) ?_))
                        refine OW.cons (OP.val (v := (.bool true)) rfl (x_pickT' rfl hb78 rfl) ?_)
                        refine OW.cons (OP.val (v := (.bool true)) rfl (x_move) ?_)
                        refine OW.cons (OP.yes' rfl rfl rfl (OP.val (v := (.bool s_j3)) rfl (x_mv f67) ?_))
                        refine OW.cons (OP.yes' rfl rfl rfl (OP.val (v := (.bool (!s_j3))) rfl (x_not rfl) ?_))
                        refine OW.cons (OP.yes' rfl rfl rfl (OP.val (v := (.bool (!s_j3))) rfl (x_move) ?_))
                        refine OW.cons (OP.no' rfl rfl hb79 rfl ?_)
                        refine OW.cons (OP.no' rfl rfl hb79 rfl ?_)
                        refine OW.cons (OP.no' rfl rfl hb79 rfl ?_)
                        refine OW.cons (OP.yes' rfl rfl rfl (OP.val (v := (.bool true)) rfl (x_pickT' rfl hb79 rfl) ?_))
                        refine OW.cons (OP.yes' rfl rfl rfl (OP.val (v := (.bool true)) rfl (x_move) ?_))
                        refine OW.cons (OP.no' rfl rfl rfl rfl ?_)
                        refine OW.cons (OP.no' rfl rfl rfl rfl ?_)
                        refine OW.cons (OP.no' rfl rfl rfl rfl ?_)
                        refine OW.cons (OP.yes' rfl rfl rfl (OP.val (v := (.bool true)) rfl (x_pickT' rfl rfl rfl) ?_))
                        refine OW.cons (OP.val (v := (.bool true)) rfl (x_pickT' rfl rfl rfl) ?_)
                        refine OW.cons (OP.val (v := (.bool true)) rfl (x_assign) ?_)
                        refine OW.nil ?_
                        exact ⟨true, hm, ⟨rfl, hL⟩⟩
                      · refine OW.cons (OP.yes' rfl rfl hb79 (OP.val (v := (.int .i64 x17.1)) rfl (x_mv f64) ?_))
                        refine OW.cons (OP.yes' rfl rfl hb79 (OP.val (v := (.int .i64 x9.2.1)) rfl (x_mv f62) ?_))
                        refine OW.cons (OP.yes' rfl rfl hb79 (OP.val (v := (.int .i64 (w64 (x17.1 - x9.2.1)))) rfl (x_sub rfl rfl) ?_))
                        refine OW.cons (OP.yes' rfl rfl hb79 (OP.val (v := (.pointer (some ⟨b15, 1, none⟩))) rfl (x_fieldAddr (fsz := 1) 0 1 1 Try.underlying25 rfl Try_T2 rfl f61 rfl) ?_))
                        refine OW.cons (OP.yes' rfl rfl hb79 (OP.val (v := (.int .i64 x9.1.Step)) rfl (x_load1 Try.underlying2 rfl rfl (hL.cellB 0 rfl rfl)) ?_))
                        refine OW.cons (OP.yes' rfl rfl hb79 (OP.val (v := (.bool (decide ((w64 (x17.1 - x9.2.1)) ≤ x9.1.Step)))) rfl (x_leq rfl rfl) ?_))
                        refine OW.cons (OP.yes' rfl rfl hb79 (OP.val (v := (.bool (decide ((w64 (x17.1 - x9.2.1)) ≤ x9.1.Step)))) rfl (x_move) ?_))
                        refine ifB_elim hm (fun hb80 hm => ?_) (fun hb80 hm => ?_)
                        · refine OW.cons (OP.yes' rfl rfl hb80 (OP.val (v := (.int .i64 x9.2.1)) rfl (x_mv f62) ?_))
                          refine OW.cons (OP.yes' rfl rfl hb80 (OP.val (v := (.int .i64 x17.1)) rfl (x_mv f64) ?_))
                          refine OW.cons (OP.yes' rfl rfl hb80 (OP.val (v := (.int .i64 (w64 (x9.2.1 - x17.1)))) rfl (x_sub rfl rfl) ?_))
                          refine OW.cons (OP.yes' rfl rfl hb80 (OP.val (v := (.pointer (some ⟨b15, 1, none⟩))) rfl (x_fieldAddr (fsz := 1) 0 1 1 Try.underlying25 rfl Try_T2 rfl f61 rfl) ?_))
                          refine OW.cons (OP.yes' rfl rfl hb80 (OP.val (v := (.int .i64 x9.1.Step)) rfl (x_load1 Try.underlying2 rfl rfl (hL.cellB 0 rfl rfl)) ?_))
                          refine OW.cons (OP.yes' rfl rfl hb80 (OP.val (v := (.bool (decide ((w64 (x9.2.1 - x17.1)) ≤ x9.1.Step)))) rfl (x_leq rfl rfl) ?_))
                          refine OW.cons (OP.yes' rfl rfl hb79 (OP.val (v := (.bool (decide ((w64 (x9.2.1 - x17.1)) ≤ x9.1.Step)))) rfl (x_pickT' rfl hb80 rfl) ?_))
                          refine OW.cons (OP.yes' rfl rfl hb78 (OP.val (v := (.bool (decide ((w64 (x9.2.1 - x17.1)) ≤ x9.1.Step)))) rfl (x_pickF' rfl hb79 rfl) ?_))
                          refine OW.cons (OP.val (v := (.bool (decide ((w64 (x9.2.1 - x17.1)) ≤ x9.1.Step)))) rfl (x_pickT' rfl hb78 rfl) ?_)
                          refine OW.cons (OP.val (v := (.bool (decide ((w64 (x9.2.1 - x17.1)) ≤ x9.1.Step)))) rfl (x_move) ?_)
                          refine ifB_elim hm (fun hb81 hm => ?_) (fun hb81 hm => ?_)
                          · refine OW.cons (OP.yes' rfl rfl hb81 (OP.val (v := (.bool s_j3)) rfl (x_mv f67) ?_))
                            refine OW.cons (OP.yes' rfl rfl hb81 (OP.val (v := (.bool (!s_j3))) rfl (x_not rfl) ?_))
                            refine OW.cons (OP.yes' rfl rfl hb81 (OP.val (v := (.bool (!s_j3))) rfl (x_move) ?_))
                            refine OW.cons (OP.yes' rfl rfl hb79 (OP.val (v := (.int .i64 x9.2.2)) rfl (x_mv f63) ?_))
                            refine OW.cons (OP.yes' rfl rfl hb79 (OP.val (v := (.int .i64 x9.2.1)) rfl (x_mv f62) ?_))
                            refine OW.cons (OP.yes' rfl rfl hb79 (OP.val (v := (.bool (decide (x9.2.2 < x9.2.1)))) rfl (x_lss rfl rfl) ?_))
                            refine OW.cons (OP.yes' rfl rfl hb81 (OP.val (v := (.bool (decide (x9.2.2 < x9.2.1)))) rfl (x_pickF' rfl hb79 rfl) ?_))
                            refine OW.cons (OP.yes' rfl rfl hb81 (OP.val (v := (.bool (decide (x9.2.2 < x9.2.1)))) rfl (x_move) ?_))
                            refine ifB_elim hm (fun hb82 hm => ?_) (fun hb82 hm => ?_)
                            · refine OW.cons (OP.no' rfl rfl hb82 rfl ?_)
                              refine OW.cons (OP.no' rfl rfl hb82 rfl ?_)
                              refine OW.cons (OP.no' rfl rfl hb82 rfl ?_)
                              refine OW.cons (OP.yes' rfl rfl hb81 (OP.val (v := (.bool true)) rfl (x_pickT' rfl hb82 rfl) ?_))
                              refine OW.cons (OP.val (v := (.bool true)) rfl (x_pickT' rfl hb81 rfl) ?_)
                              refine OW.cons (OP.val (v := (.bool true)) rfl (x_assign) ?_)
                              refine OW.nil ?_
                              exact ⟨true, hm, ⟨rfl, hL⟩⟩
                            · refine OW.cons (OP.yes' rfl rfl hb82 (OP.val (v := (.int .i64 x17.1)) rfl (x_mv f64) ?_))
                              refine OW.cons (OP.yes' rfl rfl hb82 (OP.val (v := (.int .i64 x9.2.1)) rfl (x_mv f62) ?_))
                              refine OW.cons (OP.yes' rfl rfl hb82 (OP.val (v := (.bool (decide (x9.2.1 ≤ x17.1)))) rfl (x_geq rfl rfl) ?_))
                              refine OW.cons (OP.yes' rfl rfl hb81 (OP.val (v := (.bool (decide (x9.2.1 ≤ x17.1)))) rfl (x_pickF' rfl hb82 rfl) ?_))
                              refine OW.cons (OP.val (v := (.bool (decide (x9.2.1 ≤ x17.1)))) rfl (x_pickT' rfl hb81 rfl) ?_)
                              refine OW.cons (OP.val (v := (.bool (decide (x9.2.1 ≤ x17.1)))) rfl (x_assign) ?_)
                              refine OW.nil ?_
                              exact ⟨decide (x9.2.1 ≤ x17.1), hm, ⟨rfl, hL⟩⟩
                          · refine OW.cons (OP.no' rfl rfl hb81 rfl ?_)
                            refine OW.cons (OP.no' rfl rfl hb81 rfl ?_)
                            refine OW.cons (OP.no' rfl rfl hb81 rfl ?_)
                            refine OW.cons (OP.noU rfl rfl rfl ?_)
                            refine OW.cons (OP.noU rfl rfl rfl ?_)
                            refine OW.cons (OP.noU rfl rfl rfl ?_)
                            refine OW.cons (OP.no' rfl rfl hb81 rfl ?_)
                            refine OW.cons (OP.no' rfl rfl hb81 rfl ?_)
                            refine OW.cons (OP.noU rfl rfl rfl ?_)
                            refine OW.cons (OP.noU rfl rfl rfl ?_)
                            refine OW.cons (OP.noU rfl rfl rfl ?_)
                            refine OW.cons (OP.no' rfl rfl hb81 rfl ?_)
                            refine OW.cons (OP.val (v := (.bool false)) rfl (x_pickF' rfl hb81 rfl) ?_)
                            refine OW.cons (OP.val (v := (.bool false)) rfl (x_assign) ?_)
                            refine OW.nil ?_
                            exact ⟨false, hm, ⟨rfl, hL⟩⟩
                        · refine OW.cons (OP.no' rfl rfl hb80 rfl ?_)
                          refine OW.cons (OP.no' rfl rfl hb80 rfl ?_)
                          refine OW.cons (OP.no' rfl rfl hb80 rfl ?_)
                          refine OW.cons (OP.no' rfl rfl hb80 rfl ?_)
                          refine OW.cons (OP.no' rfl rfl hb80 rfl ?_)
                          refine OW.cons (OP.no' rfl rfl hb80 rfl ?_)
                          refine OW.cons (OP.yes' rfl rfl hb79 (OP.val (v := (.bool false)) rfl (x_pickF' rfl hb80 rfl) ?_))
                          refine OW.cons (OP.yes' rfl rfl hb78 (OP.val (v := (.bool false)) rfl (x_pickF' rfl hb79 rfl) ?_))
                          refine OW.cons (OP.val (v := (.bool false)) rfl (x_pickT' rfl hb78 rfl) ?_)
                          refine OW.cons (OP.val (v := (.bool false)) rfl (x_move) ?_)
                          refine OW.cons (OP.no' rfl rfl rfl rfl ?_)
                          refine OW.cons (OP.no' rfl rfl rfl rfl ?_)
                          refine OW.cons (OP.no' rfl rfl rfl rfl ?_)
                          refine OW.cons (OP.noU rfl rfl rfl ?_)
                          refine OW.cons (OP.noU rfl rfl rfl ?_)
                          refine OW.cons (OP.noU rfl rfl rfl ?_)
                          refine OW.cons (OP.no' rfl rfl rfl rfl ?_)
                          refine OW.cons (OP.no' rfl rfl rfl rfl ?_)
                          refine OW.cons (OP.noU rfl rfl rfl ?_)
                          refine OW.cons (OP.noU rfl rfl rfl ?_)
                          refine OW.cons (OP.noU rfl rfl rfl ?_)
                          refine OW.cons (OP.no' rfl rfl rfl rfl ?_)
                          refine OW.cons (OP.val (v := (.bool false)) rfl (x_pickF' rfl rfl rfl) ?_)
                          refine OW.cons (OP.val (v := (.bool false)) rfl (x_assign) ?_)
                          refine OW.nil ?_
                          exact ⟨false, hm, ⟨rfl, hL⟩⟩
                    · refine OW.cons (OP.no' rfl rfl hb78 rfl ?_)
                      refine OW.cons (OP.no' rfl rfl hb78 rfl ?_)
                      refine OW.cons (OP.no' rfl rfl hb78 rfl ?_)
                      refine OW.cons (OP.noU rfl rfl rfl ?_)
                      refine OW.cons (OP.noU rfl rfl rfl ?_)
                      refine OW.cons (OP.noU rfl rfl rfl ?_)
                      refine OW.cons (OP.noU rfl rfl rfl ?_)
                      refine OW.cons (OP.noU rfl rfl rfl ?_)
                      refine OW.cons (OP.noU rfl rfl rfl ?_)
                      refine OW.cons (OP.noU rfl rfl rfl ?_)
                      refine OW.cons (OP.noU rfl rfl rfl ?_)
                      refine OW.cons (OP.noU rfl rfl rfl ?_)
                      refine OW.cons (OP.noU rfl rfl rfl ?_)
                      refine OW.cons (OP.noU rfl rfl rfl ?_)
                      refine OW.cons (OP.noU rfl rfl rfl ?_)
                      refine OW.cons (OP.noU rfl rfl rfl ?_)
                      refine OW.cons (OP.noU rfl rfl rfl ?_)
                      refine OW.cons (OP.no' rfl rfl hb78 rfl ?_)
                      refine OW.cons (OP.val (v := (.bool false)) rfl (x_pickF' rfl hb78 rfl) ?_)
                      refine OW.cons (OP.val (v := (.bool false)) rfl (x_move) ?_)
                      refine OW.cons (OP.no' rfl rfl rfl rfl ?_)
                      refine OW.cons (OP.no' rfl rfl rfl rfl ?_)
                      refine OW.cons (OP.no' rfl rfl rfl rfl ?_)
                      refine OW.cons (OP.noU rfl rfl rfl ?_)
                      refine OW.cons (OP.noU rfl rfl rfl ?_)
                      refine OW.cons (OP.noU rfl rfl rfl ?_)
                      refine OW.cons (OP.no' rfl rfl rfl rfl ?_)
                      refine OW.cons (OP.no' rfl rfl rfl rfl ?_)
                      refine OW.cons (OP.noU rfl rfl rfl ?_)
                      refine OW.cons (OP.noU rfl rfl rfl ?_)
                      refine OW.cons (OP.noU rfl rfl rfl ?_)
                      refine OW.cons (OP.no' rfl rfl rfl rfl ?_)
                      refine OW.cons (OP.val (v := (.bool false)) rfl (x_pickF' rfl rfl rfl) ?_)
                      refine OW.cons (OP.val (v := (.bool false)) rfl (x_assign) ?_)
                      refine OW.nil ?_
                      exact ⟨false, hm, ⟨rfl, hL⟩⟩
                  · refine OW.cons (OP.no' rfl rfl hb77 rfl ?_)
                    refine OW.cons (OP.no' rfl rfl hb77 rfl ?_)
                    refine OW.cons (OP.no' rfl rfl hb77 rfl ?_)
                    refine OW.cons (OP.val (v := (.bool false)) rfl (x_pickF' rfl hb77 rfl) ?_)
                    refine OW.cons (OP.val (v := (.bool false)) rfl (x_move) ?_)
                    refine OW.cons (OP.no' rfl rfl rfl rfl ?_)
                    refine OW.cons (OP.no' rfl rfl rfl rfl ?_)
                    refine OW.cons (OP.no' rfl rfl rfl rfl ?_)
                    refine OW.cons (OP.noU rfl rfl rfl ?_)
                    refine OW.cons (OP.noU rfl rfl rfl ?_)
                    refine OW.cons (OP.noU rfl rfl rfl ?_)
                    refine OW.cons (OP.noU rfl rfl rfl ?_)
                    refine OW.cons (OP.noU rfl rfl rfl ?_)
                    refine OW.cons (OP.noU rfl rfl rfl ?_)
                    refine OW.cons (OP.noU rfl rfl rfl ?_)
                    refine OW.cons (OP.noU rfl rfl rfl ?_)
                    refine OW.cons (OP.noU rfl rfl rfl ?_)
                    refine OW.cons (OP.noU rfl rfl rfl ?_)
                    refine OW.cons (OP.noU rfl rfl rfl ?_)
                    refine OW.cons (OP.noU rfl rfl rfl ?_)
                    refine OW.cons (OP.noU rfl rfl rfl ?_)
                    refine OW.cons (OP.noU rfl rfl rfl ?_)
                    refine OW.cons (OP.no' rfl rfl rfl rfl ?_)
                    refine OW.cons (OP.val (v := (.bool false)) rfl (x_pickF' rfl rfl rfl) ?_)
                    refine OW.cons (OP.val (v := (.bool false)) rfl (x_move) ?_)
                    refine OW.cons (OP.no' rfl rfl rfl rfl ?_)
                    refine OW.cons (OP.no' rfl rfl rfl rfl ?_)
                    refine OW.cons (OP.no' rfl rfl rfl rfl ?_)
                    refine OW.cons (OP.noU rfl rfl rfl ?_)
                    refine OW.cons (OP.noU rfl rfl rfl ?_)
                    refine OW.cons (OP.noU rfl rfl rfl ?_)
                    refine OW.cons (OP.no' rfl rfl rfl rfl ?_)
                    refine OW.cons (OP.no' rfl rfl rfl rfl ?_)
                    refine OW.cons (OP.noU rfl rfl rfl ?_)
                    refine OW.cons (OP.noU rfl rfl rfl ?_)
                    refine OW.cons (OP.noU rfl rfl rfl ?_)
                    refine OW.cons (OP.no' rfl rfl rfl rfl ?_)
                    refine OW.cons (OP.val (v := (.bool false)) rfl (x_pickF' rfl rfl rfl) ?_)
                    refine OW.cons (OP.val (v := (.bool false)) rfl (x_assign) ?_)
                    refine OW.nil ?_
                    exact ⟨false, hm, ⟨rfl, hL⟩⟩
                · intro s_j4 F74 wd75 hJ hm
                  unfold M.laws_FnProgress_j4 at hm
                  obtain ⟨f76, hL⟩ := hJ
                  refine CW.ret ?_
                  obtain rfl := Option.some.inj hm
                  exact RR1 rfl f76 ⟨rfl, hL.fresh 1 rfl [] (by decide) (by decide) rfl⟩

end Go.Proofs.Ytiacilijcnbblaa
