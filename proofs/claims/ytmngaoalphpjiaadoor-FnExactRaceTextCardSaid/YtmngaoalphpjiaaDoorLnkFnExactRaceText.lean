/- Links: each Go function returns what its model computes and leaves what was there. Printed by my generator. -/
import Derived.Test.YtmngaoalphpjiaaDoorMod4
import Derived.Test.YtmngaoalphpjiaaDoorBase10
import Derived.Test.YtmngaoalphpjiaaDoorProg
import Derived.KernelRfl
import Derived.Test.YtmngaoalphpjiaaDoorLayFtx
namespace Go.Proofs.YtmngaoalphpjiaaDoor
set_option maxRecDepth 10000
open Go Go.RowKit Go.ChangeShapes Go.WideShapes
set_option linter.unusedVariables false
set_option linter.unusedSimpArgs false

theorem Tryd_mixed : Tryd.prog.follows .mixedOrders = true := by kernel_rfl
theorem Tryd_T2 : TyI Tryd.prog 2 1 8 (.int .i64 0) := by unfold TyI; kernel_rfl
theorem Tryd_T4 : TyI Tryd.prog 4 1 1 (.bool false) := by unfold TyI; kernel_rfl
theorem Tryd_T5 : TyI Tryd.prog 5 1 1 (.int .u8 0) := by unfold TyI; kernel_rfl
theorem Tryd_T9 : TyI Tryd.prog 9 1 16 (.string ByteArray.empty) := by unfold TyI; kernel_rfl
theorem Tryd_T23 : TyI Tryd.prog 23 4 32 (.agg #[.int .i64 0, .int .i64 0, .int .i64 0, .int .i64 0]) := by unfold TyI; kernel_rfl
theorem Tryd_T25 : TyI Tryd.prog 25 4 32 (.agg #[.int .i64 0, .int .i64 0, .int .i64 0, .int .i64 0]) := by unfold TyI; kernel_rfl
theorem Tryd_T35 : TyI Tryd.prog 35 1 24 (.slice none 0 0) := by unfold TyI; kernel_rfl
theorem Tryd_T37 : TyI Tryd.prog 37 1 24 (.agg #[.slice none 0 0]) := by unfold TyI; kernel_rfl
theorem Tryd_T40 : TyI Tryd.prog 40 1 24 (.slice none 0 0) := by unfold TyI; kernel_rfl
theorem Tryd_T42 : TyI Tryd.prog 42 1 24 (.agg #[.slice none 0 0]) := by unfold TyI; kernel_rfl
theorem Tryd_T46 : TyI Tryd.prog 46 1 24 (.slice none 0 0) := by unfold TyI; kernel_rfl
theorem Tryd_T48 : TyI Tryd.prog 48 3 56 (.agg #[.int .i64 0, .slice none 0 0, .slice none 0 0]) := by unfold TyI; kernel_rfl
theorem Tryd_T49 : TyI Tryd.prog 49 1 24 (.slice none 0 0) := by unfold TyI; kernel_rfl
theorem Tryd_T52 : TyI Tryd.prog 52 3 56 (.agg #[.int .i64 0, .slice none 0 0, .slice none 0 0]) := by unfold TyI; kernel_rfl
theorem Tryd_T61 : TyI Tryd.prog 61 3 48 (.agg #[.string ByteArray.empty, .string ByteArray.empty, .string ByteArray.empty]) := by unfold TyI; kernel_rfl
theorem Tryd_T66 : TyI Tryd.prog 66 2 16 (.agg #[.int .i64 0, .int .i64 0]) := by unfold TyI; kernel_rfl
theorem Tryd_T68 : TyI Tryd.prog 68 2 16 (.agg #[.int .i64 0, .int .i64 0]) := by unfold TyI; kernel_rfl
theorem Tryd_T75 : TyI Tryd.prog 75 3 24 (.agg #[.int .i64 0, .int .i64 0, .int .i64 0]) := by unfold TyI; kernel_rfl
theorem Tryd_T98 : TyI Tryd.prog 98 3 24 (.agg #[.int .i64 0, .int .i64 0, .int .i64 0]) := by unfold TyI; kernel_rfl
theorem Tryd_T100 : TyI Tryd.prog 100 10 160 (.agg #[.string ByteArray.empty, .string ByteArray.empty, .string ByteArray.empty, .string ByteArray.empty, .string ByteArray.empty, .string ByteArray.empty, .string ByteArray.empty, .string ByteArray.empty, .string ByteArray.empty, .string ByteArray.empty]) := by unfold TyI; kernel_rfl
theorem Tryd_C7 : CallOK Tryd.prog 7 := ⟨_, _, Tryd.func7, rfl, by kernel_rfl⟩
theorem Tryd_C8 : CallOK Tryd.prog 8 := ⟨_, _, Tryd.func8, rfl, by kernel_rfl⟩
theorem Tryd_C9 : CallOK Tryd.prog 9 := ⟨_, _, Tryd.func9, rfl, by kernel_rfl⟩
theorem Tryd_C10 : CallOK Tryd.prog 10 := ⟨_, _, Tryd.func10, rfl, by kernel_rfl⟩
theorem Tryd_C11 : CallOK Tryd.prog 11 := ⟨_, _, Tryd.func11, rfl, by kernel_rfl⟩
theorem Tryd_C12 : CallOK Tryd.prog 12 := ⟨_, _, Tryd.func12, rfl, by kernel_rfl⟩
theorem Tryd_C13 : CallOK Tryd.prog 13 := ⟨_, _, Tryd.func13, rfl, by kernel_rfl⟩
theorem Tryd_C14 : CallOK Tryd.prog 14 := ⟨_, _, Tryd.func14, rfl, by kernel_rfl⟩
theorem Tryd_C15 : CallOK Tryd.prog 15 := ⟨_, _, Tryd.func15, rfl, by kernel_rfl⟩
theorem Tryd_C16 : CallOK Tryd.prog 16 := ⟨_, _, Tryd.func16, rfl, by kernel_rfl⟩
theorem Tryd_C17 : CallOK Tryd.prog 17 := ⟨_, _, Tryd.func17, rfl, by kernel_rfl⟩
theorem Tryd_C18 : CallOK Tryd.prog 18 := ⟨_, _, Tryd.func18, rfl, by kernel_rfl⟩
theorem Tryd_C19 : CallOK Tryd.prog 19 := ⟨_, _, Tryd.func19, rfl, by kernel_rfl⟩
theorem Tryd_C20 : CallOK Tryd.prog 20 := ⟨_, _, Tryd.func20, rfl, by kernel_rfl⟩
theorem Tryd_C21 : CallOK Tryd.prog 21 := ⟨_, _, Tryd.func21, rfl, by kernel_rfl⟩
theorem Tryd_C22 : CallOK Tryd.prog 22 := ⟨_, _, Tryd.func22, rfl, by kernel_rfl⟩
theorem Tryd_C23 : CallOK Tryd.prog 23 := ⟨_, _, Tryd.func23, rfl, by kernel_rfl⟩
theorem Tryd_C24 : CallOK Tryd.prog 24 := ⟨_, _, Tryd.func24, rfl, by kernel_rfl⟩
theorem Tryd_C25 : CallOK Tryd.prog 25 := ⟨_, _, Tryd.func25, rfl, by kernel_rfl⟩
theorem Tryd_C26 : CallOK Tryd.prog 26 := ⟨_, _, Tryd.func26, rfl, by kernel_rfl⟩
theorem Tryd_C27 : CallOK Tryd.prog 27 := ⟨_, _, Tryd.func27, rfl, by kernel_rfl⟩
theorem Tryd_C28 : CallOK Tryd.prog 28 := ⟨_, _, Tryd.func28, rfl, by kernel_rfl⟩
theorem Tryd_C29 : CallOK Tryd.prog 29 := ⟨_, _, Tryd.func29, rfl, by kernel_rfl⟩
theorem Tryd_C30 : CallOK Tryd.prog 30 := ⟨_, _, Tryd.func30, rfl, by kernel_rfl⟩
theorem Tryd_C31 : CallOK Tryd.prog 31 := ⟨_, _, Tryd.func31, rfl, by kernel_rfl⟩
theorem Tryd_C32 : CallOK Tryd.prog 32 := ⟨_, _, Tryd.func32, rfl, by kernel_rfl⟩
theorem Tryd_C33 : CallOK Tryd.prog 33 := ⟨_, _, Tryd.func33, rfl, by kernel_rfl⟩
theorem Tryd_C34 : CallOK Tryd.prog 34 := ⟨_, _, Tryd.func34, rfl, by kernel_rfl⟩
theorem Tryd_C35 : CallOK Tryd.prog 35 := ⟨_, _, Tryd.func35, rfl, by kernel_rfl⟩
theorem Tryd_C36 : CallOK Tryd.prog 36 := ⟨_, _, Tryd.func36, rfl, by kernel_rfl⟩
theorem Tryd_C37 : CallOK Tryd.prog 37 := ⟨_, _, Tryd.func37, rfl, by kernel_rfl⟩
theorem Tryd_C38 : CallOK Tryd.prog 38 := ⟨_, _, Tryd.func38, rfl, by kernel_rfl⟩
theorem Tryd_C39 : CallOK Tryd.prog 39 := ⟨_, _, Tryd.func39, rfl, by kernel_rfl⟩
theorem Tryd_C40 : CallOK Tryd.prog 40 := ⟨_, _, Tryd.func40, rfl, by kernel_rfl⟩
theorem Tryd_C41 : CallOK Tryd.prog 41 := ⟨_, _, Tryd.func41, rfl, by kernel_rfl⟩
theorem Tryd_C42 : CallOK Tryd.prog 42 := ⟨_, _, Tryd.func42, rfl, by kernel_rfl⟩
theorem Tryd_C43 : CallOK Tryd.prog 43 := ⟨_, _, Tryd.func43, rfl, by kernel_rfl⟩
theorem Tryd_C44 : CallOK Tryd.prog 44 := ⟨_, _, Tryd.func44, rfl, by kernel_rfl⟩
theorem Tryd_C45 : CallOK Tryd.prog 45 := ⟨_, _, Tryd.func45, rfl, by kernel_rfl⟩
theorem Tryd_C46 : CallOK Tryd.prog 46 := ⟨_, _, Tryd.func46, rfl, by kernel_rfl⟩
theorem Tryd_C47 : CallOK Tryd.prog 47 := ⟨_, _, Tryd.func47, rfl, by kernel_rfl⟩
theorem Tryd_C48 : CallOK Tryd.prog 48 := ⟨_, _, Tryd.func48, rfl, by kernel_rfl⟩
theorem Tryd_C49 : CallOK Tryd.prog 49 := ⟨_, _, Tryd.func49, rfl, by kernel_rfl⟩
theorem Tryd_C50 : CallOK Tryd.prog 50 := ⟨_, _, Tryd.func50, rfl, by kernel_rfl⟩
theorem Tryd_C51 : CallOK Tryd.prog 51 := ⟨_, _, Tryd.func51, rfl, by kernel_rfl⟩
theorem Tryd_C52 : CallOK Tryd.prog 52 := ⟨_, _, Tryd.func52, rfl, by kernel_rfl⟩
theorem Tryd_C53 : CallOK Tryd.prog 53 := ⟨_, _, Tryd.func53, rfl, by kernel_rfl⟩
theorem Tryd_C54 : CallOK Tryd.prog 54 := ⟨_, _, Tryd.func54, rfl, by kernel_rfl⟩
theorem Tryd_C55 : CallOK Tryd.prog 55 := ⟨_, _, Tryd.func55, rfl, by kernel_rfl⟩
theorem Tryd_C56 : CallOK Tryd.prog 56 := ⟨_, _, Tryd.func56, rfl, by kernel_rfl⟩
theorem Tryd_C57 : CallOK Tryd.prog 57 := ⟨_, _, Tryd.func57, rfl, by kernel_rfl⟩
theorem Tryd_C58 : CallOK Tryd.prog 58 := ⟨_, _, Tryd.func58, rfl, by kernel_rfl⟩
theorem Tryd_C59 : CallOK Tryd.prog 59 := ⟨_, _, Tryd.func59, rfl, by kernel_rfl⟩
theorem Tryd_C63 : CallOK Tryd.prog 63 := ⟨_, _, Tryd.func63, rfl, by kernel_rfl⟩
theorem Tryd_C64 : CallOK Tryd.prog 64 := ⟨_, _, Tryd.func64, rfl, by kernel_rfl⟩
theorem Tryd_C65 : CallOK Tryd.prog 65 := ⟨_, _, Tryd.func65, rfl, by kernel_rfl⟩
theorem Tryd_C66 : CallOK Tryd.prog 66 := ⟨_, _, Tryd.func66, rfl, by kernel_rfl⟩
theorem Tryd_C67 : CallOK Tryd.prog 67 := ⟨_, _, Tryd.func67, rfl, by kernel_rfl⟩
theorem Tryd_C68 : CallOK Tryd.prog 68 := ⟨_, _, Tryd.func68, rfl, by kernel_rfl⟩
theorem Tryd_C69 : CallOK Tryd.prog 69 := ⟨_, _, Tryd.func69, rfl, by kernel_rfl⟩
theorem Tryd_C70 : CallOK Tryd.prog 70 := ⟨_, _, Tryd.func70, rfl, by kernel_rfl⟩
theorem Tryd_C71 : CallOK Tryd.prog 71 := ⟨_, _, Tryd.func71, rfl, by kernel_rfl⟩
theorem Tryd_C72 : CallOK Tryd.prog 72 := ⟨_, _, Tryd.func72, rfl, by kernel_rfl⟩
theorem Tryd_C73 : CallOK Tryd.prog 73 := ⟨_, _, Tryd.func73, rfl, by kernel_rfl⟩
theorem Tryd_C74 : CallOK Tryd.prog 74 := ⟨_, _, Tryd.func74, rfl, by kernel_rfl⟩
theorem Tryd_C75 : CallOK Tryd.prog 75 := ⟨_, _, Tryd.func75, rfl, by kernel_rfl⟩
theorem Tryd_C76 : CallOK Tryd.prog 76 := ⟨_, _, Tryd.func76, rfl, by kernel_rfl⟩
theorem Tryd_C77 : CallOK Tryd.prog 77 := ⟨_, _, Tryd.func77, rfl, by kernel_rfl⟩
theorem Tryd_C81 : CallOK Tryd.prog 81 := ⟨_, _, Tryd.func81, rfl, by kernel_rfl⟩
theorem Tryd_C82 : CallOK Tryd.prog 82 := ⟨_, _, Tryd.func82, rfl, by kernel_rfl⟩
theorem Tryd_C83 : CallOK Tryd.prog 83 := ⟨_, _, Tryd.func83, rfl, by kernel_rfl⟩
theorem Tryd_C84 : CallOK Tryd.prog 84 := ⟨_, _, Tryd.func84, rfl, by kernel_rfl⟩
theorem Tryd_C85 : CallOK Tryd.prog 85 := ⟨_, _, Tryd.func85, rfl, by kernel_rfl⟩
theorem Tryd_C86 : CallOK Tryd.prog 86 := ⟨_, _, Tryd.func86, rfl, by kernel_rfl⟩
theorem Tryd_C87 : CallOK Tryd.prog 87 := ⟨_, _, Tryd.func87, rfl, by kernel_rfl⟩
theorem Tryd_C88 : CallOK Tryd.prog 88 := ⟨_, _, Tryd.func88, rfl, by kernel_rfl⟩
theorem Tryd_C89 : CallOK Tryd.prog 89 := ⟨_, _, Tryd.func89, rfl, by kernel_rfl⟩
theorem Tryd_C90 : CallOK Tryd.prog 90 := ⟨_, _, Tryd.func90, rfl, by kernel_rfl⟩
theorem Tryd_C91 : CallOK Tryd.prog 91 := ⟨_, _, Tryd.func91, rfl, by kernel_rfl⟩
theorem Tryd_C92 : CallOK Tryd.prog 92 := ⟨_, _, Tryd.func92, rfl, by kernel_rfl⟩
theorem Tryd_C93 : CallOK Tryd.prog 93 := ⟨_, _, Tryd.func93, rfl, by kernel_rfl⟩
theorem Tryd_C100 : CallOK Tryd.prog 100 := ⟨_, _, Tryd.func100, rfl, by kernel_rfl⟩
theorem Tryd_C101 : CallOK Tryd.prog 101 := ⟨_, _, Tryd.func101, rfl, by kernel_rfl⟩
theorem Tryd_C102 : CallOK Tryd.prog 102 := ⟨_, _, Tryd.func102, rfl, by kernel_rfl⟩
theorem Tryd_C103 : CallOK Tryd.prog 103 := ⟨_, _, Tryd.func103, rfl, by kernel_rfl⟩
theorem Tryd_C104 : CallOK Tryd.prog 104 := ⟨_, _, Tryd.func104, rfl, by kernel_rfl⟩
theorem Tryd_C105 : CallOK Tryd.prog 105 := ⟨_, _, Tryd.func105, rfl, by kernel_rfl⟩
theorem Tryd_C107 : CallOK Tryd.prog 107 := ⟨_, _, Tryd.func107, rfl, by kernel_rfl⟩
theorem Tryd_C111 : CallOK Tryd.prog 111 := ⟨_, _, Tryd.func111, rfl, by kernel_rfl⟩
theorem Tryd_C112 : CallOK Tryd.prog 112 := ⟨_, _, Tryd.func112, rfl, by kernel_rfl⟩
theorem Tryd_C113 : CallOK Tryd.prog 113 := ⟨_, _, Tryd.func113, rfl, by kernel_rfl⟩
theorem Tryd_C117 : CallOK Tryd.prog 117 := ⟨_, _, Tryd.func117, rfl, by kernel_rfl⟩
theorem Tryd_C123 : CallOK Tryd.prog 123 := ⟨_, _, Tryd.func123, rfl, by kernel_rfl⟩
theorem Tryd_C133 : CallOK Tryd.prog 133 := ⟨_, _, Tryd.func133, rfl, by kernel_rfl⟩
abbrev U2 := @Tryd.underlying2
abbrev U5 := @Tryd.underlying5
abbrev U9 := @Tryd.underlying9
abbrev U35 := @Tryd.underlying35
abbrev U37 := @Tryd.underlying37
abbrev U40 := @Tryd.underlying40
abbrev U42 := @Tryd.underlying42
abbrev U60 := @Tryd.underlying60
abbrev U75 := @Tryd.underlying75
abbrev U86 := @Tryd.underlying86
abbrev U98 := @Tryd.underlying98
abbrev U100 := @Tryd.underlying100

theorem M.spec_l01In_ok (w0 : World) (a0 : Int) (a1 : Int) (a2 : Int) {r : Bool} (hm : M.spec_l01In a0 a1 a2 = some r) :
    Calls Tryd.prog 27 #[(.int .i64 a0), (.int .i64 a1), (.int .i64 a2)] w0 fun e w' => e = .returned (.bool r) ∧ Fresh w0 w' [] := by
 unfold M.spec_l01In at hm
 refine calls_CW (args := [(.int .i64 a0), (.int .i64 a1), (.int .i64 a2)]) Tryd.func27 rfl rfl rfl ?_
 have hL := Hp.start w0
 refine CSR ?_
 refine OV (.bool false) rfl (x_assign) ?_
 refine OW.nil ?_
 refine CW.seqJ (fun (s_j1 : Bool) (F : Fr) (w : World) => F 6 = (.bool s_j1) ∧ Hp w0 [Ent.snap w0 w0.heap.size] w) (fun s_j1 => M.spec_l01In_j1 s_j1 = some r) ?_ ?_
 · refine CW.regionL ?_
   refine OV (.int .i64 a0) rfl (x_move) ?_
   refine OV (.int .i64 a1) rfl (x_move) ?_
   refine OV (.bool (decide (a1 ≤ a0))) rfl (x_geq rfl rfl) ?_
   refine OV (.bool (decide (a1 ≤ a0))) rfl (x_move) ?_
   refine ifB_elim hm (fun hb5 hm => ?_) (fun hb5 hm => ?_)
   · refine OW.cons (OP.yes' rfl rfl hb5 (OP.val (v := (.int .i64 a0)) rfl (x_move) ?_))
     refine OW.cons (OP.yes' rfl rfl hb5 (OP.val (v := (.int .i64 a2)) rfl (x_move) ?_))
     refine OW.cons (OP.yes' rfl rfl hb5 (OP.val (v := (.bool (decide (a0 ≤ a2)))) rfl (x_leq rfl rfl) ?_))
     refine OV (.bool (decide (a0 ≤ a2))) rfl (x_pickT' rfl hb5 rfl) ?_
     refine OV (.bool (decide (a0 ≤ a2))) rfl (x_assign) ?_
     refine OW.nil ?_
     exact ⟨decide (a0 ≤ a2), hm, ⟨rfl, hL⟩⟩
   refine OW.cons (OP.no' rfl rfl hb5 rfl ?_)
   refine OW.cons (OP.no' rfl rfl hb5 rfl ?_)
   refine OW.cons (OP.no' rfl rfl hb5 rfl ?_)
   refine OV (.bool false) rfl (x_pickF' rfl hb5 rfl) ?_
   refine OV (.bool false) rfl (x_assign) ?_
   refine OW.nil ?_
   exact ⟨false, hm, ⟨rfl, hL⟩⟩
 intro s_j1 F2 wd3 hJ hm
 unfold M.spec_l01In_j1 at hm
 obtain ⟨f4, hL⟩ := hJ
 refine CW.ret ?_
 obtain rfl := Option.some.inj hm
 exact RR1 rfl f4 ⟨rfl, hL.fresh 0 rfl [] (by decide) (by decide) rfl⟩

theorem M.spec_l26Number_ok (w0 : World) (a0 : Int) {r : ByteArray} (hm : M.spec_l26Number a0 = some r) :
    Calls Tryd.prog 28 #[(.int .i64 a0)] w0 fun e w' => e = .returned (.string r) ∧ Fresh w0 w' [] := by
 unfold M.spec_l26Number at hm
 refine calls_CW (args := [(.int .i64 a0)]) Tryd.func28 rfl rfl rfl ?_
 have hL := Hp.start w0
 refine CSR ?_
 refine OV (.string (⟨#[]⟩ : ByteArray)) rfl (x_assign) ?_
 refine ONR ?_
 refine OW.cons (S_lit ([] : List UInt8) hL U86 Tryd_T5 rfl (by decide) (by first | (simp [Instr.fill, madeCells, Value.cells, ev, upd, Flat.enc, Flat.sz]; done) | rfl | kernel_rfl) rfl rfl ?_)
 intro wd1 v2 S3 hL
 refine OV v2 rfl (x_assign) ?_
 refine ONS ?_
 refine CSR ?_
 refine OV (.int .i64 a0) rfl (x_move) ?_
 refine OV (.int .i64 a0) rfl (x_assign) ?_
 refine OW.nil ?_
 obtain ⟨o40, ho41, hm⟩ := bndE hm
 refine CW.loopB (fun (s_l1 : (List UInt8) × Int) (F : Fr) (w : World) => ∃ (v36 : Value) (S37 : Nat → Prop), F 3 = v36 ∧ F 4 = (.int .i64 s_l1.2) ∧ Hp w0 [Ent.own 5 S37 v36 s_l1.1, Ent.snap w0 w0.heap.size] w) (fun o => outc o (fun x => some x) (fun s => M.spec_l26Number_a1 s) = some r) ho41 hm ⟨v2, S3, rfl, rfl, hL⟩ ?_ ?_
 · intro s_l1 F42 wd43 hJ hm
   have hm := outcE hm
   have hm : M.spec_l26Number_a1 s_l1 = some r := hm
   unfold M.spec_l26Number_a1 at hm
   obtain ⟨v36, S37, f44, f45, hL⟩ := hJ
   refine CSR ?_
   refine OV v36 rfl (x_mv f44) ?_
   refine OV (.string (bts s_l1.1)) rfl (x_bts U86 U5 U9 rfl (hL.rdO 0 rfl)) ?_
   refine OV (.string (bts s_l1.1)) rfl (x_assign) ?_
   refine OW.nil ?_
   refine CW.ret ?_
   obtain rfl := Option.some.inj hm
   exact RR1 rfl rfl ⟨rfl, hL.fresh 1 rfl [] (by decide) (by decide) rfl⟩
 intro s_l1 F46 wd47 t38 hJ hm hr39
 unfold M.spec_l26Number_l1 at hm
 obtain ⟨v36, S37, f48, f49, hL⟩ := hJ
 refine CW.seq ?_
 refine CW.seqJ (fun (s_j1 : Bool) (F : Fr) (w : World) => F 3 = v36 ∧ F 4 = (.int .i64 s_l1.2) ∧ F 13 = (.bool s_j1) ∧ Hp w0 [Ent.own 5 S37 v36 s_l1.1, Ent.snap w0 w0.heap.size] w) (fun s_j1 => M.spec_l26Number_j1 s_l1 s_j1 = some t38) ?_ ?_
 · refine CW.regionL ?_
   refine OV (.int .i64 s_l1.2) rfl (x_mv f49) ?_
   refine OV (.bool (decide (0 < s_l1.2))) rfl (x_gtr rfl rfl) ?_
   refine OV (.bool (decide (0 < s_l1.2))) rfl (x_move) ?_
   refine ifB_elim hm (fun hb64 hm => ?_) (fun hb64 hm => ?_)
   · refine OW.cons (OP.no' rfl rfl hb64 rfl ?_)
     refine OW.cons (OP.no' rfl rfl hb64 rfl ?_)
     refine OW.cons (OP.no' rfl rfl hb64 rfl ?_)
     refine OV (.bool true) rfl (x_pickT' rfl hb64 rfl) ?_
     refine OW.nil ?_
     exact ⟨true, hm, ⟨f48, f49, rfl, hL⟩⟩
   refine OW.cons (OP.yes' rfl rfl hb64 (OP.val (v := v36) rfl (x_mv f48) ?_))
   refine OW.cons (OP.yes' rfl rfl hb64 (OP.val (v := (.int .i64 (s_l1.1.length : Int))) rfl (x_lenR U86 rfl (hL.rdO 0 rfl)) ?_))
   refine OW.cons (OP.yes' rfl rfl hb64 (OP.val (v := (.bool ((s_l1.1.length : Int) == 0))) rfl (x_eql rfl rfl) ?_))
   refine OV (.bool ((s_l1.1.length : Int) == 0)) rfl (x_pickF' rfl hb64 rfl) ?_
   refine OW.nil ?_
   exact ⟨(s_l1.1.length : Int) == 0, hm, ⟨f48, f49, rfl, hL⟩⟩
 intro s_j1 F51 wd52 hJ hm
 unfold M.spec_l26Number_j1 at hm
 obtain ⟨f53, f54, f55, hL⟩ := hJ
 refine CW.condM (t := s_j1) f55 hm (fun hb56 hm => ?_) (fun hb56 hm => ?_)
 · refine CW.skip ?_
   refine CW.seq ?_
   refine CW.block ?_
   refine CW.regionL ?_
   refine OV (.int .i64 s_l1.2) rfl (x_mv f54) ?_
   refine OV (.int .i64 (s_l1.2.tmod 10)) rfl (x_rem rfl rfl (by decide)) ?_
   refine OV (.int .i64 (w64 (48 + (s_l1.2.tmod 10)))) rfl (x_add rfl rfl) ?_
   refine OV (.int .u8 (IntKind.u8.wrap (w64 (48 + (s_l1.2.tmod 10))))) rfl (x_conv U2 U5 rfl) ?_
   refine OW.cons (S_lit ([(UInt8.ofNat (IntKind.u8.wrap (w64 (48 + (s_l1.2.tmod 10)))).toNat)] : List UInt8) hL U86 Tryd_T5 rfl (by decide) (by simp only [Flat.enc, List.flatMap_cons, List.flatMap_nil, u8w]; first | rfl | kernel_rfl) rfl rfl ?_)
   intro wd57 v58 S59 hL
   refine OV v36 rfl (x_mv f53) ?_
   obtain ⟨hc63, hm⟩ := chkE hm
   refine OW.cons (S_append (ys := s_l1.1) hL 0 rfl U86 Tryd_T5 rfl rfl rfl (hL.rdO 1 rfl) hc63 (by decide) rfl ?_)
   intro wd60 v61 S62 hL
   refine OV v61 rfl (x_assign) ?_
   refine OW.nil ?_
   refine CW.regionL ?_
   refine OV (.int .i64 s_l1.2) rfl (x_mv f54) ?_
   refine OV (.int .i64 (w64 (s_l1.2.tdiv 10))) rfl (x_quo rfl rfl (by decide)) ?_
   refine OV (.int .i64 (w64 (s_l1.2.tdiv 10))) rfl (x_assign) ?_
   refine OW.nil ?_
   have hL := hL.sel [0, 2] (by decide) rfl
   obtain rfl := Option.some.inj hm
   exact ⟨_, rfl, ⟨v61, S62, rfl, rfl, hL⟩⟩
 refine CW.exit ?_
 refine XJ.hit ?_
 obtain rfl := Option.some.inj hm
 exact ⟨_, rfl, ⟨v36, S37, f53, f54, hL⟩⟩

theorem M.impl_within_ok (w0 : World) (a0 : Int) (a1 : Int) (a2 : Int) {r : Bool} (hm : M.impl_within a0 a1 a2 = some r) :
    Calls Tryd.prog 29 #[(.int .i64 a0), (.int .i64 a1), (.int .i64 a2)] w0 fun e w' => e = .returned (.bool r) ∧ Fresh w0 w' [] := by
 unfold M.impl_within at hm
 refine calls_CW (args := [(.int .i64 a0), (.int .i64 a1), (.int .i64 a2)]) Tryd.func29 rfl rfl rfl ?_
 have hL := Hp.start w0
 refine CSR ?_
 refine OV (.bool false) rfl (x_assign) ?_
 refine OW.nil ?_
 refine CW.seqJ (fun (s_j1 : Bool) (F : Fr) (w : World) => F 6 = (.bool s_j1) ∧ Hp w0 [Ent.snap w0 w0.heap.size] w) (fun s_j1 => M.impl_within_j1 s_j1 = some r) ?_ ?_
 · refine CW.regionL ?_
   refine OV (.int .i64 a0) rfl (x_move) ?_
   refine OV (.int .i64 a1) rfl (x_move) ?_
   refine OV (.bool (decide (a1 ≤ a0))) rfl (x_geq rfl rfl) ?_
   refine OV (.bool (decide (a1 ≤ a0))) rfl (x_move) ?_
   refine ifB_elim hm (fun hb5 hm => ?_) (fun hb5 hm => ?_)
   · refine OW.cons (OP.yes' rfl rfl hb5 (OP.val (v := (.int .i64 a0)) rfl (x_move) ?_))
     refine OW.cons (OP.yes' rfl rfl hb5 (OP.val (v := (.int .i64 a2)) rfl (x_move) ?_))
     refine OW.cons (OP.yes' rfl rfl hb5 (OP.val (v := (.bool (decide (a0 ≤ a2)))) rfl (x_leq rfl rfl) ?_))
     refine OV (.bool (decide (a0 ≤ a2))) rfl (x_pickT' rfl hb5 rfl) ?_
     refine OV (.bool (decide (a0 ≤ a2))) rfl (x_assign) ?_
     refine OW.nil ?_
     exact ⟨decide (a0 ≤ a2), hm, ⟨rfl, hL⟩⟩
   refine OW.cons (OP.no' rfl rfl hb5 rfl ?_)
   refine OW.cons (OP.no' rfl rfl hb5 rfl ?_)
   refine OW.cons (OP.no' rfl rfl hb5 rfl ?_)
   refine OV (.bool false) rfl (x_pickF' rfl hb5 rfl) ?_
   refine OV (.bool false) rfl (x_assign) ?_
   refine OW.nil ?_
   exact ⟨false, hm, ⟨rfl, hL⟩⟩
 intro s_j1 F2 wd3 hJ hm
 unfold M.impl_within_j1 at hm
 obtain ⟨f4, hL⟩ := hJ
 refine CW.ret ?_
 obtain rfl := Option.some.inj hm
 exact RR1 rfl f4 ⟨rfl, hL.fresh 0 rfl [] (by decide) (by decide) rfl⟩

theorem M.impl_isBoat_ok (w0 : World) (a0 : Int) {r : Bool} (hm : M.impl_isBoat a0 = some r) :
    Calls Tryd.prog 30 #[(.int .i64 a0)] w0 fun e w' => e = .returned (.bool r) ∧ Fresh w0 w' [] := by
 unfold M.impl_isBoat at hm
 refine calls_CW (args := [(.int .i64 a0)]) Tryd.func30 rfl rfl rfl ?_
 have hL := Hp.start w0
 refine CSR ?_
 refine OV (.bool false) rfl (x_assign) ?_
 refine ONR ?_
 refine OV (.int .i64 a0) rfl (x_move) ?_
 obtain ⟨x1, hx2, hm⟩ := bndE hm
 refine OW.cons (OP.call rfl (x_call (vs := [(.int .i64 a0), (.int .i64 0), (.int .i64 15)]) Tryd_C29 ⟨rfl, rfl, rfl, trivial⟩) (M.impl_within_ok _ a0 0 15 hx2) ?_)
 rintro e3 wd4 ⟨rfl, hF5⟩
 refine ⟨_, rfl, ?_⟩
 have hL := hL.pushAll hF5
 simp only [lA, lB, lC, lD] at hL
 refine OV (.bool x1) rfl (x_assign) ?_
 refine OW.nil ?_
 refine CW.ret ?_
 obtain rfl := Option.some.inj hm
 exact RR1 rfl rfl ⟨rfl, hL.fresh 0 rfl [] (by decide) (by decide) rfl⟩

theorem M.strconv_FormatInt_ok (w0 : World) (htab : Lib.TabIs Tryd.prog w0 "internal/strconv.uint64pow10" .u64 Lib.pow10Tab) (a0 : Int) (a1 : Int) {r : ByteArray} (hm : M.strconv_FormatInt a0 a1 = some r) :
    Calls Tryd.prog 59 #[(.int .i64 a0), (.int .i64 a1)] w0 fun e w' => e = .returned (.string r) ∧ Fresh w0 w' [] := by
 unfold M.strconv_FormatInt at hm
 obtain ⟨⟨hb, h0, h1⟩, h2⟩ := chkE hm
 subst hb
 obtain rfl := Option.some.inj h2
 exact (Any.strconv_FormatInt_10 fmtLaid a0 h0 h1 w0 htab).mono fun e w' h => ⟨h.1, fresh_grow h.2⟩

theorem M.impl_text_ok (w0 : World) (htab : Lib.TabIs Tryd.prog w0 "internal/strconv.uint64pow10" .u64 Lib.pow10Tab) (a0 : Int) {r : ByteArray} (hm : M.impl_text a0 = some r) :
    Calls Tryd.prog 32 #[(.int .i64 a0)] w0 fun e w' => e = .returned (.string r) ∧ Fresh w0 w' [] := by
 unfold M.impl_text at hm
 refine calls_CW (args := [(.int .i64 a0)]) Tryd.func32 rfl rfl rfl ?_
 have hL := Hp.start w0
 refine CSR ?_
 refine OV (.string (⟨#[]⟩ : ByteArray)) rfl (x_assign) ?_
 refine ONR ?_
 refine OV (.int .i64 a0) rfl (x_move) ?_
 obtain ⟨x1, hx2, hm⟩ := bndE hm
 refine OW.cons (OP.call rfl (x_call (vs := [(.int .i64 a0), (.int .i64 10)]) Tryd_C59 ⟨rfl, rfl, trivial⟩) (M.strconv_FormatInt_ok _ (hL.tab 0 rfl rfl htab) a0 10 hx2) ?_)
 rintro e3 wd4 ⟨rfl, hF5⟩
 refine ⟨_, rfl, ?_⟩
 have hL := hL.pushAll hF5
 simp only [lA, lB, lC, lD] at hL
 refine OV (.string x1) rfl (x_assign) ?_
 refine OW.nil ?_
 refine CW.ret ?_
 obtain rfl := Option.some.inj hm
 exact RR1 rfl rfl ⟨rfl, hL.fresh 0 rfl [] (by decide) (by decide) rfl⟩

theorem M.strings_Join_ok (w0 : World) (a0 : List ByteArray) {v1 : Value} (h2 : rdL (· < w0.heap.size) w0 v1 a0) (a1 : ByteArray) {r : ByteArray} (hm : M.strings_Join a0 a1 = some r) :
    Calls Tryd.prog 37 #[v1, (.string a1)] w0 fun e w' => e = .returned (.string r) ∧ Fresh w0 w' [] :=
  join_fits h2 hm (fun bk o c q1 q2 q3 q4 q5 => Any.strings_Join joinLaid joinX bk o c a0 a1 w0 q1 q2 q3 q4 q5) (fun a c => Any.strings_Join_none joinLaid joinX a c a1 w0)

theorem M.laws_szFinishS_ok (w0 : World) (a0 : List Finish) {v1 : Value} (h2 : rdL (· < w0.heap.size) w0 v1 a0) (a1 : Int) {r : Int} (hm : M.laws_szFinishS a0 a1 = some r) :
    Calls Tryd.prog 39 #[v1, (.int .i64 a1)] w0 fun e w' => e = .returned (.int .i64 r) ∧ Fresh w0 w' [] := by
 unfold M.laws_szFinishS at hm
 refine calls_CW (args := [v1, (.int .i64 a1)]) Tryd.func39 rfl rfl rfl ?_
 have hL := Hp.start w0
 refine CSR ?_
 refine OV (.int .i64 0) rfl (x_assign) ?_
 refine ONR ?_
 refine OV (.int .i64 a1) rfl (x_move) ?_
 refine OV v1 rfl (x_move) ?_
 refine OV (.int .i64 (a0.length : Int)) rfl (x_lenR U35 rfl (hL.rdS 0 rfl h2)) ?_
 refine OV (.int .i64 (w64 (a1 - (a0.length : Int)))) rfl (x_sub rfl rfl) ?_
 refine OV (.int .i64 (w64 (a1 - (a0.length : Int)))) rfl (x_assign) ?_
 refine ONS ?_
 refine CSR ?_
 refine OV (.int .i64 (w64 (a1 - (a0.length : Int)))) rfl (x_move) ?_
 refine OV (.bool (decide ((w64 (a1 - (a0.length : Int))) < 0))) rfl (x_lss rfl rfl) ?_
 refine OW.nil ?_
 refine CW.condM (t := decide ((w64 (a1 - (a0.length : Int))) < 0)) rfl hm (fun hb3 hm => ?_) (fun hb3 hm => ?_)
 · refine CSR ?_
   refine OV (.int .i64 (-1)) rfl (x_assign) ?_
   refine OW.nil ?_
   refine CW.ret ?_
   obtain rfl := Option.some.inj hm
   exact RR1 rfl rfl ⟨rfl, hL.fresh 0 rfl [] (by decide) (by decide) rfl⟩
 refine CW.skip ?_
 refine CSR ?_
 refine OV (.int .i64 (w64 (a1 - (a0.length : Int)))) rfl (x_move) ?_
 refine OV (.int .i64 (w64 (a1 - (a0.length : Int)))) rfl (x_assign) ?_
 refine OW.nil ?_
 refine CW.ret ?_
 obtain rfl := Option.some.inj hm
 exact RR1 rfl rfl ⟨rfl, hL.fresh 0 rfl [] (by decide) (by decide) rfl⟩

theorem M.laws_szRace_ok (w0 : World) (a0 : Race) {v1 : Value} (h2 : rdL (· < w0.heap.size) w0 v1 a0.Finishes) (a1 : Int) {r : Int} (hm : M.laws_szRace a0 a1 = some r) :
    Calls Tryd.prog 15 #[(.agg #[v1]), (.int .i64 a1)] w0 fun e w' => e = .returned (.int .i64 r) ∧ Fresh w0 w' [] := by
 unfold M.laws_szRace at hm
 refine calls_CW (args := [(.agg #[v1]), (.int .i64 a1)]) Tryd.func15 rfl rfl rfl ?_
 have hL := Hp.start w0
 refine CSR ?_
 refine OW.cons (S_box (cs := #[v1]) hL rfl rfl rfl ?_)
 intro wd3 b4 hL
 refine OV (.int .i64 0) rfl (x_assign) ?_
 refine ONR ?_
 refine OV (.pointer (some ⟨b4, 0, none⟩)) rfl (x_fieldAddr (fsz := 1) 0 0 0 U37 rfl Tryd_T35 rfl rfl rfl) ?_
 refine OV v1 rfl (x_load1 U35 rfl rfl (hL.cellB 0 rfl rfl)) ?_
 refine OV (.int .i64 a1) rfl (x_move) ?_
 obtain ⟨x5, hx6, hm⟩ := bndE hm
 refine OW.cons (OP.call rfl (x_call (vs := [v1, (.int .i64 a1)]) Tryd_C39 ⟨rfl, rfl, trivial⟩) (M.laws_szFinishS_ok _ a0.Finishes (hL.rdS 1 rfl h2) a1 hx6) ?_)
 rintro e7 wd8 ⟨rfl, hF9⟩
 refine ⟨_, rfl, ?_⟩
 have hL := hL.pushAll hF9
 simp only [lA, lB, lC, lD] at hL
 refine OV (.int .i64 x5) rfl (x_assign) ?_
 refine ONS ?_
 refine CSR ?_
 refine OV (.int .i64 x5) rfl (x_move) ?_
 refine OV (.bool (decide (x5 < 0))) rfl (x_lss rfl rfl) ?_
 refine OW.nil ?_
 refine CW.condM (t := decide (x5 < 0)) rfl hm (fun hb10 hm => ?_) (fun hb10 hm => ?_)
 · refine CSR ?_
   refine OV (.int .i64 (-1)) rfl (x_assign) ?_
   refine OW.nil ?_
   refine CW.ret ?_
   obtain rfl := Option.some.inj hm
   exact RR1 rfl rfl ⟨rfl, hL.fresh 1 rfl [] (by decide) (by decide) rfl⟩
 refine CW.skip ?_
 refine CSR ?_
 refine OV (.int .i64 x5) rfl (x_move) ?_
 refine OV (.int .i64 x5) rfl (x_assign) ?_
 refine OW.nil ?_
 refine CW.ret ?_
 obtain rfl := Option.some.inj hm
 exact RR1 rfl rfl ⟨rfl, hL.fresh 1 rfl [] (by decide) (by decide) rfl⟩

theorem M.laws_toFinish_ok (w0 : World) (a0 : Finish) {r : Finish} (hm : M.laws_toFinish a0 = some r) :
    Calls Tryd.prog 64 #[(.agg #[(.int .i64 a0.Boat), (.int .i64 a0.Code), (.int .i64 a0.Time)])] w0 fun e w' => e = .returned (.agg #[(.int .i64 r.Boat), (.int .i64 r.Code), (.int .i64 r.Time)]) ∧ Fresh w0 w' [] := by
 unfold M.laws_toFinish at hm
 refine calls_CW (args := [(.agg #[(.int .i64 a0.Boat), (.int .i64 a0.Code), (.int .i64 a0.Time)])]) Tryd.func64 rfl rfl rfl ?_
 have hL := Hp.start w0
 refine CSR ?_
 refine OW.cons (S_box (cs := #[(.int .i64 a0.Boat), (.int .i64 a0.Code), (.int .i64 a0.Time)]) hL rfl rfl rfl ?_)
 intro wd1 b2 hL
 refine OW.cons (S_alloc (cs := #[(.int .i64 0), (.int .i64 0), (.int .i64 0)]) hL Tryd_T75 rfl rfl ?_)
 intro wd3 b4 hL
 refine ONR ?_
 refine OW.cons (S_alloc (cs := #[(.int .i64 0), (.int .i64 0), (.int .i64 0)]) hL Tryd_T75 rfl rfl ?_)
 intro wd5 b6 hL
 refine ONR ?_
 refine OV (.pointer (some ⟨b2, 0, none⟩)) rfl (x_fieldAddr (fsz := 1) 0 0 0 U98 rfl Tryd_T2 rfl rfl rfl) ?_
 refine OV (.int .i64 a0.Boat) rfl (x_load1 U2 rfl rfl (hL.cellB 2 rfl rfl)) ?_
 refine OV (.pointer (some ⟨b6, 0, none⟩)) rfl (x_fieldAddr (fsz := 1) 0 0 0 U75 rfl Tryd_T2 rfl rfl rfl) ?_
 refine OW.cons (S_store (cs' := #[(.int .i64 a0.Boat), (.int .i64 0), (.int .i64 0)]) hL 0 rfl Tryd_T2 rfl rfl rfl rfl rfl ?_)
 intro wd7 hL
 refine ONR ?_
 refine OV (.pointer (some ⟨b2, 1, none⟩)) rfl (x_fieldAddr (fsz := 1) 0 1 1 U98 rfl Tryd_T2 rfl rfl rfl) ?_
 refine OV (.int .i64 a0.Code) rfl (x_load1 U2 rfl rfl (hL.cellB 2 rfl rfl)) ?_
 refine OV (.pointer (some ⟨b6, 1, none⟩)) rfl (x_fieldAddr (fsz := 1) 0 1 1 U75 rfl Tryd_T2 rfl rfl rfl) ?_
 refine OW.cons (S_store (cs' := #[(.int .i64 a0.Boat), (.int .i64 a0.Code), (.int .i64 0)]) hL 0 rfl Tryd_T2 rfl rfl rfl rfl rfl ?_)
 intro wd8 hL
 refine ONR ?_
 refine OV (.pointer (some ⟨b2, 2, none⟩)) rfl (x_fieldAddr (fsz := 1) 0 2 2 U98 rfl Tryd_T2 rfl rfl rfl) ?_
 refine OV (.int .i64 a0.Time) rfl (x_load1 U2 rfl rfl (hL.cellB 2 rfl rfl)) ?_
 refine OV (.pointer (some ⟨b6, 2, none⟩)) rfl (x_fieldAddr (fsz := 1) 0 2 2 U75 rfl Tryd_T2 rfl rfl rfl) ?_
 refine OW.cons (S_store (cs' := #[(.int .i64 a0.Boat), (.int .i64 a0.Code), (.int .i64 a0.Time)]) hL 0 rfl Tryd_T2 rfl rfl rfl rfl rfl ?_)
 intro wd9 hL
 refine ONR ?_
 refine OV (.agg #[(.int .i64 a0.Boat), (.int .i64 a0.Code), (.int .i64 a0.Time)]) rfl (x_loadN (cs := [(.int .i64 a0.Boat), (.int .i64 a0.Code), (.int .i64 a0.Time)]) U75 Tryd_T75 rfl rfl (hL.cellsB 0 rfl (o := 0) (l := [(.int .i64 a0.Boat), (.int .i64 a0.Code), (.int .i64 a0.Time)]) (by intro j u hj; exact (by simpa using hj)))) ?_
 refine OW.cons (S_storeN (l := [(.int .i64 a0.Boat), (.int .i64 a0.Code), (.int .i64 a0.Time)]) (cs' := #[(.int .i64 a0.Boat), (.int .i64 a0.Code), (.int .i64 a0.Time)]) hL 1 rfl Tryd_T75 rfl rfl (List.forall_mem_cons.2 ⟨rfl, (List.forall_mem_cons.2 ⟨rfl, (List.forall_mem_cons.2 ⟨rfl, (fun _ h => by cases h)⟩)⟩)⟩) rfl (Nat.le_of_ble_eq_true rfl) rfl ?_)
 intro wd10 hL
 refine OW.nil ?_
 refine CW.ret ?_
 obtain rfl := Option.some.inj hm
 exact RRc rfl rfl (run_loadBlk U75 Tryd_T75 (hL.get 1 rfl) rfl) ⟨rfl, hL.fresh 3 rfl [] (by decide) (by decide) rfl⟩

theorem M.laws_toFinishS_ok (w0 : World) (a0 : List Finish) {v1 : Value} (h2 : rdL (· < w0.heap.size) w0 v1 a0) {r : (List Finish)} (hm : M.laws_toFinishS a0 = some r) :
    Calls Tryd.prog 43 #[v1] w0 fun e w' => ∃ (rv0 : Value) (rS0 : Nat → Prop), e = .returned rv0 ∧ Fresh w0 w' [Ent.own 75 rS0 rv0 r] := by
 unfold M.laws_toFinishS at hm
 refine calls_CW (args := [v1]) Tryd.func43 rfl rfl rfl ?_
 have hL := Hp.start w0
 refine CSR ?_
 refine OV (.slice none 0 0) rfl (x_assign) ?_
 refine ONR ?_
 refine OV v1 rfl (x_move) ?_
 refine OV (.int .i64 (a0.length : Int)) rfl (x_lenR U35 rfl (hL.rdS 0 rfl h2)) ?_
 obtain ⟨hc6, hm⟩ := chkE hm
 refine OW.cons (S_make (α := Finish) (Finish.mk 0 0 0) hL U40 Tryd_T75 rfl rfl rfl hc6 (by decide) rfl ?_)
 intro wd3 v4 S5 hL
 refine OV v4 rfl (x_assign) ?_
 refine ONS ?_
 refine CSR ?_
 refine OV (.int .i64 0) rfl (x_assign) ?_
 refine OW.nil ?_
 obtain ⟨o53, ho54, hm⟩ := bndE hm
 refine CW.loopB (fun (s_l1 : (List Finish) × Int) (F : Fr) (w : World) => ∃ (S50 : Nat → Prop), F 0 = v1 ∧ F 3 = v4 ∧ F 4 = (.int .i64 s_l1.2) ∧ Hp w0 [Ent.own 75 S50 v4 s_l1.1, Ent.snap w0 w0.heap.size] w) (fun o => outc o (fun x => some x) (fun s => M.laws_toFinishS_a1 s) = some r) ho54 hm ⟨S5, rfl, rfl, rfl, hL⟩ ?_ ?_
 · intro s_l1 F55 wd56 hJ hm
   have hm := outcE hm
   have hm : M.laws_toFinishS_a1 s_l1 = some r := hm
   unfold M.laws_toFinishS_a1 at hm
   obtain ⟨S50, f57, f58, f59, hL⟩ := hJ
   refine CSR ?_
   refine OV v4 rfl (x_mv f58) ?_
   refine OV v4 rfl (x_assign) ?_
   refine OW.nil ?_
   refine CW.ret ?_
   obtain rfl := Option.some.inj hm
   exact RR1 rfl rfl ⟨v4, S50, rfl, hL.fresh 1 rfl [0] (by decide) (by decide) rfl⟩
 intro s_l1 F60 wd61 t51 hJ hm hr52
 unfold M.laws_toFinishS_l1 at hm
 obtain ⟨S50, f62, f63, f64, hL⟩ := hJ
 refine CW.seq ?_
 refine CSR ?_
 refine OV (.int .i64 s_l1.2) rfl (x_mv f64) ?_
 refine OV v1 rfl (x_mv f62) ?_
 refine OV (.int .i64 (a0.length : Int)) rfl (x_lenR U35 rfl (hL.rdS 1 rfl h2)) ?_
 refine OV (.bool (decide (s_l1.2 < (a0.length : Int)))) rfl (x_lss rfl rfl) ?_
 refine OW.nil ?_
 refine CW.condM (t := decide (s_l1.2 < (a0.length : Int))) rfl hm (fun hb65 hm => ?_) (fun hb65 hm => ?_)
 · refine CW.skip ?_
   refine CW.seq ?_
   refine CW.block ?_
   refine CW.regionL ?_
   refine OV v4 rfl (x_mv f63) ?_
   refine OV (.int .i64 s_l1.2) rfl (x_mv f64) ?_
   refine OV v1 rfl (x_mv f62) ?_
   refine OV (.int .i64 s_l1.2) rfl (x_mv f64) ?_
   obtain ⟨x66, ha67, hm⟩ := bndE hm
   obtain ⟨hz68, ha72⟩ := idxE ha67
   obtain ⟨b69, q70, hix71⟩ := rdL_ix (hL.rdS 1 rfl h2) hz68 ha72
   refine OV (.pointer (some ⟨b69, q70, none⟩)) rfl (x_ix U35 Tryd_T98 rfl rfl hix71) ?_
   refine OV (.agg #[(.int .i64 x66.Boat), (.int .i64 x66.Code), (.int .i64 x66.Time)]) rfl (x_loadN (cs := [(.int .i64 x66.Boat), (.int .i64 x66.Code), (.int .i64 x66.Time)]) U98 Tryd_T98 rfl rfl (rdF_cells (hL.rdS 1 rfl h2) hix71 ha72)) ?_
   obtain ⟨x73, hx74, hm⟩ := bndE hm
   refine OW.cons (OP.call rfl (x_call (vs := [(.agg #[(.int .i64 x66.Boat), (.int .i64 x66.Code), (.int .i64 x66.Time)])]) Tryd_C64 ⟨rfl, trivial⟩) (M.laws_toFinish_ok _ x66 hx74) ?_)
   rintro e75 wd76 ⟨rfl, hF77⟩
   refine ⟨_, rfl, ?_⟩
   have hL := hL.pushAll hF77
   simp only [lA, lB, lC, lD] at hL
   obtain ⟨x78, ha79, hm⟩ := bndE hm
   obtain ⟨hz80, ha84⟩ := idxE ha79
   obtain ⟨b81, q82, hix83⟩ := rdL_ix (hL.rdO 0 rfl) hz80 ha84
   refine OV (.pointer (some ⟨b81, q82, none⟩)) rfl (x_ix U40 Tryd_T75 rfl rfl hix83) ?_
   refine OW.cons (S_storeXN (l := [(.int .i64 x73.Boat), (.int .i64 x73.Code), (.int .i64 x73.Time)]) x73 hL 0 rfl Tryd_T75 hix83 ha84 rfl rfl rfl ?_)
   intro wd85 hL
   refine OW.nil ?_
   refine CW.regionL ?_
   refine OV (.int .i64 s_l1.2) rfl (x_mv f64) ?_
   refine OV (.int .i64 (w64 (s_l1.2 + 1))) rfl (x_add rfl rfl) ?_
   refine OV (.int .i64 (w64 (s_l1.2 + 1))) rfl (x_assign) ?_
   refine OW.nil ?_
   obtain rfl := Option.some.inj hm
   exact ⟨_, rfl, ⟨S50, f62, f63, rfl, hL⟩⟩
 refine CW.exit ?_
 refine XJ.hit ?_
 obtain rfl := Option.some.inj hm
 exact ⟨_, rfl, ⟨S50, f62, f63, f64, hL⟩⟩

theorem M.laws_toRace_ok (w0 : World) (a0 : Race) {v1 : Value} (h2 : rdL (· < w0.heap.size) w0 v1 a0.Finishes) {r : Race} (hm : M.laws_toRace a0 = some r) :
    Calls Tryd.prog 17 #[(.agg #[v1])] w0 fun e w' => ∃ (rv0 : Value) (rS0 : Nat → Prop), e = .returned (.agg #[rv0]) ∧ Fresh w0 w' [Ent.own 75 rS0 rv0 r.Finishes] := by
 unfold M.laws_toRace at hm
 refine calls_CW (args := [(.agg #[v1])]) Tryd.func17 rfl rfl rfl ?_
 have hL := Hp.start w0
 refine CSR ?_
 refine OW.cons (S_box (cs := #[v1]) hL rfl rfl rfl ?_)
 intro wd3 b4 hL
 refine OW.cons (S_alloc (cs := #[(.slice none 0 0)]) hL Tryd_T42 rfl rfl ?_)
 intro wd5 b6 hL
 refine ONR ?_
 refine OW.cons (S_alloc (cs := #[(.slice none 0 0)]) hL Tryd_T42 rfl rfl ?_)
 intro wd7 b8 hL
 refine ONR ?_
 refine OV (.pointer (some ⟨b4, 0, none⟩)) rfl (x_fieldAddr (fsz := 1) 0 0 0 U37 rfl Tryd_T35 rfl rfl rfl) ?_
 refine OV v1 rfl (x_load1 U35 rfl rfl (hL.cellB 2 rfl rfl)) ?_
 obtain ⟨x9, hx10, hm⟩ := bndE hm
 refine OW.cons (OP.call rfl (x_call (vs := [v1]) Tryd_C43 ⟨rfl, trivial⟩) (M.laws_toFinishS_ok _ a0.Finishes (hL.rdS 3 rfl h2) hx10) ?_)
 rintro e13 wd14 ⟨v12, S11, rfl, hF15⟩
 refine ⟨_, rfl, ?_⟩
 have hL := hL.pushAll hF15
 simp only [lA, lB, lC, lD] at hL
 refine OV (.pointer (some ⟨b8, 0, none⟩)) rfl (x_fieldAddr (fsz := 1) 0 0 0 U42 rfl Tryd_T40 rfl rfl rfl) ?_
 refine OW.cons (S_store (cs' := #[v12]) hL 1 rfl Tryd_T40 rfl (rdL_one (hL.rdO 0 rfl)) rfl rfl rfl ?_)
 intro wd16 hL
 refine ONR ?_
 refine OV (.agg #[v12]) rfl (x_loadN (cs := [v12]) U42 Tryd_T42 rfl rfl (hL.cellsB 1 rfl (o := 0) (l := [v12]) (by intro j u hj; exact (by simpa using hj)))) ?_
 refine OW.cons (S_storeN (l := [v12]) (cs' := #[v12]) hL 2 rfl Tryd_T42 rfl rfl (List.forall_mem_cons.2 ⟨rdL_one (hL.rdO 0 rfl), (fun _ h => by cases h)⟩) rfl (Nat.le_of_ble_eq_true rfl) rfl ?_)
 intro wd17 hL
 refine OW.nil ?_
 refine CW.ret ?_
 obtain rfl := Option.some.inj hm
 exact RRc rfl rfl (run_loadBlk U42 Tryd_T42 (hL.get 2 rfl) rfl) ⟨v12, S11, rfl, hL.fresh 4 rfl [0] (by decide) (by decide) rfl⟩

theorem M.spec_l26Code_ok (w0 : World) (a0 : Int) {r : Bool} (hm : M.spec_l26Code a0 = some r) :
    Calls Tryd.prog 81 #[(.int .i64 a0)] w0 fun e w' => e = .returned (.bool r) ∧ Fresh w0 w' [] := by
 unfold M.spec_l26Code at hm
 refine calls_CW (args := [(.int .i64 a0)]) Tryd.func81 rfl rfl rfl ?_
 have hL := Hp.start w0
 refine CSR ?_
 refine OV (.bool false) rfl (x_assign) ?_
 refine ONR ?_
 refine OV (.int .i64 a0) rfl (x_move) ?_
 obtain ⟨x1, hx2, hm⟩ := bndE hm
 refine OW.cons (OP.call rfl (x_call (vs := [(.int .i64 a0), (.int .i64 0), (.int .i64 9)]) Tryd_C27 ⟨rfl, rfl, rfl, trivial⟩) (M.spec_l01In_ok _ a0 0 9 hx2) ?_)
 rintro e3 wd4 ⟨rfl, hF5⟩
 refine ⟨_, rfl, ?_⟩
 have hL := hL.pushAll hF5
 simp only [lA, lB, lC, lD] at hL
 refine OV (.bool x1) rfl (x_assign) ?_
 refine OW.nil ?_
 refine CW.ret ?_
 obtain rfl := Option.some.inj hm
 exact RR1 rfl rfl ⟨rfl, hL.fresh 0 rfl [] (by decide) (by decide) rfl⟩

theorem M.spec_l26Race_ok (w0 : World) (a0 : Int) (a1 : Race) {v1 : Value} (h2 : rdL (· < w0.heap.size) w0 v1 a1.Finishes) {r : Bool} (hm : M.spec_l26Race a0 a1 = some r) :
    Calls Tryd.prog 63 #[(.int .i64 a0), (.agg #[v1])] w0 fun e w' => e = .returned (.bool r) ∧ Fresh w0 w' [] := by
 unfold M.spec_l26Race at hm
 refine calls_CW (args := [(.int .i64 a0), (.agg #[v1])]) Tryd.func63 rfl rfl rfl ?_
 have hL := Hp.start w0
 refine CSR ?_
 refine OW.cons (S_box (cs := #[v1]) hL rfl rfl rfl ?_)
 intro wd3 b4 hL
 refine OV (.bool false) rfl (x_assign) ?_
 refine ONS ?_
 refine CSR ?_
 refine OV (.pointer (some ⟨b4, 0, none⟩)) rfl (x_fieldAddr (fsz := 1) 0 0 0 U42 rfl Tryd_T40 rfl rfl rfl) ?_
 refine OV v1 rfl (x_load1 U40 rfl rfl (hL.cellB 0 rfl rfl)) ?_
 refine OV (.int .i64 (a1.Finishes.length : Int)) rfl (x_lenR U40 rfl (hL.rdS 1 rfl h2)) ?_
 refine OV (.int .i64 a0) rfl (x_move) ?_
 refine OV (.bool ((a1.Finishes.length : Int) != a0)) rfl (x_neq rfl rfl) ?_
 refine OW.nil ?_
 refine CW.condM (t := (a1.Finishes.length : Int) != a0) rfl hm (fun hb5 hm => ?_) (fun hb5 hm => ?_)
 · refine CSR ?_
   refine OV (.bool false) rfl (x_assign) ?_
   refine OW.nil ?_
   refine CW.ret ?_
   obtain rfl := Option.some.inj hm
   exact RR1 rfl rfl ⟨rfl, hL.fresh 1 rfl [] (by decide) (by decide) rfl⟩
 refine CW.skip ?_
 refine CW.seq ?_
 refine CSR ?_
 refine OV (.int .i64 0) rfl (x_assign) ?_
 refine OW.nil ?_
 obtain ⟨o116, ho117, hm⟩ := bndE hm
 refine CW.loopB (fun (s_l1 : Int) (F : Fr) (w : World) => F 3 = (.pointer (some ⟨b4, 0, none⟩)) ∧ F 5 = (.int .i64 s_l1) ∧ Hp w0 [Ent.blk b4 42 #[v1], Ent.snap w0 w0.heap.size] w) (fun o => outc o (fun x => some x) (fun s => M.spec_l26Race_a1 s) = some r) ho117 hm ⟨rfl, rfl, hL⟩ ?_ ?_
 · intro s_l1 F118 wd119 hJ hm
   have hm := outcE hm
   have hm : M.spec_l26Race_a1 s_l1 = some r := hm
   unfold M.spec_l26Race_a1 at hm
   obtain ⟨f120, f121, hL⟩ := hJ
   refine CSR ?_
   refine OV (.bool true) rfl (x_assign) ?_
   refine OW.nil ?_
   refine CW.ret ?_
   obtain rfl := Option.some.inj hm
   exact RR1 rfl rfl ⟨rfl, hL.fresh 1 rfl [] (by decide) (by decide) rfl⟩
 intro s_l1 F122 wd123 t114 hJ hm hr115
 unfold M.spec_l26Race_l1 at hm
 obtain ⟨f124, f125, hL⟩ := hJ
 refine CW.seq ?_
 refine CSR ?_
 refine OV (.int .i64 s_l1) rfl (x_mv f125) ?_
 refine OV (.pointer (some ⟨b4, 0, none⟩)) rfl (x_fieldAddr (fsz := 1) 0 0 0 U42 rfl Tryd_T40 rfl f124 rfl) ?_
 refine OV v1 rfl (x_load1 U40 rfl rfl (hL.cellB 0 rfl rfl)) ?_
 refine OV (.int .i64 (a1.Finishes.length : Int)) rfl (x_lenR U40 rfl (hL.rdS 1 rfl h2)) ?_
 refine OV (.bool (decide (s_l1 < (a1.Finishes.length : Int)))) rfl (x_lss rfl rfl) ?_
 refine OW.nil ?_
 refine CW.condM (t := decide (s_l1 < (a1.Finishes.length : Int))) rfl hm (fun hb126 hm => ?_) (fun hb126 hm => ?_)
 · refine CW.skip ?_
   refine CW.seq ?_
   refine CW.block ?_
   refine CSR ?_
   refine OV (.pointer (some ⟨b4, 0, none⟩)) rfl (x_fieldAddr (fsz := 1) 0 0 0 U42 rfl Tryd_T40 rfl f124 rfl) ?_
   refine OV v1 rfl (x_load1 U40 rfl rfl (hL.cellB 0 rfl rfl)) ?_
   refine OV (.int .i64 s_l1) rfl (x_mv f125) ?_
   obtain ⟨x127, ha128, hm⟩ := bndE hm
   obtain ⟨hz129, ha133⟩ := idxE ha128
   obtain ⟨b130, q131, hix132⟩ := rdL_ix (hL.rdS 1 rfl h2) hz129 ha133
   refine OV (.pointer (some ⟨b130, q131, none⟩)) rfl (x_ix U40 Tryd_T75 rfl rfl hix132) ?_
   refine OV (.agg #[(.int .i64 x127.Boat), (.int .i64 x127.Code), (.int .i64 x127.Time)]) rfl (x_loadN (cs := [(.int .i64 x127.Boat), (.int .i64 x127.Code), (.int .i64 x127.Time)]) U75 Tryd_T75 rfl rfl (rdF_cells (hL.rdS 1 rfl h2) hix132 ha133)) ?_
   refine OW.cons (S_alloc (cs := #[(.int .i64 0), (.int .i64 0), (.int .i64 0)]) hL Tryd_T75 rfl rfl ?_)
   intro wd134 b135 hL
   refine OW.cons (S_storeN (l := [(.int .i64 x127.Boat), (.int .i64 x127.Code), (.int .i64 x127.Time)]) (cs' := #[(.int .i64 x127.Boat), (.int .i64 x127.Code), (.int .i64 x127.Time)]) hL 0 rfl Tryd_T75 rfl rfl (List.forall_mem_cons.2 ⟨rfl, (List.forall_mem_cons.2 ⟨rfl, (List.forall_mem_cons.2 ⟨rfl, (fun _ h => by cases h)⟩)⟩)⟩) rfl (Nat.le_of_ble_eq_true rfl) rfl ?_)
   intro wd136 hL
   refine ONS ?_
   refine CW.seqJ (fun (s_j1 : Bool) (F : Fr) (w : World) => F 3 = (.pointer (some ⟨b4, 0, none⟩)) ∧ F 5 = (.int .i64 s_l1) ∧ F 6 = (.pointer (some ⟨b135, 0, none⟩)) ∧ F 33 = (.bool s_j1) ∧ Hp w0 [Ent.blk b135 75 #[(.int .i64 x127.Boat), (.int .i64 x127.Code), (.int .i64 x127.Time)], Ent.blk b4 42 #[v1], Ent.snap w0 w0.heap.size] w) (fun s_j1 => M.spec_l26Race_j1 s_l1 x127 s_j1 = some t114) ?_ ?_
   · refine CW.regionL ?_
     refine OV (.pointer (some ⟨b135, 0, none⟩)) rfl (x_fieldAddr (fsz := 1) 0 0 0 U75 rfl Tryd_T2 rfl rfl rfl) ?_
     refine OV (.int .i64 x127.Boat) rfl (x_load1 U2 rfl rfl (hL.cellB 0 rfl rfl)) ?_
     refine OV (.int .i64 s_l1) rfl (x_mv f125) ?_
     refine OV (.bool (x127.Boat != s_l1)) rfl (x_neq rfl rfl) ?_
     refine OV (.bool (x127.Boat != s_l1)) rfl (x_move) ?_
     refine ifB_elim hm (fun hb174 hm => ?_) (fun hb174 hm => ?_)
     · refine OW.cons (OP.no' rfl rfl hb174 rfl ?_)
       refine OW.cons (OP.no' rfl rfl hb174 rfl ?_)
       refine OW.cons (OP.no' rfl rfl hb174 rfl ?_)
       refine OW.cons (OP.no' rfl rfl hb174 rfl ?_)
       refine OV (.bool true) rfl (x_pickT' rfl hb174 rfl) ?_
       refine OW.nil ?_
       exact ⟨true, hm, ⟨f124, f125, rfl, rfl, hL⟩⟩
     refine OW.cons (OP.yes' rfl rfl hb174 (OP.val (v := (.pointer (some ⟨b135, 1, none⟩))) rfl (x_fieldAddr (fsz := 1) 0 1 1 U75 rfl Tryd_T2 rfl rfl rfl) ?_))
     refine OW.cons (OP.yes' rfl rfl hb174 (OP.val (v := (.int .i64 x127.Code)) rfl (x_load1 U2 rfl rfl (hL.cellB 0 rfl rfl)) ?_))
     obtain ⟨x175, hx176, hm⟩ := bndE hm
     refine OW.cons (OP.yes' rfl rfl hb174 (OP.call rfl (x_call (vs := [(.int .i64 x127.Code)]) Tryd_C81 ⟨rfl, trivial⟩) (M.spec_l26Code_ok _ x127.Code hx176) ?_))
     rintro e177 wd178 ⟨rfl, hF179⟩
     refine ⟨_, rfl, ?_⟩
     have hL := hL.pushAll hF179
     simp only [lA, lB, lC, lD] at hL
     refine OW.cons (OP.yes' rfl rfl hb174 (OP.val (v := (.bool (!x175))) rfl (x_not rfl) ?_))
     refine OV (.bool (!x175)) rfl (x_pickF' rfl hb174 rfl) ?_
     refine OW.nil ?_
     exact ⟨!x175, hm, ⟨f124, f125, rfl, rfl, hL⟩⟩
   intro s_j1 F143 wd144 hJ hm
   unfold M.spec_l26Race_j1 at hm
   obtain ⟨f145, f146, f147, f148, hL⟩ := hJ
   refine CW.condM (t := s_j1) f148 hm (fun hb149 hm => ?_) (fun hb149 hm => ?_)
   · refine CSR ?_
     refine OV (.bool false) rfl (x_assign) ?_
     refine OW.nil ?_
     refine CW.ret ?_
     obtain rfl := Option.some.inj hm
     have hm := hr115 _ rfl
     obtain rfl := Option.some.inj hm
     exact RR1 rfl rfl ⟨rfl, hL.fresh 2 rfl [] (by decide) (by decide) rfl⟩
   refine CW.skip ?_
   refine CW.seqJ (fun (s_j2 : Bool) (F : Fr) (w : World) => F 3 = (.pointer (some ⟨b4, 0, none⟩)) ∧ F 5 = (.int .i64 s_l1) ∧ F 52 = (.bool s_j2) ∧ Hp w0 [Ent.blk b135 75 #[(.int .i64 x127.Boat), (.int .i64 x127.Code), (.int .i64 x127.Time)], Ent.blk b4 42 #[v1], Ent.snap w0 w0.heap.size] w) (fun s_j2 => M.spec_l26Race_j2 s_l1 s_j2 = some t114) ?_ ?_
   · refine CW.regionL ?_
     refine OV (.pointer (some ⟨b135, 1, none⟩)) rfl (x_fieldAddr (fsz := 1) 0 1 1 U75 rfl Tryd_T2 rfl f147 rfl) ?_
     refine OV (.int .i64 x127.Code) rfl (x_load1 U2 rfl rfl (hL.cellB 0 rfl rfl)) ?_
     refine OV (.bool (x127.Code == 0)) rfl (x_eql rfl rfl) ?_
     refine OV (.bool (x127.Code == 0)) rfl (x_move) ?_
     refine ifB_elim hm (fun hb165 hm => ?_) (fun hb165 hm => ?_)
     · refine OW.cons (OP.yes' rfl rfl hb165 (OP.val (v := (.pointer (some ⟨b135, 2, none⟩))) rfl (x_fieldAddr (fsz := 1) 0 2 2 U75 rfl Tryd_T2 rfl f147 rfl) ?_))
       refine OW.cons (OP.yes' rfl rfl hb165 (OP.val (v := (.int .i64 x127.Time)) rfl (x_load1 U2 rfl rfl (hL.cellB 0 rfl rfl)) ?_))
       obtain ⟨x166, hx167, hm⟩ := bndE hm
       refine OW.cons (OP.yes' rfl rfl hb165 (OP.call rfl (x_call (vs := [(.int .i64 x127.Time), (.int .i64 1), (.int .i64 1000000000)]) Tryd_C27 ⟨rfl, rfl, rfl, trivial⟩) (M.spec_l01In_ok _ x127.Time 1 1000000000 hx167) ?_))
       rintro e168 wd169 ⟨rfl, hF170⟩
       refine ⟨_, rfl, ?_⟩
       have hL := hL.pushAll hF170
       simp only [lA, lB, lC, lD] at hL
       refine OW.cons (OP.yes' rfl rfl hb165 (OP.val (v := (.bool (!x166))) rfl (x_not rfl) ?_))
       refine OV (.bool (!x166)) rfl (x_pickT' rfl hb165 rfl) ?_
       refine OV (.bool (!x166)) rfl (x_move) ?_
       refine ifB_elim hm (fun hb171 hm => ?_) (fun hb171 hm => ?_)
       · refine OW.cons (OP.no' rfl rfl hb171 rfl ?_)
         refine OW.cons (OP.no' rfl rfl hb171 rfl ?_)
         refine OW.cons (OP.no' rfl rfl hb171 rfl ?_)
         refine OW.cons (OP.no' rfl rfl hb171 rfl ?_)
         refine OW.cons (OP.noU rfl rfl rfl ?_)
         refine OW.cons (OP.noU rfl rfl rfl ?_)
         refine OW.cons (OP.noU rfl rfl rfl ?_)
         refine OW.cons (OP.no' rfl rfl hb171 rfl ?_)
         refine OV (.bool true) rfl (x_pickT' rfl hb171 rfl) ?_
         refine OW.nil ?_
         exact ⟨true, hm, ⟨f145, f146, rfl, hL⟩⟩
       refine OW.cons (OP.yes' rfl rfl hb171 (OP.val (v := (.pointer (some ⟨b135, 1, none⟩))) rfl (x_fieldAddr (fsz := 1) 0 1 1 U75 rfl Tryd_T2 rfl f147 rfl) ?_))
       refine OW.cons (OP.yes' rfl rfl hb171 (OP.val (v := (.int .i64 x127.Code)) rfl (x_load1 U2 rfl rfl (hL.cellB 0 rfl rfl)) ?_))
       refine OW.cons (OP.yes' rfl rfl hb171 (OP.val (v := (.bool (x127.Code != 0))) rfl (x_neq rfl rfl) ?_))
       refine OW.cons (OP.yes' rfl rfl hb171 (OP.val (v := (.bool (x127.Code != 0))) rfl (x_move) ?_))
       refine ifB_elim hm (fun hb172 hm => ?_) (fun hb172 hm => ?_)
       · refine OW.cons (OP.yes' rfl rfl hb172 (OP.val (v := (.pointer (some ⟨b135, 2, none⟩))) rfl (x_fieldAddr (fsz := 1) 0 2 2 U75 rfl Tryd_T2 rfl f147 rfl) ?_))
         refine OW.cons (OP.yes' rfl rfl hb172 (OP.val (v := (.int .i64 x127.Time)) rfl (x_load1 U2 rfl rfl (hL.cellB 0 rfl rfl)) ?_))
         refine OW.cons (OP.yes' rfl rfl hb172 (OP.val (v := (.bool (x127.Time != 0))) rfl (x_neq rfl rfl) ?_))
         refine OW.cons (OP.yes' rfl rfl hb171 (OP.val (v := (.bool (x127.Time != 0))) rfl (x_pickT' rfl hb172 rfl) ?_))
         refine OV (.bool (x127.Time != 0)) rfl (x_pickF' rfl hb171 rfl) ?_
         refine OW.nil ?_
         exact ⟨x127.Time != 0, hm, ⟨f145, f146, rfl, hL⟩⟩
       refine OW.cons (OP.no' rfl rfl hb172 rfl ?_)
       refine OW.cons (OP.no' rfl rfl hb172 rfl ?_)
       refine OW.cons (OP.no' rfl rfl hb172 rfl ?_)
       refine OW.cons (OP.yes' rfl rfl hb171 (OP.val (v := (.bool false)) rfl (x_pickF' rfl hb172 rfl) ?_))
       refine OV (.bool false) rfl (x_pickF' rfl hb171 rfl) ?_
       refine OW.nil ?_
       exact ⟨false, hm, ⟨f145, f146, rfl, hL⟩⟩
     refine OW.cons (OP.no' rfl rfl hb165 rfl ?_)
     refine OW.cons (OP.no' rfl rfl hb165 rfl ?_)
     refine OW.cons (OP.no' rfl rfl hb165 rfl ?_)
     refine OW.cons (OP.no' rfl rfl hb165 rfl ?_)
     refine OV (.bool false) rfl (x_pickF' rfl hb165 rfl) ?_
     refine OV (.bool false) rfl (x_move) ?_
     refine OW.cons (OP.yes' rfl rfl rfl (OP.val (v := (.pointer (some ⟨b135, 1, none⟩))) rfl (x_fieldAddr (fsz := 1) 0 1 1 U75 rfl Tryd_T2 rfl f147 rfl) ?_))
     refine OW.cons (OP.yes' rfl rfl rfl (OP.val (v := (.int .i64 x127.Code)) rfl (x_load1 U2 rfl rfl (hL.cellB 0 rfl rfl)) ?_))
     refine OW.cons (OP.yes' rfl rfl rfl (OP.val (v := (.bool (x127.Code != 0))) rfl (x_neq rfl rfl) ?_))
     refine OW.cons (OP.yes' rfl rfl rfl (OP.val (v := (.bool (x127.Code != 0))) rfl (x_move) ?_))
     refine ifB_elim hm (fun hb173 hm => ?_) (fun hb173 hm => ?_)
     · refine OW.cons (OP.yes' rfl rfl hb173 (OP.val (v := (.pointer (some ⟨b135, 2, none⟩))) rfl (x_fieldAddr (fsz := 1) 0 2 2 U75 rfl Tryd_T2 rfl f147 rfl) ?_))
       refine OW.cons (OP.yes' rfl rfl hb173 (OP.val (v := (.int .i64 x127.Time)) rfl (x_load1 U2 rfl rfl (hL.cellB 0 rfl rfl)) ?_))
       refine OW.cons (OP.yes' rfl rfl hb173 (OP.val (v := (.bool (x127.Time != 0))) rfl (x_neq rfl rfl) ?_))
       refine OW.cons (OP.yes' rfl rfl rfl (OP.val (v := (.bool (x127.Time != 0))) rfl (x_pickT' rfl hb173 rfl) ?_))
       refine OV (.bool (x127.Time != 0)) rfl (x_pickF' rfl rfl rfl) ?_
       refine OW.nil ?_
       exact ⟨x127.Time != 0, hm, ⟨f145, f146, rfl, hL⟩⟩
     refine OW.cons (OP.no' rfl rfl hb173 rfl ?_)
     refine OW.cons (OP.no' rfl rfl hb173 rfl ?_)
     refine OW.cons (OP.no' rfl rfl hb173 rfl ?_)
     refine OW.cons (OP.yes' rfl rfl rfl (OP.val (v := (.bool false)) rfl (x_pickF' rfl hb173 rfl) ?_))
     refine OV (.bool false) rfl (x_pickF' rfl rfl rfl) ?_
     refine OW.nil ?_
     exact ⟨false, hm, ⟨f145, f146, rfl, hL⟩⟩
   intro s_j2 F159 wd160 hJ hm
   unfold M.spec_l26Race_j2 at hm
   obtain ⟨f161, f162, f163, hL⟩ := hJ
   refine CW.condM (t := s_j2) f163 hm (fun hb164 hm => ?_) (fun hb164 hm => ?_)
   · refine CSR ?_
     refine OV (.bool false) rfl (x_assign) ?_
     refine OW.nil ?_
     refine CW.ret ?_
     obtain rfl := Option.some.inj hm
     have hm := hr115 _ rfl
     obtain rfl := Option.some.inj hm
     exact RR1 rfl rfl ⟨rfl, hL.fresh 2 rfl [] (by decide) (by decide) rfl⟩
   refine CW.skip ?_
   refine CW.regionL ?_
   refine OV (.int .i64 s_l1) rfl (x_mv f162) ?_
   refine OV (.int .i64 (w64 (s_l1 + 1))) rfl (x_add rfl rfl) ?_
   refine OV (.int .i64 (w64 (s_l1 + 1))) rfl (x_assign) ?_
   refine OW.nil ?_
   have hL := hL.sel [1, 2] (by decide) rfl
   obtain rfl := Option.some.inj hm
   exact ⟨_, rfl, ⟨f161, rfl, hL⟩⟩
 refine CW.exit ?_
 refine XJ.hit ?_
 obtain rfl := Option.some.inj hm
 exact ⟨_, rfl, ⟨f124, f125, hL⟩⟩

theorem M.spec_IsRace_ok (w0 : World) (a0 : Int) (a1 : Race) {v1 : Value} (h2 : rdL (· < w0.heap.size) w0 v1 a1.Finishes) {r : Bool} (hm : M.spec_IsRace a0 a1 = some r) :
    Calls Tryd.prog 40 #[(.int .i64 a0), (.agg #[v1])] w0 fun e w' => e = .returned (.bool r) ∧ Fresh w0 w' [] := by
 unfold M.spec_IsRace at hm
 refine calls_CW (args := [(.int .i64 a0), (.agg #[v1])]) Tryd.func40 rfl rfl rfl ?_
 have hL := Hp.start w0
 refine CSR ?_
 refine OW.cons (S_box (cs := #[v1]) hL rfl rfl rfl ?_)
 intro wd3 b4 hL
 refine OV (.bool false) rfl (x_assign) ?_
 refine OW.nil ?_
 refine CW.seqJ (fun (s_j1 : Bool) (F : Fr) (w : World) => F 4 = (.bool s_j1) ∧ Hp w0 [Ent.blk b4 42 #[v1], Ent.snap w0 w0.heap.size] w) (fun s_j1 => M.spec_IsRace_j1 s_j1 = some r) ?_ ?_
 · refine CW.regionL ?_
   refine OV (.int .i64 a0) rfl (x_move) ?_
   obtain ⟨x19, hx20, hm⟩ := bndE hm
   refine OW.cons (OP.call rfl (x_call (vs := [(.int .i64 a0), (.int .i64 1), (.int .i64 16)]) Tryd_C27 ⟨rfl, rfl, rfl, trivial⟩) (M.spec_l01In_ok _ a0 1 16 hx20) ?_)
   rintro e21 wd22 ⟨rfl, hF23⟩
   refine ⟨_, rfl, ?_⟩
   have hL := hL.pushAll hF23
   simp only [lA, lB, lC, lD] at hL
   refine OV (.bool x19) rfl (x_move) ?_
   refine ifB_elim hm (fun hb24 hm => ?_) (fun hb24 hm => ?_)
   · refine OW.cons (OP.yes' rfl rfl hb24 (OP.val (v := (.int .i64 a0)) rfl (x_move) ?_))
     refine OW.cons (OP.yes' rfl rfl hb24 (OP.val (v := (.agg #[v1])) rfl (x_loadN (cs := [v1]) U42 Tryd_T42 rfl rfl (hL.cellsB 0 rfl (o := 0) (l := [v1]) (by intro j u hj; exact (by simpa using hj)))) ?_))
     obtain ⟨x25, hx26, hm⟩ := bndE hm
     refine OW.cons (OP.yes' rfl rfl hb24 (OP.call rfl (x_call (vs := [(.int .i64 a0), (.agg #[v1])]) Tryd_C63 ⟨rfl, rfl, trivial⟩) (M.spec_l26Race_ok _ a0 a1 (hL.rdS 1 rfl h2) hx26) ?_))
     rintro e27 wd28 ⟨rfl, hF29⟩
     refine ⟨_, rfl, ?_⟩
     have hL := hL.pushAll hF29
     simp only [lA, lB, lC, lD] at hL
     refine OV (.bool x25) rfl (x_pickT' rfl hb24 rfl) ?_
     refine OV (.bool x25) rfl (x_assign) ?_
     refine OW.nil ?_
     exact ⟨x25, hm, ⟨rfl, hL⟩⟩
   refine OW.cons (OP.no' rfl rfl hb24 rfl ?_)
   refine OW.cons (OP.no' rfl rfl hb24 rfl ?_)
   refine OW.cons (OP.no' rfl rfl hb24 rfl ?_)
   refine OV (.bool false) rfl (x_pickF' rfl hb24 rfl) ?_
   refine OV (.bool false) rfl (x_assign) ?_
   refine OW.nil ?_
   exact ⟨false, hm, ⟨rfl, hL⟩⟩
 intro s_j1 F16 wd17 hJ hm
 unfold M.spec_IsRace_j1 at hm
 obtain ⟨f18, hL⟩ := hJ
 refine CW.ret ?_
 obtain rfl := Option.some.inj hm
 exact RR1 rfl f18 ⟨rfl, hL.fresh 1 rfl [] (by decide) (by decide) rfl⟩

theorem M.spec_l26Words_ok (w0 : World)  {r : (List ByteArray)} (hm : M.spec_l26Words  = some r) :
    Calls Tryd.prog 41 #[] w0 fun e w' => ∃ (rv0 : Value) (rS0 : Nat → Prop), e = .returned rv0 ∧ Fresh w0 w' [Ent.own 9 rS0 rv0 r] := by
 unfold M.spec_l26Words at hm
 refine calls_CW (args := []) Tryd.func41 rfl rfl rfl ?_
 have hL := Hp.start w0
 refine CSR ?_
 refine OV (.slice none 0 0) rfl (x_assign) ?_
 refine ONR ?_
 refine OW.cons (S_lit ([(⟨#[70, 73, 78]⟩ : ByteArray), (⟨#[68, 78, 67]⟩ : ByteArray), (⟨#[68, 78, 83]⟩ : ByteArray), (⟨#[79, 67, 83]⟩ : ByteArray), (⟨#[68, 78, 70]⟩ : ByteArray), (⟨#[82, 69, 84]⟩ : ByteArray), (⟨#[68, 83, 81]⟩ : ByteArray), (⟨#[68, 78, 69]⟩ : ByteArray), (⟨#[66, 70, 68]⟩ : ByteArray), (⟨#[82, 68, 71]⟩ : ByteArray)] : List ByteArray) hL U60 Tryd_T9 rfl (by decide) (by first | (simp [Instr.fill, madeCells, Value.cells, ev, upd, Flat.enc, Flat.sz]; done) | rfl | kernel_rfl) rfl rfl ?_)
 intro wd1 v2 S3 hL
 refine OV v2 rfl (x_assign) ?_
 refine OW.nil ?_
 refine CW.ret ?_
 obtain rfl := Option.some.inj hm
 exact RR1 rfl rfl ⟨v2, S3, rfl, hL.fresh 1 rfl [0] (by decide) (by decide) rfl⟩

theorem M.spec_l26Done_ok (w0 : World) (a0 : Finish) {r : Bool} (hm : M.spec_l26Done a0 = some r) :
    Calls Tryd.prog 42 #[(.agg #[(.int .i64 a0.Boat), (.int .i64 a0.Code), (.int .i64 a0.Time)])] w0 fun e w' => e = .returned (.bool r) ∧ Fresh w0 w' [] := by
 unfold M.spec_l26Done at hm
 refine calls_CW (args := [(.agg #[(.int .i64 a0.Boat), (.int .i64 a0.Code), (.int .i64 a0.Time)])]) Tryd.func42 rfl rfl rfl ?_
 have hL := Hp.start w0
 refine CSR ?_
 refine OW.cons (S_box (cs := #[(.int .i64 a0.Boat), (.int .i64 a0.Code), (.int .i64 a0.Time)]) hL rfl rfl rfl ?_)
 intro wd1 b2 hL
 refine OV (.bool false) rfl (x_assign) ?_
 refine ONR ?_
 refine OV (.pointer (some ⟨b2, 1, none⟩)) rfl (x_fieldAddr (fsz := 1) 0 1 1 U75 rfl Tryd_T2 rfl rfl rfl) ?_
 refine OV (.int .i64 a0.Code) rfl (x_load1 U2 rfl rfl (hL.cellB 0 rfl rfl)) ?_
 refine OV (.bool (a0.Code == 0)) rfl (x_eql rfl rfl) ?_
 refine OV (.bool (a0.Code == 0)) rfl (x_assign) ?_
 refine OW.nil ?_
 refine CW.ret ?_
 obtain rfl := Option.some.inj hm
 exact RR1 rfl rfl ⟨rfl, hL.fresh 1 rfl [] (by decide) (by decide) rfl⟩

theorem M.spec_RaceText_ok (w0 : World) (a0 : Int) (a1 : Race) {v1 : Value} (h2 : rdL (· < w0.heap.size) w0 v1 a1.Finishes) {r : ByteArray} (hm : M.spec_RaceText a0 a1 = some r) :
    Calls Tryd.prog 16 #[(.int .i64 a0), (.agg #[v1])] w0 fun e w' => e = .returned (.string r) ∧ Fresh w0 w' [] := by
 unfold M.spec_RaceText at hm
 refine calls_CW (args := [(.int .i64 a0), (.agg #[v1])]) Tryd.func16 rfl rfl rfl ?_
 have hL := Hp.start w0
 refine CSR ?_
 refine OW.cons (S_box (cs := #[v1]) hL rfl rfl rfl ?_)
 intro wd3 b4 hL
 refine OV (.string (⟨#[]⟩ : ByteArray)) rfl (x_assign) ?_
 refine ONS ?_
 refine CSR ?_
 refine OV (.int .i64 a0) rfl (x_move) ?_
 refine OV (.agg #[v1]) rfl (x_loadN (cs := [v1]) U42 Tryd_T42 rfl rfl (hL.cellsB 0 rfl (o := 0) (l := [v1]) (by intro j u hj; exact (by simpa using hj)))) ?_
 obtain ⟨x5, hx6, hm⟩ := bndE hm
 refine OW.cons (OP.call rfl (x_call (vs := [(.int .i64 a0), (.agg #[v1])]) Tryd_C40 ⟨rfl, rfl, trivial⟩) (M.spec_IsRace_ok _ a0 a1 (hL.rdS 1 rfl h2) hx6) ?_)
 rintro e7 wd8 ⟨rfl, hF9⟩
 refine ⟨_, rfl, ?_⟩
 have hL := hL.pushAll hF9
 simp only [lA, lB, lC, lD] at hL
 refine OV (.bool (!x5)) rfl (x_not rfl) ?_
 refine OW.nil ?_
 refine CW.condM (t := !x5) rfl hm (fun hb10 hm => ?_) (fun hb10 hm => ?_)
 · refine CSR ?_
   refine OV (.string (⟨#[]⟩ : ByteArray)) rfl (x_assign) ?_
   refine OW.nil ?_
   refine CW.ret ?_
   obtain rfl := Option.some.inj hm
   exact RR1 rfl rfl ⟨rfl, hL.fresh 1 rfl [] (by decide) (by decide) rfl⟩
 refine CW.skip ?_
 refine CSR ?_
 refine OV (.string (⟨#[]⟩ : ByteArray)) rfl (x_assign) ?_
 refine ONS ?_
 refine CSR ?_
 refine OV (.int .i64 0) rfl (x_assign) ?_
 refine OW.nil ?_
 obtain ⟨o685, ho686, hm⟩ := bndE hm
 refine CW.loopB (fun (s_l1 : ByteArray × Int) (F : Fr) (w : World) => F 3 = (.pointer (some ⟨b4, 0, none⟩)) ∧ F 5 = (.string s_l1.1) ∧ F 6 = (.int .i64 s_l1.2) ∧ Hp w0 [Ent.blk b4 42 #[v1], Ent.snap w0 w0.heap.size] w) (fun o => outc o (fun x => some x) (fun s => M.spec_RaceText_a1 s) = some r) ho686 hm ⟨rfl, rfl, rfl, hL⟩ ?_ ?_
 · intro s_l1 F687 wd688 hJ hm
   have hm := outcE hm
   have hm : M.spec_RaceText_a1 s_l1 = some r := hm
   unfold M.spec_RaceText_a1 at hm
   obtain ⟨f689, f690, f691, hL⟩ := hJ
   refine CSR ?_
   refine OV (.string s_l1.1) rfl (x_mv f690) ?_
   refine OV (.string s_l1.1) rfl (x_assign) ?_
   refine OW.nil ?_
   refine CW.ret ?_
   obtain rfl := Option.some.inj hm
   exact RR1 rfl rfl ⟨rfl, hL.fresh 1 rfl [] (by decide) (by decide) rfl⟩
 intro s_l1 F692 wd693 t683 hJ hm hr684
 unfold M.spec_RaceText_l1 at hm
 obtain ⟨f694, f695, f696, hL⟩ := hJ
 refine CW.seq ?_
 refine CSR ?_
 refine OV (.int .i64 s_l1.2) rfl (x_mv f696) ?_
 refine OV (.pointer (some ⟨b4, 0, none⟩)) rfl (x_fieldAddr (fsz := 1) 0 0 0 U42 rfl Tryd_T40 rfl f694 rfl) ?_
 refine OV v1 rfl (x_load1 U40 rfl rfl (hL.cellB 0 rfl rfl)) ?_
 refine OV (.int .i64 (a1.Finishes.length : Int)) rfl (x_lenR U40 rfl (hL.rdS 1 rfl h2)) ?_
 refine OV (.bool (decide (s_l1.2 < (a1.Finishes.length : Int)))) rfl (x_lss rfl rfl) ?_
 refine OW.nil ?_
 refine CW.condM (t := decide (s_l1.2 < (a1.Finishes.length : Int))) rfl hm (fun hb697 hm => ?_) (fun hb697 hm => ?_)
 · refine CW.skip ?_
   refine CW.seqJ (fun (s_j1 : ByteArray) (F : Fr) (w : World) => F 3 = (.pointer (some ⟨b4, 0, none⟩)) ∧ F 5 = (.string s_j1) ∧ F 6 = (.int .i64 s_l1.2) ∧ Hp w0 [Ent.blk b4 42 #[v1], Ent.snap w0 w0.heap.size] w) (fun s_j1 => M.spec_RaceText_j1 s_l1 s_j1 = some t683) ?_ ?_
   · refine CW.blockJ (fun (s_j2 : ByteArray) (F : Fr) (w : World) => F 3 = (.pointer (some ⟨b4, 0, none⟩)) ∧ F 5 = (.string s_j2) ∧ F 6 = (.int .i64 s_l1.2) ∧ Hp w0 [Ent.blk b4 42 #[v1], Ent.snap w0 w0.heap.size] w) (fun s_j2 => M.spec_RaceText_j2 s_l1 s_j2 = some t683) ?_ ?_
     · refine CW.seqJ (fun (s_j3 : ByteArray) (F : Fr) (w : World) => F 3 = (.pointer (some ⟨b4, 0, none⟩)) ∧ F 5 = (.string s_j3) ∧ F 6 = (.int .i64 s_l1.2) ∧ Hp w0 [Ent.blk b4 42 #[v1], Ent.snap w0 w0.heap.size] w) (fun s_j3 => M.spec_RaceText_j3 a1 s_l1 s_j3 = some t683) ?_ ?_
       · refine CSR ?_
         refine OV (.int .i64 s_l1.2) rfl (x_mv f696) ?_
         refine OV (.bool (decide (0 < s_l1.2))) rfl (x_gtr rfl rfl) ?_
         refine OW.nil ?_
         refine CW.condM (t := decide (0 < s_l1.2)) rfl hm (fun hb1031 hm => ?_) (fun hb1031 hm => ?_)
         · refine CW.regionL ?_
           refine OV (.string s_l1.1) rfl (x_mv f695) ?_
           obtain ⟨hc1032, hm⟩ := chkE hm
           refine OV (.string (s_l1.1 ++ (⟨#[32]⟩ : ByteArray))) rfl (x_addT rfl rfl hc1032) ?_
           refine OV (.string (s_l1.1 ++ (⟨#[32]⟩ : ByteArray))) rfl (x_assign) ?_
           refine OW.nil ?_
           exact ⟨s_l1.1 ++ (⟨#[32]⟩ : ByteArray), hm, ⟨f694, rfl, f696, hL⟩⟩
         refine CW.skip ?_
         exact ⟨s_l1.1, hm, ⟨f694, f695, f696, hL⟩⟩
       intro s_j3 F955 wd956 hJ hm
       unfold M.spec_RaceText_j3 at hm
       obtain ⟨f957, f958, f959, hL⟩ := hJ
       refine CW.seq ?_
       refine CW.drawH (fun w' => Hp w0 [Ent.blk b4 42 #[v1], Ent.snap w0 w0.heap.size] w') Tryd_mixed ?_
       have hL := hL.call (Mod.drew _)
       have hS := (hL.sel [0, 1] (by decide) rfl)
       refine DH.take 0 rfl (by kernel_rfl) (by kernel_rfl) (by kernel_rfl) rfl rfl hS (YH.val (v := (.string s_j3)) (fun w' hS' => x_mv f958)) ?_
       have hS := (hL.sel [0, 1] (by decide) rfl)
       refine DH.take 2 rfl (by kernel_rfl) (by kernel_rfl) (by kernel_rfl) rfl rfl hS (YH.val (v := (.pointer (some ⟨b4, 0, none⟩))) (fun w' hS' => x_fieldAddr (fsz := 1) 0 0 0 U42 rfl Tryd_T40 rfl f957 rfl)) ?_
       have hS := (hL.sel [0, 1] (by decide) rfl)
       refine DH.take 3 rfl (by kernel_rfl) (by kernel_rfl) (by kernel_rfl) rfl rfl hS (YH.val (v := v1) (fun w' hS' => x_load1 U40 rfl rfl (hS'.cellB 0 rfl rfl))) ?_
       have hS := (hL.sel [0, 1] (by decide) rfl)
       refine DH.take 4 rfl (by kernel_rfl) (by kernel_rfl) (by kernel_rfl) rfl rfl hS (YH.val (v := (.int .i64 s_l1.2)) (fun w' hS' => x_mv f959)) ?_
       have hS := (hL.sel [0, 1] (by decide) rfl)
       obtain ⟨x982, ha983, hm⟩ := bndE hm
       obtain ⟨hz984, ha988⟩ := idxE ha983
       obtain ⟨b985, q986, hix987⟩ := rdL_ix (hL.rdS 1 rfl h2) hz984 ha988
       refine DH.take 5 rfl (by kernel_rfl) (by kernel_rfl) (by kernel_rfl) rfl rfl hS (YH.val (v := (.pointer (some ⟨b985, q986, none⟩))) (fun w' hS' => x_ix U40 Tryd_T75 rfl rfl hix987)) ?_
       have hS := (hL.sel [0, 1] (by decide) rfl)
       refine DH.take 6 rfl (by kernel_rfl) (by kernel_rfl) (by kernel_rfl) rfl rfl hS (YH.val (v := (.pointer (some ⟨b985, q986 + 1, none⟩))) (fun w' hS' => x_fieldAddr (fsz := 1) q986 1 (q986 + 1) U75 rfl Tryd_T2 rfl rfl rfl)) ?_
       have hS := (hL.sel [0, 1] (by decide) rfl)
       refine DH.take 7 rfl (by kernel_rfl) (by kernel_rfl) (by kernel_rfl) rfl rfl hS (YH.val (v := (.int .i64 x982.Code)) (fun w' hS' => x_load1 U2 rfl rfl (rdF_cells (hS'.rdS 1 rfl h2) hix987 ha988 1 _ rfl))) ?_
       obtain ⟨x989, hx990, hm⟩ := bndE hm
       refine DH.only 1 rfl (by kernel_rfl) (OP.call rfl (x_call (vs := []) Tryd_C41 trivial) (M.spec_l26Words_ok _  hx990) ?_)
       rintro e993 wd994 ⟨v992, S991, rfl, hF995⟩
       refine ⟨_, rfl, ?_⟩
       have hL := hL.pushAll hF995
       simp only [lA, lB, lC, lD] at hL
       refine ⟨(hL.sel [1, 2] (by decide) rfl), ?_⟩
       have hS := (hL.sel [1, 2] (by decide) rfl)
       obtain ⟨x996, ha997, hm⟩ := bndE hm
       obtain ⟨hz998, ha1002⟩ := idxE ha997
       obtain ⟨b999, q1000, hix1001⟩ := rdL_ix (hL.rdO 0 rfl) hz998 ha1002
       refine DH.take 8 rfl (by kernel_rfl) (by kernel_rfl) (by kernel_rfl) rfl rfl hS (YH.val (v := (.pointer (some ⟨b999, q1000, none⟩))) (fun w' hS' => x_ix U60 Tryd_T9 rfl rfl hix1001)) ?_
       refine DH.only 9 rfl (by kernel_rfl) (OP.val (v := (.string x996)) rfl (x_load1 U9 rfl rfl (rdF_cells (hL.rdO 0 rfl) hix1001 ha1002 0 _ rfl)) ?_)
       refine ⟨(hL.sel [1, 2] (by decide) rfl), ?_⟩
       have hS := (hL.sel [1, 2] (by decide) rfl)
       obtain ⟨hc1003, hm⟩ := chkE hm
       refine DH.take 10 rfl (by kernel_rfl) (by kernel_rfl) (by kernel_rfl) rfl rfl hS (YH.val (v := (.string (s_j3 ++ x996))) (fun w' hS' => x_addT rfl rfl hc1003)) ?_
       have hS := (hL.sel [1, 2] (by decide) rfl)
       refine DH.take 11 rfl (by kernel_rfl) (by kernel_rfl) (by kernel_rfl) rfl rfl hS (YH.val (v := (.string (s_j3 ++ x996))) (fun w' hS' => x_assign)) ?_
       refine DH.done (by kernel_rfl) ?_
       refine CSR ?_
       refine OV (.pointer (some ⟨b4, 0, none⟩)) rfl (x_fieldAddr (fsz := 1) 0 0 0 U42 rfl Tryd_T40 rfl f957 rfl) ?_
       refine OV v1 rfl (x_load1 U40 rfl rfl (hL.cellB 1 rfl rfl)) ?_
       refine OV (.int .i64 s_l1.2) rfl (x_mv f959) ?_
       obtain ⟨x1004, ha1005, hm⟩ := bndE hm
       obtain ⟨hz1006, ha1010⟩ := idxE ha1005
       obtain ⟨b1007, q1008, hix1009⟩ := rdL_ix (hL.rdS 2 rfl h2) hz1006 ha1010
       refine OV (.pointer (some ⟨b1007, q1008, none⟩)) rfl (x_ix U40 Tryd_T75 rfl rfl hix1009) ?_
       refine OV (.agg #[(.int .i64 x1004.Boat), (.int .i64 x1004.Code), (.int .i64 x1004.Time)]) rfl (x_loadN (cs := [(.int .i64 x1004.Boat), (.int .i64 x1004.Code), (.int .i64 x1004.Time)]) U75 Tryd_T75 rfl rfl (rdF_cells (hL.rdS 2 rfl h2) hix1009 ha1010)) ?_
       obtain ⟨x1011, hx1012, hm⟩ := bndE hm
       refine OW.cons (OP.call rfl (x_call (vs := [(.agg #[(.int .i64 x1004.Boat), (.int .i64 x1004.Code), (.int .i64 x1004.Time)])]) Tryd_C42 ⟨rfl, trivial⟩) (M.spec_l26Done_ok _ x1004 hx1012) ?_)
       rintro e1013 wd1014 ⟨rfl, hF1015⟩
       refine ⟨_, rfl, ?_⟩
       have hL := hL.pushAll hF1015
       simp only [lA, lB, lC, lD] at hL
       refine OW.nil ?_
       refine CW.condM (t := x1011) rfl hm (fun hb1016 hm => ?_) (fun hb1016 hm => ?_)
       · refine CW.regionL ?_
         refine OV (.string (s_j3 ++ x996)) rfl (x_move) ?_
         obtain ⟨hc1017, hm⟩ := chkE hm
         refine OV (.string ((s_j3 ++ x996) ++ (⟨#[61]⟩ : ByteArray))) rfl (x_addT rfl rfl hc1017) ?_
         refine OV (.pointer (some ⟨b4, 0, none⟩)) rfl (x_fieldAddr (fsz := 1) 0 0 0 U42 rfl Tryd_T40 rfl f957 rfl) ?_
         refine OV v1 rfl (x_load1 U40 rfl rfl (hL.cellB 1 rfl rfl)) ?_
         refine OV (.int .i64 s_l1.2) rfl (x_mv f959) ?_
         obtain ⟨x1018, ha1019, hm⟩ := bndE hm
         obtain ⟨hz1020, ha1024⟩ := idxE ha1019
         obtain ⟨b1021, q1022, hix1023⟩ := rdL_ix (hL.rdS 2 rfl h2) hz1020 ha1024
         refine OV (.pointer (some ⟨b1021, q1022, none⟩)) rfl (x_ix U40 Tryd_T75 rfl rfl hix1023) ?_
         refine OV (.pointer (some ⟨b1021, q1022 + 2, none⟩)) rfl (x_fieldAddr (fsz := 1) q1022 2 (q1022 + 2) U75 rfl Tryd_T2 rfl rfl rfl) ?_
         refine OV (.int .i64 x1018.Time) rfl (x_load1 U2 rfl rfl (rdF_cells (hL.rdS 2 rfl h2) hix1023 ha1024 2 _ rfl)) ?_
         obtain ⟨x1025, hx1026, hm⟩ := bndE hm
         refine OW.cons (OP.call rfl (x_call (vs := [(.int .i64 x1018.Time)]) Tryd_C28 ⟨rfl, trivial⟩) (M.spec_l26Number_ok _ x1018.Time hx1026) ?_)
         rintro e1027 wd1028 ⟨rfl, hF1029⟩
         refine ⟨_, rfl, ?_⟩
         have hL := hL.pushAll hF1029
         simp only [lA, lB, lC, lD] at hL
         obtain ⟨hc1030, hm⟩ := chkE hm
         refine OV (.string (((s_j3 ++ x996) ++ (⟨#[61]⟩ : ByteArray)) ++ x1025)) rfl (x_addT rfl rfl hc1030) ?_
         refine OV (.string (((s_j3 ++ x996) ++ (⟨#[61]⟩ : ByteArray)) ++ x1025)) rfl (x_assign) ?_
         refine OW.nil ?_
         have hL := hL.sel [1, 2] (by decide) rfl
         exact ⟨((s_j3 ++ x996) ++ (⟨#[61]⟩ : ByteArray)) ++ x1025, hm, ⟨f957, rfl, f959, hL⟩⟩
       refine CW.skip ?_
       have hL := hL.sel [1, 2] (by decide) rfl
       exact ⟨s_j3 ++ x996, hm, ⟨f957, rfl, f959, hL⟩⟩
     intro s_j2 F948 wd949 hJ hm
     unfold M.spec_RaceText_j2 at hm
     obtain ⟨f950, f951, f952, hL⟩ := hJ
     exact ⟨s_j2, hm, ⟨f950, f951, f952, hL⟩⟩
   intro s_j1 F863 wd864 hJ hm
   unfold M.spec_RaceText_j1 at hm
   obtain ⟨f865, f866, f867, hL⟩ := hJ
   refine CW.regionL ?_
   refine OV (.int .i64 s_l1.2) rfl (x_mv f867) ?_
   refine OV (.int .i64 (w64 (s_l1.2 + 1))) rfl (x_add rfl rfl) ?_
   refine OV (.int .i64 (w64 (s_l1.2 + 1))) rfl (x_assign) ?_
   refine OW.nil ?_
   obtain rfl := Option.some.inj hm
   exact ⟨_, rfl, ⟨f865, f866, rfl, hL⟩⟩
 refine CW.exit ?_
 refine XJ.hit ?_
 obtain rfl := Option.some.inj hm
 exact ⟨_, rfl, ⟨f694, f695, f696, hL⟩⟩

theorem M.impl_IsFinish_ok (w0 : World) (a0 : Finish) {r : Bool} (hm : M.impl_IsFinish a0 = some r) :
    Calls Tryd.prog 82 #[(.agg #[(.int .i64 a0.Boat), (.int .i64 a0.Code), (.int .i64 a0.Time)])] w0 fun e w' => e = .returned (.bool r) ∧ Fresh w0 w' [] := by
 unfold M.impl_IsFinish at hm
 refine calls_CW (args := [(.agg #[(.int .i64 a0.Boat), (.int .i64 a0.Code), (.int .i64 a0.Time)])]) Tryd.func82 rfl rfl rfl ?_
 have hL := Hp.start w0
 refine CSR ?_
 refine OW.cons (S_box (cs := #[(.int .i64 a0.Boat), (.int .i64 a0.Code), (.int .i64 a0.Time)]) hL rfl rfl rfl ?_)
 intro wd1 b2 hL
 refine OV (.bool false) rfl (x_assign) ?_
 refine ONS ?_
 refine CSR ?_
 refine OV (.pointer (some ⟨b2, 1, none⟩)) rfl (x_fieldAddr (fsz := 1) 0 1 1 U75 rfl Tryd_T2 rfl rfl rfl) ?_
 refine OV (.int .i64 a0.Code) rfl (x_load1 U2 rfl rfl (hL.cellB 0 rfl rfl)) ?_
 refine OV (.bool (a0.Code == 0)) rfl (x_eql rfl rfl) ?_
 refine OW.nil ?_
 refine CW.condM (t := a0.Code == 0) rfl hm (fun hb3 hm => ?_) (fun hb3 hm => ?_)
 · refine CW.seqJ (fun (s_j1 : Bool) (F : Fr) (w : World) => F 2 = (.bool s_j1) ∧ Hp w0 [Ent.blk b2 75 #[(.int .i64 a0.Boat), (.int .i64 a0.Code), (.int .i64 a0.Time)], Ent.snap w0 w0.heap.size] w) (fun s_j1 => M.impl_IsFinish_j1 s_j1 = some r) ?_ ?_
   · refine CW.regionL ?_
     refine OV (.pointer (some ⟨b2, 0, none⟩)) rfl (x_fieldAddr (fsz := 1) 0 0 0 U75 rfl Tryd_T2 rfl rfl rfl) ?_
     refine OV (.int .i64 a0.Boat) rfl (x_load1 U2 rfl rfl (hL.cellB 0 rfl rfl)) ?_
     obtain ⟨x18, hx19, hm⟩ := bndE hm
     refine OW.cons (OP.call rfl (x_call (vs := [(.int .i64 a0.Boat)]) Tryd_C30 ⟨rfl, trivial⟩) (M.impl_isBoat_ok _ a0.Boat hx19) ?_)
     rintro e20 wd21 ⟨rfl, hF22⟩
     refine ⟨_, rfl, ?_⟩
     have hL := hL.pushAll hF22
     simp only [lA, lB, lC, lD] at hL
     refine OV (.bool x18) rfl (x_move) ?_
     refine ifB_elim hm (fun hb23 hm => ?_) (fun hb23 hm => ?_)
     · refine OW.cons (OP.yes' rfl rfl hb23 (OP.val (v := (.pointer (some ⟨b2, 2, none⟩))) rfl (x_fieldAddr (fsz := 1) 0 2 2 U75 rfl Tryd_T2 rfl rfl rfl) ?_))
       refine OW.cons (OP.yes' rfl rfl hb23 (OP.val (v := (.int .i64 a0.Time)) rfl (x_load1 U2 rfl rfl (hL.cellB 0 rfl rfl)) ?_))
       obtain ⟨x24, hx25, hm⟩ := bndE hm
       refine OW.cons (OP.yes' rfl rfl hb23 (OP.call rfl (x_call (vs := [(.int .i64 a0.Time), (.int .i64 1), (.int .i64 1000000000)]) Tryd_C29 ⟨rfl, rfl, rfl, trivial⟩) (M.impl_within_ok _ a0.Time 1 1000000000 hx25) ?_))
       rintro e26 wd27 ⟨rfl, hF28⟩
       refine ⟨_, rfl, ?_⟩
       have hL := hL.pushAll hF28
       simp only [lA, lB, lC, lD] at hL
       refine OV (.bool x24) rfl (x_pickT' rfl hb23 rfl) ?_
       refine OV (.bool x24) rfl (x_assign) ?_
       refine OW.nil ?_
       exact ⟨x24, hm, ⟨rfl, hL⟩⟩
     refine OW.cons (OP.no' rfl rfl hb23 rfl ?_)
     refine OW.cons (OP.no' rfl rfl hb23 rfl ?_)
     refine OW.cons (OP.no' rfl rfl hb23 rfl ?_)
     refine OV (.bool false) rfl (x_pickF' rfl hb23 rfl) ?_
     refine OV (.bool false) rfl (x_assign) ?_
     refine OW.nil ?_
     exact ⟨false, hm, ⟨rfl, hL⟩⟩
   intro s_j1 F15 wd16 hJ hm
   unfold M.impl_IsFinish_j1 at hm
   obtain ⟨f17, hL⟩ := hJ
   refine CW.ret ?_
   obtain rfl := Option.some.inj hm
   exact RR1 rfl f17 ⟨rfl, hL.fresh 1 rfl [] (by decide) (by decide) rfl⟩
 refine CW.skip ?_
 refine CW.seqJ (fun (s_j2 : Bool) (F : Fr) (w : World) => F 2 = (.bool s_j2) ∧ Hp w0 [Ent.blk b2 75 #[(.int .i64 a0.Boat), (.int .i64 a0.Code), (.int .i64 a0.Time)], Ent.snap w0 w0.heap.size] w) (fun s_j2 => M.impl_IsFinish_j2 s_j2 = some r) ?_ ?_
 · refine CW.regionL ?_
   refine OV (.pointer (some ⟨b2, 0, none⟩)) rfl (x_fieldAddr (fsz := 1) 0 0 0 U75 rfl Tryd_T2 rfl rfl rfl) ?_
   refine OV (.int .i64 a0.Boat) rfl (x_load1 U2 rfl rfl (hL.cellB 0 rfl rfl)) ?_
   obtain ⟨x44, hx45, hm⟩ := bndE hm
   refine OW.cons (OP.call rfl (x_call (vs := [(.int .i64 a0.Boat)]) Tryd_C30 ⟨rfl, trivial⟩) (M.impl_isBoat_ok _ a0.Boat hx45) ?_)
   rintro e46 wd47 ⟨rfl, hF48⟩
   refine ⟨_, rfl, ?_⟩
   have hL := hL.pushAll hF48
   simp only [lA, lB, lC, lD] at hL
   refine OV (.bool x44) rfl (x_move) ?_
   refine ifB_elim hm (fun hb49 hm => ?_) (fun hb49 hm => ?_)
   · refine OW.cons (OP.yes' rfl rfl hb49 (OP.val (v := (.pointer (some ⟨b2, 1, none⟩))) rfl (x_fieldAddr (fsz := 1) 0 1 1 U75 rfl Tryd_T2 rfl rfl rfl) ?_))
     refine OW.cons (OP.yes' rfl rfl hb49 (OP.val (v := (.int .i64 a0.Code)) rfl (x_load1 U2 rfl rfl (hL.cellB 0 rfl rfl)) ?_))
     obtain ⟨x50, hx51, hm⟩ := bndE hm
     refine OW.cons (OP.yes' rfl rfl hb49 (OP.call rfl (x_call (vs := [(.int .i64 a0.Code), (.int .i64 1), (.int .i64 9)]) Tryd_C29 ⟨rfl, rfl, rfl, trivial⟩) (M.impl_within_ok _ a0.Code 1 9 hx51) ?_))
     rintro e52 wd53 ⟨rfl, hF54⟩
     refine ⟨_, rfl, ?_⟩
     have hL := hL.pushAll hF54
     simp only [lA, lB, lC, lD] at hL
     refine OV (.bool x50) rfl (x_pickT' rfl hb49 rfl) ?_
     refine OV (.bool x50) rfl (x_move) ?_
     refine ifB_elim hm (fun hb55 hm => ?_) (fun hb55 hm => ?_)
     · refine OW.cons (OP.yes' rfl rfl hb55 (OP.val (v := (.pointer (some ⟨b2, 2, none⟩))) rfl (x_fieldAddr (fsz := 1) 0 2 2 U75 rfl Tryd_T2 rfl rfl rfl) ?_))
       refine OW.cons (OP.yes' rfl rfl hb55 (OP.val (v := (.int .i64 a0.Time)) rfl (x_load1 U2 rfl rfl (hL.cellB 0 rfl rfl)) ?_))
       refine OW.cons (OP.yes' rfl rfl hb55 (OP.val (v := (.bool (a0.Time == 0))) rfl (x_eql rfl rfl) ?_))
       refine OV (.bool (a0.Time == 0)) rfl (x_pickT' rfl hb55 rfl) ?_
       refine OV (.bool (a0.Time == 0)) rfl (x_assign) ?_
       refine OW.nil ?_
       exact ⟨a0.Time == 0, hm, ⟨rfl, hL⟩⟩
     refine OW.cons (OP.no' rfl rfl hb55 rfl ?_)
     refine OW.cons (OP.no' rfl rfl hb55 rfl ?_)
     refine OW.cons (OP.no' rfl rfl hb55 rfl ?_)
     refine OV (.bool false) rfl (x_pickF' rfl hb55 rfl) ?_
     refine OV (.bool false) rfl (x_assign) ?_
     refine OW.nil ?_
     exact ⟨false, hm, ⟨rfl, hL⟩⟩
   refine OW.cons (OP.no' rfl rfl hb49 rfl ?_)
   refine OW.cons (OP.no' rfl rfl hb49 rfl ?_)
   refine OW.cons (OP.no' rfl rfl hb49 rfl ?_)
   refine OV (.bool false) rfl (x_pickF' rfl hb49 rfl) ?_
   refine OV (.bool false) rfl (x_move) ?_
   refine OW.cons (OP.no' rfl rfl rfl rfl ?_)
   refine OW.cons (OP.no' rfl rfl rfl rfl ?_)
   refine OW.cons (OP.no' rfl rfl rfl rfl ?_)
   refine OV (.bool false) rfl (x_pickF' rfl rfl rfl) ?_
   refine OV (.bool false) rfl (x_assign) ?_
   refine OW.nil ?_
   exact ⟨false, hm, ⟨rfl, hL⟩⟩
 intro s_j2 F41 wd42 hJ hm
 unfold M.impl_IsFinish_j2 at hm
 obtain ⟨f43, hL⟩ := hJ
 refine CW.ret ?_
 obtain rfl := Option.some.inj hm
 exact RR1 rfl f43 ⟨rfl, hL.fresh 1 rfl [] (by decide) (by decide) rfl⟩

theorem M.impl_areFinishes_ok (w0 : World) (a0 : Int) (a1 : List Finish) {v1 : Value} (h2 : rdL (· < w0.heap.size) w0 v1 a1) {r : Bool} (hm : M.impl_areFinishes a0 a1 = some r) :
    Calls Tryd.prog 65 #[(.int .i64 a0), v1] w0 fun e w' => e = .returned (.bool r) ∧ Fresh w0 w' [] := by
 unfold M.impl_areFinishes at hm
 refine calls_CW (args := [(.int .i64 a0), v1]) Tryd.func65 rfl rfl rfl ?_
 have hL := Hp.start w0
 refine CSR ?_
 refine OV (.bool false) rfl (x_assign) ?_
 refine ONS ?_
 refine CW.seqJ (fun (s_j1 : Bool) (F : Fr) (w : World) => F 1 = v1 ∧ F 15 = (.bool s_j1) ∧ Hp w0 [Ent.snap w0 w0.heap.size] w) (fun s_j1 => M.impl_areFinishes_j1 a1 s_j1 = some r) ?_ ?_
 · refine CW.regionL ?_
   refine OV (.int .i64 a0) rfl (x_move) ?_
   obtain ⟨x118, hx119, hm⟩ := bndE hm
   refine OW.cons (OP.call rfl (x_call (vs := [(.int .i64 a0), (.int .i64 1), (.int .i64 16)]) Tryd_C29 ⟨rfl, rfl, rfl, trivial⟩) (M.impl_within_ok _ a0 1 16 hx119) ?_)
   rintro e120 wd121 ⟨rfl, hF122⟩
   refine ⟨_, rfl, ?_⟩
   have hL := hL.pushAll hF122
   simp only [lA, lB, lC, lD] at hL
   refine OV (.bool (!x118)) rfl (x_not rfl) ?_
   refine OV (.bool (!x118)) rfl (x_move) ?_
   refine ifB_elim hm (fun hb123 hm => ?_) (fun hb123 hm => ?_)
   · refine OW.cons (OP.no' rfl rfl hb123 rfl ?_)
     refine OW.cons (OP.no' rfl rfl hb123 rfl ?_)
     refine OW.cons (OP.no' rfl rfl hb123 rfl ?_)
     refine OW.cons (OP.no' rfl rfl hb123 rfl ?_)
     refine OV (.bool true) rfl (x_pickT' rfl hb123 rfl) ?_
     refine OW.nil ?_
     exact ⟨true, hm, ⟨rfl, rfl, hL⟩⟩
   refine OW.cons (OP.yes' rfl rfl hb123 (OP.val (v := v1) rfl (x_move) ?_))
   refine OW.cons (OP.yes' rfl rfl hb123 (OP.val (v := (.int .i64 (a1.length : Int))) rfl (x_lenR U40 rfl (hL.rdS 0 rfl h2)) ?_))
   refine OW.cons (OP.yes' rfl rfl hb123 (OP.val (v := (.int .i64 a0)) rfl (x_move) ?_))
   refine OW.cons (OP.yes' rfl rfl hb123 (OP.val (v := (.bool ((a1.length : Int) != a0))) rfl (x_neq rfl rfl) ?_))
   refine OV (.bool ((a1.length : Int) != a0)) rfl (x_pickF' rfl hb123 rfl) ?_
   refine OW.nil ?_
   exact ⟨(a1.length : Int) != a0, hm, ⟨rfl, rfl, hL⟩⟩
 intro s_j1 F9 wd10 hJ hm
 unfold M.impl_areFinishes_j1 at hm
 obtain ⟨f11, f12, hL⟩ := hJ
 refine CW.condM (t := s_j1) f12 hm (fun hb13 hm => ?_) (fun hb13 hm => ?_)
 · refine CSR ?_
   refine OV (.bool false) rfl (x_assign) ?_
   refine OW.nil ?_
   refine CW.ret ?_
   obtain rfl := Option.some.inj hm
   exact RR1 rfl rfl ⟨rfl, hL.fresh 0 rfl [] (by decide) (by decide) rfl⟩
 refine CW.skip ?_
 refine CW.seq ?_
 refine CSR ?_
 refine OV v1 rfl (x_mv f11) ?_
 refine OV (.int .i64 (a1.length : Int)) rfl (x_lenR U40 rfl (hL.rdS 0 rfl h2)) ?_
 refine OV (.int .i64 0) rfl (x_move) ?_
 refine OW.nil ?_
 obtain ⟨o76, ho77, hm⟩ := bndE hm
 refine CW.loopB (fun (s_l1 : Int) (F : Fr) (w : World) => F 16 = v1 ∧ F 17 = (.int .i64 (a1.length : Int)) ∧ F 18 = (.int .i64 s_l1) ∧ Hp w0 [Ent.snap w0 w0.heap.size] w) (fun o => outc o (fun x => some x) (fun s => M.impl_areFinishes_a1 s) = some r) ho77 hm ⟨rfl, rfl, rfl, hL⟩ ?_ ?_
 · intro s_l1 F78 wd79 hJ hm
   have hm := outcE hm
   have hm : M.impl_areFinishes_a1 s_l1 = some r := hm
   unfold M.impl_areFinishes_a1 at hm
   obtain ⟨f80, f81, f82, hL⟩ := hJ
   refine CSR ?_
   refine OV (.bool true) rfl (x_assign) ?_
   refine OW.nil ?_
   refine CW.ret ?_
   obtain rfl := Option.some.inj hm
   exact RR1 rfl rfl ⟨rfl, hL.fresh 0 rfl [] (by decide) (by decide) rfl⟩
 intro s_l1 F83 wd84 t74 hJ hm hr75
 unfold M.impl_areFinishes_l1 at hm
 obtain ⟨f85, f86, f87, hL⟩ := hJ
 refine CSR ?_
 refine OV (.bool (decide (s_l1 < (a1.length : Int)))) rfl (x_lss f87 f86) ?_
 refine ONS ?_
 refine CW.condM (t := decide (s_l1 < (a1.length : Int))) rfl hm (fun hb88 hm => ?_) (fun hb88 hm => ?_)
 · refine CW.skip ?_
   refine CW.seq ?_
   refine CW.block ?_
   refine CSR ?_
   refine OV (.int .i64 s_l1) rfl (x_mv f87) ?_
   obtain ⟨x89, ha90, hm⟩ := bndE hm
   obtain ⟨hz91, ha95⟩ := idxE ha90
   obtain ⟨b92, q93, hix94⟩ := rdL_ix (hL.rdS 0 rfl h2) hz91 ha95
   refine OV (.pointer (some ⟨b92, q93, none⟩)) rfl (x_ix U40 Tryd_T75 f85 f87 hix94) ?_
   refine OV (.agg #[(.int .i64 x89.Boat), (.int .i64 x89.Code), (.int .i64 x89.Time)]) rfl (x_loadN (cs := [(.int .i64 x89.Boat), (.int .i64 x89.Code), (.int .i64 x89.Time)]) U75 Tryd_T75 rfl rfl (rdF_cells (hL.rdS 0 rfl h2) hix94 ha95)) ?_
   refine OW.cons (S_alloc (cs := #[(.int .i64 0), (.int .i64 0), (.int .i64 0)]) hL Tryd_T75 rfl rfl ?_)
   intro wd96 b97 hL
   refine OV (.int .i64 s_l1) rfl (x_assign) ?_
   refine OW.cons (S_storeN (l := [(.int .i64 x89.Boat), (.int .i64 x89.Code), (.int .i64 x89.Time)]) (cs' := #[(.int .i64 x89.Boat), (.int .i64 x89.Code), (.int .i64 x89.Time)]) hL 0 rfl Tryd_T75 rfl rfl (List.forall_mem_cons.2 ⟨rfl, (List.forall_mem_cons.2 ⟨rfl, (List.forall_mem_cons.2 ⟨rfl, (fun _ h => by cases h)⟩)⟩)⟩) rfl (Nat.le_of_ble_eq_true rfl) rfl ?_)
   intro wd98 hL
   refine OW.nil ?_
   refine CW.seqJ (fun (s_j2 : Bool) (F : Fr) (w : World) => F 16 = v1 ∧ F 17 = (.int .i64 (a1.length : Int)) ∧ F 18 = (.int .i64 s_l1) ∧ F 31 = (.bool s_j2) ∧ Hp w0 [Ent.blk b97 75 #[(.int .i64 x89.Boat), (.int .i64 x89.Code), (.int .i64 x89.Time)], Ent.snap w0 w0.heap.size] w) (fun s_j2 => M.impl_areFinishes_j2 s_l1 s_j2 = some t74) ?_ ?_
   · refine CW.regionL ?_
     refine OV (.pointer (some ⟨b97, 0, none⟩)) rfl (x_fieldAddr (fsz := 1) 0 0 0 U75 rfl Tryd_T2 rfl rfl rfl) ?_
     refine OV (.int .i64 x89.Boat) rfl (x_load1 U2 rfl rfl (hL.cellB 0 rfl rfl)) ?_
     refine OV (.int .i64 s_l1) rfl (x_move) ?_
     refine OV (.bool (x89.Boat != s_l1)) rfl (x_neq rfl rfl) ?_
     refine OV (.bool (x89.Boat != s_l1)) rfl (x_move) ?_
     refine ifB_elim hm (fun hb112 hm => ?_) (fun hb112 hm => ?_)
     · refine OW.cons (OP.no' rfl rfl hb112 rfl ?_)
       refine OW.cons (OP.no' rfl rfl hb112 rfl ?_)
       refine OW.cons (OP.no' rfl rfl hb112 rfl ?_)
       refine OV (.bool true) rfl (x_pickT' rfl hb112 rfl) ?_
       refine OW.nil ?_
       exact ⟨true, hm, ⟨f85, f86, f87, rfl, hL⟩⟩
     refine OW.cons (OP.yes' rfl rfl hb112 (OP.val (v := (.agg #[(.int .i64 x89.Boat), (.int .i64 x89.Code), (.int .i64 x89.Time)])) rfl (x_loadN (cs := [(.int .i64 x89.Boat), (.int .i64 x89.Code), (.int .i64 x89.Time)]) U75 Tryd_T75 rfl rfl (hL.cellsB 0 rfl (o := 0) (l := [(.int .i64 x89.Boat), (.int .i64 x89.Code), (.int .i64 x89.Time)]) (by intro j u hj; exact (by simpa using hj)))) ?_))
     obtain ⟨x113, hx114, hm⟩ := bndE hm
     refine OW.cons (OP.yes' rfl rfl hb112 (OP.call rfl (x_call (vs := [(.agg #[(.int .i64 x89.Boat), (.int .i64 x89.Code), (.int .i64 x89.Time)])]) Tryd_C82 ⟨rfl, trivial⟩) (M.impl_IsFinish_ok _ x89 hx114) ?_))
     rintro e115 wd116 ⟨rfl, hF117⟩
     refine ⟨_, rfl, ?_⟩
     have hL := hL.pushAll hF117
     simp only [lA, lB, lC, lD] at hL
     refine OW.cons (OP.yes' rfl rfl hb112 (OP.val (v := (.bool (!x113))) rfl (x_not rfl) ?_))
     refine OV (.bool (!x113)) rfl (x_pickF' rfl hb112 rfl) ?_
     refine OW.nil ?_
     exact ⟨!x113, hm, ⟨f85, f86, f87, rfl, hL⟩⟩
   intro s_j2 F105 wd106 hJ hm
   unfold M.impl_areFinishes_j2 at hm
   obtain ⟨f107, f108, f109, f110, hL⟩ := hJ
   refine CW.condM (t := s_j2) f110 hm (fun hb111 hm => ?_) (fun hb111 hm => ?_)
   · refine CSR ?_
     refine OV (.bool false) rfl (x_assign) ?_
     refine OW.nil ?_
     refine CW.ret ?_
     obtain rfl := Option.some.inj hm
     have hm := hr75 _ rfl
     obtain rfl := Option.some.inj hm
     exact RR1 rfl rfl ⟨rfl, hL.fresh 1 rfl [] (by decide) (by decide) rfl⟩
   refine CW.skip ?_
   refine CW.regionL ?_
   refine OV (.int .i64 (w64 (s_l1 + 1))) rfl (x_add f109 rfl) ?_
   refine OV (.int .i64 (w64 (s_l1 + 1))) rfl (x_move) ?_
   refine OW.nil ?_
   have hL := hL.sel [1] (by decide) rfl
   obtain rfl := Option.some.inj hm
   exact ⟨_, rfl, ⟨f107, f108, rfl, hL⟩⟩
 refine CW.exit ?_
 refine XJ.hit ?_
 obtain rfl := Option.some.inj hm
 exact ⟨_, rfl, ⟨f85, f86, f87, hL⟩⟩

theorem M.impl_IsRace_ok (w0 : World) (a0 : Int) (a1 : Race) {v1 : Value} (h2 : rdL (· < w0.heap.size) w0 v1 a1.Finishes) {r : Bool} (hm : M.impl_IsRace a0 a1 = some r) :
    Calls Tryd.prog 44 #[(.int .i64 a0), (.agg #[v1])] w0 fun e w' => e = .returned (.bool r) ∧ Fresh w0 w' [] := by
 unfold M.impl_IsRace at hm
 refine calls_CW (args := [(.int .i64 a0), (.agg #[v1])]) Tryd.func44 rfl rfl rfl ?_
 have hL := Hp.start w0
 refine CSR ?_
 refine OW.cons (S_box (cs := #[v1]) hL rfl rfl rfl ?_)
 intro wd3 b4 hL
 refine OV (.bool false) rfl (x_assign) ?_
 refine ONR ?_
 refine OV (.int .i64 a0) rfl (x_move) ?_
 refine OV (.pointer (some ⟨b4, 0, none⟩)) rfl (x_fieldAddr (fsz := 1) 0 0 0 U42 rfl Tryd_T40 rfl rfl rfl) ?_
 refine OV v1 rfl (x_load1 U40 rfl rfl (hL.cellB 0 rfl rfl)) ?_
 obtain ⟨x5, hx6, hm⟩ := bndE hm
 refine OW.cons (OP.call rfl (x_call (vs := [(.int .i64 a0), v1]) Tryd_C65 ⟨rfl, rfl, trivial⟩) (M.impl_areFinishes_ok _ a0 a1.Finishes (hL.rdS 1 rfl h2) hx6) ?_)
 rintro e7 wd8 ⟨rfl, hF9⟩
 refine ⟨_, rfl, ?_⟩
 have hL := hL.pushAll hF9
 simp only [lA, lB, lC, lD] at hL
 refine OV (.bool x5) rfl (x_assign) ?_
 refine OW.nil ?_
 refine CW.ret ?_
 obtain rfl := Option.some.inj hm
 exact RR1 rfl rfl ⟨rfl, hL.fresh 1 rfl [] (by decide) (by decide) rfl⟩

theorem M.impl_CodeText_ok (w0 : World) (a0 : Int) {r : ByteArray} (hm : M.impl_CodeText a0 = some r) :
    Calls Tryd.prog 45 #[(.int .i64 a0)] w0 fun e w' => e = .returned (.string r) ∧ Fresh w0 w' [] := by
 unfold M.impl_CodeText at hm
 refine calls_CW (args := [(.int .i64 a0)]) Tryd.func45 rfl rfl rfl ?_
 have hL := Hp.start w0
 refine CSR ?_
 refine OV (.string (⟨#[]⟩ : ByteArray)) rfl (x_assign) ?_
 refine ONR ?_
 refine OV (.agg #[(.string (⟨#[70, 73, 78]⟩ : ByteArray)), (.string (⟨#[68, 78, 67]⟩ : ByteArray)), (.string (⟨#[68, 78, 83]⟩ : ByteArray)), (.string (⟨#[79, 67, 83]⟩ : ByteArray)), (.string (⟨#[68, 78, 70]⟩ : ByteArray)), (.string (⟨#[82, 69, 84]⟩ : ByteArray)), (.string (⟨#[68, 83, 81]⟩ : ByteArray)), (.string (⟨#[68, 78, 69]⟩ : ByteArray)), (.string (⟨#[66, 70, 68]⟩ : ByteArray)), (.string (⟨#[82, 68, 71]⟩ : ByteArray))]) rfl (x_buildA U100 Tryd_T100 Tryd_T9 (ps := [(0, (.string (⟨#[70, 73, 78]⟩ : ByteArray))), (1, (.string (⟨#[68, 78, 67]⟩ : ByteArray))), (2, (.string (⟨#[68, 78, 83]⟩ : ByteArray))), (3, (.string (⟨#[79, 67, 83]⟩ : ByteArray))), (4, (.string (⟨#[68, 78, 70]⟩ : ByteArray))), (5, (.string (⟨#[82, 69, 84]⟩ : ByteArray))), (6, (.string (⟨#[68, 83, 81]⟩ : ByteArray))), (7, (.string (⟨#[68, 78, 69]⟩ : ByteArray))), (8, (.string (⟨#[66, 70, 68]⟩ : ByteArray))), (9, (.string (⟨#[82, 68, 71]⟩ : ByteArray)))]) ⟨⟨rfl, rfl⟩, ⟨rfl, rfl⟩, ⟨rfl, rfl⟩, ⟨rfl, rfl⟩, ⟨rfl, rfl⟩, ⟨rfl, rfl⟩, ⟨rfl, rfl⟩, ⟨rfl, rfl⟩, ⟨rfl, rfl⟩, ⟨rfl, rfl⟩, trivial⟩ (by first | rfl | kernel_rfl | simp [Instr.fill, cells_string])) ?_
 refine OW.cons (S_alloc (cs := #[(.string ByteArray.empty), (.string ByteArray.empty), (.string ByteArray.empty), (.string ByteArray.empty), (.string ByteArray.empty), (.string ByteArray.empty), (.string ByteArray.empty), (.string ByteArray.empty), (.string ByteArray.empty), (.string ByteArray.empty)]) hL Tryd_T100 rfl rfl ?_)
 intro wd1 b2 hL
 refine OW.cons (S_storeN (l := [(.string (⟨#[70, 73, 78]⟩ : ByteArray)), (.string (⟨#[68, 78, 67]⟩ : ByteArray)), (.string (⟨#[68, 78, 83]⟩ : ByteArray)), (.string (⟨#[79, 67, 83]⟩ : ByteArray)), (.string (⟨#[68, 78, 70]⟩ : ByteArray)), (.string (⟨#[82, 69, 84]⟩ : ByteArray)), (.string (⟨#[68, 83, 81]⟩ : ByteArray)), (.string (⟨#[68, 78, 69]⟩ : ByteArray)), (.string (⟨#[66, 70, 68]⟩ : ByteArray)), (.string (⟨#[82, 68, 71]⟩ : ByteArray))]) (cs' := #[(.string (⟨#[70, 73, 78]⟩ : ByteArray)), (.string (⟨#[68, 78, 67]⟩ : ByteArray)), (.string (⟨#[68, 78, 83]⟩ : ByteArray)), (.string (⟨#[79, 67, 83]⟩ : ByteArray)), (.string (⟨#[68, 78, 70]⟩ : ByteArray)), (.string (⟨#[82, 69, 84]⟩ : ByteArray)), (.string (⟨#[68, 83, 81]⟩ : ByteArray)), (.string (⟨#[68, 78, 69]⟩ : ByteArray)), (.string (⟨#[66, 70, 68]⟩ : ByteArray)), (.string (⟨#[82, 68, 71]⟩ : ByteArray))]) hL 0 rfl Tryd_T100 rfl rfl (List.forall_mem_cons.2 ⟨rfl, (List.forall_mem_cons.2 ⟨rfl, (List.forall_mem_cons.2 ⟨rfl, (List.forall_mem_cons.2 ⟨rfl, (List.forall_mem_cons.2 ⟨rfl, (List.forall_mem_cons.2 ⟨rfl, (List.forall_mem_cons.2 ⟨rfl, (List.forall_mem_cons.2 ⟨rfl, (List.forall_mem_cons.2 ⟨rfl, (List.forall_mem_cons.2 ⟨rfl, (fun _ h => by cases h)⟩)⟩)⟩)⟩)⟩)⟩)⟩)⟩)⟩)⟩) rfl (Nat.le_of_ble_eq_true rfl) rfl ?_)
 intro wd3 hL
 refine ONS ?_
 refine CSR ?_
 refine OV (.int .i64 a0) rfl (x_move) ?_
 obtain ⟨x4, hx5, hm⟩ := bndE hm
 refine OW.cons (OP.call rfl (x_call (vs := [(.int .i64 a0), (.int .i64 0), (.int .i64 9)]) Tryd_C29 ⟨rfl, rfl, rfl, trivial⟩) (M.impl_within_ok _ a0 0 9 hx5) ?_)
 rintro e6 wd7 ⟨rfl, hF8⟩
 refine ⟨_, rfl, ?_⟩
 have hL := hL.pushAll hF8
 simp only [lA, lB, lC, lD] at hL
 refine OV (.bool (!x4)) rfl (x_not rfl) ?_
 refine OW.nil ?_
 refine CW.condM (t := !x4) rfl hm (fun hb9 hm => ?_) (fun hb9 hm => ?_)
 · refine CSR ?_
   refine OV (.string (⟨#[]⟩ : ByteArray)) rfl (x_assign) ?_
   refine OW.nil ?_
   refine CW.ret ?_
   obtain rfl := Option.some.inj hm
   exact RR1 rfl rfl ⟨rfl, hL.fresh 1 rfl [] (by decide) (by decide) rfl⟩
 refine CW.skip ?_
 refine CSR ?_
 refine OV (.int .i64 a0) rfl (x_move) ?_
 obtain ⟨x10, ha11, hm⟩ := bndE hm
 obtain ⟨hz12, ha16⟩ := idxE ha11
 obtain ⟨b13, q14, hix15⟩ := rdL_ix (hL.rdArr 0 rfl ([(⟨#[70, 73, 78]⟩ : ByteArray), (⟨#[68, 78, 67]⟩ : ByteArray), (⟨#[68, 78, 83]⟩ : ByteArray), (⟨#[79, 67, 83]⟩ : ByteArray), (⟨#[68, 78, 70]⟩ : ByteArray), (⟨#[82, 69, 84]⟩ : ByteArray), (⟨#[68, 83, 81]⟩ : ByteArray), (⟨#[68, 78, 69]⟩ : ByteArray), (⟨#[66, 70, 68]⟩ : ByteArray), (⟨#[82, 68, 71]⟩ : ByteArray)] : List ByteArray) rfl (cells_str _) (by decide)) hz12 ha16
 refine OV (.pointer (some ⟨b13, q14, none⟩)) rfl (x_ixArr U100 Tryd_T9 rfl rfl hix15) ?_
 refine OV (.string x10) rfl (x_load1 U9 rfl rfl (rdF_cells (hL.rdArr 0 rfl ([(⟨#[70, 73, 78]⟩ : ByteArray), (⟨#[68, 78, 67]⟩ : ByteArray), (⟨#[68, 78, 83]⟩ : ByteArray), (⟨#[79, 67, 83]⟩ : ByteArray), (⟨#[68, 78, 70]⟩ : ByteArray), (⟨#[82, 69, 84]⟩ : ByteArray), (⟨#[68, 83, 81]⟩ : ByteArray), (⟨#[68, 78, 69]⟩ : ByteArray), (⟨#[66, 70, 68]⟩ : ByteArray), (⟨#[82, 68, 71]⟩ : ByteArray)] : List ByteArray) rfl (cells_str _) (by decide)) hix15 ha16 0 _ rfl)) ?_
 refine OV (.string x10) rfl (x_assign) ?_
 refine OW.nil ?_
 refine CW.ret ?_
 obtain rfl := Option.some.inj hm
 exact RR1 rfl rfl ⟨rfl, hL.fresh 1 rfl [] (by decide) (by decide) rfl⟩

theorem M.impl_RaceText_ok (w0 : World) (htab : Lib.TabIs Tryd.prog w0 "internal/strconv.uint64pow10" .u64 Lib.pow10Tab) (a0 : Int) (a1 : Race) {v1 : Value} (h2 : rdL (· < w0.heap.size) w0 v1 a1.Finishes) {r : ByteArray} (hm : M.impl_RaceText a0 a1 = some r) :
    Calls Tryd.prog 18 #[(.int .i64 a0), (.agg #[v1])] w0 fun e w' => e = .returned (.string r) ∧ Fresh w0 w' [] := by
 unfold M.impl_RaceText at hm
 refine calls_CW (args := [(.int .i64 a0), (.agg #[v1])]) Tryd.func18 rfl rfl rfl ?_
 have hL := Hp.start w0
 refine CSR ?_
 refine OW.cons (S_box (cs := #[v1]) hL rfl rfl rfl ?_)
 intro wd3 b4 hL
 refine OV (.string (⟨#[]⟩ : ByteArray)) rfl (x_assign) ?_
 refine ONS ?_
 refine CSR ?_
 refine OV (.int .i64 a0) rfl (x_move) ?_
 refine OV (.agg #[v1]) rfl (x_loadN (cs := [v1]) U42 Tryd_T42 rfl rfl (hL.cellsB 0 rfl (o := 0) (l := [v1]) (by intro j u hj; exact (by simpa using hj)))) ?_
 obtain ⟨x5, hx6, hm⟩ := bndE hm
 refine OW.cons (OP.call rfl (x_call (vs := [(.int .i64 a0), (.agg #[v1])]) Tryd_C44 ⟨rfl, rfl, trivial⟩) (M.impl_IsRace_ok _ a0 a1 (hL.rdS 1 rfl h2) hx6) ?_)
 rintro e7 wd8 ⟨rfl, hF9⟩
 refine ⟨_, rfl, ?_⟩
 have hL := hL.pushAll hF9
 simp only [lA, lB, lC, lD] at hL
 refine OV (.bool (!x5)) rfl (x_not rfl) ?_
 refine OW.nil ?_
 refine CW.condM (t := !x5) rfl hm (fun hb10 hm => ?_) (fun hb10 hm => ?_)
 · refine CSR ?_
   refine OV (.string (⟨#[]⟩ : ByteArray)) rfl (x_assign) ?_
   refine OW.nil ?_
   refine CW.ret ?_
   obtain rfl := Option.some.inj hm
   exact RR1 rfl rfl ⟨rfl, hL.fresh 1 rfl [] (by decide) (by decide) rfl⟩
 refine CW.skip ?_
 refine CSR ?_
 refine OW.cons (S_lit ([] : List ByteArray) hL U60 Tryd_T9 rfl (by decide) (by first | (simp [Instr.fill, madeCells, Value.cells, ev, upd, Flat.enc, Flat.sz]; done) | rfl | kernel_rfl) rfl rfl ?_)
 intro wd11 v12 S13 hL
 refine OV v12 rfl (x_assign) ?_
 refine ONS ?_
 refine CSR ?_
 refine OV (.pointer (some ⟨b4, 0, none⟩)) rfl (x_fieldAddr (fsz := 1) 0 0 0 U42 rfl Tryd_T40 rfl rfl rfl) ?_
 refine OV v1 rfl (x_load1 U40 rfl rfl (hL.cellB 1 rfl rfl)) ?_
 refine OV (.int .i64 (a1.Finishes.length : Int)) rfl (x_lenR U40 rfl (hL.rdS 2 rfl h2)) ?_
 refine OV (.int .i64 0) rfl (x_move) ?_
 refine OW.nil ?_
 obtain ⟨o112, ho113, hm⟩ := bndE hm
 refine CW.loopB (fun (s_l1 : (List ByteArray) × Int) (F : Fr) (w : World) => ∃ (v108 : Value) (S109 : Nat → Prop), F 5 = v108 ∧ F 15 = v1 ∧ F 16 = (.int .i64 (a1.Finishes.length : Int)) ∧ F 17 = (.int .i64 s_l1.2) ∧ Hp w0 [Ent.own 9 S109 v108 s_l1.1, Ent.blk b4 42 #[v1], Ent.snap w0 w0.heap.size] w) (fun o => outc o (fun x => some x) (fun s => M.impl_RaceText_a1 s) = some r) ho113 hm ⟨v12, S13, rfl, rfl, rfl, rfl, hL⟩ ?_ ?_
 · intro s_l1 F114 wd115 hJ hm
   have hm := outcE hm
   have hm : M.impl_RaceText_a1 s_l1 = some r := hm
   unfold M.impl_RaceText_a1 at hm
   obtain ⟨v108, S109, f116, f117, f118, f119, hL⟩ := hJ
   refine CSR ?_
   refine OV v108 rfl (x_mv f116) ?_
   obtain ⟨x120, hx121, hm⟩ := bndE hm
   refine OW.cons (OP.call rfl (x_call (vs := [v108, (.string (⟨#[32]⟩ : ByteArray))]) Tryd_C37 ⟨rfl, rfl, trivial⟩) (M.strings_Join_ok _ s_l1.1 (hL.rdO 0 rfl) (⟨#[32]⟩ : ByteArray) hx121) ?_)
   rintro e122 wd123 ⟨rfl, hF124⟩
   refine ⟨_, rfl, ?_⟩
   have hL := hL.pushAll hF124
   simp only [lA, lB, lC, lD] at hL
   refine OV (.string x120) rfl (x_assign) ?_
   refine OW.nil ?_
   refine CW.ret ?_
   obtain rfl := Option.some.inj hm
   exact RR1 rfl rfl ⟨rfl, hL.fresh 2 rfl [] (by decide) (by decide) rfl⟩
 intro s_l1 F125 wd126 t110 hJ hm hr111
 unfold M.impl_RaceText_l1 at hm
 obtain ⟨v108, S109, f127, f128, f129, f130, hL⟩ := hJ
 refine CSR ?_
 refine OV (.bool (decide (s_l1.2 < (a1.Finishes.length : Int)))) rfl (x_lss f130 f129) ?_
 refine ONS ?_
 refine CW.condM (t := decide (s_l1.2 < (a1.Finishes.length : Int))) rfl hm (fun hb131 hm => ?_) (fun hb131 hm => ?_)
 · refine CW.skip ?_
   refine CW.seq ?_
   refine CW.block ?_
   refine CSR ?_
   obtain ⟨x132, ha133, hm⟩ := bndE hm
   obtain ⟨hz134, ha138⟩ := idxE ha133
   obtain ⟨b135, q136, hix137⟩ := rdL_ix (hL.rdS 2 rfl h2) hz134 ha138
   refine OV (.pointer (some ⟨b135, q136, none⟩)) rfl (x_ix U40 Tryd_T75 f128 f130 hix137) ?_
   refine OV (.agg #[(.int .i64 x132.Boat), (.int .i64 x132.Code), (.int .i64 x132.Time)]) rfl (x_loadN (cs := [(.int .i64 x132.Boat), (.int .i64 x132.Code), (.int .i64 x132.Time)]) U75 Tryd_T75 rfl rfl (rdF_cells (hL.rdS 2 rfl h2) hix137 ha138)) ?_
   refine OW.cons (S_alloc (cs := #[(.int .i64 0), (.int .i64 0), (.int .i64 0)]) hL Tryd_T75 rfl rfl ?_)
   intro wd139 b140 hL
   refine OW.cons (S_storeN (l := [(.int .i64 x132.Boat), (.int .i64 x132.Code), (.int .i64 x132.Time)]) (cs' := #[(.int .i64 x132.Boat), (.int .i64 x132.Code), (.int .i64 x132.Time)]) hL 0 rfl Tryd_T75 rfl rfl (List.forall_mem_cons.2 ⟨rfl, (List.forall_mem_cons.2 ⟨rfl, (List.forall_mem_cons.2 ⟨rfl, (fun _ h => by cases h)⟩)⟩)⟩) rfl (Nat.le_of_ble_eq_true rfl) rfl ?_)
   intro wd141 hL
   refine ONR ?_
   refine OV (.pointer (some ⟨b140, 1, none⟩)) rfl (x_fieldAddr (fsz := 1) 0 1 1 U75 rfl Tryd_T2 rfl rfl rfl) ?_
   refine OV (.int .i64 x132.Code) rfl (x_load1 U2 rfl rfl (hL.cellB 0 rfl rfl)) ?_
   obtain ⟨x142, hx143, hm⟩ := bndE hm
   refine OW.cons (OP.call rfl (x_call (vs := [(.int .i64 x132.Code)]) Tryd_C45 ⟨rfl, trivial⟩) (M.impl_CodeText_ok _ x132.Code hx143) ?_)
   rintro e144 wd145 ⟨rfl, hF146⟩
   refine ⟨_, rfl, ?_⟩
   have hL := hL.pushAll hF146
   simp only [lA, lB, lC, lD] at hL
   refine OV (.string x142) rfl (x_assign) ?_
   refine OW.nil ?_
   refine CW.seqJ (fun (s_j1 : ByteArray) (F : Fr) (w : World) => F 5 = v108 ∧ F 8 = (.string s_j1) ∧ F 15 = v1 ∧ F 16 = (.int .i64 (a1.Finishes.length : Int)) ∧ F 17 = (.int .i64 s_l1.2) ∧ Hp w0 [Ent.blk b140 75 #[(.int .i64 x132.Boat), (.int .i64 x132.Code), (.int .i64 x132.Time)], Ent.own 9 S109 v108 s_l1.1, Ent.blk b4 42 #[v1], Ent.snap w0 w0.heap.size] w) (fun s_j1 => M.impl_RaceText_j1 s_l1 s_j1 = some t110) ?_ ?_
   · refine CSR ?_
     refine OV (.pointer (some ⟨b140, 1, none⟩)) rfl (x_fieldAddr (fsz := 1) 0 1 1 U75 rfl Tryd_T2 rfl rfl rfl) ?_
     refine OV (.int .i64 x132.Code) rfl (x_load1 U2 rfl rfl (hL.cellB 0 rfl rfl)) ?_
     refine OV (.bool (x132.Code == 0)) rfl (x_eql rfl rfl) ?_
     refine OW.nil ?_
     refine CW.condM (t := x132.Code == 0) rfl hm (fun hb169 hm => ?_) (fun hb169 hm => ?_)
     · refine CW.regionL ?_
       refine OV (.string x142) rfl (x_move) ?_
       refine OV (.pointer (some ⟨b140, 2, none⟩)) rfl (x_fieldAddr (fsz := 1) 0 2 2 U75 rfl Tryd_T2 rfl rfl rfl) ?_
       refine OV (.int .i64 x132.Time) rfl (x_load1 U2 rfl rfl (hL.cellB 0 rfl rfl)) ?_
       obtain ⟨x170, hx171, hm⟩ := bndE hm
       refine OW.cons (OP.call rfl (x_call (vs := [(.int .i64 x132.Time)]) Tryd_C32 ⟨rfl, trivial⟩) (M.impl_text_ok _ (hL.tab 3 rfl rfl htab) x132.Time hx171) ?_)
       rintro e172 wd173 ⟨rfl, hF174⟩
       refine ⟨_, rfl, ?_⟩
       have hL := hL.pushAll hF174
       simp only [lA, lB, lC, lD] at hL
       obtain ⟨hc175, hm⟩ := chkE hm
       refine OV (.string ((⟨#[61]⟩ : ByteArray) ++ x170)) rfl (x_addT rfl rfl hc175) ?_
       obtain ⟨hc176, hm⟩ := chkE hm
       refine OV (.string (x142 ++ ((⟨#[61]⟩ : ByteArray) ++ x170))) rfl (x_addT rfl rfl hc176) ?_
       refine OV (.string (x142 ++ ((⟨#[61]⟩ : ByteArray) ++ x170))) rfl (x_assign) ?_
       refine OW.nil ?_
       exact ⟨x142 ++ ((⟨#[61]⟩ : ByteArray) ++ x170), hm, ⟨f127, rfl, f128, f129, f130, hL⟩⟩
     refine CW.skip ?_
     exact ⟨x142, hm, ⟨f127, rfl, f128, f129, f130, hL⟩⟩
   intro s_j1 F155 wd156 hJ hm
   unfold M.impl_RaceText_j1 at hm
   obtain ⟨f157, f158, f159, f160, f161, hL⟩ := hJ
   refine CW.regionL ?_
   refine OV v108 rfl (x_mv f157) ?_
   refine OV (.string s_j1) rfl (x_mv f158) ?_
   refine OW.cons (S_lit ([s_j1] : List ByteArray) hL U60 Tryd_T9 rfl (by decide) (by first | (simp [Instr.fill, madeCells, Value.cells, ev, upd, Flat.enc, Flat.sz]; done) | rfl | kernel_rfl) rfl rfl ?_)
   intro wd162 v163 S164 hL
   obtain ⟨hc168, hm⟩ := chkE hm
   refine OW.cons (S_append (ys := ([s_j1] : List ByteArray)) hL 2 rfl U60 Tryd_T9 rfl rfl rfl (hL.rdO 0 rfl) hc168 (by decide) rfl ?_)
   intro wd165 v166 S167 hL
   refine OV v166 rfl (x_assign) ?_
   refine OW.nil ?_
   refine CW.regionL ?_
   refine OV (.int .i64 (w64 (s_l1.2 + 1))) rfl (x_add f161 rfl) ?_
   refine OV (.int .i64 (w64 (s_l1.2 + 1))) rfl (x_move) ?_
   refine OW.nil ?_
   have hL := hL.sel [2, 3, 4] (by decide) rfl
   obtain rfl := Option.some.inj hm
   exact ⟨_, rfl, ⟨v166, S167, rfl, f159, f160, rfl, hL⟩⟩
 refine CW.exit ?_
 refine XJ.hit ?_
 obtain rfl := Option.some.inj hm
 exact ⟨_, rfl, ⟨v108, S109, f127, f128, f129, f130, hL⟩⟩

theorem M.laws_eqFinish_ok (w0 : World) (a0 : Finish) (a1 : Finish) {r : Bool} (hm : M.laws_eqFinish a0 a1 = some r) :
    Calls Tryd.prog 66 #[(.agg #[(.int .i64 a0.Boat), (.int .i64 a0.Code), (.int .i64 a0.Time)]), (.agg #[(.int .i64 a1.Boat), (.int .i64 a1.Code), (.int .i64 a1.Time)])] w0 fun e w' => e = .returned (.bool r) ∧ Fresh w0 w' [] := by
 unfold M.laws_eqFinish at hm
 refine calls_CW (args := [(.agg #[(.int .i64 a0.Boat), (.int .i64 a0.Code), (.int .i64 a0.Time)]), (.agg #[(.int .i64 a1.Boat), (.int .i64 a1.Code), (.int .i64 a1.Time)])]) Tryd.func66 rfl rfl rfl ?_
 have hL := Hp.start w0
 refine CSR ?_
 refine OW.cons (S_box (cs := #[(.int .i64 a0.Boat), (.int .i64 a0.Code), (.int .i64 a0.Time)]) hL rfl rfl rfl ?_)
 intro wd1 b2 hL
 refine OW.cons (S_box (cs := #[(.int .i64 a1.Boat), (.int .i64 a1.Code), (.int .i64 a1.Time)]) hL rfl rfl rfl ?_)
 intro wd3 b4 hL
 refine OV (.bool false) rfl (x_assign) ?_
 refine ONS ?_
 refine CSR ?_
 refine OV (.pointer (some ⟨b2, 0, none⟩)) rfl (x_fieldAddr (fsz := 1) 0 0 0 U75 rfl Tryd_T2 rfl rfl rfl) ?_
 refine OV (.int .i64 a0.Boat) rfl (x_load1 U2 rfl rfl (hL.cellB 1 rfl rfl)) ?_
 refine OV (.pointer (some ⟨b4, 0, none⟩)) rfl (x_fieldAddr (fsz := 1) 0 0 0 U75 rfl Tryd_T2 rfl rfl rfl) ?_
 refine OV (.int .i64 a1.Boat) rfl (x_load1 U2 rfl rfl (hL.cellB 0 rfl rfl)) ?_
 refine OV (.bool (a0.Boat != a1.Boat)) rfl (x_neq rfl rfl) ?_
 refine OW.nil ?_
 refine CW.condM (t := a0.Boat != a1.Boat) rfl hm (fun hb5 hm => ?_) (fun hb5 hm => ?_)
 · refine CSR ?_
   refine OV (.bool false) rfl (x_assign) ?_
   refine OW.nil ?_
   refine CW.ret ?_
   obtain rfl := Option.some.inj hm
   exact RR1 rfl rfl ⟨rfl, hL.fresh 2 rfl [] (by decide) (by decide) rfl⟩
 refine CW.skip ?_
 refine CW.seq ?_
 refine CSR ?_
 refine OV (.pointer (some ⟨b2, 1, none⟩)) rfl (x_fieldAddr (fsz := 1) 0 1 1 U75 rfl Tryd_T2 rfl rfl rfl) ?_
 refine OV (.int .i64 a0.Code) rfl (x_load1 U2 rfl rfl (hL.cellB 1 rfl rfl)) ?_
 refine OV (.pointer (some ⟨b4, 1, none⟩)) rfl (x_fieldAddr (fsz := 1) 0 1 1 U75 rfl Tryd_T2 rfl rfl rfl) ?_
 refine OV (.int .i64 a1.Code) rfl (x_load1 U2 rfl rfl (hL.cellB 0 rfl rfl)) ?_
 refine OV (.bool (a0.Code != a1.Code)) rfl (x_neq rfl rfl) ?_
 refine OW.nil ?_
 refine CW.condM (t := a0.Code != a1.Code) rfl hm (fun hb6 hm => ?_) (fun hb6 hm => ?_)
 · refine CSR ?_
   refine OV (.bool false) rfl (x_assign) ?_
   refine OW.nil ?_
   refine CW.ret ?_
   obtain rfl := Option.some.inj hm
   exact RR1 rfl rfl ⟨rfl, hL.fresh 2 rfl [] (by decide) (by decide) rfl⟩
 refine CW.skip ?_
 refine CW.seq ?_
 refine CSR ?_
 refine OV (.pointer (some ⟨b2, 2, none⟩)) rfl (x_fieldAddr (fsz := 1) 0 2 2 U75 rfl Tryd_T2 rfl rfl rfl) ?_
 refine OV (.int .i64 a0.Time) rfl (x_load1 U2 rfl rfl (hL.cellB 1 rfl rfl)) ?_
 refine OV (.pointer (some ⟨b4, 2, none⟩)) rfl (x_fieldAddr (fsz := 1) 0 2 2 U75 rfl Tryd_T2 rfl rfl rfl) ?_
 refine OV (.int .i64 a1.Time) rfl (x_load1 U2 rfl rfl (hL.cellB 0 rfl rfl)) ?_
 refine OV (.bool (a0.Time != a1.Time)) rfl (x_neq rfl rfl) ?_
 refine OW.nil ?_
 refine CW.condM (t := a0.Time != a1.Time) rfl hm (fun hb7 hm => ?_) (fun hb7 hm => ?_)
 · refine CSR ?_
   refine OV (.bool false) rfl (x_assign) ?_
   refine OW.nil ?_
   refine CW.ret ?_
   obtain rfl := Option.some.inj hm
   exact RR1 rfl rfl ⟨rfl, hL.fresh 2 rfl [] (by decide) (by decide) rfl⟩
 refine CW.skip ?_
 refine CSR ?_
 refine OV (.bool true) rfl (x_assign) ?_
 refine OW.nil ?_
 refine CW.ret ?_
 obtain rfl := Option.some.inj hm
 exact RR1 rfl rfl ⟨rfl, hL.fresh 2 rfl [] (by decide) (by decide) rfl⟩

theorem M.laws_eqFinishS_ok (w0 : World) (a0 : List Finish) {v1 : Value} (h2 : rdL (· < w0.heap.size) w0 v1 a0) (a1 : List Finish) {v3 : Value} (h4 : rdL (· < w0.heap.size) w0 v3 a1) {r : Bool} (hm : M.laws_eqFinishS a0 a1 = some r) :
    Calls Tryd.prog 46 #[v1, v3] w0 fun e w' => e = .returned (.bool r) ∧ Fresh w0 w' [] := by
 unfold M.laws_eqFinishS at hm
 refine calls_CW (args := [v1, v3]) Tryd.func46 rfl rfl rfl ?_
 have hL := Hp.start w0
 refine CSR ?_
 refine OV (.bool false) rfl (x_assign) ?_
 refine ONS ?_
 refine CSR ?_
 refine OV v1 rfl (x_move) ?_
 refine OV (.int .i64 (a0.length : Int)) rfl (x_lenR U40 rfl (hL.rdS 0 rfl h2)) ?_
 refine OV v3 rfl (x_move) ?_
 refine OV (.int .i64 (a1.length : Int)) rfl (x_lenR U40 rfl (hL.rdS 0 rfl h4)) ?_
 refine OV (.bool ((a0.length : Int) != (a1.length : Int))) rfl (x_neq rfl rfl) ?_
 refine OW.nil ?_
 refine CW.condM (t := (a0.length : Int) != (a1.length : Int)) rfl hm (fun hb5 hm => ?_) (fun hb5 hm => ?_)
 · refine CSR ?_
   refine OV (.bool false) rfl (x_assign) ?_
   refine OW.nil ?_
   refine CW.ret ?_
   obtain rfl := Option.some.inj hm
   exact RR1 rfl rfl ⟨rfl, hL.fresh 0 rfl [] (by decide) (by decide) rfl⟩
 refine CW.skip ?_
 refine CW.seq ?_
 refine CSR ?_
 refine OV (.int .i64 0) rfl (x_assign) ?_
 refine OW.nil ?_
 obtain ⟨o46, ho47, hm⟩ := bndE hm
 refine CW.loopB (fun (s_l1 : Int) (F : Fr) (w : World) => F 0 = v1 ∧ F 1 = v3 ∧ F 5 = (.int .i64 s_l1) ∧ Hp w0 [Ent.snap w0 w0.heap.size] w) (fun o => outc o (fun x => some x) (fun s => M.laws_eqFinishS_a1 s) = some r) ho47 hm ⟨rfl, rfl, rfl, hL⟩ ?_ ?_
 · intro s_l1 F48 wd49 hJ hm
   have hm := outcE hm
   have hm : M.laws_eqFinishS_a1 s_l1 = some r := hm
   unfold M.laws_eqFinishS_a1 at hm
   obtain ⟨f50, f51, f52, hL⟩ := hJ
   refine CSR ?_
   refine OV (.bool true) rfl (x_assign) ?_
   refine OW.nil ?_
   refine CW.ret ?_
   obtain rfl := Option.some.inj hm
   exact RR1 rfl rfl ⟨rfl, hL.fresh 0 rfl [] (by decide) (by decide) rfl⟩
 intro s_l1 F53 wd54 t44 hJ hm hr45
 unfold M.laws_eqFinishS_l1 at hm
 obtain ⟨f55, f56, f57, hL⟩ := hJ
 refine CW.seq ?_
 refine CSR ?_
 refine OV (.int .i64 s_l1) rfl (x_mv f57) ?_
 refine OV v1 rfl (x_mv f55) ?_
 refine OV (.int .i64 (a0.length : Int)) rfl (x_lenR U40 rfl (hL.rdS 0 rfl h2)) ?_
 refine OV (.bool (decide (s_l1 < (a0.length : Int)))) rfl (x_lss rfl rfl) ?_
 refine OW.nil ?_
 refine CW.condM (t := decide (s_l1 < (a0.length : Int))) rfl hm (fun hb58 hm => ?_) (fun hb58 hm => ?_)
 · refine CW.skip ?_
   refine CW.seq ?_
   refine CW.block ?_
   refine CW.seq ?_
   refine CW.draw Tryd_mixed ?_
   have hL := hL.call (Mod.drew _)
   refine DW.pre (fuel := 0) (fin := bma 10 1023) (C := fun w' => Mod None_ _ w') [0, 1, 2, 3, 4, 5, 6, 7, 8, 9] (Mod.refl _ _) (by kernel_rfl) (by kernel_rfl) ?_
   refine QW.cons rfl (QP.val (v := v1) rfl (fun w' hm' => x_mv f55) ?_)
   refine QW.cons rfl (QP.val (v := (.int .i64 s_l1)) rfl (fun w' hm' => x_mv f57) ?_)
   obtain ⟨x59, ha60, hm⟩ := bndE hm
   obtain ⟨hz61, ha65⟩ := idxE ha60
   obtain ⟨b62, q63, hix64⟩ := rdL_ix (hL.rdS 0 rfl h2) hz61 ha65
   refine QW.cons rfl (QP.val (v := (.pointer (some ⟨b62, q63, none⟩))) rfl (fun w' hm' => x_ix U40 Tryd_T75 rfl rfl hix64) ?_)
   refine QW.cons rfl (QP.val (v := (.agg #[(.int .i64 x59.Boat), (.int .i64 x59.Code), (.int .i64 x59.Time)])) rfl (fun w' hm' => x_loadN (cs := [(.int .i64 x59.Boat), (.int .i64 x59.Code), (.int .i64 x59.Time)]) U75 Tryd_T75 rfl rfl (rdF_cells ((hL.call hm').rdS 0 rfl h2) hix64 ha65)) ?_)
   refine QW.cons rfl (QP.val (v := v3) rfl (fun w' hm' => x_mv f56) ?_)
   refine QW.cons rfl (QP.val (v := (.int .i64 s_l1)) rfl (fun w' hm' => x_mv f57) ?_)
   obtain ⟨x66, ha67, hm⟩ := bndE hm
   obtain ⟨hz68, ha72⟩ := idxE ha67
   obtain ⟨b69, q70, hix71⟩ := rdL_ix (hL.rdS 0 rfl h4) hz68 ha72
   refine QW.cons rfl (QP.val (v := (.pointer (some ⟨b69, q70, none⟩))) rfl (fun w' hm' => x_ix U40 Tryd_T75 rfl rfl hix71) ?_)
   refine QW.cons rfl (QP.val (v := (.agg #[(.int .i64 x66.Boat), (.int .i64 x66.Code), (.int .i64 x66.Time)])) rfl (fun w' hm' => x_loadN (cs := [(.int .i64 x66.Boat), (.int .i64 x66.Code), (.int .i64 x66.Time)]) U75 Tryd_T75 rfl rfl (rdF_cells ((hL.call hm').rdS 0 rfl h4) hix71 ha72)) ?_)
   obtain ⟨x73, hx74, hm⟩ := bndE hm
   refine QW.cons rfl (QP.call (v := (.bool x73)) rfl (fun w' hm' => x_call (vs := [(.agg #[(.int .i64 x59.Boat), (.int .i64 x59.Code), (.int .i64 x59.Time)]), (.agg #[(.int .i64 x66.Boat), (.int .i64 x66.Code), (.int .i64 x66.Time)])]) Tryd_C66 ⟨rfl, rfl, trivial⟩) (fun w' hm' => (M.laws_eqFinish_ok w' x59 x66 hx74).mono (fun e w'' h => ⟨h.1, hm'.trans h.2.mod⟩)) ?_)
   refine QW.cons rfl (QP.val (v := (.bool (!x73))) rfl (fun w' hm' => x_not rfl) ?_)
   refine QW.nil ?_
   intro wd75 hmod
   have hL := hL.call hmod
   refine DW.done (by kernel_rfl) ?_
   refine CW.condM (t := !x73) rfl hm (fun hb76 hm => ?_) (fun hb76 hm => ?_)
   · refine CSR ?_
     refine OV (.bool false) rfl (x_assign) ?_
     refine OW.nil ?_
     refine CW.ret ?_
     obtain rfl := Option.some.inj hm
     have hm := hr45 _ rfl
     obtain rfl := Option.some.inj hm
     exact RR1 rfl rfl ⟨rfl, hL.fresh 0 rfl [] (by decide) (by decide) rfl⟩
   refine CW.skip ?_
   refine CW.regionL ?_
   refine OV (.int .i64 s_l1) rfl (x_mv f57) ?_
   refine OV (.int .i64 (w64 (s_l1 + 1))) rfl (x_add rfl rfl) ?_
   refine OV (.int .i64 (w64 (s_l1 + 1))) rfl (x_assign) ?_
   refine OW.nil ?_
   obtain rfl := Option.some.inj hm
   exact ⟨_, rfl, ⟨f55, f56, rfl, hL⟩⟩
 refine CW.exit ?_
 refine XJ.hit ?_
 obtain rfl := Option.some.inj hm
 exact ⟨_, rfl, ⟨f55, f56, f57, hL⟩⟩

theorem M.laws_eqRace_ok (w0 : World) (a0 : Race) {v1 : Value} (h2 : rdL (· < w0.heap.size) w0 v1 a0.Finishes) (a1 : Race) {v3 : Value} (h4 : rdL (· < w0.heap.size) w0 v3 a1.Finishes) {r : Bool} (hm : M.laws_eqRace a0 a1 = some r) :
    Calls Tryd.prog 19 #[(.agg #[v1]), (.agg #[v3])] w0 fun e w' => e = .returned (.bool r) ∧ Fresh w0 w' [] := by
 unfold M.laws_eqRace at hm
 refine calls_CW (args := [(.agg #[v1]), (.agg #[v3])]) Tryd.func19 rfl rfl rfl ?_
 have hL := Hp.start w0
 refine CSR ?_
 refine OW.cons (S_box (cs := #[v1]) hL rfl rfl rfl ?_)
 intro wd5 b6 hL
 refine OW.cons (S_box (cs := #[v3]) hL rfl rfl rfl ?_)
 intro wd7 b8 hL
 refine OV (.bool false) rfl (x_assign) ?_
 refine ONS ?_
 refine CSR ?_
 refine OV (.pointer (some ⟨b6, 0, none⟩)) rfl (x_fieldAddr (fsz := 1) 0 0 0 U42 rfl Tryd_T40 rfl rfl rfl) ?_
 refine OV v1 rfl (x_load1 U40 rfl rfl (hL.cellB 1 rfl rfl)) ?_
 refine OV (.pointer (some ⟨b8, 0, none⟩)) rfl (x_fieldAddr (fsz := 1) 0 0 0 U42 rfl Tryd_T40 rfl rfl rfl) ?_
 refine OV v3 rfl (x_load1 U40 rfl rfl (hL.cellB 0 rfl rfl)) ?_
 obtain ⟨x9, hx10, hm⟩ := bndE hm
 refine OW.cons (OP.call rfl (x_call (vs := [v1, v3]) Tryd_C46 ⟨rfl, rfl, trivial⟩) (M.laws_eqFinishS_ok _ a0.Finishes (hL.rdS 2 rfl h2) a1.Finishes (hL.rdS 2 rfl h4) hx10) ?_)
 rintro e11 wd12 ⟨rfl, hF13⟩
 refine ⟨_, rfl, ?_⟩
 have hL := hL.pushAll hF13
 simp only [lA, lB, lC, lD] at hL
 refine OV (.bool (!x9)) rfl (x_not rfl) ?_
 refine OW.nil ?_
 refine CW.condM (t := !x9) rfl hm (fun hb14 hm => ?_) (fun hb14 hm => ?_)
 · refine CSR ?_
   refine OV (.bool false) rfl (x_assign) ?_
   refine OW.nil ?_
   refine CW.ret ?_
   obtain rfl := Option.some.inj hm
   exact RR1 rfl rfl ⟨rfl, hL.fresh 2 rfl [] (by decide) (by decide) rfl⟩
 refine CW.skip ?_
 refine CSR ?_
 refine OV (.bool true) rfl (x_assign) ?_
 refine OW.nil ?_
 refine CW.ret ?_
 obtain rfl := Option.some.inj hm
 exact RR1 rfl rfl ⟨rfl, hL.fresh 2 rfl [] (by decide) (by decide) rfl⟩

theorem M.laws_FnExactRaceText_ok (w0 : World) (htab : Lib.TabIs Tryd.prog w0 "internal/strconv.uint64pow10" .u64 Lib.pow10Tab) (a0 : Int) (a1 : Race) {v1 : Value} (h2 : rdL (· < w0.heap.size) w0 v1 a1.Finishes) {r : Bool} (hm : M.laws_FnExactRaceText a0 a1 = some r) :
    Calls Tryd.prog 5 #[(.int .i64 a0), (.agg #[v1])] w0 fun e w' => e = .returned (.bool r) ∧ Fresh w0 w' [] := by
 unfold M.laws_FnExactRaceText at hm
 refine calls_CW (args := [(.int .i64 a0), (.agg #[v1])]) Tryd.func5 rfl rfl rfl ?_
 have hL := Hp.start w0
 refine CSR ?_
 refine OW.cons (S_box (cs := #[v1]) hL rfl rfl rfl ?_)
 intro wd3 b4 hL
 refine OV (.bool false) rfl (x_assign) ?_
 refine ONR ?_
 refine OV (.int .i64 1048576) rfl (x_assign) ?_
 refine ONR ?_
 refine OV (.agg #[v1]) rfl (x_loadN (cs := [v1]) U37 Tryd_T37 rfl rfl (hL.cellsB 0 rfl (o := 0) (l := [v1]) (by intro j u hj; exact (by simpa using hj)))) ?_
 refine OV (.int .i64 1048576) rfl (x_move) ?_
 obtain ⟨x5, hx6, hm⟩ := bndE hm
 refine OW.cons (OP.call rfl (x_call (vs := [(.agg #[v1]), (.int .i64 1048576)]) Tryd_C15 ⟨rfl, rfl, trivial⟩) (M.laws_szRace_ok _ a1 (hL.rdS 1 rfl h2) 1048576 hx6) ?_)
 rintro e7 wd8 ⟨rfl, hF9⟩
 refine ⟨_, rfl, ?_⟩
 have hL := hL.pushAll hF9
 simp only [lA, lB, lC, lD] at hL
 refine OV (.int .i64 x5) rfl (x_assign) ?_
 refine ONS ?_
 refine CSR ?_
 refine OV (.int .i64 x5) rfl (x_move) ?_
 refine OV (.bool (decide (x5 < 0))) rfl (x_lss rfl rfl) ?_
 refine OW.nil ?_
 refine CW.condM (t := decide (x5 < 0)) rfl hm (fun hb10 hm => ?_) (fun hb10 hm => ?_)
 · refine CSR ?_
   refine OV (.bool true) rfl (x_assign) ?_
   refine OW.nil ?_
   refine CW.ret ?_
   obtain rfl := Option.some.inj hm
   exact RR1 rfl rfl ⟨rfl, hL.fresh 1 rfl [] (by decide) (by decide) rfl⟩
 refine CW.skip ?_
 refine CSR ?_
 refine OV (.int .i64 a0) rfl (x_move) ?_
 refine OV (.agg #[v1]) rfl (x_loadN (cs := [v1]) U37 Tryd_T37 rfl rfl (hL.cellsB 0 rfl (o := 0) (l := [v1]) (by intro j u hj; exact (by simpa using hj)))) ?_
 obtain ⟨x11, hx12, hm⟩ := bndE hm
 refine OW.cons (OP.call rfl (x_call (vs := [(.agg #[v1])]) Tryd_C17 ⟨rfl, trivial⟩) (M.laws_toRace_ok _ a1 (hL.rdS 1 rfl h2) hx12) ?_)
 rintro e15 wd16 ⟨v14, S13, rfl, hF17⟩
 refine ⟨_, rfl, ?_⟩
 have hL := hL.pushAll hF17
 simp only [lA, lB, lC, lD] at hL
 obtain ⟨x18, hx19, hm⟩ := bndE hm
 refine OW.cons (OP.call rfl (x_call (vs := [(.int .i64 a0), (.agg #[v14])]) Tryd_C16 ⟨rfl, rfl, trivial⟩) (M.spec_RaceText_ok _ a0 x11 (hL.rdO 0 rfl) hx19) ?_)
 rintro e20 wd21 ⟨rfl, hF22⟩
 refine ⟨_, rfl, ?_⟩
 have hL := hL.pushAll hF22
 simp only [lA, lB, lC, lD] at hL
 refine OV (.string x18) rfl (x_assign) ?_
 refine ONR ?_
 refine OV (.agg #[v1]) rfl (x_loadN (cs := [v1]) U37 Tryd_T37 rfl rfl (hL.cellsB 1 rfl (o := 0) (l := [v1]) (by intro j u hj; exact (by simpa using hj)))) ?_
 obtain ⟨x23, hx24, hm⟩ := bndE hm
 refine OW.cons (OP.call rfl (x_call (vs := [(.agg #[v1])]) Tryd_C17 ⟨rfl, trivial⟩) (M.laws_toRace_ok _ a1 (hL.rdS 2 rfl h2) hx24) ?_)
 rintro e27 wd28 ⟨v26, S25, rfl, hF29⟩
 refine ⟨_, rfl, ?_⟩
 have hL := hL.pushAll hF29
 simp only [lA, lB, lC, lD] at hL
 refine OW.cons (S_alloc (cs := #[(.slice none 0 0)]) hL Tryd_T42 rfl rfl ?_)
 intro wd30 b31 hL
 refine OW.cons (S_storeN (l := [v26]) (cs' := #[v26]) hL 0 rfl Tryd_T42 rfl rfl (List.forall_mem_cons.2 ⟨rdL_one (hL.rdO 1 rfl), (fun _ h => by cases h)⟩) rfl (Nat.le_of_ble_eq_true rfl) rfl ?_)
 intro wd32 hL
 refine ONR ?_
 refine OV (.int .i64 a0) rfl (x_move) ?_
 refine OV (.agg #[v26]) rfl (x_loadN (cs := [v26]) U42 Tryd_T42 rfl rfl (hL.cellsB 0 rfl (o := 0) (l := [v26]) (by intro j u hj; exact (by simpa using hj)))) ?_
 obtain ⟨x33, hx34, hm⟩ := bndE hm
 refine OW.cons (OP.call rfl (x_call (vs := [(.int .i64 a0), (.agg #[v26])]) Tryd_C18 ⟨rfl, rfl, trivial⟩) (M.impl_RaceText_ok _ (hL.tab 4 rfl rfl htab) a0 x23 (hL.rdO 1 rfl) hx34) ?_)
 rintro e35 wd36 ⟨rfl, hF37⟩
 refine ⟨_, rfl, ?_⟩
 have hL := hL.pushAll hF37
 simp only [lA, lB, lC, lD] at hL
 refine OV (.string x33) rfl (x_assign) ?_
 refine ONS ?_
 refine CSR ?_
 refine OV (.string x33) rfl (x_move) ?_
 refine OV (.string x18) rfl (x_move) ?_
 refine OV (.bool (!(sEq x33 x18))) rfl (x_neqT rfl rfl) ?_
 refine OW.nil ?_
 refine CW.condM (t := !(sEq x33 x18)) rfl hm (fun hb38 hm => ?_) (fun hb38 hm => ?_)
 · refine CSR ?_
   refine OV (.bool false) rfl (x_assign) ?_
   refine OW.nil ?_
   refine CW.ret ?_
   obtain rfl := Option.some.inj hm
   exact RR1 rfl rfl ⟨rfl, hL.fresh 4 rfl [] (by decide) (by decide) rfl⟩
 refine CW.skip ?_
 refine CW.seq ?_
 refine CW.seq ?_
 refine CW.drawH (fun w' => Hp w0 [Ent.blk b31 42 #[v26], Ent.own 75 S25 v26 x23.Finishes, Ent.own 75 S13 v14 x11.Finishes, Ent.blk b4 37 #[v1], Ent.snap w0 w0.heap.size] w') Tryd_mixed ?_
 have hL := hL.call (Mod.drew _)
 have hS := (hL.sel [0, 1, 2, 3, 4] (by decide) rfl)
 refine DH.take 0 rfl (by kernel_rfl) (by kernel_rfl) (by kernel_rfl) rfl rfl hS (YH.val (v := (.agg #[v26])) (fun w' hS' => x_loadN (cs := [v26]) U42 Tryd_T42 rfl rfl (hS'.cellsB 0 rfl (o := 0) (l := [v26]) (by intro j u hj; exact (by simpa using hj))))) ?_
 have hS := (hL.sel [0, 1, 2, 3, 4] (by decide) rfl)
 refine DH.take 1 rfl (by kernel_rfl) (by kernel_rfl) (by kernel_rfl) rfl rfl hS (YH.val (v := (.agg #[v1])) (fun w' hS' => x_loadN (cs := [v1]) U37 Tryd_T37 rfl rfl (hS'.cellsB 3 rfl (o := 0) (l := [v1]) (by intro j u hj; exact (by simpa using hj))))) ?_
 obtain ⟨x51, hx52, hm⟩ := bndE hm
 refine DH.only 2 rfl (by kernel_rfl) (OP.call rfl (x_call (vs := [(.agg #[v1])]) Tryd_C17 ⟨rfl, trivial⟩) (M.laws_toRace_ok _ a1 (hL.rdS 4 rfl h2) hx52) ?_)
 rintro e55 wd56 ⟨v54, S53, rfl, hF57⟩
 refine ⟨_, rfl, ?_⟩
 have hL := hL.pushAll hF57
 simp only [lA, lB, lC, lD] at hL
 refine ⟨(hL.sel [1, 2, 3, 4, 5] (by decide) rfl), ?_⟩
 obtain ⟨x58, hx59, hm⟩ := bndE hm
 refine DH.only 3 rfl (by kernel_rfl) (OP.call rfl (x_call (vs := [(.agg #[v26]), (.agg #[v54])]) Tryd_C19 ⟨rfl, rfl, trivial⟩) (M.laws_eqRace_ok _ x23 (hL.rdO 2 rfl) x51 (hL.rdO 0 rfl) hx59) ?_)
 rintro e60 wd61 ⟨rfl, hF62⟩
 refine ⟨_, rfl, ?_⟩
 have hL := hL.pushAll hF62
 simp only [lA, lB, lC, lD] at hL
 refine ⟨(hL.sel [1, 2, 3, 4, 5] (by decide) rfl), ?_⟩
 have hS := (hL.sel [1, 2, 3, 4, 5] (by decide) rfl)
 refine DH.take 4 rfl (by kernel_rfl) (by kernel_rfl) (by kernel_rfl) rfl rfl hS (YH.val (v := (.bool (!x58))) (fun w' hS' => x_not rfl)) ?_
 refine DH.done (by kernel_rfl) ?_
 refine CW.condM (t := !x58) rfl hm (fun hb63 hm => ?_) (fun hb63 hm => ?_)
 · refine CSR ?_
   refine OV (.bool false) rfl (x_assign) ?_
   refine OW.nil ?_
   refine CW.ret ?_
   obtain rfl := Option.some.inj hm
   exact RR1 rfl rfl ⟨rfl, hL.fresh 5 rfl [] (by decide) (by decide) rfl⟩
 refine CW.skip ?_
 refine CSR ?_
 refine OV (.bool true) rfl (x_assign) ?_
 refine OW.nil ?_
 refine CW.ret ?_
 obtain rfl := Option.some.inj hm
 exact RR1 rfl rfl ⟨rfl, hL.fresh 5 rfl [] (by decide) (by decide) rfl⟩

end Go.Proofs.YtmngaoalphpjiaaDoor
