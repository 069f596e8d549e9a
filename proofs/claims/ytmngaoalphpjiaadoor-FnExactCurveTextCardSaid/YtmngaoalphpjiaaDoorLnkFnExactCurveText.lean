/- Links: each Go function returns what its model computes and leaves what was there. Printed by my generator. -/
import Derived.Test.YtmngaoalphpjiaaDoorMod4
import Derived.Test.YtmngaoalphpjiaaDoorBase10
import Derived.Test.YtmngaoalphpjiaaDoorProg
import Derived.KernelRfl
import Derived.Test.YtmngaoalphpjiaaDoorLayFtx
namespace Go.Proofs.YtmngaoalphpjiaaDoor
set_option maxRecDepth 10000
open Go Go.RowKit Go.ChangeShapes Go.WideShapes
set_option linter.unusedVariables false
set_option linter.unusedSimpArgs false

theorem Tryd_mixed : Tryd.prog.follows .mixedOrders = true := by kernel_rfl
theorem Tryd_T2 : TyI Tryd.prog 2 1 8 (.int .i64 0) := by unfold TyI; kernel_rfl
theorem Tryd_T4 : TyI Tryd.prog 4 1 1 (.bool false) := by unfold TyI; kernel_rfl
theorem Tryd_T5 : TyI Tryd.prog 5 1 1 (.int .u8 0) := by unfold TyI; kernel_rfl
theorem Tryd_T9 : TyI Tryd.prog 9 1 16 (.string ByteArray.empty) := by unfold TyI; kernel_rfl
theorem Tryd_T23 : TyI Tryd.prog 23 4 32 (.agg #[.int .i64 0, .int .i64 0, .int .i64 0, .int .i64 0]) := by unfold TyI; kernel_rfl
theorem Tryd_T25 : TyI Tryd.prog 25 4 32 (.agg #[.int .i64 0, .int .i64 0, .int .i64 0, .int .i64 0]) := by unfold TyI; kernel_rfl
theorem Tryd_T35 : TyI Tryd.prog 35 1 24 (.slice none 0 0) := by unfold TyI; kernel_rfl
theorem Tryd_T37 : TyI Tryd.prog 37 1 24 (.agg #[.slice none 0 0]) := by unfold TyI; kernel_rfl
theorem Tryd_T40 : TyI Tryd.prog 40 1 24 (.slice none 0 0) := by unfold TyI; kernel_rfl
theorem Tryd_T42 : TyI Tryd.prog 42 1 24 (.agg #[.slice none 0 0]) := by unfold TyI; kernel_rfl
theorem Tryd_T46 : TyI Tryd.prog 46 1 24 (.slice none 0 0) := by unfold TyI; kernel_rfl
theorem Tryd_T48 : TyI Tryd.prog 48 3 56 (.agg #[.int .i64 0, .slice none 0 0, .slice none 0 0]) := by unfold TyI; kernel_rfl
theorem Tryd_T49 : TyI Tryd.prog 49 1 24 (.slice none 0 0) := by unfold TyI; kernel_rfl
theorem Tryd_T52 : TyI Tryd.prog 52 3 56 (.agg #[.int .i64 0, .slice none 0 0, .slice none 0 0]) := by unfold TyI; kernel_rfl
theorem Tryd_T61 : TyI Tryd.prog 61 3 48 (.agg #[.string ByteArray.empty, .string ByteArray.empty, .string ByteArray.empty]) := by unfold TyI; kernel_rfl
theorem Tryd_T66 : TyI Tryd.prog 66 2 16 (.agg #[.int .i64 0, .int .i64 0]) := by unfold TyI; kernel_rfl
theorem Tryd_T68 : TyI Tryd.prog 68 2 16 (.agg #[.int .i64 0, .int .i64 0]) := by unfold TyI; kernel_rfl
theorem Tryd_T75 : TyI Tryd.prog 75 3 24 (.agg #[.int .i64 0, .int .i64 0, .int .i64 0]) := by unfold TyI; kernel_rfl
theorem Tryd_T98 : TyI Tryd.prog 98 3 24 (.agg #[.int .i64 0, .int .i64 0, .int .i64 0]) := by unfold TyI; kernel_rfl
theorem Tryd_T100 : TyI Tryd.prog 100 10 160 (.agg #[.string ByteArray.empty, .string ByteArray.empty, .string ByteArray.empty, .string ByteArray.empty, .string ByteArray.empty, .string ByteArray.empty, .string ByteArray.empty, .string ByteArray.empty, .string ByteArray.empty, .string ByteArray.empty]) := by unfold TyI; kernel_rfl
theorem Tryd_C7 : CallOK Tryd.prog 7 := ⟨_, _, Tryd.func7, rfl, by kernel_rfl⟩
theorem Tryd_C8 : CallOK Tryd.prog 8 := ⟨_, _, Tryd.func8, rfl, by kernel_rfl⟩
theorem Tryd_C9 : CallOK Tryd.prog 9 := ⟨_, _, Tryd.func9, rfl, by kernel_rfl⟩
theorem Tryd_C10 : CallOK Tryd.prog 10 := ⟨_, _, Tryd.func10, rfl, by kernel_rfl⟩
theorem Tryd_C11 : CallOK Tryd.prog 11 := ⟨_, _, Tryd.func11, rfl, by kernel_rfl⟩
theorem Tryd_C12 : CallOK Tryd.prog 12 := ⟨_, _, Tryd.func12, rfl, by kernel_rfl⟩
theorem Tryd_C13 : CallOK Tryd.prog 13 := ⟨_, _, Tryd.func13, rfl, by kernel_rfl⟩
theorem Tryd_C14 : CallOK Tryd.prog 14 := ⟨_, _, Tryd.func14, rfl, by kernel_rfl⟩
theorem Tryd_C15 : CallOK Tryd.prog 15 := ⟨_, _, Tryd.func15, rfl, by kernel_rfl⟩
theorem Tryd_C16 : CallOK Tryd.prog 16 := ⟨_, _, Tryd.func16, rfl, by kernel_rfl⟩
theorem Tryd_C17 : CallOK Tryd.prog 17 := ⟨_, _, Tryd.func17, rfl, by kernel_rfl⟩
theorem Tryd_C18 : CallOK Tryd.prog 18 := ⟨_, _, Tryd.func18, rfl, by kernel_rfl⟩
theorem Tryd_C19 : CallOK Tryd.prog 19 := ⟨_, _, Tryd.func19, rfl, by kernel_rfl⟩
theorem Tryd_C20 : CallOK Tryd.prog 20 := ⟨_, _, Tryd.func20, rfl, by kernel_rfl⟩
theorem Tryd_C21 : CallOK Tryd.prog 21 := ⟨_, _, Tryd.func21, rfl, by kernel_rfl⟩
theorem Tryd_C22 : CallOK Tryd.prog 22 := ⟨_, _, Tryd.func22, rfl, by kernel_rfl⟩
theorem Tryd_C23 : CallOK Tryd.prog 23 := ⟨_, _, Tryd.func23, rfl, by kernel_rfl⟩
theorem Tryd_C24 : CallOK Tryd.prog 24 := ⟨_, _, Tryd.func24, rfl, by kernel_rfl⟩
theorem Tryd_C25 : CallOK Tryd.prog 25 := ⟨_, _, Tryd.func25, rfl, by kernel_rfl⟩
theorem Tryd_C26 : CallOK Tryd.prog 26 := ⟨_, _, Tryd.func26, rfl, by kernel_rfl⟩
theorem Tryd_C27 : CallOK Tryd.prog 27 := ⟨_, _, Tryd.func27, rfl, by kernel_rfl⟩
theorem Tryd_C28 : CallOK Tryd.prog 28 := ⟨_, _, Tryd.func28, rfl, by kernel_rfl⟩
theorem Tryd_C29 : CallOK Tryd.prog 29 := ⟨_, _, Tryd.func29, rfl, by kernel_rfl⟩
theorem Tryd_C30 : CallOK Tryd.prog 30 := ⟨_, _, Tryd.func30, rfl, by kernel_rfl⟩
theorem Tryd_C31 : CallOK Tryd.prog 31 := ⟨_, _, Tryd.func31, rfl, by kernel_rfl⟩
theorem Tryd_C32 : CallOK Tryd.prog 32 := ⟨_, _, Tryd.func32, rfl, by kernel_rfl⟩
theorem Tryd_C33 : CallOK Tryd.prog 33 := ⟨_, _, Tryd.func33, rfl, by kernel_rfl⟩
theorem Tryd_C34 : CallOK Tryd.prog 34 := ⟨_, _, Tryd.func34, rfl, by kernel_rfl⟩
theorem Tryd_C35 : CallOK Tryd.prog 35 := ⟨_, _, Tryd.func35, rfl, by kernel_rfl⟩
theorem Tryd_C36 : CallOK Tryd.prog 36 := ⟨_, _, Tryd.func36, rfl, by kernel_rfl⟩
theorem Tryd_C37 : CallOK Tryd.prog 37 := ⟨_, _, Tryd.func37, rfl, by kernel_rfl⟩
theorem Tryd_C38 : CallOK Tryd.prog 38 := ⟨_, _, Tryd.func38, rfl, by kernel_rfl⟩
theorem Tryd_C39 : CallOK Tryd.prog 39 := ⟨_, _, Tryd.func39, rfl, by kernel_rfl⟩
theorem Tryd_C40 : CallOK Tryd.prog 40 := ⟨_, _, Tryd.func40, rfl, by kernel_rfl⟩
theorem Tryd_C41 : CallOK Tryd.prog 41 := ⟨_, _, Tryd.func41, rfl, by kernel_rfl⟩
theorem Tryd_C42 : CallOK Tryd.prog 42 := ⟨_, _, Tryd.func42, rfl, by kernel_rfl⟩
theorem Tryd_C43 : CallOK Tryd.prog 43 := ⟨_, _, Tryd.func43, rfl, by kernel_rfl⟩
theorem Tryd_C44 : CallOK Tryd.prog 44 := ⟨_, _, Tryd.func44, rfl, by kernel_rfl⟩
theorem Tryd_C45 : CallOK Tryd.prog 45 := ⟨_, _, Tryd.func45, rfl, by kernel_rfl⟩
theorem Tryd_C46 : CallOK Tryd.prog 46 := ⟨_, _, Tryd.func46, rfl, by kernel_rfl⟩
theorem Tryd_C47 : CallOK Tryd.prog 47 := ⟨_, _, Tryd.func47, rfl, by kernel_rfl⟩
theorem Tryd_C48 : CallOK Tryd.prog 48 := ⟨_, _, Tryd.func48, rfl, by kernel_rfl⟩
theorem Tryd_C49 : CallOK Tryd.prog 49 := ⟨_, _, Tryd.func49, rfl, by kernel_rfl⟩
theorem Tryd_C50 : CallOK Tryd.prog 50 := ⟨_, _, Tryd.func50, rfl, by kernel_rfl⟩
theorem Tryd_C51 : CallOK Tryd.prog 51 := ⟨_, _, Tryd.func51, rfl, by kernel_rfl⟩
theorem Tryd_C52 : CallOK Tryd.prog 52 := ⟨_, _, Tryd.func52, rfl, by kernel_rfl⟩
theorem Tryd_C53 : CallOK Tryd.prog 53 := ⟨_, _, Tryd.func53, rfl, by kernel_rfl⟩
theorem Tryd_C54 : CallOK Tryd.prog 54 := ⟨_, _, Tryd.func54, rfl, by kernel_rfl⟩
theorem Tryd_C55 : CallOK Tryd.prog 55 := ⟨_, _, Tryd.func55, rfl, by kernel_rfl⟩
theorem Tryd_C56 : CallOK Tryd.prog 56 := ⟨_, _, Tryd.func56, rfl, by kernel_rfl⟩
theorem Tryd_C57 : CallOK Tryd.prog 57 := ⟨_, _, Tryd.func57, rfl, by kernel_rfl⟩
theorem Tryd_C58 : CallOK Tryd.prog 58 := ⟨_, _, Tryd.func58, rfl, by kernel_rfl⟩
theorem Tryd_C59 : CallOK Tryd.prog 59 := ⟨_, _, Tryd.func59, rfl, by kernel_rfl⟩
theorem Tryd_C63 : CallOK Tryd.prog 63 := ⟨_, _, Tryd.func63, rfl, by kernel_rfl⟩
theorem Tryd_C64 : CallOK Tryd.prog 64 := ⟨_, _, Tryd.func64, rfl, by kernel_rfl⟩
theorem Tryd_C65 : CallOK Tryd.prog 65 := ⟨_, _, Tryd.func65, rfl, by kernel_rfl⟩
theorem Tryd_C66 : CallOK Tryd.prog 66 := ⟨_, _, Tryd.func66, rfl, by kernel_rfl⟩
theorem Tryd_C67 : CallOK Tryd.prog 67 := ⟨_, _, Tryd.func67, rfl, by kernel_rfl⟩
theorem Tryd_C68 : CallOK Tryd.prog 68 := ⟨_, _, Tryd.func68, rfl, by kernel_rfl⟩
theorem Tryd_C69 : CallOK Tryd.prog 69 := ⟨_, _, Tryd.func69, rfl, by kernel_rfl⟩
theorem Tryd_C70 : CallOK Tryd.prog 70 := ⟨_, _, Tryd.func70, rfl, by kernel_rfl⟩
theorem Tryd_C71 : CallOK Tryd.prog 71 := ⟨_, _, Tryd.func71, rfl, by kernel_rfl⟩
theorem Tryd_C72 : CallOK Tryd.prog 72 := ⟨_, _, Tryd.func72, rfl, by kernel_rfl⟩
theorem Tryd_C73 : CallOK Tryd.prog 73 := ⟨_, _, Tryd.func73, rfl, by kernel_rfl⟩
theorem Tryd_C74 : CallOK Tryd.prog 74 := ⟨_, _, Tryd.func74, rfl, by kernel_rfl⟩
theorem Tryd_C75 : CallOK Tryd.prog 75 := ⟨_, _, Tryd.func75, rfl, by kernel_rfl⟩
theorem Tryd_C76 : CallOK Tryd.prog 76 := ⟨_, _, Tryd.func76, rfl, by kernel_rfl⟩
theorem Tryd_C77 : CallOK Tryd.prog 77 := ⟨_, _, Tryd.func77, rfl, by kernel_rfl⟩
theorem Tryd_C81 : CallOK Tryd.prog 81 := ⟨_, _, Tryd.func81, rfl, by kernel_rfl⟩
theorem Tryd_C82 : CallOK Tryd.prog 82 := ⟨_, _, Tryd.func82, rfl, by kernel_rfl⟩
theorem Tryd_C83 : CallOK Tryd.prog 83 := ⟨_, _, Tryd.func83, rfl, by kernel_rfl⟩
theorem Tryd_C84 : CallOK Tryd.prog 84 := ⟨_, _, Tryd.func84, rfl, by kernel_rfl⟩
theorem Tryd_C85 : CallOK Tryd.prog 85 := ⟨_, _, Tryd.func85, rfl, by kernel_rfl⟩
theorem Tryd_C86 : CallOK Tryd.prog 86 := ⟨_, _, Tryd.func86, rfl, by kernel_rfl⟩
theorem Tryd_C87 : CallOK Tryd.prog 87 := ⟨_, _, Tryd.func87, rfl, by kernel_rfl⟩
theorem Tryd_C88 : CallOK Tryd.prog 88 := ⟨_, _, Tryd.func88, rfl, by kernel_rfl⟩
theorem Tryd_C89 : CallOK Tryd.prog 89 := ⟨_, _, Tryd.func89, rfl, by kernel_rfl⟩
theorem Tryd_C90 : CallOK Tryd.prog 90 := ⟨_, _, Tryd.func90, rfl, by kernel_rfl⟩
theorem Tryd_C91 : CallOK Tryd.prog 91 := ⟨_, _, Tryd.func91, rfl, by kernel_rfl⟩
theorem Tryd_C92 : CallOK Tryd.prog 92 := ⟨_, _, Tryd.func92, rfl, by kernel_rfl⟩
theorem Tryd_C93 : CallOK Tryd.prog 93 := ⟨_, _, Tryd.func93, rfl, by kernel_rfl⟩
theorem Tryd_C100 : CallOK Tryd.prog 100 := ⟨_, _, Tryd.func100, rfl, by kernel_rfl⟩
theorem Tryd_C101 : CallOK Tryd.prog 101 := ⟨_, _, Tryd.func101, rfl, by kernel_rfl⟩
theorem Tryd_C102 : CallOK Tryd.prog 102 := ⟨_, _, Tryd.func102, rfl, by kernel_rfl⟩
theorem Tryd_C103 : CallOK Tryd.prog 103 := ⟨_, _, Tryd.func103, rfl, by kernel_rfl⟩
theorem Tryd_C104 : CallOK Tryd.prog 104 := ⟨_, _, Tryd.func104, rfl, by kernel_rfl⟩
theorem Tryd_C105 : CallOK Tryd.prog 105 := ⟨_, _, Tryd.func105, rfl, by kernel_rfl⟩
theorem Tryd_C107 : CallOK Tryd.prog 107 := ⟨_, _, Tryd.func107, rfl, by kernel_rfl⟩
theorem Tryd_C111 : CallOK Tryd.prog 111 := ⟨_, _, Tryd.func111, rfl, by kernel_rfl⟩
theorem Tryd_C112 : CallOK Tryd.prog 112 := ⟨_, _, Tryd.func112, rfl, by kernel_rfl⟩
theorem Tryd_C113 : CallOK Tryd.prog 113 := ⟨_, _, Tryd.func113, rfl, by kernel_rfl⟩
theorem Tryd_C117 : CallOK Tryd.prog 117 := ⟨_, _, Tryd.func117, rfl, by kernel_rfl⟩
theorem Tryd_C123 : CallOK Tryd.prog 123 := ⟨_, _, Tryd.func123, rfl, by kernel_rfl⟩
theorem Tryd_C133 : CallOK Tryd.prog 133 := ⟨_, _, Tryd.func133, rfl, by kernel_rfl⟩
abbrev U2 := @Tryd.underlying2
abbrev U5 := @Tryd.underlying5
abbrev U9 := @Tryd.underlying9
abbrev U28 := @Tryd.underlying28
abbrev U31 := @Tryd.underlying31
abbrev U60 := @Tryd.underlying60
abbrev U66 := @Tryd.underlying66
abbrev U68 := @Tryd.underlying68
abbrev U86 := @Tryd.underlying86

theorem M.spec_l01In_ok (w0 : World) (a0 : Int) (a1 : Int) (a2 : Int) {r : Bool} (hm : M.spec_l01In a0 a1 a2 = some r) :
    Calls Tryd.prog 27 #[(.int .i64 a0), (.int .i64 a1), (.int .i64 a2)] w0 fun e w' => e = .returned (.bool r) ∧ Fresh w0 w' [] := by
 unfold M.spec_l01In at hm
 refine calls_CW (args := [(.int .i64 a0), (.int .i64 a1), (.int .i64 a2)]) Tryd.func27 rfl rfl rfl ?_
 have hL := Hp.start w0
 refine CSR ?_
 refine OV (.bool false) rfl (x_assign) ?_
 refine OW.nil ?_
 refine CW.seqJ (fun (s_j1 : Bool) (F : Fr) (w : World) => F 6 = (.bool s_j1) ∧ Hp w0 [Ent.snap w0 w0.heap.size] w) (fun s_j1 => M.spec_l01In_j1 s_j1 = some r) ?_ ?_
 · refine CW.regionL ?_
   refine OV (.int .i64 a0) rfl (x_move) ?_
   refine OV (.int .i64 a1) rfl (x_move) ?_
   refine OV (.bool (decide (a1 ≤ a0))) rfl (x_geq rfl rfl) ?_
   refine OV (.bool (decide (a1 ≤ a0))) rfl (x_move) ?_
   refine ifB_elim hm (fun hb5 hm => ?_) (fun hb5 hm => ?_)
   · refine OW.cons (OP.yes' rfl rfl hb5 (OP.val (v := (.int .i64 a0)) rfl (x_move) ?_))
     refine OW.cons (OP.yes' rfl rfl hb5 (OP.val (v := (.int .i64 a2)) rfl (x_move) ?_))
     refine OW.cons (OP.yes' rfl rfl hb5 (OP.val (v := (.bool (decide (a0 ≤ a2)))) rfl (x_leq rfl rfl) ?_))
     refine OV (.bool (decide (a0 ≤ a2))) rfl (x_pickT' rfl hb5 rfl) ?_
     refine OV (.bool (decide (a0 ≤ a2))) rfl (x_assign) ?_
     refine OW.nil ?_
     exact ⟨decide (a0 ≤ a2), hm, ⟨rfl, hL⟩⟩
   refine OW.cons (OP.no' rfl rfl hb5 rfl ?_)
   refine OW.cons (OP.no' rfl rfl hb5 rfl ?_)
   refine OW.cons (OP.no' rfl rfl hb5 rfl ?_)
   refine OV (.bool false) rfl (x_pickF' rfl hb5 rfl) ?_
   refine OV (.bool false) rfl (x_assign) ?_
   refine OW.nil ?_
   exact ⟨false, hm, ⟨rfl, hL⟩⟩
 intro s_j1 F2 wd3 hJ hm
 unfold M.spec_l01In_j1 at hm
 obtain ⟨f4, hL⟩ := hJ
 refine CW.ret ?_
 obtain rfl := Option.some.inj hm
 exact RR1 rfl f4 ⟨rfl, hL.fresh 0 rfl [] (by decide) (by decide) rfl⟩

theorem M.impl_within_ok (w0 : World) (a0 : Int) (a1 : Int) (a2 : Int) {r : Bool} (hm : M.impl_within a0 a1 a2 = some r) :
    Calls Tryd.prog 29 #[(.int .i64 a0), (.int .i64 a1), (.int .i64 a2)] w0 fun e w' => e = .returned (.bool r) ∧ Fresh w0 w' [] := by
 unfold M.impl_within at hm
 refine calls_CW (args := [(.int .i64 a0), (.int .i64 a1), (.int .i64 a2)]) Tryd.func29 rfl rfl rfl ?_
 have hL := Hp.start w0
 refine CSR ?_
 refine OV (.bool false) rfl (x_assign) ?_
 refine OW.nil ?_
 refine CW.seqJ (fun (s_j1 : Bool) (F : Fr) (w : World) => F 6 = (.bool s_j1) ∧ Hp w0 [Ent.snap w0 w0.heap.size] w) (fun s_j1 => M.impl_within_j1 s_j1 = some r) ?_ ?_
 · refine CW.regionL ?_
   refine OV (.int .i64 a0) rfl (x_move) ?_
   refine OV (.int .i64 a1) rfl (x_move) ?_
   refine OV (.bool (decide (a1 ≤ a0))) rfl (x_geq rfl rfl) ?_
   refine OV (.bool (decide (a1 ≤ a0))) rfl (x_move) ?_
   refine ifB_elim hm (fun hb5 hm => ?_) (fun hb5 hm => ?_)
   · refine OW.cons (OP.yes' rfl rfl hb5 (OP.val (v := (.int .i64 a0)) rfl (x_move) ?_))
     refine OW.cons (OP.yes' rfl rfl hb5 (OP.val (v := (.int .i64 a2)) rfl (x_move) ?_))
     refine OW.cons (OP.yes' rfl rfl hb5 (OP.val (v := (.bool (decide (a0 ≤ a2)))) rfl (x_leq rfl rfl) ?_))
     refine OV (.bool (decide (a0 ≤ a2))) rfl (x_pickT' rfl hb5 rfl) ?_
     refine OV (.bool (decide (a0 ≤ a2))) rfl (x_assign) ?_
     refine OW.nil ?_
     exact ⟨decide (a0 ≤ a2), hm, ⟨rfl, hL⟩⟩
   refine OW.cons (OP.no' rfl rfl hb5 rfl ?_)
   refine OW.cons (OP.no' rfl rfl hb5 rfl ?_)
   refine OW.cons (OP.no' rfl rfl hb5 rfl ?_)
   refine OV (.bool false) rfl (x_pickF' rfl hb5 rfl) ?_
   refine OV (.bool false) rfl (x_assign) ?_
   refine OW.nil ?_
   exact ⟨false, hm, ⟨rfl, hL⟩⟩
 intro s_j1 F2 wd3 hJ hm
 unfold M.impl_within_j1 at hm
 obtain ⟨f4, hL⟩ := hJ
 refine CW.ret ?_
 obtain rfl := Option.some.inj hm
 exact RR1 rfl f4 ⟨rfl, hL.fresh 0 rfl [] (by decide) (by decide) rfl⟩

theorem M.strconv_FormatInt_ok (w0 : World) (htab : Lib.TabIs Tryd.prog w0 "internal/strconv.uint64pow10" .u64 Lib.pow10Tab) (a0 : Int) (a1 : Int) {r : ByteArray} (hm : M.strconv_FormatInt a0 a1 = some r) :
    Calls Tryd.prog 59 #[(.int .i64 a0), (.int .i64 a1)] w0 fun e w' => e = .returned (.string r) ∧ Fresh w0 w' [] := by
 unfold M.strconv_FormatInt at hm
 obtain ⟨⟨hb, h0, h1⟩, h2⟩ := chkE hm
 subst hb
 obtain rfl := Option.some.inj h2
 exact (Any.strconv_FormatInt_10 fmtLaid a0 h0 h1 w0 htab).mono fun e w' h => ⟨h.1, fresh_grow h.2⟩

theorem M.impl_text_ok (w0 : World) (htab : Lib.TabIs Tryd.prog w0 "internal/strconv.uint64pow10" .u64 Lib.pow10Tab) (a0 : Int) {r : ByteArray} (hm : M.impl_text a0 = some r) :
    Calls Tryd.prog 32 #[(.int .i64 a0)] w0 fun e w' => e = .returned (.string r) ∧ Fresh w0 w' [] := by
 unfold M.impl_text at hm
 refine calls_CW (args := [(.int .i64 a0)]) Tryd.func32 rfl rfl rfl ?_
 have hL := Hp.start w0
 refine CSR ?_
 refine OV (.string (⟨#[]⟩ : ByteArray)) rfl (x_assign) ?_
 refine ONR ?_
 refine OV (.int .i64 a0) rfl (x_move) ?_
 obtain ⟨x1, hx2, hm⟩ := bndE hm
 refine OW.cons (OP.call rfl (x_call (vs := [(.int .i64 a0), (.int .i64 10)]) Tryd_C59 ⟨rfl, rfl, trivial⟩) (M.strconv_FormatInt_ok _ (hL.tab 0 rfl rfl htab) a0 10 hx2) ?_)
 rintro e3 wd4 ⟨rfl, hF5⟩
 refine ⟨_, rfl, ?_⟩
 have hL := hL.pushAll hF5
 simp only [lA, lB, lC, lD] at hL
 refine OV (.string x1) rfl (x_assign) ?_
 refine OW.nil ?_
 refine CW.ret ?_
 obtain rfl := Option.some.inj hm
 exact RR1 rfl rfl ⟨rfl, hL.fresh 0 rfl [] (by decide) (by decide) rfl⟩

theorem M.laws_szCurvePointS_ok (w0 : World) (a0 : List CurvePoint) {v1 : Value} (h2 : rdL (· < w0.heap.size) w0 v1 a0) (a1 : Int) {r : Int} (hm : M.laws_szCurvePointS a0 a1 = some r) :
    Calls Tryd.prog 10 #[v1, (.int .i64 a1)] w0 fun e w' => e = .returned (.int .i64 r) ∧ Fresh w0 w' [] := by
 unfold M.laws_szCurvePointS at hm
 refine calls_CW (args := [v1, (.int .i64 a1)]) Tryd.func10 rfl rfl rfl ?_
 have hL := Hp.start w0
 refine CSR ?_
 refine OV (.int .i64 0) rfl (x_assign) ?_
 refine ONR ?_
 refine OV (.int .i64 a1) rfl (x_move) ?_
 refine OV v1 rfl (x_move) ?_
 refine OV (.int .i64 (a0.length : Int)) rfl (x_lenR U28 rfl (hL.rdS 0 rfl h2)) ?_
 refine OV (.int .i64 (w64 (a1 - (a0.length : Int)))) rfl (x_sub rfl rfl) ?_
 refine OV (.int .i64 (w64 (a1 - (a0.length : Int)))) rfl (x_assign) ?_
 refine ONS ?_
 refine CSR ?_
 refine OV (.int .i64 (w64 (a1 - (a0.length : Int)))) rfl (x_move) ?_
 refine OV (.bool (decide ((w64 (a1 - (a0.length : Int))) < 0))) rfl (x_lss rfl rfl) ?_
 refine OW.nil ?_
 refine CW.condM (t := decide ((w64 (a1 - (a0.length : Int))) < 0)) rfl hm (fun hb3 hm => ?_) (fun hb3 hm => ?_)
 · refine CSR ?_
   refine OV (.int .i64 (-1)) rfl (x_assign) ?_
   refine OW.nil ?_
   refine CW.ret ?_
   obtain rfl := Option.some.inj hm
   exact RR1 rfl rfl ⟨rfl, hL.fresh 0 rfl [] (by decide) (by decide) rfl⟩
 refine CW.skip ?_
 refine CSR ?_
 refine OV (.int .i64 (w64 (a1 - (a0.length : Int)))) rfl (x_move) ?_
 refine OV (.int .i64 (w64 (a1 - (a0.length : Int)))) rfl (x_assign) ?_
 refine OW.nil ?_
 refine CW.ret ?_
 obtain rfl := Option.some.inj hm
 exact RR1 rfl rfl ⟨rfl, hL.fresh 0 rfl [] (by decide) (by decide) rfl⟩

theorem M.laws_toCurvePoint_ok (w0 : World) (a0 : CurvePoint) {r : CurvePoint} (hm : M.laws_toCurvePoint a0 = some r) :
    Calls Tryd.prog 35 #[(.agg #[(.int .i64 a0.Wind), (.int .i64 a0.Pace)])] w0 fun e w' => e = .returned (.agg #[(.int .i64 r.Wind), (.int .i64 r.Pace)]) ∧ Fresh w0 w' [] := by
 unfold M.laws_toCurvePoint at hm
 refine calls_CW (args := [(.agg #[(.int .i64 a0.Wind), (.int .i64 a0.Pace)])]) Tryd.func35 rfl rfl rfl ?_
 have hL := Hp.start w0
 refine CSR ?_
 refine OW.cons (S_box (cs := #[(.int .i64 a0.Wind), (.int .i64 a0.Pace)]) hL rfl rfl rfl ?_)
 intro wd1 b2 hL
 refine OW.cons (S_alloc (cs := #[(.int .i64 0), (.int .i64 0)]) hL Tryd_T66 rfl rfl ?_)
 intro wd3 b4 hL
 refine ONR ?_
 refine OW.cons (S_alloc (cs := #[(.int .i64 0), (.int .i64 0)]) hL Tryd_T66 rfl rfl ?_)
 intro wd5 b6 hL
 refine ONR ?_
 refine OV (.pointer (some ⟨b2, 0, none⟩)) rfl (x_fieldAddr (fsz := 1) 0 0 0 U68 rfl Tryd_T2 rfl rfl rfl) ?_
 refine OV (.int .i64 a0.Wind) rfl (x_load1 U2 rfl rfl (hL.cellB 2 rfl rfl)) ?_
 refine OV (.pointer (some ⟨b6, 0, none⟩)) rfl (x_fieldAddr (fsz := 1) 0 0 0 U66 rfl Tryd_T2 rfl rfl rfl) ?_
 refine OW.cons (S_store (cs' := #[(.int .i64 a0.Wind), (.int .i64 0)]) hL 0 rfl Tryd_T2 rfl rfl rfl rfl rfl ?_)
 intro wd7 hL
 refine ONR ?_
 refine OV (.pointer (some ⟨b2, 1, none⟩)) rfl (x_fieldAddr (fsz := 1) 0 1 1 U68 rfl Tryd_T2 rfl rfl rfl) ?_
 refine OV (.int .i64 a0.Pace) rfl (x_load1 U2 rfl rfl (hL.cellB 2 rfl rfl)) ?_
 refine OV (.pointer (some ⟨b6, 1, none⟩)) rfl (x_fieldAddr (fsz := 1) 0 1 1 U66 rfl Tryd_T2 rfl rfl rfl) ?_
 refine OW.cons (S_store (cs' := #[(.int .i64 a0.Wind), (.int .i64 a0.Pace)]) hL 0 rfl Tryd_T2 rfl rfl rfl rfl rfl ?_)
 intro wd8 hL
 refine ONR ?_
 refine OV (.agg #[(.int .i64 a0.Wind), (.int .i64 a0.Pace)]) rfl (x_loadN (cs := [(.int .i64 a0.Wind), (.int .i64 a0.Pace)]) U66 Tryd_T66 rfl rfl (hL.cellsB 0 rfl (o := 0) (l := [(.int .i64 a0.Wind), (.int .i64 a0.Pace)]) (by intro j u hj; exact (by simpa using hj)))) ?_
 refine OW.cons (S_storeN (l := [(.int .i64 a0.Wind), (.int .i64 a0.Pace)]) (cs' := #[(.int .i64 a0.Wind), (.int .i64 a0.Pace)]) hL 1 rfl Tryd_T66 rfl rfl (List.forall_mem_cons.2 ⟨rfl, (List.forall_mem_cons.2 ⟨rfl, (fun _ h => by cases h)⟩)⟩) rfl (Nat.le_of_ble_eq_true rfl) rfl ?_)
 intro wd9 hL
 refine OW.nil ?_
 refine CW.ret ?_
 obtain rfl := Option.some.inj hm
 exact RRc rfl rfl (run_loadBlk U66 Tryd_T66 (hL.get 1 rfl) rfl) ⟨rfl, hL.fresh 3 rfl [] (by decide) (by decide) rfl⟩

theorem M.laws_toCurvePointS_ok (w0 : World) (a0 : List CurvePoint) {v1 : Value} (h2 : rdL (· < w0.heap.size) w0 v1 a0) {r : (List CurvePoint)} (hm : M.laws_toCurvePointS a0 = some r) :
    Calls Tryd.prog 12 #[v1] w0 fun e w' => ∃ (rv0 : Value) (rS0 : Nat → Prop), e = .returned rv0 ∧ Fresh w0 w' [Ent.own 66 rS0 rv0 r] := by
 unfold M.laws_toCurvePointS at hm
 refine calls_CW (args := [v1]) Tryd.func12 rfl rfl rfl ?_
 have hL := Hp.start w0
 refine CSR ?_
 refine OV (.slice none 0 0) rfl (x_assign) ?_
 refine ONR ?_
 refine OV v1 rfl (x_move) ?_
 refine OV (.int .i64 (a0.length : Int)) rfl (x_lenR U28 rfl (hL.rdS 0 rfl h2)) ?_
 obtain ⟨hc6, hm⟩ := chkE hm
 refine OW.cons (S_make (α := CurvePoint) (CurvePoint.mk 0 0) hL U31 Tryd_T66 rfl rfl rfl hc6 (by decide) rfl ?_)
 intro wd3 v4 S5 hL
 refine OV v4 rfl (x_assign) ?_
 refine ONS ?_
 refine CSR ?_
 refine OV (.int .i64 0) rfl (x_assign) ?_
 refine OW.nil ?_
 obtain ⟨o53, ho54, hm⟩ := bndE hm
 refine CW.loopB (fun (s_l1 : (List CurvePoint) × Int) (F : Fr) (w : World) => ∃ (S50 : Nat → Prop), F 0 = v1 ∧ F 3 = v4 ∧ F 4 = (.int .i64 s_l1.2) ∧ Hp w0 [Ent.own 66 S50 v4 s_l1.1, Ent.snap w0 w0.heap.size] w) (fun o => outc o (fun x => some x) (fun s => M.laws_toCurvePointS_a1 s) = some r) ho54 hm ⟨S5, rfl, rfl, rfl, hL⟩ ?_ ?_
 · intro s_l1 F55 wd56 hJ hm
   have hm := outcE hm
   have hm : M.laws_toCurvePointS_a1 s_l1 = some r := hm
   unfold M.laws_toCurvePointS_a1 at hm
   obtain ⟨S50, f57, f58, f59, hL⟩ := hJ
   refine CSR ?_
   refine OV v4 rfl (x_mv f58) ?_
   refine OV v4 rfl (x_assign) ?_
   refine OW.nil ?_
   refine CW.ret ?_
   obtain rfl := Option.some.inj hm
   exact RR1 rfl rfl ⟨v4, S50, rfl, hL.fresh 1 rfl [0] (by decide) (by decide) rfl⟩
 intro s_l1 F60 wd61 t51 hJ hm hr52
 unfold M.laws_toCurvePointS_l1 at hm
 obtain ⟨S50, f62, f63, f64, hL⟩ := hJ
 refine CW.seq ?_
 refine CSR ?_
 refine OV (.int .i64 s_l1.2) rfl (x_mv f64) ?_
 refine OV v1 rfl (x_mv f62) ?_
 refine OV (.int .i64 (a0.length : Int)) rfl (x_lenR U28 rfl (hL.rdS 1 rfl h2)) ?_
 refine OV (.bool (decide (s_l1.2 < (a0.length : Int)))) rfl (x_lss rfl rfl) ?_
 refine OW.nil ?_
 refine CW.condM (t := decide (s_l1.2 < (a0.length : Int))) rfl hm (fun hb65 hm => ?_) (fun hb65 hm => ?_)
 · refine CW.skip ?_
   refine CW.seq ?_
   refine CW.block ?_
   refine CW.regionL ?_
   refine OV v4 rfl (x_mv f63) ?_
   refine OV (.int .i64 s_l1.2) rfl (x_mv f64) ?_
   refine OV v1 rfl (x_mv f62) ?_
   refine OV (.int .i64 s_l1.2) rfl (x_mv f64) ?_
   obtain ⟨x66, ha67, hm⟩ := bndE hm
   obtain ⟨hz68, ha72⟩ := idxE ha67
   obtain ⟨b69, q70, hix71⟩ := rdL_ix (hL.rdS 1 rfl h2) hz68 ha72
   refine OV (.pointer (some ⟨b69, q70, none⟩)) rfl (x_ix U28 Tryd_T68 rfl rfl hix71) ?_
   refine OV (.agg #[(.int .i64 x66.Wind), (.int .i64 x66.Pace)]) rfl (x_loadN (cs := [(.int .i64 x66.Wind), (.int .i64 x66.Pace)]) U68 Tryd_T68 rfl rfl (rdF_cells (hL.rdS 1 rfl h2) hix71 ha72)) ?_
   obtain ⟨x73, hx74, hm⟩ := bndE hm
   refine OW.cons (OP.call rfl (x_call (vs := [(.agg #[(.int .i64 x66.Wind), (.int .i64 x66.Pace)])]) Tryd_C35 ⟨rfl, trivial⟩) (M.laws_toCurvePoint_ok _ x66 hx74) ?_)
   rintro e75 wd76 ⟨rfl, hF77⟩
   refine ⟨_, rfl, ?_⟩
   have hL := hL.pushAll hF77
   simp only [lA, lB, lC, lD] at hL
   obtain ⟨x78, ha79, hm⟩ := bndE hm
   obtain ⟨hz80, ha84⟩ := idxE ha79
   obtain ⟨b81, q82, hix83⟩ := rdL_ix (hL.rdO 0 rfl) hz80 ha84
   refine OV (.pointer (some ⟨b81, q82, none⟩)) rfl (x_ix U31 Tryd_T66 rfl rfl hix83) ?_
   refine OW.cons (S_storeXN (l := [(.int .i64 x73.Wind), (.int .i64 x73.Pace)]) x73 hL 0 rfl Tryd_T66 hix83 ha84 rfl rfl rfl ?_)
   intro wd85 hL
   refine OW.nil ?_
   refine CW.regionL ?_
   refine OV (.int .i64 s_l1.2) rfl (x_mv f64) ?_
   refine OV (.int .i64 (w64 (s_l1.2 + 1))) rfl (x_add rfl rfl) ?_
   refine OV (.int .i64 (w64 (s_l1.2 + 1))) rfl (x_assign) ?_
   refine OW.nil ?_
   obtain rfl := Option.some.inj hm
   exact ⟨_, rfl, ⟨S50, f62, f63, rfl, hL⟩⟩
 refine CW.exit ?_
 refine XJ.hit ?_
 obtain rfl := Option.some.inj hm
 exact ⟨_, rfl, ⟨S50, f62, f63, f64, hL⟩⟩

theorem M.spec_IsCurve_ok (w0 : World) (a0 : List CurvePoint) {v1 : Value} (h2 : rdL (· < w0.heap.size) w0 v1 a0) {r : Bool} (hm : M.spec_IsCurve a0 = some r) :
    Calls Tryd.prog 33 #[v1] w0 fun e w' => e = .returned (.bool r) ∧ Fresh w0 w' [] := by
 unfold M.spec_IsCurve at hm
 refine calls_CW (args := [v1]) Tryd.func33 rfl rfl rfl ?_
 have hL := Hp.start w0
 refine CSR ?_
 refine OV (.bool false) rfl (x_assign) ?_
 refine ONS ?_
 refine CW.seqJ (fun (s_j1 : Bool) (F : Fr) (w : World) => F 0 = v1 ∧ F 11 = (.bool s_j1) ∧ Hp w0 [Ent.snap w0 w0.heap.size] w) (fun s_j1 => M.spec_IsCurve_j1 a0 s_j1 = some r) ?_ ?_
 · refine CW.regionL ?_
   refine OV v1 rfl (x_move) ?_
   refine OV (.int .i64 (a0.length : Int)) rfl (x_lenR U31 rfl (hL.rdS 0 rfl h2)) ?_
   refine OV (.bool (decide ((a0.length : Int) < 2))) rfl (x_lss rfl rfl) ?_
   refine OV (.bool (decide ((a0.length : Int) < 2))) rfl (x_move) ?_
   refine ifB_elim hm (fun hb408 hm => ?_) (fun hb408 hm => ?_)
   · refine OW.cons (OP.no' rfl rfl hb408 rfl ?_)
     refine OW.cons (OP.no' rfl rfl hb408 rfl ?_)
     refine OW.cons (OP.no' rfl rfl hb408 rfl ?_)
     refine OV (.bool true) rfl (x_pickT' rfl hb408 rfl) ?_
     refine OW.nil ?_
     exact ⟨true, hm, ⟨rfl, rfl, hL⟩⟩
   refine OW.cons (OP.yes' rfl rfl hb408 (OP.val (v := v1) rfl (x_move) ?_))
   refine OW.cons (OP.yes' rfl rfl hb408 (OP.val (v := (.int .i64 (a0.length : Int))) rfl (x_lenR U31 rfl (hL.rdS 0 rfl h2)) ?_))
   refine OW.cons (OP.yes' rfl rfl hb408 (OP.val (v := (.bool (decide (12 < (a0.length : Int))))) rfl (x_gtr rfl rfl) ?_))
   refine OV (.bool (decide (12 < (a0.length : Int)))) rfl (x_pickF' rfl hb408 rfl) ?_
   refine OW.nil ?_
   exact ⟨decide (12 < (a0.length : Int)), hm, ⟨rfl, rfl, hL⟩⟩
 intro s_j1 F4 wd5 hJ hm
 unfold M.spec_IsCurve_j1 at hm
 obtain ⟨f6, f7, hL⟩ := hJ
 refine CW.condM (t := s_j1) f7 hm (fun hb8 hm => ?_) (fun hb8 hm => ?_)
 · refine CSR ?_
   refine OV (.bool false) rfl (x_assign) ?_
   refine OW.nil ?_
   refine CW.ret ?_
   obtain rfl := Option.some.inj hm
   exact RR1 rfl rfl ⟨rfl, hL.fresh 0 rfl [] (by decide) (by decide) rfl⟩
 refine CW.skip ?_
 refine CW.seq ?_
 refine CSR ?_
 refine OV (.int .i64 0) rfl (x_assign) ?_
 refine OW.nil ?_
 obtain ⟨o269, ho270, hm⟩ := bndE hm
 refine CW.loopB (fun (s_l1 : Int) (F : Fr) (w : World) => F 0 = v1 ∧ F 3 = (.int .i64 s_l1) ∧ Hp w0 [Ent.snap w0 w0.heap.size] w) (fun o => outc o (fun x => some x) (fun s => M.spec_IsCurve_a1 s) = some r) ho270 hm ⟨f6, rfl, hL⟩ ?_ ?_
 · intro s_l1 F271 wd272 hJ hm
   have hm := outcE hm
   have hm : M.spec_IsCurve_a1 s_l1 = some r := hm
   unfold M.spec_IsCurve_a1 at hm
   obtain ⟨f273, f274, hL⟩ := hJ
   refine CSR ?_
   refine OV (.bool true) rfl (x_assign) ?_
   refine OW.nil ?_
   refine CW.ret ?_
   obtain rfl := Option.some.inj hm
   exact RR1 rfl rfl ⟨rfl, hL.fresh 0 rfl [] (by decide) (by decide) rfl⟩
 intro s_l1 F275 wd276 t267 hJ hm hr268
 unfold M.spec_IsCurve_l1 at hm
 obtain ⟨f277, f278, hL⟩ := hJ
 refine CW.seq ?_
 refine CSR ?_
 refine OV (.int .i64 s_l1) rfl (x_mv f278) ?_
 refine OV v1 rfl (x_mv f277) ?_
 refine OV (.int .i64 (a0.length : Int)) rfl (x_lenR U31 rfl (hL.rdS 0 rfl h2)) ?_
 refine OV (.bool (decide (s_l1 < (a0.length : Int)))) rfl (x_lss rfl rfl) ?_
 refine OW.nil ?_
 refine CW.condM (t := decide (s_l1 < (a0.length : Int))) rfl hm (fun hb279 hm => ?_) (fun hb279 hm => ?_)
 · refine CW.skip ?_
   refine CW.seq ?_
   refine CW.block ?_
   refine CW.seq ?_
   refine CW.seqJ (fun (s_j2 : Bool) (F : Fr) (w : World) => F 0 = v1 ∧ F 3 = (.int .i64 s_l1) ∧ F 33 = (.bool s_j2) ∧ Hp w0 [Ent.snap w0 w0.heap.size] w) (fun s_j2 => M.spec_IsCurve_j2 a0 s_l1 s_j2 = some t267) ?_ ?_
   · refine CW.regionL ?_
     refine OV v1 rfl (x_mv f277) ?_
     refine OV (.int .i64 s_l1) rfl (x_mv f278) ?_
     obtain ⟨x383, ha384, hm⟩ := bndE hm
     obtain ⟨hz385, ha389⟩ := idxE ha384
     obtain ⟨b386, q387, hix388⟩ := rdL_ix (hL.rdS 0 rfl h2) hz385 ha389
     refine OV (.pointer (some ⟨b386, q387, none⟩)) rfl (x_ix U31 Tryd_T66 rfl rfl hix388) ?_
     refine OV (.pointer (some ⟨b386, q387, none⟩)) rfl (x_fieldAddr (fsz := 1) q387 0 q387 U66 rfl Tryd_T2 rfl rfl rfl) ?_
     refine OV (.int .i64 x383.Wind) rfl (x_load1 U2 rfl rfl (rdF_cells (hL.rdS 0 rfl h2) hix388 ha389 0 _ rfl)) ?_
     obtain ⟨x390, hx391, hm⟩ := bndE hm
     refine OW.cons (OP.call rfl (x_call (vs := [(.int .i64 x383.Wind), (.int .i64 0), (.int .i64 1000)]) Tryd_C27 ⟨rfl, rfl, rfl, trivial⟩) (M.spec_l01In_ok _ x383.Wind 0 1000 hx391) ?_)
     rintro e392 wd393 ⟨rfl, hF394⟩
     refine ⟨_, rfl, ?_⟩
     have hL := hL.pushAll hF394
     simp only [lA, lB, lC, lD] at hL
     refine OV (.bool (!x390)) rfl (x_not rfl) ?_
     refine OV (.bool (!x390)) rfl (x_move) ?_
     refine ifB_elim hm (fun hb395 hm => ?_) (fun hb395 hm => ?_)
     · refine OW.cons (OP.no' rfl rfl hb395 rfl ?_)
       refine OW.cons (OP.no' rfl rfl hb395 rfl ?_)
       refine OW.cons (OP.no' rfl rfl hb395 rfl ?_)
       refine OW.cons (OP.no' rfl rfl hb395 rfl ?_)
       refine OW.cons (OP.no' rfl rfl hb395 rfl ?_)
       refine OW.cons (OP.no' rfl rfl hb395 rfl ?_)
       refine OW.cons (OP.no' rfl rfl hb395 rfl ?_)
       refine OV (.bool true) rfl (x_pickT' rfl hb395 rfl) ?_
       refine OW.nil ?_
       exact ⟨true, hm, ⟨f277, f278, rfl, hL⟩⟩
     refine OW.cons (OP.yes' rfl rfl hb395 (OP.val (v := v1) rfl (x_mv f277) ?_))
     refine OW.cons (OP.yes' rfl rfl hb395 (OP.val (v := (.int .i64 s_l1)) rfl (x_mv f278) ?_))
     obtain ⟨x396, ha397, hm⟩ := bndE hm
     obtain ⟨hz398, ha402⟩ := idxE ha397
     obtain ⟨b399, q400, hix401⟩ := rdL_ix (hL.rdS 0 rfl h2) hz398 ha402
     refine OW.cons (OP.yes' rfl rfl hb395 (OP.val (v := (.pointer (some ⟨b399, q400, none⟩))) rfl (x_ix U31 Tryd_T66 rfl rfl hix401) ?_))
     refine OW.cons (OP.yes' rfl rfl hb395 (OP.val (v := (.pointer (some ⟨b399, q400 + 1, none⟩))) rfl (x_fieldAddr (fsz := 1) q400 1 (q400 + 1) U66 rfl Tryd_T2 rfl rfl rfl) ?_))
     refine OW.cons (OP.yes' rfl rfl hb395 (OP.val (v := (.int .i64 x396.Pace)) rfl (x_load1 U2 rfl rfl (rdF_cells (hL.rdS 0 rfl h2) hix401 ha402 1 _ rfl)) ?_))
     obtain ⟨x403, hx404, hm⟩ := bndE hm
     refine OW.cons (OP.yes' rfl rfl hb395 (OP.call rfl (x_call (vs := [(.int .i64 x396.Pace), (.int .i64 1), (.int .i64 1000000)]) Tryd_C27 ⟨rfl, rfl, rfl, trivial⟩) (M.spec_l01In_ok _ x396.Pace 1 1000000 hx404) ?_))
     rintro e405 wd406 ⟨rfl, hF407⟩
     refine ⟨_, rfl, ?_⟩
     have hL := hL.pushAll hF407
     simp only [lA, lB, lC, lD] at hL
     refine OW.cons (OP.yes' rfl rfl hb395 (OP.val (v := (.bool (!x403))) rfl (x_not rfl) ?_))
     refine OV (.bool (!x403)) rfl (x_pickF' rfl hb395 rfl) ?_
     refine OW.nil ?_
     exact ⟨!x403, hm, ⟨f277, f278, rfl, hL⟩⟩
   intro s_j2 F305 wd306 hJ hm
   unfold M.spec_IsCurve_j2 at hm
   obtain ⟨f307, f308, f309, hL⟩ := hJ
   refine CW.condM (t := s_j2) f309 hm (fun hb310 hm => ?_) (fun hb310 hm => ?_)
   · refine CSR ?_
     refine OV (.bool false) rfl (x_assign) ?_
     refine OW.nil ?_
     refine CW.ret ?_
     obtain rfl := Option.some.inj hm
     have hm := hr268 _ rfl
     obtain rfl := Option.some.inj hm
     exact RR1 rfl rfl ⟨rfl, hL.fresh 0 rfl [] (by decide) (by decide) rfl⟩
   refine CW.skip ?_
   refine CW.seqJ (fun (s_j3 : Bool) (F : Fr) (w : World) => F 0 = v1 ∧ F 3 = (.int .i64 s_l1) ∧ F 63 = (.bool s_j3) ∧ Hp w0 [Ent.snap w0 w0.heap.size] w) (fun s_j3 => M.spec_IsCurve_j3 s_l1 s_j3 = some t267) ?_ ?_
   · refine CW.draw Tryd_mixed ?_
     have hL := hL.call (Mod.drew _)
     refine DW.pre (fuel := 0) (fin := bma 30 1073741823) (C := fun w' => Mod None_ _ w') [0, 1, 2, 3, 4, 5, 6, 7, 8, 9, 10, 11, 12, 13, 14, 15, 16, 17, 18, 19, 20, 21, 22, 23, 24, 25, 26, 27, 28, 29] (Mod.refl _ _) (by kernel_rfl) (by kernel_rfl) ?_
     refine QW.cons rfl (QP.val (v := (.int .i64 s_l1)) rfl (fun w' hm' => x_mv f308) ?_)
     refine QW.cons rfl (QP.val (v := (.bool (decide (0 < s_l1)))) rfl (fun w' hm' => x_gtr rfl rfl) ?_)
     refine QW.cons rfl (QP.val (v := (.bool (decide (0 < s_l1)))) rfl (fun w' hm' => x_move) ?_)
     refine ifB_elim hm (fun hb350 hm => ?_) (fun hb350 hm => ?_)
     · refine QW.cons rfl (QP.yes' rfl rfl hb350 (QP.val (v := v1) rfl (fun w' hm' => x_mv f307) ?_))
       refine QW.cons rfl (QP.yes' rfl rfl hb350 (QP.val (v := (.int .i64 s_l1)) rfl (fun w' hm' => x_mv f308) ?_))
       obtain ⟨x351, ha352, hm⟩ := bndE hm
       obtain ⟨hz353, ha357⟩ := idxE ha352
       obtain ⟨b354, q355, hix356⟩ := rdL_ix (hL.rdS 0 rfl h2) hz353 ha357
       refine QW.cons rfl (QP.yes' rfl rfl hb350 (QP.val (v := (.pointer (some ⟨b354, q355, none⟩))) rfl (fun w' hm' => x_ix U31 Tryd_T66 rfl rfl hix356) ?_))
       refine QW.cons rfl (QP.yes' rfl rfl hb350 (QP.val (v := (.pointer (some ⟨b354, q355, none⟩))) rfl (fun w' hm' => x_fieldAddr (fsz := 1) q355 0 q355 U66 rfl Tryd_T2 rfl rfl rfl) ?_))
       refine QW.cons rfl (QP.yes' rfl rfl hb350 (QP.val (v := (.int .i64 x351.Wind)) rfl (fun w' hm' => x_load1 U2 rfl rfl (rdF_cells ((hL.call hm').rdS 0 rfl h2) hix356 ha357 0 _ rfl)) ?_))
       refine QW.cons rfl (QP.yes' rfl rfl hb350 (QP.val (v := v1) rfl (fun w' hm' => x_mv f307) ?_))
       refine QW.cons rfl (QP.yes' rfl rfl hb350 (QP.val (v := (.int .i64 s_l1)) rfl (fun w' hm' => x_mv f308) ?_))
       refine QW.cons rfl (QP.yes' rfl rfl hb350 (QP.val (v := (.int .i64 (w64 (s_l1 - 1)))) rfl (fun w' hm' => x_sub rfl rfl) ?_))
       obtain ⟨x358, ha359, hm⟩ := bndE hm
       obtain ⟨hz360, ha364⟩ := idxE ha359
       obtain ⟨b361, q362, hix363⟩ := rdL_ix (hL.rdS 0 rfl h2) hz360 ha364
       refine QW.cons rfl (QP.yes' rfl rfl hb350 (QP.val (v := (.pointer (some ⟨b361, q362, none⟩))) rfl (fun w' hm' => x_ix U31 Tryd_T66 rfl rfl hix363) ?_))
       refine QW.cons rfl (QP.yes' rfl rfl hb350 (QP.val (v := (.pointer (some ⟨b361, q362, none⟩))) rfl (fun w' hm' => x_fieldAddr (fsz := 1) q362 0 q362 U66 rfl Tryd_T2 rfl rfl rfl) ?_))
       refine QW.cons rfl (QP.yes' rfl rfl hb350 (QP.val (v := (.int .i64 x358.Wind)) rfl (fun w' hm' => x_load1 U2 rfl rfl (rdF_cells ((hL.call hm').rdS 0 rfl h2) hix363 ha364 0 _ rfl)) ?_))
       refine QW.cons rfl (QP.yes' rfl rfl hb350 (QP.val (v := (.bool (decide (x351.Wind ≤ x358.Wind)))) rfl (fun w' hm' => x_leq rfl rfl) ?_))
       refine QW.cons rfl (QP.yes' rfl rfl hb350 (QP.val (v := (.bool (decide (x351.Wind ≤ x358.Wind)))) rfl (fun w' hm' => x_move) ?_))
       refine ifB_elim hm (fun hb365 hm => ?_) (fun hb365 hm => ?_)
       · refine QW.cons rfl (QP.no' rfl rfl hb365 rfl ?_)
         refine QW.cons rfl (QP.no' rfl rfl hb365 rfl ?_)
         refine QW.cons rfl (QP.no' rfl rfl hb365 rfl ?_)
         refine QW.cons rfl (QP.no' rfl rfl hb365 rfl ?_)
         refine QW.cons rfl (QP.no' rfl rfl hb365 rfl ?_)
         refine QW.cons rfl (QP.no' rfl rfl hb365 rfl ?_)
         refine QW.cons rfl (QP.no' rfl rfl hb365 rfl ?_)
         refine QW.cons rfl (QP.no' rfl rfl hb365 rfl ?_)
         refine QW.cons rfl (QP.no' rfl rfl hb365 rfl ?_)
         refine QW.cons rfl (QP.no' rfl rfl hb365 rfl ?_)
         refine QW.cons rfl (QP.no' rfl rfl hb365 rfl ?_)
         refine QW.cons rfl (QP.no' rfl rfl hb365 rfl ?_)
         refine QW.cons rfl (QP.yes' rfl rfl hb350 (QP.val (v := (.bool true)) rfl (fun w' hm' => x_pickT' rfl hb365 rfl) ?_))
         refine QW.cons rfl (QP.val (v := (.bool true)) rfl (fun w' hm' => x_pickT' rfl hb350 rfl) ?_)
         refine QW.nil ?_
         intro wd366 hmod
         have hL := hL.call hmod
         refine DW.done (by kernel_rfl) ?_
         exact ⟨true, hm, ⟨f307, f308, rfl, hL⟩⟩
       refine QW.cons rfl (QP.yes' rfl rfl hb365 (QP.val (v := v1) rfl (fun w' hm' => x_mv f307) ?_))
       refine QW.cons rfl (QP.yes' rfl rfl hb365 (QP.val (v := (.int .i64 s_l1)) rfl (fun w' hm' => x_mv f308) ?_))
       obtain ⟨x367, ha368, hm⟩ := bndE hm
       obtain ⟨hz369, ha373⟩ := idxE ha368
       obtain ⟨b370, q371, hix372⟩ := rdL_ix (hL.rdS 0 rfl h2) hz369 ha373
       refine QW.cons rfl (QP.yes' rfl rfl hb365 (QP.val (v := (.pointer (some ⟨b370, q371, none⟩))) rfl (fun w' hm' => x_ix U31 Tryd_T66 rfl rfl hix372) ?_))
       refine QW.cons rfl (QP.yes' rfl rfl hb365 (QP.val (v := (.pointer (some ⟨b370, q371 + 1, none⟩))) rfl (fun w' hm' => x_fieldAddr (fsz := 1) q371 1 (q371 + 1) U66 rfl Tryd_T2 rfl rfl rfl) ?_))
       refine QW.cons rfl (QP.yes' rfl rfl hb365 (QP.val (v := (.int .i64 x367.Pace)) rfl (fun w' hm' => x_load1 U2 rfl rfl (rdF_cells ((hL.call hm').rdS 0 rfl h2) hix372 ha373 1 _ rfl)) ?_))
       refine QW.cons rfl (QP.yes' rfl rfl hb365 (QP.val (v := v1) rfl (fun w' hm' => x_mv f307) ?_))
       refine QW.cons rfl (QP.yes' rfl rfl hb365 (QP.val (v := (.int .i64 s_l1)) rfl (fun w' hm' => x_mv f308) ?_))
       refine QW.cons rfl (QP.yes' rfl rfl hb365 (QP.val (v := (.int .i64 (w64 (s_l1 - 1)))) rfl (fun w' hm' => x_sub rfl rfl) ?_))
       obtain ⟨x374, ha375, hm⟩ := bndE hm
       obtain ⟨hz376, ha380⟩ := idxE ha375
       obtain ⟨b377, q378, hix379⟩ := rdL_ix (hL.rdS 0 rfl h2) hz376 ha380
       refine QW.cons rfl (QP.yes' rfl rfl hb365 (QP.val (v := (.pointer (some ⟨b377, q378, none⟩))) rfl (fun w' hm' => x_ix U31 Tryd_T66 rfl rfl hix379) ?_))
       refine QW.cons rfl (QP.yes' rfl rfl hb365 (QP.val (v := (.pointer (some ⟨b377, q378 + 1, none⟩))) rfl (fun w' hm' => x_fieldAddr (fsz := 1) q378 1 (q378 + 1) U66 rfl Tryd_T2 rfl rfl rfl) ?_))
       refine QW.cons rfl (QP.yes' rfl rfl hb365 (QP.val (v := (.int .i64 x374.Pace)) rfl (fun w' hm' => x_load1 U2 rfl rfl (rdF_cells ((hL.call hm').rdS 0 rfl h2) hix379 ha380 1 _ rfl)) ?_))
       refine QW.cons rfl (QP.yes' rfl rfl hb365 (QP.val (v := (.bool (decide (x374.Pace ≤ x367.Pace)))) rfl (fun w' hm' => x_geq rfl rfl) ?_))
       refine QW.cons rfl (QP.yes' rfl rfl hb350 (QP.val (v := (.bool (decide (x374.Pace ≤ x367.Pace)))) rfl (fun w' hm' => x_pickF' rfl hb365 rfl) ?_))
       refine QW.cons rfl (QP.val (v := (.bool (decide (x374.Pace ≤ x367.Pace)))) rfl (fun w' hm' => x_pickT' rfl hb350 rfl) ?_)
       refine QW.nil ?_
       intro wd381 hmod
       have hL := hL.call hmod
       refine DW.done (by kernel_rfl) ?_
       exact ⟨decide (x374.Pace ≤ x367.Pace), hm, ⟨f307, f308, rfl, hL⟩⟩
     refine QW.cons rfl (QP.no' rfl rfl hb350 rfl ?_)
     refine QW.cons rfl (QP.no' rfl rfl hb350 rfl ?_)
     refine QW.cons rfl (QP.no' rfl rfl hb350 rfl ?_)
     refine QW.cons rfl (QP.no' rfl rfl hb350 rfl ?_)
     refine QW.cons rfl (QP.no' rfl rfl hb350 rfl ?_)
     refine QW.cons rfl (QP.no' rfl rfl hb350 rfl ?_)
     refine QW.cons rfl (QP.no' rfl rfl hb350 rfl ?_)
     refine QW.cons rfl (QP.no' rfl rfl hb350 rfl ?_)
     refine QW.cons rfl (QP.no' rfl rfl hb350 rfl ?_)
     refine QW.cons rfl (QP.no' rfl rfl hb350 rfl ?_)
     refine QW.cons rfl (QP.no' rfl rfl hb350 rfl ?_)
     refine QW.cons rfl (QP.no' rfl rfl hb350 rfl ?_)
     refine QW.cons rfl (QP.no' rfl rfl hb350 rfl ?_)
     refine QW.cons rfl (QP.noU rfl rfl rfl ?_)
     refine QW.cons rfl (QP.noU rfl rfl rfl ?_)
     refine QW.cons rfl (QP.noU rfl rfl rfl ?_)
     refine QW.cons rfl (QP.noU rfl rfl rfl ?_)
     refine QW.cons rfl (QP.noU rfl rfl rfl ?_)
     refine QW.cons rfl (QP.noU rfl rfl rfl ?_)
     refine QW.cons rfl (QP.noU rfl rfl rfl ?_)
     refine QW.cons rfl (QP.noU rfl rfl rfl ?_)
     refine QW.cons rfl (QP.noU rfl rfl rfl ?_)
     refine QW.cons rfl (QP.noU rfl rfl rfl ?_)
     refine QW.cons rfl (QP.noU rfl rfl rfl ?_)
     refine QW.cons rfl (QP.noU rfl rfl rfl ?_)
     refine QW.cons rfl (QP.no' rfl rfl hb350 rfl ?_)
     refine QW.cons rfl (QP.val (v := (.bool false)) rfl (fun w' hm' => x_pickF' rfl hb350 rfl) ?_)
     refine QW.nil ?_
     intro wd382 hmod
     have hL := hL.call hmod
     refine DW.done (by kernel_rfl) ?_
     exact ⟨false, hm, ⟨f307, f308, rfl, hL⟩⟩
   intro s_j3 F344 wd345 hJ hm
   unfold M.spec_IsCurve_j3 at hm
   obtain ⟨f346, f347, f348, hL⟩ := hJ
   refine CW.condM (t := s_j3) f348 hm (fun hb349 hm => ?_) (fun hb349 hm => ?_)
   · refine CSR ?_
     refine OV (.bool false) rfl (x_assign) ?_
     refine OW.nil ?_
     refine CW.ret ?_
     obtain rfl := Option.some.inj hm
     have hm := hr268 _ rfl
     obtain rfl := Option.some.inj hm
     exact RR1 rfl rfl ⟨rfl, hL.fresh 0 rfl [] (by decide) (by decide) rfl⟩
   refine CW.skip ?_
   refine CW.regionL ?_
   refine OV (.int .i64 s_l1) rfl (x_mv f347) ?_
   refine OV (.int .i64 (w64 (s_l1 + 1))) rfl (x_add rfl rfl) ?_
   refine OV (.int .i64 (w64 (s_l1 + 1))) rfl (x_assign) ?_
   refine OW.nil ?_
   obtain rfl := Option.some.inj hm
   exact ⟨_, rfl, ⟨f346, rfl, hL⟩⟩
 refine CW.exit ?_
 refine XJ.hit ?_
 obtain rfl := Option.some.inj hm
 exact ⟨_, rfl, ⟨f277, f278, hL⟩⟩

theorem M.spec_l01NumberS_ok (R : Int → Option ByteArray) (ih : ∀ (w : World) (x : Int) {r : ByteArray}, R x = some r → Calls Tryd.prog 34 #[(.int .i64 x)] w fun e w' => e = .returned (.string r) ∧ Fresh w w' []) (w0 : World) (a0 : Int) {r : ByteArray} (hm : M.spec_l01NumberS R a0 = some r) :
    Calls Tryd.prog 34 #[(.int .i64 a0)] w0 fun e w' => e = .returned (.string r) ∧ Fresh w0 w' [] := by
 unfold M.spec_l01NumberS at hm
 refine calls_CW (args := [(.int .i64 a0)]) Tryd.func34 rfl rfl rfl ?_
 have hL := Hp.start w0
 refine CSR ?_
 refine OV (.string (⟨#[]⟩ : ByteArray)) rfl (x_assign) ?_
 refine ONS ?_
 refine CSR ?_
 refine OV (.int .i64 a0) rfl (x_move) ?_
 refine OV (.bool (decide (a0 < 10))) rfl (x_lss rfl rfl) ?_
 refine OW.nil ?_
 refine CW.condM (t := decide (a0 < 10)) rfl hm (fun hb1 hm => ?_) (fun hb1 hm => ?_)
 · refine CSR ?_
   refine OV (.int .i64 a0) rfl (x_move) ?_
   refine OV (.int .i64 (w64 (48 + a0))) rfl (x_add rfl rfl) ?_
   refine OV (.int .u8 (IntKind.u8.wrap (w64 (48 + a0)))) rfl (x_conv U2 U5 rfl) ?_
   refine OW.cons (S_lit ([(UInt8.ofNat (IntKind.u8.wrap (w64 (48 + a0))).toNat)] : List UInt8) hL U86 Tryd_T5 rfl (by decide) (by simp only [Flat.enc, List.flatMap_cons, List.flatMap_nil, u8w]; first | rfl | kernel_rfl) rfl rfl ?_)
   intro wd2 v3 S4 hL
   refine OV (.string (bts ([(UInt8.ofNat (IntKind.u8.wrap (w64 (48 + a0))).toNat)] : List UInt8))) rfl (x_bts U86 U5 U9 rfl (hL.rdO 0 rfl)) ?_
   refine OV (.string (bts ([(UInt8.ofNat (IntKind.u8.wrap (w64 (48 + a0))).toNat)] : List UInt8))) rfl (x_assign) ?_
   refine OW.nil ?_
   refine CW.ret ?_
   obtain rfl := Option.some.inj hm
   exact RR1 rfl rfl ⟨rfl, hL.fresh 1 rfl [] (by decide) (by decide) rfl⟩
 refine CW.skip ?_
 refine CW.seq ?_
 refine CW.drawH (fun w' => Hp w0 [Ent.snap w0 w0.heap.size] w') Tryd_mixed ?_
 have hL := hL.call (Mod.drew _)
 have hS := (hL.sel [0] (by decide) rfl)
 refine DH.take 0 rfl (by kernel_rfl) (by kernel_rfl) (by kernel_rfl) rfl rfl hS (YH.val (v := (.int .i64 a0)) (fun w' hS' => x_move)) ?_
 have hS := (hL.sel [0] (by decide) rfl)
 refine DH.take 1 rfl (by kernel_rfl) (by kernel_rfl) (by kernel_rfl) rfl rfl hS (YH.val (v := (.int .i64 (w64 (a0.tdiv 10)))) (fun w' hS' => x_quo rfl rfl (by decide))) ?_
 have hS := (hL.sel [0] (by decide) rfl)
 refine DH.take 3 rfl (by kernel_rfl) (by kernel_rfl) (by kernel_rfl) rfl rfl hS (YH.val (v := (.int .i64 a0)) (fun w' hS' => x_move)) ?_
 have hS := (hL.sel [0] (by decide) rfl)
 refine DH.take 4 rfl (by kernel_rfl) (by kernel_rfl) (by kernel_rfl) rfl rfl hS (YH.val (v := (.int .i64 (a0.tmod 10))) (fun w' hS' => x_rem rfl rfl (by decide))) ?_
 have hS := (hL.sel [0] (by decide) rfl)
 refine DH.take 5 rfl (by kernel_rfl) (by kernel_rfl) (by kernel_rfl) rfl rfl hS (YH.val (v := (.int .i64 (w64 (48 + (a0.tmod 10))))) (fun w' hS' => x_add rfl rfl)) ?_
 have hS := (hL.sel [0] (by decide) rfl)
 refine DH.take 6 rfl (by kernel_rfl) (by kernel_rfl) (by kernel_rfl) rfl rfl hS (YH.val (v := (.int .u8 (IntKind.u8.wrap (w64 (48 + (a0.tmod 10)))))) (fun w' hS' => x_conv U2 U5 rfl)) ?_
 obtain ⟨x14, hx15, hm⟩ := bndE hm
 obtain ⟨hc22, hm⟩ := chkE hm
 refine DH.node (listed' := (bma 11 2047)) (fuel' := 0) (fun (F : Fr) (w : World) => ∃ (v43 : Value) (S44 : Nat → Prop), F 2 = (.string (x14 ++ (bts ([(UInt8.ofNat (IntKind.u8.wrap (w64 (48 + (a0.tmod 10)))).toNat)] : List UInt8)))) ∧ Hp w0 [Ent.own 5 S44 v43 ([(UInt8.ofNat (IntKind.u8.wrap (w64 (48 + (a0.tmod 10)))).toNat)] : List UInt8), Ent.snap w0 w0.heap.size] w) ?_ (fun hN38 => ?_)
 · intro F51 wd52 hJ
   obtain ⟨v43, S44, f53, hL⟩ := hJ
   refine DH.done (by kernel_rfl) ?_
   refine CW.ret ?_
   obtain rfl := Option.some.inj hm
   exact RR1 rfl f53 ⟨rfl, hL.fresh 1 rfl [] (by decide) (by decide) rfl⟩
 refine DH.node (listed' := (bma 11 255)) (fuel' := 3) (fun (F : Fr) (w : World) => ∃ (v45 : Value) (S46 : Nat → Prop), F 2 = (.string (⟨#[]⟩ : ByteArray)) ∧ F 12 = (.string x14) ∧ F 17 = v45 ∧ Hp w0 [Ent.own 5 S46 v45 ([(UInt8.ofNat (IntKind.u8.wrap (w64 (48 + (a0.tmod 10)))).toNat)] : List UInt8), Ent.snap w0 w0.heap.size] w) ?_ (fun hN39 => ?_)
 · intro F54 wd55 hJ
   obtain ⟨v45, S46, f56, f57, f58, hL⟩ := hJ
   refine DH.only 8 rfl (by kernel_rfl) (OP.val (v := (.string (bts ([(UInt8.ofNat (IntKind.u8.wrap (w64 (48 + (a0.tmod 10)))).toNat)] : List UInt8)))) rfl (x_bts U86 U5 U9 f58 (hL.rdO 0 rfl)) ?_)
   refine ⟨(hL.sel [1] (by decide) rfl), ?_⟩
   have hS := (hL.sel [1] (by decide) rfl)
   refine DH.take 9 rfl (by kernel_rfl) (by kernel_rfl) (by kernel_rfl) rfl rfl hS (YH.val (v := (.string (x14 ++ (bts ([(UInt8.ofNat (IntKind.u8.wrap (w64 (48 + (a0.tmod 10)))).toNat)] : List UInt8))))) (fun w' hS' => x_addT f57 rfl hc22)) ?_
   have hS := (hL.sel [1] (by decide) rfl)
   refine DH.take 10 rfl (by kernel_rfl) (by kernel_rfl) (by kernel_rfl) rfl rfl hS (YH.val (v := (.string (x14 ++ (bts ([(UInt8.ofNat (IntKind.u8.wrap (w64 (48 + (a0.tmod 10)))).toNat)] : List UInt8))))) (fun w' hS' => x_assign)) ?_
   exact DH.relist (listed' := (bma 11 2047)) (by kernel_rfl) (hN38 _ _ ⟨v45, S46, rfl, hL⟩)
 refine DH.node (listed' := (bma 11 507)) (fuel' := 3) (fun (F : Fr) (w : World) => ∃ (v47 : Value) (S48 : Nat → Prop), F 2 = (.string (⟨#[]⟩ : ByteArray)) ∧ F 11 = (.int .i64 (w64 (a0.tdiv 10))) ∧ F 18 = (.string (bts ([(UInt8.ofNat (IntKind.u8.wrap (w64 (48 + (a0.tmod 10)))).toNat)] : List UInt8))) ∧ Hp w0 [Ent.own 5 S48 v47 ([(UInt8.ofNat (IntKind.u8.wrap (w64 (48 + (a0.tmod 10)))).toNat)] : List UInt8), Ent.snap w0 w0.heap.size] w) ?_ (fun hN40 => ?_)
 · intro F59 wd60 hJ
   obtain ⟨v47, S48, f61, f62, f63, hL⟩ := hJ
   refine DH.only 2 rfl (by kernel_rfl) (OP.call rfl (x_call (vs := [(.int .i64 (w64 (a0.tdiv 10)))]) Tryd_C34 ⟨f62, trivial⟩) (ih _ (w64 (a0.tdiv 10)) hx15) ?_)
   rintro e64 wd65 ⟨rfl, hF66⟩
   refine ⟨_, rfl, ?_⟩
   have hL := hL.pushAll hF66
   simp only [lA, lB, lC, lD] at hL
   refine ⟨(hL.sel [1] (by decide) rfl), ?_⟩
   have hS := (hL.sel [1] (by decide) rfl)
   refine DH.take 9 rfl (by kernel_rfl) (by kernel_rfl) (by kernel_rfl) rfl rfl hS (YH.val (v := (.string (x14 ++ (bts ([(UInt8.ofNat (IntKind.u8.wrap (w64 (48 + (a0.tmod 10)))).toNat)] : List UInt8))))) (fun w' hS' => x_addT rfl f63 hc22)) ?_
   have hS := (hL.sel [1] (by decide) rfl)
   refine DH.take 10 rfl (by kernel_rfl) (by kernel_rfl) (by kernel_rfl) rfl rfl hS (YH.val (v := (.string (x14 ++ (bts ([(UInt8.ofNat (IntKind.u8.wrap (w64 (48 + (a0.tmod 10)))).toNat)] : List UInt8))))) (fun w' hS' => x_assign)) ?_
   exact DH.relist (listed' := (bma 11 2047)) (by kernel_rfl) (hN38 _ _ ⟨v47, S48, rfl, hL⟩)
 refine DH.node (listed' := (bma 11 127)) (fuel' := 4) (fun (F : Fr) (w : World) => F 2 = (.string (⟨#[]⟩ : ByteArray)) ∧ F 12 = (.string x14) ∧ F 16 = (.int .u8 (IntKind.u8.wrap (w64 (48 + (a0.tmod 10))))) ∧ Hp w0 [Ent.snap w0 w0.heap.size] w) ?_ (fun hN41 => ?_)
 · intro F67 wd68 hJ
   obtain ⟨f69, f70, f71, hL⟩ := hJ
   refine DH.only 7 rfl (by kernel_rfl) (S_lit ([(UInt8.ofNat (IntKind.u8.wrap (w64 (48 + (a0.tmod 10)))).toNat)] : List UInt8) hL U86 Tryd_T5 rfl (by decide) (by simp only [Flat.enc, List.flatMap_cons, List.flatMap_nil, u8w]; simp [Instr.fill, madeCells, Value.cells, ev, upd, Flat.sz, f71]; try (first | rfl | kernel_rfl)) rfl rfl ?_)
   intro wd72 v73 S74 hL
   refine ⟨(hL.sel [1] (by decide) rfl), ?_⟩
   exact DH.relist (listed' := (bma 11 255)) (by kernel_rfl) (hN39 _ _ ⟨v73, S74, f69, f70, rfl, hL⟩)
 refine DH.node (listed' := (bma 11 251)) (fuel' := 4) (fun (F : Fr) (w : World) => ∃ (v49 : Value) (S50 : Nat → Prop), F 2 = (.string (⟨#[]⟩ : ByteArray)) ∧ F 11 = (.int .i64 (w64 (a0.tdiv 10))) ∧ F 17 = v49 ∧ Hp w0 [Ent.own 5 S50 v49 ([(UInt8.ofNat (IntKind.u8.wrap (w64 (48 + (a0.tmod 10)))).toNat)] : List UInt8), Ent.snap w0 w0.heap.size] w) ?_ (fun hN42 => ?_)
 · intro F75 wd76 hJ
   obtain ⟨v49, S50, f77, f78, f79, hL⟩ := hJ
   refine DH.all (rs := [2, 8]) (by kernel_rfl) (by simp) ?_
   intro i80 hi81
   simp only [List.mem_cons, List.not_mem_nil, or_false] at hi81
   rcases hi81 with rfl | rfl
   · refine ⟨_, rfl, ?_⟩
     refine OP.call rfl (x_call (vs := [(.int .i64 (w64 (a0.tdiv 10)))]) Tryd_C34 ⟨f78, trivial⟩) (ih _ (w64 (a0.tdiv 10)) hx15) ?_
     rintro e82 wd83 ⟨rfl, hF84⟩
     refine ⟨_, rfl, ?_⟩
     have hL := hL.pushAll hF84
     simp only [lA, lB, lC, lD] at hL
     refine ⟨(hL.sel [1] (by decide) rfl), ?_⟩
     exact DH.relist (listed' := (bma 11 255)) (by kernel_rfl) (hN39 _ _ ⟨v49, S50, f77, rfl, f79, hL⟩)
   refine ⟨_, rfl, ?_⟩
   refine OP.val (v := (.string (bts ([(UInt8.ofNat (IntKind.u8.wrap (w64 (48 + (a0.tmod 10)))).toNat)] : List UInt8)))) rfl (x_bts U86 U5 U9 f79 (hL.rdO 0 rfl)) ?_
   refine ⟨(hL.sel [1] (by decide) rfl), ?_⟩
   exact DH.relist (listed' := (bma 11 507)) (by kernel_rfl) (hN40 _ _ ⟨v49, S50, f77, f78, rfl, hL⟩)
 refine DH.all (rs := [2, 7]) (by kernel_rfl) (by simp) ?_
 intro i85 hi86
 simp only [List.mem_cons, List.not_mem_nil, or_false] at hi86
 rcases hi86 with rfl | rfl
 · refine ⟨_, rfl, ?_⟩
   refine OP.call rfl (x_call (vs := [(.int .i64 (w64 (a0.tdiv 10)))]) Tryd_C34 ⟨rfl, trivial⟩) (ih _ (w64 (a0.tdiv 10)) hx15) ?_
   rintro e87 wd88 ⟨rfl, hF89⟩
   refine ⟨_, rfl, ?_⟩
   have hL := hL.pushAll hF89
   simp only [lA, lB, lC, lD] at hL
   refine ⟨(hL.sel [0] (by decide) rfl), ?_⟩
   exact DH.relist (listed' := (bma 11 127)) (by kernel_rfl) (hN41 _ _ ⟨rfl, rfl, rfl, hL⟩)
 refine ⟨_, rfl, ?_⟩
 refine S_lit ([(UInt8.ofNat (IntKind.u8.wrap (w64 (48 + (a0.tmod 10)))).toNat)] : List UInt8) hL U86 Tryd_T5 rfl (by decide) (by simp only [Flat.enc, List.flatMap_cons, List.flatMap_nil, u8w]; first | rfl | kernel_rfl) rfl rfl ?_
 intro wd90 v91 S92 hL
 refine ⟨(hL.sel [1] (by decide) rfl), ?_⟩
 exact DH.relist (listed' := (bma 11 251)) (by kernel_rfl) (hN42 _ _ ⟨v91, S92, rfl, rfl, rfl, hL⟩)
theorem M.spec_l01NumberN_ok : ∀ (n : Nat) (w : World) (x : Int) {r : ByteArray}, M.spec_l01NumberN n x = some r → Calls Tryd.prog 34 #[(.int .i64 x)] w fun e w' => e = .returned (.string r) ∧ Fresh w w' []
  | 0, _, _, _, hm => nomatch hm
  | n + 1, w, x, _, hm => M.spec_l01NumberS_ok (M.spec_l01NumberN n) (M.spec_l01NumberN_ok n) w x hm

theorem M.spec_l01Number_ok (w0 : World) (a0 : Int) {r : ByteArray} (hm : M.spec_l01Number a0 = some r) :
    Calls Tryd.prog 34 #[(.int .i64 a0)] w0 fun e w' => e = .returned (.string r) ∧ Fresh w0 w' [] := M.spec_l01NumberN_ok 64 w0 a0 hm

theorem M.spec_CurveText_ok (w0 : World) (a0 : List CurvePoint) {v1 : Value} (h2 : rdL (· < w0.heap.size) w0 v1 a0) {r : ByteArray} (hm : M.spec_CurveText a0 = some r) :
    Calls Tryd.prog 11 #[v1] w0 fun e w' => e = .returned (.string r) ∧ Fresh w0 w' [] := by
 unfold M.spec_CurveText at hm
 refine calls_CW (args := [v1]) Tryd.func11 rfl rfl rfl ?_
 have hL := Hp.start w0
 refine CSR ?_
 refine OV (.string (⟨#[]⟩ : ByteArray)) rfl (x_assign) ?_
 refine ONR ?_
 refine OV (.string (⟨#[]⟩ : ByteArray)) rfl (x_assign) ?_
 refine ONS ?_
 refine CSR ?_
 refine OV (.int .i64 0) rfl (x_assign) ?_
 refine OW.nil ?_
 obtain ⟨o105, ho106, hm⟩ := bndE hm
 refine CW.loopB (fun (s_l1 : ByteArray × Int) (F : Fr) (w : World) => F 0 = v1 ∧ F 3 = (.string s_l1.1) ∧ F 4 = (.int .i64 s_l1.2) ∧ Hp w0 [Ent.snap w0 w0.heap.size] w) (fun o => outc o (fun x => some x) (fun s => M.spec_CurveText_a1 s) = some r) ho106 hm ⟨rfl, rfl, rfl, hL⟩ ?_ ?_
 · intro s_l1 F107 wd108 hJ hm
   have hm := outcE hm
   have hm : M.spec_CurveText_a1 s_l1 = some r := hm
   unfold M.spec_CurveText_a1 at hm
   obtain ⟨f109, f110, f111, hL⟩ := hJ
   refine CSR ?_
   refine OV (.string s_l1.1) rfl (x_mv f110) ?_
   refine OV (.string s_l1.1) rfl (x_assign) ?_
   refine OW.nil ?_
   refine CW.ret ?_
   obtain rfl := Option.some.inj hm
   exact RR1 rfl rfl ⟨rfl, hL.fresh 0 rfl [] (by decide) (by decide) rfl⟩
 intro s_l1 F112 wd113 t103 hJ hm hr104
 unfold M.spec_CurveText_l1 at hm
 obtain ⟨f114, f115, f116, hL⟩ := hJ
 refine CW.seq ?_
 refine CW.seqJ (fun (s_j1 : Bool) (F : Fr) (w : World) => F 0 = v1 ∧ F 3 = (.string s_l1.1) ∧ F 4 = (.int .i64 s_l1.2) ∧ F 12 = (.bool s_j1) ∧ Hp w0 [Ent.snap w0 w0.heap.size] w) (fun s_j1 => M.spec_CurveText_j1 a0 s_l1 s_j1 = some t103) ?_ ?_
 · refine CW.regionL ?_
   refine OV (.int .i64 s_l1.2) rfl (x_mv f116) ?_
   refine OV v1 rfl (x_mv f114) ?_
   refine OV (.int .i64 (a0.length : Int)) rfl (x_lenR U31 rfl (hL.rdS 0 rfl h2)) ?_
   refine OV (.bool (decide (s_l1.2 < (a0.length : Int)))) rfl (x_lss rfl rfl) ?_
   refine OV (.bool (decide (s_l1.2 < (a0.length : Int)))) rfl (x_move) ?_
   refine ifB_elim hm (fun hb161 hm => ?_) (fun hb161 hm => ?_)
   · refine OW.cons (OP.yes' rfl rfl hb161 (OP.val (v := v1) rfl (x_mv f114) ?_))
     obtain ⟨x162, hx163, hm⟩ := bndE hm
     refine OW.cons (OP.yes' rfl rfl hb161 (OP.call rfl (x_call (vs := [v1]) Tryd_C33 ⟨rfl, trivial⟩) (M.spec_IsCurve_ok _ a0 (hL.rdS 0 rfl h2) hx163) ?_))
     rintro e164 wd165 ⟨rfl, hF166⟩
     refine ⟨_, rfl, ?_⟩
     have hL := hL.pushAll hF166
     simp only [lA, lB, lC, lD] at hL
     refine OV (.bool x162) rfl (x_pickT' rfl hb161 rfl) ?_
     refine OW.nil ?_
     exact ⟨x162, hm, ⟨f114, f115, f116, rfl, hL⟩⟩
   refine OW.cons (OP.no' rfl rfl hb161 rfl ?_)
   refine OW.cons (OP.no' rfl rfl hb161 rfl ?_)
   refine OV (.bool false) rfl (x_pickF' rfl hb161 rfl) ?_
   refine OW.nil ?_
   exact ⟨false, hm, ⟨f114, f115, f116, rfl, hL⟩⟩
 intro s_j1 F123 wd124 hJ hm
 unfold M.spec_CurveText_j1 at hm
 obtain ⟨f125, f126, f127, f128, hL⟩ := hJ
 refine CW.condM (t := s_j1) f128 hm (fun hb129 hm => ?_) (fun hb129 hm => ?_)
 · refine CW.skip ?_
   refine CW.seq ?_
   refine CW.block ?_
   refine CW.seqJ (fun (s_j2 : ByteArray) (F : Fr) (w : World) => F 0 = v1 ∧ F 3 = (.string s_j2) ∧ F 4 = (.int .i64 s_l1.2) ∧ Hp w0 [Ent.snap w0 w0.heap.size] w) (fun s_j2 => M.spec_CurveText_j2 a0 s_l1 s_j2 = some t103) ?_ ?_
   · refine CSR ?_
     refine OV (.int .i64 s_l1.2) rfl (x_mv f127) ?_
     refine OV (.bool (decide (0 < s_l1.2))) rfl (x_gtr rfl rfl) ?_
     refine OW.nil ?_
     refine CW.condM (t := decide (0 < s_l1.2)) rfl hm (fun hb159 hm => ?_) (fun hb159 hm => ?_)
     · refine CW.regionL ?_
       refine OV (.string s_l1.1) rfl (x_mv f126) ?_
       obtain ⟨hc160, hm⟩ := chkE hm
       refine OV (.string (s_l1.1 ++ (⟨#[32]⟩ : ByteArray))) rfl (x_addT rfl rfl hc160) ?_
       refine OV (.string (s_l1.1 ++ (⟨#[32]⟩ : ByteArray))) rfl (x_assign) ?_
       refine OW.nil ?_
       exact ⟨s_l1.1 ++ (⟨#[32]⟩ : ByteArray), hm, ⟨f125, rfl, f127, hL⟩⟩
     refine CW.skip ?_
     exact ⟨s_l1.1, hm, ⟨f125, f126, f127, hL⟩⟩
   intro s_j2 F132 wd133 hJ hm
   unfold M.spec_CurveText_j2 at hm
   obtain ⟨f134, f135, f136, hL⟩ := hJ
   refine CW.draw Tryd_mixed ?_
   have hL := hL.call (Mod.drew _)
   refine DW.pre (fuel := 0) (fin := bma 17 131071) (C := fun w' => Mod None_ _ w') [0, 1, 2, 3, 4, 5, 6, 7, 8, 9, 10, 11, 12, 13, 14, 15, 16] (Mod.refl _ _) (by kernel_rfl) (by kernel_rfl) ?_
   refine QW.cons rfl (QP.val (v := (.string s_j2)) rfl (fun w' hm' => x_mv f135) ?_)
   refine QW.cons rfl (QP.val (v := v1) rfl (fun w' hm' => x_mv f134) ?_)
   refine QW.cons rfl (QP.val (v := (.int .i64 s_l1.2)) rfl (fun w' hm' => x_mv f136) ?_)
   obtain ⟨x137, ha138, hm⟩ := bndE hm
   obtain ⟨hz139, ha143⟩ := idxE ha138
   obtain ⟨b140, q141, hix142⟩ := rdL_ix (hL.rdS 0 rfl h2) hz139 ha143
   refine QW.cons rfl (QP.val (v := (.pointer (some ⟨b140, q141, none⟩))) rfl (fun w' hm' => x_ix U31 Tryd_T66 rfl rfl hix142) ?_)
   refine QW.cons rfl (QP.val (v := (.pointer (some ⟨b140, q141, none⟩))) rfl (fun w' hm' => x_fieldAddr (fsz := 1) q141 0 q141 U66 rfl Tryd_T2 rfl rfl rfl) ?_)
   refine QW.cons rfl (QP.val (v := (.int .i64 x137.Wind)) rfl (fun w' hm' => x_load1 U2 rfl rfl (rdF_cells ((hL.call hm').rdS 0 rfl h2) hix142 ha143 0 _ rfl)) ?_)
   obtain ⟨x144, hx145, hm⟩ := bndE hm
   refine QW.cons rfl (QP.call (v := (.string x144)) rfl (fun w' hm' => x_call (vs := [(.int .i64 x137.Wind)]) Tryd_C34 ⟨rfl, trivial⟩) (fun w' hm' => (M.spec_l01Number_ok w' x137.Wind hx145).mono (fun e w'' h => ⟨h.1, hm'.trans h.2.mod⟩)) ?_)
   obtain ⟨hc146, hm⟩ := chkE hm
   refine QW.cons rfl (QP.val (v := (.string (s_j2 ++ x144))) rfl (fun w' hm' => x_addT rfl rfl hc146) ?_)
   obtain ⟨hc147, hm⟩ := chkE hm
   refine QW.cons rfl (QP.val (v := (.string ((s_j2 ++ x144) ++ (⟨#[58]⟩ : ByteArray)))) rfl (fun w' hm' => x_addT rfl rfl hc147) ?_)
   refine QW.cons rfl (QP.val (v := v1) rfl (fun w' hm' => x_mv f134) ?_)
   refine QW.cons rfl (QP.val (v := (.int .i64 s_l1.2)) rfl (fun w' hm' => x_mv f136) ?_)
   obtain ⟨x148, ha149, hm⟩ := bndE hm
   obtain ⟨hz150, ha154⟩ := idxE ha149
   obtain ⟨b151, q152, hix153⟩ := rdL_ix (hL.rdS 0 rfl h2) hz150 ha154
   refine QW.cons rfl (QP.val (v := (.pointer (some ⟨b151, q152, none⟩))) rfl (fun w' hm' => x_ix U31 Tryd_T66 rfl rfl hix153) ?_)
   refine QW.cons rfl (QP.val (v := (.pointer (some ⟨b151, q152 + 1, none⟩))) rfl (fun w' hm' => x_fieldAddr (fsz := 1) q152 1 (q152 + 1) U66 rfl Tryd_T2 rfl rfl rfl) ?_)
   refine QW.cons rfl (QP.val (v := (.int .i64 x148.Pace)) rfl (fun w' hm' => x_load1 U2 rfl rfl (rdF_cells ((hL.call hm').rdS 0 rfl h2) hix153 ha154 1 _ rfl)) ?_)
   obtain ⟨x155, hx156, hm⟩ := bndE hm
   refine QW.cons rfl (QP.call (v := (.string x155)) rfl (fun w' hm' => x_call (vs := [(.int .i64 x148.Pace)]) Tryd_C34 ⟨rfl, trivial⟩) (fun w' hm' => (M.spec_l01Number_ok w' x148.Pace hx156).mono (fun e w'' h => ⟨h.1, hm'.trans h.2.mod⟩)) ?_)
   obtain ⟨hc157, hm⟩ := chkE hm
   refine QW.cons rfl (QP.val (v := (.string (((s_j2 ++ x144) ++ (⟨#[58]⟩ : ByteArray)) ++ x155))) rfl (fun w' hm' => x_addT rfl rfl hc157) ?_)
   refine QW.cons rfl (QP.val (v := (.string (((s_j2 ++ x144) ++ (⟨#[58]⟩ : ByteArray)) ++ x155))) rfl (fun w' hm' => x_assign) ?_)
   refine QW.nil ?_
   intro wd158 hmod
   have hL := hL.call hmod
   refine DW.done (by kernel_rfl) ?_
   refine CW.regionL ?_
   refine OV (.int .i64 s_l1.2) rfl (x_mv f136) ?_
   refine OV (.int .i64 (w64 (s_l1.2 + 1))) rfl (x_add rfl rfl) ?_
   refine OV (.int .i64 (w64 (s_l1.2 + 1))) rfl (x_assign) ?_
   refine OW.nil ?_
   obtain rfl := Option.some.inj hm
   exact ⟨_, rfl, ⟨f134, rfl, rfl, hL⟩⟩
 refine CW.exit ?_
 refine XJ.hit ?_
 obtain rfl := Option.some.inj hm
 exact ⟨_, rfl, ⟨f125, f126, f127, hL⟩⟩

theorem M.impl_IsCurve_ok (w0 : World) (a0 : List CurvePoint) {v1 : Value} (h2 : rdL (· < w0.heap.size) w0 v1 a0) {r : Bool} (hm : M.impl_IsCurve a0 = some r) :
    Calls Tryd.prog 36 #[v1] w0 fun e w' => e = .returned (.bool r) ∧ Fresh w0 w' [] := by
 unfold M.impl_IsCurve at hm
 refine calls_CW (args := [v1]) Tryd.func36 rfl rfl rfl ?_
 have hL := Hp.start w0
 refine CSR ?_
 refine OV (.bool false) rfl (x_assign) ?_
 refine ONS ?_
 refine CSR ?_
 refine OV v1 rfl (x_move) ?_
 refine OV (.int .i64 (a0.length : Int)) rfl (x_lenR U31 rfl (hL.rdS 0 rfl h2)) ?_
 refine OV (.int .i64 0) rfl (x_move) ?_
 refine OW.nil ?_
 obtain ⟨o151, ho152, hm⟩ := bndE hm
 refine CW.loopB (fun (s_l1 : Int) (F : Fr) (w : World) => F 0 = v1 ∧ F 5 = v1 ∧ F 6 = (.int .i64 (a0.length : Int)) ∧ F 7 = (.int .i64 s_l1) ∧ Hp w0 [Ent.snap w0 w0.heap.size] w) (fun o => outc o (fun x => some x) (fun s => M.impl_IsCurve_a1 a0 s) = some r) ho152 hm ⟨rfl, rfl, rfl, rfl, hL⟩ ?_ ?_
 · intro s_l1 F153 wd154 hJ hm
   have hm := outcE hm
   have hm : M.impl_IsCurve_a1 a0 s_l1 = some r := hm
   unfold M.impl_IsCurve_a1 at hm
   obtain ⟨f155, f156, f157, f158, hL⟩ := hJ
   refine CW.seqJ (fun (s_j1 : Bool) (F : Fr) (w : World) => F 2 = (.bool s_j1) ∧ Hp w0 [Ent.snap w0 w0.heap.size] w) (fun s_j1 => M.impl_IsCurve_j1 s_j1 = some r) ?_ ?_
   · refine CW.regionL ?_
     refine OV v1 rfl (x_mv f155) ?_
     refine OV (.int .i64 (a0.length : Int)) rfl (x_lenR U31 rfl (hL.rdS 0 rfl h2)) ?_
     refine OV (.bool (decide (2 ≤ (a0.length : Int)))) rfl (x_geq rfl rfl) ?_
     refine OV (.bool (decide (2 ≤ (a0.length : Int)))) rfl (x_move) ?_
     refine ifB_elim hm (fun hb163 hm => ?_) (fun hb163 hm => ?_)
     · refine OW.cons (OP.yes' rfl rfl hb163 (OP.val (v := v1) rfl (x_mv f155) ?_))
       refine OW.cons (OP.yes' rfl rfl hb163 (OP.val (v := (.int .i64 (a0.length : Int))) rfl (x_lenR U31 rfl (hL.rdS 0 rfl h2)) ?_))
       refine OW.cons (OP.yes' rfl rfl hb163 (OP.val (v := (.bool (decide ((a0.length : Int) ≤ 12)))) rfl (x_leq rfl rfl) ?_))
       refine OV (.bool (decide ((a0.length : Int) ≤ 12))) rfl (x_pickT' rfl hb163 rfl) ?_
       refine OV (.bool (decide ((a0.length : Int) ≤ 12))) rfl (x_assign) ?_
       refine OW.nil ?_
       exact ⟨decide ((a0.length : Int) ≤ 12), hm, ⟨rfl, hL⟩⟩
     refine OW.cons (OP.no' rfl rfl hb163 rfl ?_)
     refine OW.cons (OP.no' rfl rfl hb163 rfl ?_)
     refine OW.cons (OP.no' rfl rfl hb163 rfl ?_)
     refine OV (.bool false) rfl (x_pickF' rfl hb163 rfl) ?_
     refine OV (.bool false) rfl (x_assign) ?_
     refine OW.nil ?_
     exact ⟨false, hm, ⟨rfl, hL⟩⟩
   intro s_j1 F160 wd161 hJ hm
   unfold M.impl_IsCurve_j1 at hm
   obtain ⟨f162, hL⟩ := hJ
   refine CW.ret ?_
   obtain rfl := Option.some.inj hm
   exact RR1 rfl f162 ⟨rfl, hL.fresh 0 rfl [] (by decide) (by decide) rfl⟩
 intro s_l1 F164 wd165 t149 hJ hm hr150
 unfold M.impl_IsCurve_l1 at hm
 obtain ⟨f166, f167, f168, f169, hL⟩ := hJ
 refine CSR ?_
 refine OV (.bool (decide (s_l1 < (a0.length : Int)))) rfl (x_lss f169 f168) ?_
 refine ONS ?_
 refine CW.condM (t := decide (s_l1 < (a0.length : Int))) rfl hm (fun hb170 hm => ?_) (fun hb170 hm => ?_)
 · refine CW.skip ?_
   refine CW.seq ?_
   refine CW.block ?_
   refine CSR ?_
   refine OV (.int .i64 s_l1) rfl (x_mv f169) ?_
   obtain ⟨x171, ha172, hm⟩ := bndE hm
   obtain ⟨hz173, ha177⟩ := idxE ha172
   obtain ⟨b174, q175, hix176⟩ := rdL_ix (hL.rdS 0 rfl h2) hz173 ha177
   refine OV (.pointer (some ⟨b174, q175, none⟩)) rfl (x_ix U31 Tryd_T66 f167 f169 hix176) ?_
   refine OV (.agg #[(.int .i64 x171.Wind), (.int .i64 x171.Pace)]) rfl (x_loadN (cs := [(.int .i64 x171.Wind), (.int .i64 x171.Pace)]) U66 Tryd_T66 rfl rfl (rdF_cells (hL.rdS 0 rfl h2) hix176 ha177)) ?_
   refine OW.cons (S_alloc (cs := #[(.int .i64 0), (.int .i64 0)]) hL Tryd_T66 rfl rfl ?_)
   intro wd178 b179 hL
   refine OV (.int .i64 s_l1) rfl (x_assign) ?_
   refine OW.cons (S_storeN (l := [(.int .i64 x171.Wind), (.int .i64 x171.Pace)]) (cs' := #[(.int .i64 x171.Wind), (.int .i64 x171.Pace)]) hL 0 rfl Tryd_T66 rfl rfl (List.forall_mem_cons.2 ⟨rfl, (List.forall_mem_cons.2 ⟨rfl, (fun _ h => by cases h)⟩)⟩) rfl (Nat.le_of_ble_eq_true rfl) rfl ?_)
   intro wd180 hL
   refine OW.nil ?_
   refine CW.seqJ (fun (s_j2 : Bool) (F : Fr) (w : World) => F 0 = v1 ∧ F 5 = v1 ∧ F 6 = (.int .i64 (a0.length : Int)) ∧ F 7 = (.int .i64 s_l1) ∧ F 47 = (.bool s_j2) ∧ Hp w0 [Ent.blk b179 66 #[(.int .i64 x171.Wind), (.int .i64 x171.Pace)], Ent.snap w0 w0.heap.size] w) (fun s_j2 => M.impl_IsCurve_j2 s_l1 s_j2 = some t149) ?_ ?_
   · refine CW.draw Tryd_mixed ?_
     have hL := hL.call (Mod.drew _)
     refine DW.pre (fuel := 0) (fin := bma 36 68719476735) (C := fun w' => Mod None_ _ w') [0, 1, 2, 3, 4, 5, 6, 7, 8, 9, 10, 11, 12, 13, 14, 15, 16, 17, 18, 19, 20, 21, 22, 23, 24, 25, 26, 27, 28, 29, 30, 31, 32, 33, 34, 35] (Mod.refl _ _) (by kernel_rfl) (by kernel_rfl) ?_
     refine QW.cons rfl (QP.val (v := (.pointer (some ⟨b179, 0, none⟩))) rfl (fun w' hm' => x_fieldAddr (fsz := 1) 0 0 0 U66 rfl Tryd_T2 rfl rfl rfl) ?_)
     refine QW.cons rfl (QP.val (v := (.int .i64 x171.Wind)) rfl (fun w' hm' => x_load1 U2 rfl rfl ((hL.call hm').cellB 0 rfl rfl)) ?_)
     obtain ⟨x216, hx217, hm⟩ := bndE hm
     refine QW.cons rfl (QP.call (v := (.bool x216)) rfl (fun w' hm' => x_call (vs := [(.int .i64 x171.Wind), (.int .i64 0), (.int .i64 1000)]) Tryd_C29 ⟨rfl, rfl, rfl, trivial⟩) (fun w' hm' => (M.impl_within_ok w' x171.Wind 0 1000 hx217).mono (fun e w'' h => ⟨h.1, hm'.trans h.2.mod⟩)) ?_)
     refine QW.cons rfl (QP.val (v := (.bool (!x216))) rfl (fun w' hm' => x_not rfl) ?_)
     refine QW.cons rfl (QP.val (v := (.bool (!x216))) rfl (fun w' hm' => x_move) ?_)
     refine ifB_elim hm (fun hb218 hm => ?_) (fun hb218 hm => ?_)
     · refine QW.cons rfl (QP.no' rfl rfl hb218 rfl ?_)
       refine QW.cons rfl (QP.no' rfl rfl hb218 rfl ?_)
       refine QW.cons rfl (QP.no' rfl rfl hb218 rfl ?_)
       refine QW.cons rfl (QP.no' rfl rfl hb218 rfl ?_)
       refine QW.cons rfl (QP.val (v := (.bool true)) rfl (fun w' hm' => x_pickT' rfl hb218 rfl) ?_)
       refine QW.cons rfl (QP.val (v := (.bool true)) rfl (fun w' hm' => x_move) ?_)
       refine QW.cons rfl (QP.no' rfl rfl rfl rfl ?_)
       refine QW.cons rfl (QP.no' rfl rfl rfl rfl ?_)
       refine QW.cons rfl (QP.no' rfl rfl rfl rfl ?_)
       refine QW.cons rfl (QP.noU rfl rfl rfl ?_)
       refine QW.cons rfl (QP.noU rfl rfl rfl ?_)
       refine QW.cons rfl (QP.noU rfl rfl rfl ?_)
       refine QW.cons rfl (QP.noU rfl rfl rfl ?_)
       refine QW.cons rfl (QP.noU rfl rfl rfl ?_)
       refine QW.cons rfl (QP.noU rfl rfl rfl ?_)
       refine QW.cons rfl (QP.noU rfl rfl rfl ?_)
       refine QW.cons rfl (QP.noU rfl rfl rfl ?_)
       refine QW.cons rfl (QP.noU rfl rfl rfl ?_)
       refine QW.cons rfl (QP.noU rfl rfl rfl ?_)
       refine QW.cons rfl (QP.noU rfl rfl rfl ?_)
       refine QW.cons rfl (QP.noU rfl rfl rfl ?_)
       refine QW.cons rfl (QP.noU rfl rfl rfl ?_)
       refine QW.cons rfl (QP.noU rfl rfl rfl ?_)
       refine QW.cons rfl (QP.noU rfl rfl rfl ?_)
       refine QW.cons rfl (QP.noU rfl rfl rfl ?_)
       refine QW.cons rfl (QP.noU rfl rfl rfl ?_)
       refine QW.cons rfl (QP.noU rfl rfl rfl ?_)
       refine QW.cons rfl (QP.noU rfl rfl rfl ?_)
       refine QW.cons rfl (QP.noU rfl rfl rfl ?_)
       refine QW.cons rfl (QP.no' rfl rfl rfl rfl ?_)
       refine QW.cons rfl (QP.val (v := (.bool true)) rfl (fun w' hm' => x_pickT' rfl rfl rfl) ?_)
       refine QW.nil ?_
       intro wd219 hmod
       have hL := hL.call hmod
       refine DW.done (by kernel_rfl) ?_
       exact ⟨true, hm, ⟨f166, f167, f168, f169, rfl, hL⟩⟩
     refine QW.cons rfl (QP.yes' rfl rfl hb218 (QP.val (v := (.pointer (some ⟨b179, 1, none⟩))) rfl (fun w' hm' => x_fieldAddr (fsz := 1) 0 1 1 U66 rfl Tryd_T2 rfl rfl rfl) ?_))
     refine QW.cons rfl (QP.yes' rfl rfl hb218 (QP.val (v := (.int .i64 x171.Pace)) rfl (fun w' hm' => x_load1 U2 rfl rfl ((hL.call hm').cellB 0 rfl rfl)) ?_))
     obtain ⟨x220, hx221, hm⟩ := bndE hm
     refine QW.cons rfl (QP.yes' rfl rfl hb218 (QP.call (v := (.bool x220)) rfl (fun w' hm' => x_call (vs := [(.int .i64 x171.Pace), (.int .i64 1), (.int .i64 1000000)]) Tryd_C29 ⟨rfl, rfl, rfl, trivial⟩) (fun w' hm' => (M.impl_within_ok w' x171.Pace 1 1000000 hx221).mono (fun e w'' h => ⟨h.1, hm'.trans h.2.mod⟩)) ?_))
     refine QW.cons rfl (QP.yes' rfl rfl hb218 (QP.val (v := (.bool (!x220))) rfl (fun w' hm' => x_not rfl) ?_))
     refine QW.cons rfl (QP.val (v := (.bool (!x220))) rfl (fun w' hm' => x_pickF' rfl hb218 rfl) ?_)
     refine QW.cons rfl (QP.val (v := (.bool (!x220))) rfl (fun w' hm' => x_move) ?_)
     refine ifB_elim hm (fun hb222 hm => ?_) (fun hb222 hm => ?_)
     · refine QW.cons rfl (QP.no' rfl rfl hb222 rfl ?_)
       refine QW.cons rfl (QP.no' rfl rfl hb222 rfl ?_)
       refine QW.cons rfl (QP.no' rfl rfl hb222 rfl ?_)
       refine QW.cons rfl (QP.noU rfl rfl rfl ?_)
       refine QW.cons rfl (QP.noU rfl rfl rfl ?_)
       refine QW.cons rfl (QP.noU rfl rfl rfl ?_)
       refine QW.cons rfl (QP.noU rfl rfl rfl ?_)
       refine QW.cons rfl (QP.noU rfl rfl rfl ?_)
       refine QW.cons rfl (QP.noU rfl rfl rfl ?_)
       refine QW.cons rfl (QP.noU rfl rfl rfl ?_)
       refine QW.cons rfl (QP.noU rfl rfl rfl ?_)
       refine QW.cons rfl (QP.noU rfl rfl rfl ?_)
       refine QW.cons rfl (QP.noU rfl rfl rfl ?_)
       refine QW.cons rfl (QP.noU rfl rfl rfl ?_)
       refine QW.cons rfl (QP.noU rfl rfl rfl ?_)
       refine QW.cons rfl (QP.noU rfl rfl rfl ?_)
       refine QW.cons rfl (QP.noU rfl rfl rfl ?_)
       refine QW.cons rfl (QP.noU rfl rfl rfl ?_)
       refine QW.cons rfl (QP.noU rfl rfl rfl ?_)
       refine QW.cons rfl (QP.noU rfl rfl rfl ?_)
       refine QW.cons rfl (QP.noU rfl rfl rfl ?_)
       refine QW.cons rfl (QP.noU rfl rfl rfl ?_)
       refine QW.cons rfl (QP.noU rfl rfl rfl ?_)
       refine QW.cons rfl (QP.no' rfl rfl hb222 rfl ?_)
       refine QW.cons rfl (QP.val (v := (.bool true)) rfl (fun w' hm' => x_pickT' rfl hb222 rfl) ?_)
       refine QW.nil ?_
       intro wd223 hmod
       have hL := hL.call hmod
       refine DW.done (by kernel_rfl) ?_
       exact ⟨true, hm, ⟨f166, f167, f168, f169, rfl, hL⟩⟩
     refine QW.cons rfl (QP.yes' rfl rfl hb222 (QP.val (v := (.int .i64 s_l1)) rfl (fun w' hm' => x_move) ?_))
     refine QW.cons rfl (QP.yes' rfl rfl hb222 (QP.val (v := (.bool (decide (0 < s_l1)))) rfl (fun w' hm' => x_gtr rfl rfl) ?_))
     refine QW.cons rfl (QP.yes' rfl rfl hb222 (QP.val (v := (.bool (decide (0 < s_l1)))) rfl (fun w' hm' => x_move) ?_))
     refine ifB_elim hm (fun hb224 hm => ?_) (fun hb224 hm => ?_)
     · refine QW.cons rfl (QP.yes' rfl rfl hb224 (QP.val (v := v1) rfl (fun w' hm' => x_mv f166) ?_))
       refine QW.cons rfl (QP.yes' rfl rfl hb224 (QP.val (v := (.int .i64 s_l1)) rfl (fun w' hm' => x_move) ?_))
       refine QW.cons rfl (QP.yes' rfl rfl hb224 (QP.val (v := (.int .i64 (w64 (s_l1 - 1)))) rfl (fun w' hm' => x_sub rfl rfl) ?_))
       obtain ⟨x225, ha226, hm⟩ := bndE hm
       obtain ⟨hz227, ha231⟩ := idxE ha226
       obtain ⟨b228, q229, hix230⟩ := rdL_ix (hL.rdS 1 rfl h2) hz227 ha231
       refine QW.cons rfl (QP.yes' rfl rfl hb224 (QP.val (v := (.pointer (some ⟨b228, q229, none⟩))) rfl (fun w' hm' => x_ix U31 Tryd_T66 rfl rfl hix230) ?_))
       refine QW.cons rfl (QP.yes' rfl rfl hb224 (QP.val (v := (.pointer (some ⟨b228, q229, none⟩))) rfl (fun w' hm' => x_fieldAddr (fsz := 1) q229 0 q229 U66 rfl Tryd_T2 rfl rfl rfl) ?_))
       refine QW.cons rfl (QP.yes' rfl rfl hb224 (QP.val (v := (.int .i64 x225.Wind)) rfl (fun w' hm' => x_load1 U2 rfl rfl (rdF_cells ((hL.call hm').rdS 1 rfl h2) hix230 ha231 0 _ rfl)) ?_))
       refine QW.cons rfl (QP.yes' rfl rfl hb224 (QP.val (v := (.pointer (some ⟨b179, 0, none⟩))) rfl (fun w' hm' => x_fieldAddr (fsz := 1) 0 0 0 U66 rfl Tryd_T2 rfl rfl rfl) ?_))
       refine QW.cons rfl (QP.yes' rfl rfl hb224 (QP.val (v := (.int .i64 x171.Wind)) rfl (fun w' hm' => x_load1 U2 rfl rfl ((hL.call hm').cellB 0 rfl rfl)) ?_))
       refine QW.cons rfl (QP.yes' rfl rfl hb224 (QP.val (v := (.bool (decide (x171.Wind ≤ x225.Wind)))) rfl (fun w' hm' => x_geq rfl rfl) ?_))
       refine QW.cons rfl (QP.yes' rfl rfl hb224 (QP.val (v := (.bool (decide (x171.Wind ≤ x225.Wind)))) rfl (fun w' hm' => x_move) ?_))
       refine ifB_elim hm (fun hb232 hm => ?_) (fun hb232 hm => ?_)
       · refine QW.cons rfl (QP.no' rfl rfl hb232 rfl ?_)
         refine QW.cons rfl (QP.no' rfl rfl hb232 rfl ?_)
         refine QW.cons rfl (QP.no' rfl rfl hb232 rfl ?_)
         refine QW.cons rfl (QP.no' rfl rfl hb232 rfl ?_)
         refine QW.cons rfl (QP.no' rfl rfl hb232 rfl ?_)
         refine QW.cons rfl (QP.no' rfl rfl hb232 rfl ?_)
         refine QW.cons rfl (QP.no' rfl rfl hb232 rfl ?_)
         refine QW.cons rfl (QP.no' rfl rfl hb232 rfl ?_)
         refine QW.cons rfl (QP.no' rfl rfl hb232 rfl ?_)
         refine QW.cons rfl (QP.yes' rfl rfl hb224 (QP.val (v := (.bool true)) rfl (fun w' hm' => x_pickT' rfl hb232 rfl) ?_))
         refine QW.cons rfl (QP.yes' rfl rfl hb222 (QP.val (v := (.bool true)) rfl (fun w' hm' => x_pickT' rfl hb224 rfl) ?_))
         refine QW.cons rfl (QP.val (v := (.bool true)) rfl (fun w' hm' => x_pickF' rfl hb222 rfl) ?_)
         refine QW.nil ?_
         intro wd233 hmod
         have hL := hL.call hmod
         refine DW.done (by kernel_rfl) ?_
         exact ⟨true, hm, ⟨f166, f167, f168, f169, rfl, hL⟩⟩
       refine QW.cons rfl (QP.yes' rfl rfl hb232 (QP.val (v := v1) rfl (fun w' hm' => x_mv f166) ?_))
       refine QW.cons rfl (QP.yes' rfl rfl hb232 (QP.val (v := (.int .i64 s_l1)) rfl (fun w' hm' => x_move) ?_))
       refine QW.cons rfl (QP.yes' rfl rfl hb232 (QP.val (v := (.int .i64 (w64 (s_l1 - 1)))) rfl (fun w' hm' => x_sub rfl rfl) ?_))
       obtain ⟨x234, ha235, hm⟩ := bndE hm
       obtain ⟨hz236, ha240⟩ := idxE ha235
       obtain ⟨b237, q238, hix239⟩ := rdL_ix (hL.rdS 1 rfl h2) hz236 ha240
       refine QW.cons rfl (QP.yes' rfl rfl hb232 (QP.val (v := (.pointer (some ⟨b237, q238, none⟩))) rfl (fun w' hm' => x_ix U31 Tryd_T66 rfl rfl hix239) ?_))
       refine QW.cons rfl (QP.yes' rfl rfl hb232 (QP.val (v := (.pointer (some ⟨b237, q238 + 1, none⟩))) rfl (fun w' hm' => x_fieldAddr (fsz := 1) q238 1 (q238 + 1) U66 rfl Tryd_T2 rfl rfl rfl) ?_))
       refine QW.cons rfl (QP.yes' rfl rfl hb232 (QP.val (v := (.int .i64 x234.Pace)) rfl (fun w' hm' => x_load1 U2 rfl rfl (rdF_cells ((hL.call hm').rdS 1 rfl h2) hix239 ha240 1 _ rfl)) ?_))
       refine QW.cons rfl (QP.yes' rfl rfl hb232 (QP.val (v := (.pointer (some ⟨b179, 1, none⟩))) rfl (fun w' hm' => x_fieldAddr (fsz := 1) 0 1 1 U66 rfl Tryd_T2 rfl rfl rfl) ?_))
       refine QW.cons rfl (QP.yes' rfl rfl hb232 (QP.val (v := (.int .i64 x171.Pace)) rfl (fun w' hm' => x_load1 U2 rfl rfl ((hL.call hm').cellB 0 rfl rfl)) ?_))
       refine QW.cons rfl (QP.yes' rfl rfl hb232 (QP.val (v := (.bool (decide (x234.Pace ≤ x171.Pace)))) rfl (fun w' hm' => x_leq rfl rfl) ?_))
       refine QW.cons rfl (QP.yes' rfl rfl hb224 (QP.val (v := (.bool (decide (x234.Pace ≤ x171.Pace)))) rfl (fun w' hm' => x_pickF' rfl hb232 rfl) ?_))
       refine QW.cons rfl (QP.yes' rfl rfl hb222 (QP.val (v := (.bool (decide (x234.Pace ≤ x171.Pace)))) rfl (fun w' hm' => x_pickT' rfl hb224 rfl) ?_))
       refine QW.cons rfl (QP.val (v := (.bool (decide (x234.Pace ≤ x171.Pace)))) rfl (fun w' hm' => x_pickF' rfl hb222 rfl) ?_)
       refine QW.nil ?_
       intro wd241 hmod
       have hL := hL.call hmod
       refine DW.done (by kernel_rfl) ?_
       exact ⟨decide (x234.Pace ≤ x171.Pace), hm, ⟨f166, f167, f168, f169, rfl, hL⟩⟩
     refine QW.cons rfl (QP.no' rfl rfl hb224 rfl ?_)
     refine QW.cons rfl (QP.no' rfl rfl hb224 rfl ?_)
     refine QW.cons rfl (QP.no' rfl rfl hb224 rfl ?_)
     refine QW.cons rfl (QP.no' rfl rfl hb224 rfl ?_)
     refine QW.cons rfl (QP.no' rfl rfl hb224 rfl ?_)
     refine QW.cons rfl (QP.no' rfl rfl hb224 rfl ?_)
     refine QW.cons rfl (QP.no' rfl rfl hb224 rfl ?_)
     refine QW.cons rfl (QP.no' rfl rfl hb224 rfl ?_)
     refine QW.cons rfl (QP.no' rfl rfl hb224 rfl ?_)
     refine QW.cons rfl (QP.no' rfl rfl hb224 rfl ?_)
     refine QW.cons rfl (QP.noU rfl rfl rfl ?_)
     refine QW.cons rfl (QP.noU rfl rfl rfl ?_)
     refine QW.cons rfl (QP.noU rfl rfl rfl ?_)
     refine QW.cons rfl (QP.noU rfl rfl rfl ?_)
     refine QW.cons rfl (QP.noU rfl rfl rfl ?_)
     refine QW.cons rfl (QP.noU rfl rfl rfl ?_)
     refine QW.cons rfl (QP.noU rfl rfl rfl ?_)
     refine QW.cons rfl (QP.noU rfl rfl rfl ?_)
     refine QW.cons rfl (QP.noU rfl rfl rfl ?_)
     refine QW.cons rfl (QP.no' rfl rfl hb224 rfl ?_)
     refine QW.cons rfl (QP.yes' rfl rfl hb222 (QP.val (v := (.bool false)) rfl (fun w' hm' => x_pickF' rfl hb224 rfl) ?_))
     refine QW.cons rfl (QP.val (v := (.bool false)) rfl (fun w' hm' => x_pickF' rfl hb222 rfl) ?_)
     refine QW.nil ?_
     intro wd242 hmod
     have hL := hL.call hmod
     refine DW.done (by kernel_rfl) ?_
     exact ⟨false, hm, ⟨f166, f167, f168, f169, rfl, hL⟩⟩
   intro s_j2 F208 wd209 hJ hm
   unfold M.impl_IsCurve_j2 at hm
   obtain ⟨f210, f211, f212, f213, f214, hL⟩ := hJ
   refine CW.condM (t := s_j2) f214 hm (fun hb215 hm => ?_) (fun hb215 hm => ?_)
   · refine CSR ?_
     refine OV (.bool false) rfl (x_assign) ?_
     refine OW.nil ?_
     refine CW.ret ?_
     obtain rfl := Option.some.inj hm
     have hm := hr150 _ rfl
     obtain rfl := Option.some.inj hm
     exact RR1 rfl rfl ⟨rfl, hL.fresh 1 rfl [] (by decide) (by decide) rfl⟩
   refine CW.skip ?_
   refine CW.regionL ?_
   refine OV (.int .i64 (w64 (s_l1 + 1))) rfl (x_add f213 rfl) ?_
   refine OV (.int .i64 (w64 (s_l1 + 1))) rfl (x_move) ?_
   refine OW.nil ?_
   have hL := hL.sel [1] (by decide) rfl
   obtain rfl := Option.some.inj hm
   exact ⟨_, rfl, ⟨f210, f211, f212, rfl, hL⟩⟩
 refine CW.exit ?_
 refine XJ.hit ?_
 obtain rfl := Option.some.inj hm
 exact ⟨_, rfl, ⟨f166, f167, f168, f169, hL⟩⟩

theorem M.strings_Join_ok (w0 : World) (a0 : List ByteArray) {v1 : Value} (h2 : rdL (· < w0.heap.size) w0 v1 a0) (a1 : ByteArray) {r : ByteArray} (hm : M.strings_Join a0 a1 = some r) :
    Calls Tryd.prog 37 #[v1, (.string a1)] w0 fun e w' => e = .returned (.string r) ∧ Fresh w0 w' [] :=
  join_fits h2 hm (fun bk o c q1 q2 q3 q4 q5 => Any.strings_Join joinLaid joinX bk o c a0 a1 w0 q1 q2 q3 q4 q5) (fun a c => Any.strings_Join_none joinLaid joinX a c a1 w0)

theorem M.impl_CurveText_ok (w0 : World) (htab : Lib.TabIs Tryd.prog w0 "internal/strconv.uint64pow10" .u64 Lib.pow10Tab) (a0 : List CurvePoint) {v1 : Value} (h2 : rdL (· < w0.heap.size) w0 v1 a0) {r : ByteArray} (hm : M.impl_CurveText a0 = some r) :
    Calls Tryd.prog 13 #[v1] w0 fun e w' => e = .returned (.string r) ∧ Fresh w0 w' [] := by
 unfold M.impl_CurveText at hm
 refine calls_CW (args := [v1]) Tryd.func13 rfl rfl rfl ?_
 have hL := Hp.start w0
 refine CSR ?_
 refine OV (.string (⟨#[]⟩ : ByteArray)) rfl (x_assign) ?_
 refine ONS ?_
 refine CSR ?_
 refine OV v1 rfl (x_move) ?_
 obtain ⟨x3, hx4, hm⟩ := bndE hm
 refine OW.cons (OP.call rfl (x_call (vs := [v1]) Tryd_C36 ⟨rfl, trivial⟩) (M.impl_IsCurve_ok _ a0 (hL.rdS 0 rfl h2) hx4) ?_)
 rintro e5 wd6 ⟨rfl, hF7⟩
 refine ⟨_, rfl, ?_⟩
 have hL := hL.pushAll hF7
 simp only [lA, lB, lC, lD] at hL
 refine OV (.bool (!x3)) rfl (x_not rfl) ?_
 refine OW.nil ?_
 refine CW.condM (t := !x3) rfl hm (fun hb8 hm => ?_) (fun hb8 hm => ?_)
 · refine CSR ?_
   refine OV (.string (⟨#[]⟩ : ByteArray)) rfl (x_assign) ?_
   refine OW.nil ?_
   refine CW.ret ?_
   obtain rfl := Option.some.inj hm
   exact RR1 rfl rfl ⟨rfl, hL.fresh 0 rfl [] (by decide) (by decide) rfl⟩
 refine CW.skip ?_
 refine CSR ?_
 refine OW.cons (S_lit ([] : List ByteArray) hL U60 Tryd_T9 rfl (by decide) (by first | (simp [Instr.fill, madeCells, Value.cells, ev, upd, Flat.enc, Flat.sz]; done) | rfl | kernel_rfl) rfl rfl ?_)
 intro wd9 v10 S11 hL
 refine OV v10 rfl (x_assign) ?_
 refine ONS ?_
 refine CSR ?_
 refine OV v1 rfl (x_move) ?_
 refine OV (.int .i64 (a0.length : Int)) rfl (x_lenR U31 rfl (hL.rdS 1 rfl h2)) ?_
 refine OV (.int .i64 0) rfl (x_move) ?_
 refine OW.nil ?_
 obtain ⟨o116, ho117, hm⟩ := bndE hm
 refine CW.loopB (fun (s_l1 : (List ByteArray) × Int) (F : Fr) (w : World) => ∃ (v112 : Value) (S113 : Nat → Prop), F 3 = v112 ∧ F 10 = v1 ∧ F 11 = (.int .i64 (a0.length : Int)) ∧ F 12 = (.int .i64 s_l1.2) ∧ Hp w0 [Ent.own 9 S113 v112 s_l1.1, Ent.snap w0 w0.heap.size] w) (fun o => outc o (fun x => some x) (fun s => M.impl_CurveText_a1 s) = some r) ho117 hm ⟨v10, S11, rfl, rfl, rfl, rfl, hL⟩ ?_ ?_
 · intro s_l1 F118 wd119 hJ hm
   have hm := outcE hm
   have hm : M.impl_CurveText_a1 s_l1 = some r := hm
   unfold M.impl_CurveText_a1 at hm
   obtain ⟨v112, S113, f120, f121, f122, f123, hL⟩ := hJ
   refine CSR ?_
   refine OV v112 rfl (x_mv f120) ?_
   obtain ⟨x124, hx125, hm⟩ := bndE hm
   refine OW.cons (OP.call rfl (x_call (vs := [v112, (.string (⟨#[32]⟩ : ByteArray))]) Tryd_C37 ⟨rfl, rfl, trivial⟩) (M.strings_Join_ok _ s_l1.1 (hL.rdO 0 rfl) (⟨#[32]⟩ : ByteArray) hx125) ?_)
   rintro e126 wd127 ⟨rfl, hF128⟩
   refine ⟨_, rfl, ?_⟩
   have hL := hL.pushAll hF128
   simp only [lA, lB, lC, lD] at hL
   refine OV (.string x124) rfl (x_assign) ?_
   refine OW.nil ?_
   refine CW.ret ?_
   obtain rfl := Option.some.inj hm
   exact RR1 rfl rfl ⟨rfl, hL.fresh 1 rfl [] (by decide) (by decide) rfl⟩
 intro s_l1 F129 wd130 t114 hJ hm hr115
 unfold M.impl_CurveText_l1 at hm
 obtain ⟨v112, S113, f131, f132, f133, f134, hL⟩ := hJ
 refine CSR ?_
 refine OV (.bool (decide (s_l1.2 < (a0.length : Int)))) rfl (x_lss f134 f133) ?_
 refine ONS ?_
 refine CW.condM (t := decide (s_l1.2 < (a0.length : Int))) rfl hm (fun hb135 hm => ?_) (fun hb135 hm => ?_)
 · refine CW.skip ?_
   refine CW.seq ?_
   refine CW.block ?_
   refine CSR ?_
   obtain ⟨x136, ha137, hm⟩ := bndE hm
   obtain ⟨hz138, ha142⟩ := idxE ha137
   obtain ⟨b139, q140, hix141⟩ := rdL_ix (hL.rdS 1 rfl h2) hz138 ha142
   refine OV (.pointer (some ⟨b139, q140, none⟩)) rfl (x_ix U31 Tryd_T66 f132 f134 hix141) ?_
   refine OV (.agg #[(.int .i64 x136.Wind), (.int .i64 x136.Pace)]) rfl (x_loadN (cs := [(.int .i64 x136.Wind), (.int .i64 x136.Pace)]) U66 Tryd_T66 rfl rfl (rdF_cells (hL.rdS 1 rfl h2) hix141 ha142)) ?_
   refine OW.cons (S_alloc (cs := #[(.int .i64 0), (.int .i64 0)]) hL Tryd_T66 rfl rfl ?_)
   intro wd143 b144 hL
   refine OW.cons (S_storeN (l := [(.int .i64 x136.Wind), (.int .i64 x136.Pace)]) (cs' := #[(.int .i64 x136.Wind), (.int .i64 x136.Pace)]) hL 0 rfl Tryd_T66 rfl rfl (List.forall_mem_cons.2 ⟨rfl, (List.forall_mem_cons.2 ⟨rfl, (fun _ h => by cases h)⟩)⟩) rfl (Nat.le_of_ble_eq_true rfl) rfl ?_)
   intro wd145 hL
   refine OW.nil ?_
   refine CW.drawH (fun w' => Hp w0 [Ent.blk b144 66 #[(.int .i64 x136.Wind), (.int .i64 x136.Pace)], Ent.snap w0 w0.heap.size] w') Tryd_mixed ?_
   have hL := hL.call (Mod.drew _)
   have hS := (hL.sel [0, 2] (by decide) rfl)
   refine DH.take 0 rfl (by kernel_rfl) (by kernel_rfl) (by kernel_rfl) rfl rfl hS (YH.val (v := v112) (fun w' hS' => x_mv f131)) ?_
   have hS := (hL.sel [0, 2] (by decide) rfl)
   refine DH.take 1 rfl (by kernel_rfl) (by kernel_rfl) (by kernel_rfl) rfl rfl hS (YH.val (v := (.pointer (some ⟨b144, 0, none⟩))) (fun w' hS' => x_fieldAddr (fsz := 1) 0 0 0 U66 rfl Tryd_T2 rfl rfl rfl)) ?_
   have hS := (hL.sel [0, 2] (by decide) rfl)
   refine DH.take 2 rfl (by kernel_rfl) (by kernel_rfl) (by kernel_rfl) rfl rfl hS (YH.val (v := (.int .i64 x136.Wind)) (fun w' hS' => x_load1 U2 rfl rfl (hS'.cellB 0 rfl rfl))) ?_
   have hS := (hL.sel [0, 2] (by decide) rfl)
   refine DH.take 5 rfl (by kernel_rfl) (by kernel_rfl) (by kernel_rfl) rfl rfl hS (YH.val (v := (.pointer (some ⟨b144, 1, none⟩))) (fun w' hS' => x_fieldAddr (fsz := 1) 0 1 1 U66 rfl Tryd_T2 rfl rfl rfl)) ?_
   have hS := (hL.sel [0, 2] (by decide) rfl)
   refine DH.take 6 rfl (by kernel_rfl) (by kernel_rfl) (by kernel_rfl) rfl rfl hS (YH.val (v := (.int .i64 x136.Pace)) (fun w' hS' => x_load1 U2 rfl rfl (hS'.cellB 0 rfl rfl))) ?_
   obtain ⟨x165, hx166, hm⟩ := bndE hm
   refine DH.only 3 rfl (by kernel_rfl) (OP.call rfl (x_call (vs := [(.int .i64 x136.Wind)]) Tryd_C32 ⟨rfl, trivial⟩) (M.impl_text_ok _ (hL.tab 2 rfl rfl htab) x136.Wind hx166) ?_)
   rintro e167 wd168 ⟨rfl, hF169⟩
   refine ⟨_, rfl, ?_⟩
   have hL := hL.pushAll hF169
   simp only [lA, lB, lC, lD] at hL
   refine ⟨(hL.sel [0, 2] (by decide) rfl), ?_⟩
   have hS := (hL.sel [0, 2] (by decide) rfl)
   obtain ⟨hc170, hm⟩ := chkE hm
   refine DH.take 4 rfl (by kernel_rfl) (by kernel_rfl) (by kernel_rfl) rfl rfl hS (YH.val (v := (.string (x165 ++ (⟨#[58]⟩ : ByteArray)))) (fun w' hS' => x_addT rfl rfl hc170)) ?_
   obtain ⟨x171, hx172, hm⟩ := bndE hm
   refine DH.only 7 rfl (by kernel_rfl) (OP.call rfl (x_call (vs := [(.int .i64 x136.Pace)]) Tryd_C32 ⟨rfl, trivial⟩) (M.impl_text_ok _ (hL.tab 2 rfl rfl htab) x136.Pace hx172) ?_)
   rintro e173 wd174 ⟨rfl, hF175⟩
   refine ⟨_, rfl, ?_⟩
   have hL := hL.pushAll hF175
   simp only [lA, lB, lC, lD] at hL
   refine ⟨(hL.sel [0, 2] (by decide) rfl), ?_⟩
   have hS := (hL.sel [0, 2] (by decide) rfl)
   obtain ⟨hc176, hm⟩ := chkE hm
   refine DH.take 8 rfl (by kernel_rfl) (by kernel_rfl) (by kernel_rfl) rfl rfl hS (YH.val (v := (.string ((x165 ++ (⟨#[58]⟩ : ByteArray)) ++ x171))) (fun w' hS' => x_addT rfl rfl hc176)) ?_
   refine DH.only 9 rfl (by kernel_rfl) (S_lit ([(x165 ++ (⟨#[58]⟩ : ByteArray)) ++ x171] : List ByteArray) hL U60 Tryd_T9 rfl (by decide) (by first | (simp [Instr.fill, madeCells, Value.cells, ev, upd, Flat.enc, Flat.sz]; done) | rfl | kernel_rfl) rfl rfl ?_)
   intro wd177 v178 S179 hL
   refine ⟨(hL.sel [1, 3] (by decide) rfl), ?_⟩
   obtain ⟨hc183, hm⟩ := chkE hm
   refine DH.only 10 rfl (by kernel_rfl) (S_append (ys := ([(x165 ++ (⟨#[58]⟩ : ByteArray)) ++ x171] : List ByteArray)) hL 2 rfl U60 Tryd_T9 rfl rfl rfl (hL.rdO 0 rfl) hc183 (by decide) rfl ?_)
   intro wd180 v181 S182 hL
   refine ⟨(hL.sel [1, 3] (by decide) rfl), ?_⟩
   have hS := (hL.sel [1, 3] (by decide) rfl)
   refine DH.take 11 rfl (by kernel_rfl) (by kernel_rfl) (by kernel_rfl) rfl rfl hS (YH.val (v := v181) (fun w' hS' => x_assign)) ?_
   refine DH.done (by kernel_rfl) ?_
   refine CW.regionL ?_
   refine OV (.int .i64 (w64 (s_l1.2 + 1))) rfl (x_add f134 rfl) ?_
   refine OV (.int .i64 (w64 (s_l1.2 + 1))) rfl (x_move) ?_
   refine OW.nil ?_
   have hL := hL.sel [2, 3] (by decide) rfl
   obtain rfl := Option.some.inj hm
   exact ⟨_, rfl, ⟨v181, S182, rfl, f132, f133, rfl, hL⟩⟩
 refine CW.exit ?_
 refine XJ.hit ?_
 obtain rfl := Option.some.inj hm
 exact ⟨_, rfl, ⟨v112, S113, f131, f132, f133, f134, hL⟩⟩

theorem M.laws_eqCurvePoint_ok (w0 : World) (a0 : CurvePoint) (a1 : CurvePoint) {r : Bool} (hm : M.laws_eqCurvePoint a0 a1 = some r) :
    Calls Tryd.prog 38 #[(.agg #[(.int .i64 a0.Wind), (.int .i64 a0.Pace)]), (.agg #[(.int .i64 a1.Wind), (.int .i64 a1.Pace)])] w0 fun e w' => e = .returned (.bool r) ∧ Fresh w0 w' [] := by
 unfold M.laws_eqCurvePoint at hm
 refine calls_CW (args := [(.agg #[(.int .i64 a0.Wind), (.int .i64 a0.Pace)]), (.agg #[(.int .i64 a1.Wind), (.int .i64 a1.Pace)])]) Tryd.func38 rfl rfl rfl ?_
 have hL := Hp.start w0
 refine CSR ?_
 refine OW.cons (S_box (cs := #[(.int .i64 a0.Wind), (.int .i64 a0.Pace)]) hL rfl rfl rfl ?_)
 intro wd1 b2 hL
 refine OW.cons (S_box (cs := #[(.int .i64 a1.Wind), (.int .i64 a1.Pace)]) hL rfl rfl rfl ?_)
 intro wd3 b4 hL
 refine OV (.bool false) rfl (x_assign) ?_
 refine ONS ?_
 refine CSR ?_
 refine OV (.pointer (some ⟨b2, 0, none⟩)) rfl (x_fieldAddr (fsz := 1) 0 0 0 U66 rfl Tryd_T2 rfl rfl rfl) ?_
 refine OV (.int .i64 a0.Wind) rfl (x_load1 U2 rfl rfl (hL.cellB 1 rfl rfl)) ?_
 refine OV (.pointer (some ⟨b4, 0, none⟩)) rfl (x_fieldAddr (fsz := 1) 0 0 0 U66 rfl Tryd_T2 rfl rfl rfl) ?_
 refine OV (.int .i64 a1.Wind) rfl (x_load1 U2 rfl rfl (hL.cellB 0 rfl rfl)) ?_
 refine OV (.bool (a0.Wind != a1.Wind)) rfl (x_neq rfl rfl) ?_
 refine OW.nil ?_
 refine CW.condM (t := a0.Wind != a1.Wind) rfl hm (fun hb5 hm => ?_) (fun hb5 hm => ?_)
 · refine CSR ?_
   refine OV (.bool false) rfl (x_assign) ?_
   refine OW.nil ?_
   refine CW.ret ?_
   obtain rfl := Option.some.inj hm
   exact RR1 rfl rfl ⟨rfl, hL.fresh 2 rfl [] (by decide) (by decide) rfl⟩
 refine CW.skip ?_
 refine CW.seq ?_
 refine CSR ?_
 refine OV (.pointer (some ⟨b2, 1, none⟩)) rfl (x_fieldAddr (fsz := 1) 0 1 1 U66 rfl Tryd_T2 rfl rfl rfl) ?_
 refine OV (.int .i64 a0.Pace) rfl (x_load1 U2 rfl rfl (hL.cellB 1 rfl rfl)) ?_
 refine OV (.pointer (some ⟨b4, 1, none⟩)) rfl (x_fieldAddr (fsz := 1) 0 1 1 U66 rfl Tryd_T2 rfl rfl rfl) ?_
 refine OV (.int .i64 a1.Pace) rfl (x_load1 U2 rfl rfl (hL.cellB 0 rfl rfl)) ?_
 refine OV (.bool (a0.Pace != a1.Pace)) rfl (x_neq rfl rfl) ?_
 refine OW.nil ?_
 refine CW.condM (t := a0.Pace != a1.Pace) rfl hm (fun hb6 hm => ?_) (fun hb6 hm => ?_)
 · refine CSR ?_
   refine OV (.bool false) rfl (x_assign) ?_
   refine OW.nil ?_
   refine CW.ret ?_
   obtain rfl := Option.some.inj hm
   exact RR1 rfl rfl ⟨rfl, hL.fresh 2 rfl [] (by decide) (by decide) rfl⟩
 refine CW.skip ?_
 refine CSR ?_
 refine OV (.bool true) rfl (x_assign) ?_
 refine OW.nil ?_
 refine CW.ret ?_
 obtain rfl := Option.some.inj hm
 exact RR1 rfl rfl ⟨rfl, hL.fresh 2 rfl [] (by decide) (by decide) rfl⟩

theorem M.laws_eqCurvePointS_ok (w0 : World) (a0 : List CurvePoint) {v1 : Value} (h2 : rdL (· < w0.heap.size) w0 v1 a0) (a1 : List CurvePoint) {v3 : Value} (h4 : rdL (· < w0.heap.size) w0 v3 a1) {r : Bool} (hm : M.laws_eqCurvePointS a0 a1 = some r) :
    Calls Tryd.prog 14 #[v1, v3] w0 fun e w' => e = .returned (.bool r) ∧ Fresh w0 w' [] := by
 unfold M.laws_eqCurvePointS at hm
 refine calls_CW (args := [v1, v3]) Tryd.func14 rfl rfl rfl ?_
 have hL := Hp.start w0
 refine CSR ?_
 refine OV (.bool false) rfl (x_assign) ?_
 refine ONS ?_
 refine CSR ?_
 refine OV v1 rfl (x_move) ?_
 refine OV (.int .i64 (a0.length : Int)) rfl (x_lenR U31 rfl (hL.rdS 0 rfl h2)) ?_
 refine OV v3 rfl (x_move) ?_
 refine OV (.int .i64 (a1.length : Int)) rfl (x_lenR U31 rfl (hL.rdS 0 rfl h4)) ?_
 refine OV (.bool ((a0.length : Int) != (a1.length : Int))) rfl (x_neq rfl rfl) ?_
 refine OW.nil ?_
 refine CW.condM (t := (a0.length : Int) != (a1.length : Int)) rfl hm (fun hb5 hm => ?_) (fun hb5 hm => ?_)
 · refine CSR ?_
   refine OV (.bool false) rfl (x_assign) ?_
   refine OW.nil ?_
   refine CW.ret ?_
   obtain rfl := Option.some.inj hm
   exact RR1 rfl rfl ⟨rfl, hL.fresh 0 rfl [] (by decide) (by decide) rfl⟩
 refine CW.skip ?_
 refine CW.seq ?_
 refine CSR ?_
 refine OV (.int .i64 0) rfl (x_assign) ?_
 refine OW.nil ?_
 obtain ⟨o46, ho47, hm⟩ := bndE hm
 refine CW.loopB (fun (s_l1 : Int) (F : Fr) (w : World) => F 0 = v1 ∧ F 1 = v3 ∧ F 5 = (.int .i64 s_l1) ∧ Hp w0 [Ent.snap w0 w0.heap.size] w) (fun o => outc o (fun x => some x) (fun s => M.laws_eqCurvePointS_a1 s) = some r) ho47 hm ⟨rfl, rfl, rfl, hL⟩ ?_ ?_
 · intro s_l1 F48 wd49 hJ hm
   have hm := outcE hm
   have hm : M.laws_eqCurvePointS_a1 s_l1 = some r := hm
   unfold M.laws_eqCurvePointS_a1 at hm
   obtain ⟨f50, f51, f52, hL⟩ := hJ
   refine CSR ?_
   refine OV (.bool true) rfl (x_assign) ?_
   refine OW.nil ?_
   refine CW.ret ?_
   obtain rfl := Option.some.inj hm
   exact RR1 rfl rfl ⟨rfl, hL.fresh 0 rfl [] (by decide) (by decide) rfl⟩
 intro s_l1 F53 wd54 t44 hJ hm hr45
 unfold M.laws_eqCurvePointS_l1 at hm
 obtain ⟨f55, f56, f57, hL⟩ := hJ
 refine CW.seq ?_
 refine CSR ?_
 refine OV (.int .i64 s_l1) rfl (x_mv f57) ?_
 refine OV v1 rfl (x_mv f55) ?_
 refine OV (.int .i64 (a0.length : Int)) rfl (x_lenR U31 rfl (hL.rdS 0 rfl h2)) ?_
 refine OV (.bool (decide (s_l1 < (a0.length : Int)))) rfl (x_lss rfl rfl) ?_
 refine OW.nil ?_
 refine CW.condM (t := decide (s_l1 < (a0.length : Int))) rfl hm (fun hb58 hm => ?_) (fun hb58 hm => ?_)
 · refine CW.skip ?_
   refine CW.seq ?_
   refine CW.block ?_
   refine CW.seq ?_
   refine CW.draw Tryd_mixed ?_
   have hL := hL.call (Mod.drew _)
   refine DW.pre (fuel := 0) (fin := bma 10 1023) (C := fun w' => Mod None_ _ w') [0, 1, 2, 3, 4, 5, 6, 7, 8, 9] (Mod.refl _ _) (by kernel_rfl) (by kernel_rfl) ?_
   refine QW.cons rfl (QP.val (v := v1) rfl (fun w' hm' => x_mv f55) ?_)
   refine QW.cons rfl (QP.val (v := (.int .i64 s_l1)) rfl (fun w' hm' => x_mv f57) ?_)
   obtain ⟨x59, ha60, hm⟩ := bndE hm
   obtain ⟨hz61, ha65⟩ := idxE ha60
   obtain ⟨b62, q63, hix64⟩ := rdL_ix (hL.rdS 0 rfl h2) hz61 ha65
   refine QW.cons rfl (QP.val (v := (.pointer (some ⟨b62, q63, none⟩))) rfl (fun w' hm' => x_ix U31 Tryd_T66 rfl rfl hix64) ?_)
   refine QW.cons rfl (QP.val (v := (.agg #[(.int .i64 x59.Wind), (.int .i64 x59.Pace)])) rfl (fun w' hm' => x_loadN (cs := [(.int .i64 x59.Wind), (.int .i64 x59.Pace)]) U66 Tryd_T66 rfl rfl (rdF_cells ((hL.call hm').rdS 0 rfl h2) hix64 ha65)) ?_)
   refine QW.cons rfl (QP.val (v := v3) rfl (fun w' hm' => x_mv f56) ?_)
   refine QW.cons rfl (QP.val (v := (.int .i64 s_l1)) rfl (fun w' hm' => x_mv f57) ?_)
   obtain ⟨x66, ha67, hm⟩ := bndE hm
   obtain ⟨hz68, ha72⟩ := idxE ha67
   obtain ⟨b69, q70, hix71⟩ := rdL_ix (hL.rdS 0 rfl h4) hz68 ha72
   refine QW.cons rfl (QP.val (v := (.pointer (some ⟨b69, q70, none⟩))) rfl (fun w' hm' => x_ix U31 Tryd_T66 rfl rfl hix71) ?_)
   refine QW.cons rfl (QP.val (v := (.agg #[(.int .i64 x66.Wind), (.int .i64 x66.Pace)])) rfl (fun w' hm' => x_loadN (cs := [(.int .i64 x66.Wind), (.int .i64 x66.Pace)]) U66 Tryd_T66 rfl rfl (rdF_cells ((hL.call hm').rdS 0 rfl h4) hix71 ha72)) ?_)
   obtain ⟨x73, hx74, hm⟩ := bndE hm
   refine QW.cons rfl (QP.call (v := (.bool x73)) rfl (fun w' hm' => x_call (vs := [(.agg #[(.int .i64 x59.Wind), (.int .i64 x59.Pace)]), (.agg #[(.int .i64 x66.Wind), (.int .i64 x66.Pace)])]) Tryd_C38 ⟨rfl, rfl, trivial⟩) (fun w' hm' => (M.laws_eqCurvePoint_ok w' x59 x66 hx74).mono (fun e w'' h => ⟨h.1, hm'.trans h.2.mod⟩)) ?_)
   refine QW.cons rfl (QP.val (v := (.bool (!x73))) rfl (fun w' hm' => x_not rfl) ?_)
   refine QW.nil ?_
   intro wd75 hmod
   have hL := hL.call hmod
   refine DW.done (by kernel_rfl) ?_
   refine CW.condM (t := !x73) rfl hm (fun hb76 hm => ?_) (fun hb76 hm => ?_)
   · refine CSR ?_
     refine OV (.bool false) rfl (x_assign) ?_
     refine OW.nil ?_
     refine CW.ret ?_
     obtain rfl := Option.some.inj hm
     have hm := hr45 _ rfl
     obtain rfl := Option.some.inj hm
     exact RR1 rfl rfl ⟨rfl, hL.fresh 0 rfl [] (by decide) (by decide) rfl⟩
   refine CW.skip ?_
   refine CW.regionL ?_
   refine OV (.int .i64 s_l1) rfl (x_mv f57) ?_
   refine OV (.int .i64 (w64 (s_l1 + 1))) rfl (x_add rfl rfl) ?_
   refine OV (.int .i64 (w64 (s_l1 + 1))) rfl (x_assign) ?_
   refine OW.nil ?_
   obtain rfl := Option.some.inj hm
   exact ⟨_, rfl, ⟨f55, f56, rfl, hL⟩⟩
 refine CW.exit ?_
 refine XJ.hit ?_
 obtain rfl := Option.some.inj hm
 exact ⟨_, rfl, ⟨f55, f56, f57, hL⟩⟩

theorem M.laws_FnExactCurveText_ok (w0 : World) (htab : Lib.TabIs Tryd.prog w0 "internal/strconv.uint64pow10" .u64 Lib.pow10Tab) (a0 : List CurvePoint) {v1 : Value} (h2 : rdL (· < w0.heap.size) w0 v1 a0) {r : Bool} (hm : M.laws_FnExactCurveText a0 = some r) :
    Calls Tryd.prog 4 #[v1] w0 fun e w' => e = .returned (.bool r) ∧ Fresh w0 w' [] := by
 unfold M.laws_FnExactCurveText at hm
 refine calls_CW (args := [v1]) Tryd.func4 rfl rfl rfl ?_
 have hL := Hp.start w0
 refine CSR ?_
 refine OV (.bool false) rfl (x_assign) ?_
 refine ONR ?_
 refine OV (.int .i64 1048576) rfl (x_assign) ?_
 refine ONR ?_
 refine OV v1 rfl (x_move) ?_
 refine OV (.int .i64 1048576) rfl (x_move) ?_
 obtain ⟨x3, hx4, hm⟩ := bndE hm
 refine OW.cons (OP.call rfl (x_call (vs := [v1, (.int .i64 1048576)]) Tryd_C10 ⟨rfl, rfl, trivial⟩) (M.laws_szCurvePointS_ok _ a0 (hL.rdS 0 rfl h2) 1048576 hx4) ?_)
 rintro e5 wd6 ⟨rfl, hF7⟩
 refine ⟨_, rfl, ?_⟩
 have hL := hL.pushAll hF7
 simp only [lA, lB, lC, lD] at hL
 refine OV (.int .i64 x3) rfl (x_assign) ?_
 refine ONS ?_
 refine CSR ?_
 refine OV (.int .i64 x3) rfl (x_move) ?_
 refine OV (.bool (decide (x3 < 0))) rfl (x_lss rfl rfl) ?_
 refine OW.nil ?_
 refine CW.condM (t := decide (x3 < 0)) rfl hm (fun hb8 hm => ?_) (fun hb8 hm => ?_)
 · refine CSR ?_
   refine OV (.bool true) rfl (x_assign) ?_
   refine OW.nil ?_
   refine CW.ret ?_
   obtain rfl := Option.some.inj hm
   exact RR1 rfl rfl ⟨rfl, hL.fresh 0 rfl [] (by decide) (by decide) rfl⟩
 refine CW.skip ?_
 refine CSR ?_
 refine OV v1 rfl (x_move) ?_
 obtain ⟨x9, hx10, hm⟩ := bndE hm
 refine OW.cons (OP.call rfl (x_call (vs := [v1]) Tryd_C12 ⟨rfl, trivial⟩) (M.laws_toCurvePointS_ok _ a0 (hL.rdS 0 rfl h2) hx10) ?_)
 rintro e13 wd14 ⟨v12, S11, rfl, hF15⟩
 refine ⟨_, rfl, ?_⟩
 have hL := hL.pushAll hF15
 simp only [lA, lB, lC, lD] at hL
 obtain ⟨x16, hx17, hm⟩ := bndE hm
 refine OW.cons (OP.call rfl (x_call (vs := [v12]) Tryd_C11 ⟨rfl, trivial⟩) (M.spec_CurveText_ok _ x9 (hL.rdO 0 rfl) hx17) ?_)
 rintro e18 wd19 ⟨rfl, hF20⟩
 refine ⟨_, rfl, ?_⟩
 have hL := hL.pushAll hF20
 simp only [lA, lB, lC, lD] at hL
 refine OV (.string x16) rfl (x_assign) ?_
 refine ONR ?_
 refine OV v1 rfl (x_move) ?_
 obtain ⟨x21, hx22, hm⟩ := bndE hm
 refine OW.cons (OP.call rfl (x_call (vs := [v1]) Tryd_C12 ⟨rfl, trivial⟩) (M.laws_toCurvePointS_ok _ a0 (hL.rdS 1 rfl h2) hx22) ?_)
 rintro e25 wd26 ⟨v24, S23, rfl, hF27⟩
 refine ⟨_, rfl, ?_⟩
 have hL := hL.pushAll hF27
 simp only [lA, lB, lC, lD] at hL
 refine OV v24 rfl (x_assign) ?_
 refine ONR ?_
 refine OV v24 rfl (x_move) ?_
 obtain ⟨x28, hx29, hm⟩ := bndE hm
 refine OW.cons (OP.call rfl (x_call (vs := [v24]) Tryd_C13 ⟨rfl, trivial⟩) (M.impl_CurveText_ok _ (hL.tab 2 rfl rfl htab) x21 (hL.rdO 0 rfl) hx29) ?_)
 rintro e30 wd31 ⟨rfl, hF32⟩
 refine ⟨_, rfl, ?_⟩
 have hL := hL.pushAll hF32
 simp only [lA, lB, lC, lD] at hL
 refine OV (.string x28) rfl (x_assign) ?_
 refine ONS ?_
 refine CSR ?_
 refine OV (.string x28) rfl (x_move) ?_
 refine OV (.string x16) rfl (x_move) ?_
 refine OV (.bool (!(sEq x28 x16))) rfl (x_neqT rfl rfl) ?_
 refine OW.nil ?_
 refine CW.condM (t := !(sEq x28 x16)) rfl hm (fun hb33 hm => ?_) (fun hb33 hm => ?_)
 · refine CSR ?_
   refine OV (.bool false) rfl (x_assign) ?_
   refine OW.nil ?_
   refine CW.ret ?_
   obtain rfl := Option.some.inj hm
   exact RR1 rfl rfl ⟨rfl, hL.fresh 2 rfl [] (by decide) (by decide) rfl⟩
 refine CW.skip ?_
 refine CW.seq ?_
 refine CSR ?_
 refine OV v24 rfl (x_move) ?_
 refine OV v1 rfl (x_move) ?_
 obtain ⟨x34, hx35, hm⟩ := bndE hm
 refine OW.cons (OP.call rfl (x_call (vs := [v1]) Tryd_C12 ⟨rfl, trivial⟩) (M.laws_toCurvePointS_ok _ a0 (hL.rdS 2 rfl h2) hx35) ?_)
 rintro e38 wd39 ⟨v37, S36, rfl, hF40⟩
 refine ⟨_, rfl, ?_⟩
 have hL := hL.pushAll hF40
 simp only [lA, lB, lC, lD] at hL
 obtain ⟨x41, hx42, hm⟩ := bndE hm
 refine OW.cons (OP.call rfl (x_call (vs := [v24, v37]) Tryd_C14 ⟨rfl, rfl, trivial⟩) (M.laws_eqCurvePointS_ok _ x21 (hL.rdO 1 rfl) x34 (hL.rdO 0 rfl) hx42) ?_)
 rintro e43 wd44 ⟨rfl, hF45⟩
 refine ⟨_, rfl, ?_⟩
 have hL := hL.pushAll hF45
 simp only [lA, lB, lC, lD] at hL
 refine OV (.bool (!x41)) rfl (x_not rfl) ?_
 refine OW.nil ?_
 refine CW.condM (t := !x41) rfl hm (fun hb46 hm => ?_) (fun hb46 hm => ?_)
 · refine CSR ?_
   refine OV (.bool false) rfl (x_assign) ?_
   refine OW.nil ?_
   refine CW.ret ?_
   obtain rfl := Option.some.inj hm
   exact RR1 rfl rfl ⟨rfl, hL.fresh 3 rfl [] (by decide) (by decide) rfl⟩
 refine CW.skip ?_
 refine CSR ?_
 refine OV (.bool true) rfl (x_assign) ?_
 refine OW.nil ?_
 refine CW.ret ?_
 obtain rfl := Option.some.inj hm
 exact RR1 rfl rfl ⟨rfl, hL.fresh 3 rfl [] (by decide) (by decide) rfl⟩

end Go.Proofs.YtmngaoalphpjiaaDoor
