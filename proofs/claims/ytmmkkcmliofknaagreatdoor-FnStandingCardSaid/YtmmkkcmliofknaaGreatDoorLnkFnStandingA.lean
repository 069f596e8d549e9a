/- Links: each Go function returns what its model computes and leaves what was there. Printed by my generator. -/
import Derived.Test.YtmmkkcmliofknaaGreatDoorMod4
import Derived.Test.YtmmkkcmliofknaaGreatDoorBase9
import Derived.Test.YtmmkkcmliofknaaGreatDoorProg
import Derived.KernelRfl
import Derived.Test.YtmmkkcmliofknaaGreatDoorLayFty
namespace Go.Proofs.YtmmkkcmliofknaaGreatDoor
set_option maxRecDepth 10000
open Go Go.RowKit Go.ChangeShapes Go.WideShapes
set_option linter.unusedVariables false
set_option linter.unusedSimpArgs false

theorem Tryz_mixed : Tryz.prog.follows .mixedOrders = true := by kernel_rfl
theorem Tryz_T2 : TyI Tryz.prog 2 1 8 (.int .i64 0) := by unfold TyI; kernel_rfl
theorem Tryz_T3 : TyI Tryz.prog 3 1 8 (.int .i64 0) := by unfold TyI; kernel_rfl
theorem Tryz_T4 : TyI Tryz.prog 4 1 1 (.bool false) := by unfold TyI; kernel_rfl
theorem Tryz_T5 : TyI Tryz.prog 5 1 1 (.int .u8 0) := by unfold TyI; kernel_rfl
theorem Tryz_T9 : TyI Tryz.prog 9 1 16 (.string ByteArray.empty) := by unfold TyI; kernel_rfl
theorem Tryz_T22 : TyI Tryz.prog 22 1 24 (.slice none 0 0) := by unfold TyI; kernel_rfl
theorem Tryz_T24 : TyI Tryz.prog 24 1 24 (.slice none 0 0) := by unfold TyI; kernel_rfl
theorem Tryz_T26 : TyI Tryz.prog 26 3 56 (.agg #[.int .i64 0, .slice none 0 0, .slice none 0 0]) := by unfold TyI; kernel_rfl
theorem Tryz_T27 : TyI Tryz.prog 27 1 24 (.slice none 0 0) := by unfold TyI; kernel_rfl
theorem Tryz_T36 : TyI Tryz.prog 36 1 24 (.slice none 0 0) := by unfold TyI; kernel_rfl
theorem Tryz_T38 : TyI Tryz.prog 38 3 40 (.agg #[.int .i64 0, .int .i64 0, .slice none 0 0]) := by unfold TyI; kernel_rfl
theorem Tryz_T49 : TyI Tryz.prog 49 4 32 (.agg #[.int .i64 0, .int .i64 0, .int .i64 0, .int .i64 0]) := by unfold TyI; kernel_rfl
theorem Tryz_T99 : TyI Tryz.prog 99 1 24 (.slice none 0 0) := by unfold TyI; kernel_rfl
theorem Tryz_T101 : TyI Tryz.prog 101 1 24 (.agg #[.slice none 0 0]) := by unfold TyI; kernel_rfl
theorem Tryz_T103 : TyI Tryz.prog 103 3 24 (.agg #[.int .i64 0, .int .i64 0, .int .i64 0]) := by unfold TyI; kernel_rfl
theorem Tryz_T108 : TyI Tryz.prog 108 3 24 (.agg #[.int .i64 0, .int .i64 0, .int .i64 0]) := by unfold TyI; kernel_rfl
theorem Tryz_T110 : TyI Tryz.prog 110 10 160 (.agg #[.string ByteArray.empty, .string ByteArray.empty, .string ByteArray.empty, .string ByteArray.empty, .string ByteArray.empty, .string ByteArray.empty, .string ByteArray.empty, .string ByteArray.empty, .string ByteArray.empty, .string ByteArray.empty]) := by unfold TyI; kernel_rfl
theorem Tryz_B26 : BuildI Tryz.prog 26 [(0, 1), (1, 1), (2, 1)] #[.int .i64 0, .slice none 0 0, .slice none 0 0] := by unfold BuildI; kernel_rfl
theorem Tryz_B38 : BuildI Tryz.prog 38 [(0, 1), (1, 1), (2, 1)] #[.int .i64 0, .int .i64 0, .slice none 0 0] := by unfold BuildI; kernel_rfl
theorem Tryz_B49 : BuildI Tryz.prog 49 [(0, 1), (1, 1), (2, 1), (3, 1)] #[.int .i64 0, .int .i64 0, .int .i64 0, .int .i64 0] := by unfold BuildI; kernel_rfl
theorem Tryz_B92 : BuildI Tryz.prog 92 [(0, 1), (1, 1), (2, 1)] #[.slice none 0 0, .int .i64 0, .int .i64 0] := by unfold BuildI; kernel_rfl
theorem Tryz_B101 : BuildI Tryz.prog 101 [(0, 1)] #[.slice none 0 0] := by unfold BuildI; kernel_rfl
theorem Tryz_B103 : BuildI Tryz.prog 103 [(0, 1), (1, 1), (2, 1)] #[.int .i64 0, .int .i64 0, .int .i64 0] := by unfold BuildI; kernel_rfl
theorem Tryz_B108 : BuildI Tryz.prog 108 [(0, 1), (1, 1), (2, 1)] #[.int .i64 0, .int .i64 0, .int .i64 0] := by unfold BuildI; kernel_rfl
theorem Tryz_C5 : CallOK Tryz.prog 5 := ⟨_, _, Tryz.func5, rfl, by kernel_rfl⟩
theorem Tryz_C6 : CallOK Tryz.prog 6 := ⟨_, _, Tryz.func6, rfl, by kernel_rfl⟩
theorem Tryz_C7 : CallOK Tryz.prog 7 := ⟨_, _, Tryz.func7, rfl, by kernel_rfl⟩
theorem Tryz_C8 : CallOK Tryz.prog 8 := ⟨_, _, Tryz.func8, rfl, by kernel_rfl⟩
theorem Tryz_C9 : CallOK Tryz.prog 9 := ⟨_, _, Tryz.func9, rfl, by kernel_rfl⟩
theorem Tryz_C10 : CallOK Tryz.prog 10 := ⟨_, _, Tryz.func10, rfl, by kernel_rfl⟩
theorem Tryz_C11 : CallOK Tryz.prog 11 := ⟨_, _, Tryz.func11, rfl, by kernel_rfl⟩
theorem Tryz_C12 : CallOK Tryz.prog 12 := ⟨_, _, Tryz.func12, rfl, by kernel_rfl⟩
theorem Tryz_C13 : CallOK Tryz.prog 13 := ⟨_, _, Tryz.func13, rfl, by kernel_rfl⟩
theorem Tryz_C14 : CallOK Tryz.prog 14 := ⟨_, _, Tryz.func14, rfl, by kernel_rfl⟩
theorem Tryz_C15 : CallOK Tryz.prog 15 := ⟨_, _, Tryz.func15, rfl, by kernel_rfl⟩
theorem Tryz_C16 : CallOK Tryz.prog 16 := ⟨_, _, Tryz.func16, rfl, by kernel_rfl⟩
theorem Tryz_C17 : CallOK Tryz.prog 17 := ⟨_, _, Tryz.func17, rfl, by kernel_rfl⟩
theorem Tryz_C18 : CallOK Tryz.prog 18 := ⟨_, _, Tryz.func18, rfl, by kernel_rfl⟩
theorem Tryz_C19 : CallOK Tryz.prog 19 := ⟨_, _, Tryz.func19, rfl, by kernel_rfl⟩
theorem Tryz_C20 : CallOK Tryz.prog 20 := ⟨_, _, Tryz.func20, rfl, by kernel_rfl⟩
theorem Tryz_C21 : CallOK Tryz.prog 21 := ⟨_, _, Tryz.func21, rfl, by kernel_rfl⟩
theorem Tryz_C22 : CallOK Tryz.prog 22 := ⟨_, _, Tryz.func22, rfl, by kernel_rfl⟩
theorem Tryz_C23 : CallOK Tryz.prog 23 := ⟨_, _, Tryz.func23, rfl, by kernel_rfl⟩
theorem Tryz_C24 : CallOK Tryz.prog 24 := ⟨_, _, Tryz.func24, rfl, by kernel_rfl⟩
theorem Tryz_C25 : CallOK Tryz.prog 25 := ⟨_, _, Tryz.func25, rfl, by kernel_rfl⟩
theorem Tryz_C26 : CallOK Tryz.prog 26 := ⟨_, _, Tryz.func26, rfl, by kernel_rfl⟩
theorem Tryz_C27 : CallOK Tryz.prog 27 := ⟨_, _, Tryz.func27, rfl, by kernel_rfl⟩
theorem Tryz_C28 : CallOK Tryz.prog 28 := ⟨_, _, Tryz.func28, rfl, by kernel_rfl⟩
theorem Tryz_C29 : CallOK Tryz.prog 29 := ⟨_, _, Tryz.func29, rfl, by kernel_rfl⟩
theorem Tryz_C30 : CallOK Tryz.prog 30 := ⟨_, _, Tryz.func30, rfl, by kernel_rfl⟩
theorem Tryz_C31 : CallOK Tryz.prog 31 := ⟨_, _, Tryz.func31, rfl, by kernel_rfl⟩
theorem Tryz_C32 : CallOK Tryz.prog 32 := ⟨_, _, Tryz.func32, rfl, by kernel_rfl⟩
theorem Tryz_C33 : CallOK Tryz.prog 33 := ⟨_, _, Tryz.func33, rfl, by kernel_rfl⟩
theorem Tryz_C34 : CallOK Tryz.prog 34 := ⟨_, _, Tryz.func34, rfl, by kernel_rfl⟩
theorem Tryz_C35 : CallOK Tryz.prog 35 := ⟨_, _, Tryz.func35, rfl, by kernel_rfl⟩
theorem Tryz_C36 : CallOK Tryz.prog 36 := ⟨_, _, Tryz.func36, rfl, by kernel_rfl⟩
theorem Tryz_C37 : CallOK Tryz.prog 37 := ⟨_, _, Tryz.func37, rfl, by kernel_rfl⟩
theorem Tryz_C38 : CallOK Tryz.prog 38 := ⟨_, _, Tryz.func38, rfl, by kernel_rfl⟩
theorem Tryz_C39 : CallOK Tryz.prog 39 := ⟨_, _, Tryz.func39, rfl, by kernel_rfl⟩
theorem Tryz_C40 : CallOK Tryz.prog 40 := ⟨_, _, Tryz.func40, rfl, by kernel_rfl⟩
theorem Tryz_C41 : CallOK Tryz.prog 41 := ⟨_, _, Tryz.func41, rfl, by kernel_rfl⟩
theorem Tryz_C42 : CallOK Tryz.prog 42 := ⟨_, _, Tryz.func42, rfl, by kernel_rfl⟩
theorem Tryz_C43 : CallOK Tryz.prog 43 := ⟨_, _, Tryz.func43, rfl, by kernel_rfl⟩
theorem Tryz_C44 : CallOK Tryz.prog 44 := ⟨_, _, Tryz.func44, rfl, by kernel_rfl⟩
theorem Tryz_C45 : CallOK Tryz.prog 45 := ⟨_, _, Tryz.func45, rfl, by kernel_rfl⟩
theorem Tryz_C46 : CallOK Tryz.prog 46 := ⟨_, _, Tryz.func46, rfl, by kernel_rfl⟩
theorem Tryz_C47 : CallOK Tryz.prog 47 := ⟨_, _, Tryz.func47, rfl, by kernel_rfl⟩
theorem Tryz_C48 : CallOK Tryz.prog 48 := ⟨_, _, Tryz.func48, rfl, by kernel_rfl⟩
theorem Tryz_C49 : CallOK Tryz.prog 49 := ⟨_, _, Tryz.func49, rfl, by kernel_rfl⟩
theorem Tryz_C50 : CallOK Tryz.prog 50 := ⟨_, _, Tryz.func50, rfl, by kernel_rfl⟩
theorem Tryz_C51 : CallOK Tryz.prog 51 := ⟨_, _, Tryz.func51, rfl, by kernel_rfl⟩
theorem Tryz_C52 : CallOK Tryz.prog 52 := ⟨_, _, Tryz.func52, rfl, by kernel_rfl⟩
theorem Tryz_C53 : CallOK Tryz.prog 53 := ⟨_, _, Tryz.func53, rfl, by kernel_rfl⟩
theorem Tryz_C54 : CallOK Tryz.prog 54 := ⟨_, _, Tryz.func54, rfl, by kernel_rfl⟩
theorem Tryz_C55 : CallOK Tryz.prog 55 := ⟨_, _, Tryz.func55, rfl, by kernel_rfl⟩
theorem Tryz_C56 : CallOK Tryz.prog 56 := ⟨_, _, Tryz.func56, rfl, by kernel_rfl⟩
theorem Tryz_C57 : CallOK Tryz.prog 57 := ⟨_, _, Tryz.func57, rfl, by kernel_rfl⟩
theorem Tryz_C58 : CallOK Tryz.prog 58 := ⟨_, _, Tryz.func58, rfl, by kernel_rfl⟩
theorem Tryz_C59 : CallOK Tryz.prog 59 := ⟨_, _, Tryz.func59, rfl, by kernel_rfl⟩
theorem Tryz_C60 : CallOK Tryz.prog 60 := ⟨_, _, Tryz.func60, rfl, by kernel_rfl⟩
theorem Tryz_C61 : CallOK Tryz.prog 61 := ⟨_, _, Tryz.func61, rfl, by kernel_rfl⟩
theorem Tryz_C62 : CallOK Tryz.prog 62 := ⟨_, _, Tryz.func62, rfl, by kernel_rfl⟩
theorem Tryz_C63 : CallOK Tryz.prog 63 := ⟨_, _, Tryz.func63, rfl, by kernel_rfl⟩
theorem Tryz_C64 : CallOK Tryz.prog 64 := ⟨_, _, Tryz.func64, rfl, by kernel_rfl⟩
theorem Tryz_C65 : CallOK Tryz.prog 65 := ⟨_, _, Tryz.func65, rfl, by kernel_rfl⟩
theorem Tryz_C66 : CallOK Tryz.prog 66 := ⟨_, _, Tryz.func66, rfl, by kernel_rfl⟩
theorem Tryz_C67 : CallOK Tryz.prog 67 := ⟨_, _, Tryz.func67, rfl, by kernel_rfl⟩
theorem Tryz_C68 : CallOK Tryz.prog 68 := ⟨_, _, Tryz.func68, rfl, by kernel_rfl⟩
theorem Tryz_C69 : CallOK Tryz.prog 69 := ⟨_, _, Tryz.func69, rfl, by kernel_rfl⟩
theorem Tryz_C70 : CallOK Tryz.prog 70 := ⟨_, _, Tryz.func70, rfl, by kernel_rfl⟩
theorem Tryz_C71 : CallOK Tryz.prog 71 := ⟨_, _, Tryz.func71, rfl, by kernel_rfl⟩
theorem Tryz_C72 : CallOK Tryz.prog 72 := ⟨_, _, Tryz.func72, rfl, by kernel_rfl⟩
theorem Tryz_C73 : CallOK Tryz.prog 73 := ⟨_, _, Tryz.func73, rfl, by kernel_rfl⟩
theorem Tryz_C74 : CallOK Tryz.prog 74 := ⟨_, _, Tryz.func74, rfl, by kernel_rfl⟩
theorem Tryz_C75 : CallOK Tryz.prog 75 := ⟨_, _, Tryz.func75, rfl, by kernel_rfl⟩
theorem Tryz_C76 : CallOK Tryz.prog 76 := ⟨_, _, Tryz.func76, rfl, by kernel_rfl⟩
theorem Tryz_C77 : CallOK Tryz.prog 77 := ⟨_, _, Tryz.func77, rfl, by kernel_rfl⟩
theorem Tryz_C78 : CallOK Tryz.prog 78 := ⟨_, _, Tryz.func78, rfl, by kernel_rfl⟩
theorem Tryz_C79 : CallOK Tryz.prog 79 := ⟨_, _, Tryz.func79, rfl, by kernel_rfl⟩
theorem Tryz_C80 : CallOK Tryz.prog 80 := ⟨_, _, Tryz.func80, rfl, by kernel_rfl⟩
theorem Tryz_C81 : CallOK Tryz.prog 81 := ⟨_, _, Tryz.func81, rfl, by kernel_rfl⟩
theorem Tryz_C82 : CallOK Tryz.prog 82 := ⟨_, _, Tryz.func82, rfl, by kernel_rfl⟩
theorem Tryz_C83 : CallOK Tryz.prog 83 := ⟨_, _, Tryz.func83, rfl, by kernel_rfl⟩
theorem Tryz_C84 : CallOK Tryz.prog 84 := ⟨_, _, Tryz.func84, rfl, by kernel_rfl⟩
theorem Tryz_C85 : CallOK Tryz.prog 85 := ⟨_, _, Tryz.func85, rfl, by kernel_rfl⟩
theorem Tryz_C86 : CallOK Tryz.prog 86 := ⟨_, _, Tryz.func86, rfl, by kernel_rfl⟩
theorem Tryz_C87 : CallOK Tryz.prog 87 := ⟨_, _, Tryz.func87, rfl, by kernel_rfl⟩
theorem Tryz_C88 : CallOK Tryz.prog 88 := ⟨_, _, Tryz.func88, rfl, by kernel_rfl⟩
theorem Tryz_C89 : CallOK Tryz.prog 89 := ⟨_, _, Tryz.func89, rfl, by kernel_rfl⟩
theorem Tryz_C90 : CallOK Tryz.prog 90 := ⟨_, _, Tryz.func90, rfl, by kernel_rfl⟩
theorem Tryz_C91 : CallOK Tryz.prog 91 := ⟨_, _, Tryz.func91, rfl, by kernel_rfl⟩
theorem Tryz_C92 : CallOK Tryz.prog 92 := ⟨_, _, Tryz.func92, rfl, by kernel_rfl⟩
theorem Tryz_C93 : CallOK Tryz.prog 93 := ⟨_, _, Tryz.func93, rfl, by kernel_rfl⟩
theorem Tryz_C94 : CallOK Tryz.prog 94 := ⟨_, _, Tryz.func94, rfl, by kernel_rfl⟩
theorem Tryz_C95 : CallOK Tryz.prog 95 := ⟨_, _, Tryz.func95, rfl, by kernel_rfl⟩
theorem Tryz_C96 : CallOK Tryz.prog 96 := ⟨_, _, Tryz.func96, rfl, by kernel_rfl⟩
theorem Tryz_C98 : CallOK Tryz.prog 98 := ⟨_, _, Tryz.func98, rfl, by kernel_rfl⟩
theorem Tryz_C99 : CallOK Tryz.prog 99 := ⟨_, _, Tryz.func99, rfl, by kernel_rfl⟩
theorem Tryz_C100 : CallOK Tryz.prog 100 := ⟨_, _, Tryz.func100, rfl, by kernel_rfl⟩
theorem Tryz_C101 : CallOK Tryz.prog 101 := ⟨_, _, Tryz.func101, rfl, by kernel_rfl⟩
theorem Tryz_C102 : CallOK Tryz.prog 102 := ⟨_, _, Tryz.func102, rfl, by kernel_rfl⟩
theorem Tryz_C103 : CallOK Tryz.prog 103 := ⟨_, _, Tryz.func103, rfl, by kernel_rfl⟩
theorem Tryz_C104 : CallOK Tryz.prog 104 := ⟨_, _, Tryz.func104, rfl, by kernel_rfl⟩
theorem Tryz_C105 : CallOK Tryz.prog 105 := ⟨_, _, Tryz.func105, rfl, by kernel_rfl⟩
theorem Tryz_C106 : CallOK Tryz.prog 106 := ⟨_, _, Tryz.func106, rfl, by kernel_rfl⟩
theorem Tryz_C107 : CallOK Tryz.prog 107 := ⟨_, _, Tryz.func107, rfl, by kernel_rfl⟩
theorem Tryz_C108 : CallOK Tryz.prog 108 := ⟨_, _, Tryz.func108, rfl, by kernel_rfl⟩
theorem Tryz_C109 : CallOK Tryz.prog 109 := ⟨_, _, Tryz.func109, rfl, by kernel_rfl⟩
theorem Tryz_C110 : CallOK Tryz.prog 110 := ⟨_, _, Tryz.func110, rfl, by kernel_rfl⟩
theorem Tryz_C111 : CallOK Tryz.prog 111 := ⟨_, _, Tryz.func111, rfl, by kernel_rfl⟩
theorem Tryz_C112 : CallOK Tryz.prog 112 := ⟨_, _, Tryz.func112, rfl, by kernel_rfl⟩
theorem Tryz_C113 : CallOK Tryz.prog 113 := ⟨_, _, Tryz.func113, rfl, by kernel_rfl⟩
theorem Tryz_C118 : CallOK Tryz.prog 118 := ⟨_, _, Tryz.func118, rfl, by kernel_rfl⟩
theorem Tryz_C119 : CallOK Tryz.prog 119 := ⟨_, _, Tryz.func119, rfl, by kernel_rfl⟩
theorem Tryz_C120 : CallOK Tryz.prog 120 := ⟨_, _, Tryz.func120, rfl, by kernel_rfl⟩
theorem Tryz_C121 : CallOK Tryz.prog 121 := ⟨_, _, Tryz.func121, rfl, by kernel_rfl⟩
theorem Tryz_C122 : CallOK Tryz.prog 122 := ⟨_, _, Tryz.func122, rfl, by kernel_rfl⟩
theorem Tryz_C123 : CallOK Tryz.prog 123 := ⟨_, _, Tryz.func123, rfl, by kernel_rfl⟩
theorem Tryz_C124 : CallOK Tryz.prog 124 := ⟨_, _, Tryz.func124, rfl, by kernel_rfl⟩
theorem Tryz_C125 : CallOK Tryz.prog 125 := ⟨_, _, Tryz.func125, rfl, by kernel_rfl⟩
theorem Tryz_C128 : CallOK Tryz.prog 128 := ⟨_, _, Tryz.func128, rfl, by kernel_rfl⟩
theorem Tryz_C132 : CallOK Tryz.prog 132 := ⟨_, _, Tryz.func132, rfl, by kernel_rfl⟩
theorem Tryz_C138 : CallOK Tryz.prog 138 := ⟨_, _, Tryz.func138, rfl, by kernel_rfl⟩
theorem Tryz_C142 : CallOK Tryz.prog 142 := ⟨_, _, Tryz.func142, rfl, by kernel_rfl⟩
theorem Tryz_C151 : CallOK Tryz.prog 151 := ⟨_, _, Tryz.func151, rfl, by kernel_rfl⟩
abbrev U2 := @Tryz.underlying2
abbrev U3 := @Tryz.underlying3
abbrev U4 := @Tryz.underlying4
abbrev U5 := @Tryz.underlying5
abbrev U9 := @Tryz.underlying9
abbrev U22 := @Tryz.underlying22
abbrev U24 := @Tryz.underlying24
abbrev U26 := @Tryz.underlying26
abbrev U27 := @Tryz.underlying27
abbrev U36 := @Tryz.underlying36
abbrev U38 := @Tryz.underlying38
abbrev U83 := @Tryz.underlying83
abbrev U85 := @Tryz.underlying85
abbrev U92 := @Tryz.underlying92
abbrev U99 := @Tryz.underlying99
abbrev U101 := @Tryz.underlying101
abbrev U103 := @Tryz.underlying103
abbrev U132 := @Tryz.underlying132
abbrev U140 := @Tryz.underlying140

theorem M.laws_big_ok (w0 : World) (a0 : List UInt8) {v1 : Value} (h2 : rdL (· < w0.heap.size) w0 v1 a0) {r : Bool} (hm : M.laws_big a0 = some r) :
    Calls Tryz.prog 5 #[v1] w0 fun e w' => e = .returned (.bool r) ∧ Fresh w0 w' [] := by
 unfold M.laws_big at hm
 refine calls_CW (args := [v1]) Tryz.func5 rfl rfl rfl ?_
 have hL := Hp.start w0
 refine CSR ?_
 refine OV (.bool false) rfl (x_assign) ?_
 refine ONR ?_
 refine OV v1 rfl (x_move) ?_
 refine OV (.int .i64 (a0.length : Int)) rfl (x_lenR U22 rfl (hL.rdS 0 rfl h2)) ?_
 refine OV (.bool (decide (4096 < (a0.length : Int)))) rfl (x_gtr rfl rfl) ?_
 refine OV (.bool (decide (4096 < (a0.length : Int)))) rfl (x_assign) ?_
 refine OW.nil ?_
 refine CW.ret ?_
 obtain rfl := Option.some.inj hm
 exact RR1 rfl rfl ⟨rfl, hL.fresh 0 rfl [] (by decide) (by decide) rfl⟩

theorem M.spec_l01From_ok (w0 : World) (a0 : List UInt8) {v1 : Value} (h2 : rdL (· < w0.heap.size) w0 v1 a0) {r : (Int × Int)} (hm : M.spec_l01From a0 = some r) :
    Calls Tryz.prog 37 #[v1] w0 fun e w' => ∃ rb : Nat, e = .returned (.pointer (some ⟨rb, 0, none⟩)) ∧ Fresh w0 w' [Ent.blk rb 92 #[v1, .int .i64 r.1, .int .i64 r.2]] := by
 unfold M.spec_l01From at hm
 refine calls_CW (args := [v1]) Tryz.func37 rfl rfl rfl ?_
 have hL := Hp.start w0
 refine CSR ?_
 refine OV (.pointer none) rfl (x_assign) ?_
 refine ONR ?_
 refine OV v1 rfl (x_move) ?_
 refine OV (.agg #[v1, (.int .i64 0), (.int .i64 61657)]) rfl (x_build Tryz_B92 (ps := [(0, v1), (2, (.int .i64 61657))]) ⟨⟨rfl, rfl⟩, ⟨rfl, rfl⟩, trivial⟩ (by simp [Instr.fill, cells_int, cells_bool, cells_string, cells_agg, cells_slice, cells_pointer, (rdL_cells (hL.rdS 0 rfl h2))])) ?_
 refine OW.cons (S_box (cs := #[v1, (.int .i64 0), (.int .i64 61657)]) hL rfl rfl rfl ?_)
 intro wd3 b4 hL
 refine OV (.pointer (some ⟨b4, 0, none⟩)) rfl (x_assign) ?_
 refine ONS ?_
 refine CSR ?_
 refine OV (.int .i64 0) rfl (x_assign) ?_
 refine OW.nil ?_
 obtain ⟨o57, ho58, hm⟩ := bndE hm
 refine CW.loopB (fun (s_l1 : Int × Int) (F : Fr) (w : World) => F 0 = v1 ∧ F 3 = (.pointer (some ⟨b4, 0, none⟩)) ∧ F 4 = (.int .i64 s_l1.2) ∧ Hp w0 [Ent.blk b4 92 #[v1, (.int .i64 0), (.int .i64 s_l1.1)], Ent.snap w0 w0.heap.size] w) (fun o => outc o (fun x => some x) (fun s => M.spec_l01From_a1 s) = some r) ho58 hm ⟨rfl, rfl, rfl, hL⟩ ?_ ?_
 · intro s_l1 F59 wd60 hJ hm
   have hm := outcE hm
   have hm : M.spec_l01From_a1 s_l1 = some r := hm
   unfold M.spec_l01From_a1 at hm
   obtain ⟨f61, f62, f63, hL⟩ := hJ
   refine CSR ?_
   refine OV (.pointer (some ⟨b4, 0, none⟩)) rfl (x_mv f62) ?_
   refine OV (.pointer (some ⟨b4, 0, none⟩)) rfl (x_assign) ?_
   refine OW.nil ?_
   refine CW.ret ?_
   obtain rfl := Option.some.inj hm
   exact RR1 rfl rfl ⟨b4, rfl, hL.fresh 1 rfl [0] (by decide) (by decide) rfl⟩
 intro s_l1 F64 wd65 t55 hJ hm hr56
 unfold M.spec_l01From_l1 at hm
 obtain ⟨f66, f67, f68, hL⟩ := hJ
 refine CW.seq ?_
 refine CW.seqJ (fun (s_j1 : Bool) (F : Fr) (w : World) => F 0 = v1 ∧ F 3 = (.pointer (some ⟨b4, 0, none⟩)) ∧ F 4 = (.int .i64 s_l1.2) ∧ F 15 = (.bool s_j1) ∧ Hp w0 [Ent.blk b4 92 #[v1, (.int .i64 0), (.int .i64 s_l1.1)], Ent.snap w0 w0.heap.size] w) (fun s_j1 => M.spec_l01From_j1 a0 s_l1 s_j1 = some t55) ?_ ?_
 · refine CW.regionL ?_
   refine OV (.int .i64 s_l1.2) rfl (x_mv f68) ?_
   refine OV v1 rfl (x_mv f66) ?_
   refine OV (.int .i64 (a0.length : Int)) rfl (x_lenR U22 rfl (hL.rdS 1 rfl h2)) ?_
   refine OV (.bool (decide (s_l1.2 < (a0.length : Int)))) rfl (x_lss rfl rfl) ?_
   refine OV (.bool (decide (s_l1.2 < (a0.length : Int)))) rfl (x_move) ?_
   refine ifB_elim hm (fun hb93 hm => ?_) (fun hb93 hm => ?_)
   · refine OW.cons (OP.yes' rfl rfl hb93 (OP.val (v := (.int .i64 s_l1.2)) rfl (x_mv f68) ?_))
     refine OW.cons (OP.yes' rfl rfl hb93 (OP.val (v := (.bool (decide (s_l1.2 < 64)))) rfl (x_lss rfl rfl) ?_))
     refine OV (.bool (decide (s_l1.2 < 64))) rfl (x_pickT' rfl hb93 rfl) ?_
     refine OW.nil ?_
     exact ⟨decide (s_l1.2 < 64), hm, ⟨f66, f67, f68, rfl, hL⟩⟩
   refine OW.cons (OP.no' rfl rfl hb93 rfl ?_)
   refine OW.cons (OP.no' rfl rfl hb93 rfl ?_)
   refine OV (.bool false) rfl (x_pickF' rfl hb93 rfl) ?_
   refine OW.nil ?_
   exact ⟨false, hm, ⟨f66, f67, f68, rfl, hL⟩⟩
 intro s_j1 F70 wd71 hJ hm
 unfold M.spec_l01From_j1 at hm
 obtain ⟨f72, f73, f74, f75, hL⟩ := hJ
 refine CW.condM (t := s_j1) f75 hm (fun hb76 hm => ?_) (fun hb76 hm => ?_)
 · refine CW.skip ?_
   refine CW.seq ?_
   refine CW.block ?_
   refine CW.drawH (fun w' => Hp w0 [Ent.snap w0 w0.heap.size] w') Tryz_mixed ?_
   have hL := hL.call (Mod.drew _)
   have hS := (hL.sel [1] (by decide) rfl)
   refine DH.take 0 rfl (by kernel_rfl) (by kernel_rfl) (by kernel_rfl) rfl rfl hS (YH.val (v := (.pointer (some ⟨b4, 0, none⟩))) (fun w' hS' => x_mv f73)) ?_
   have hS := (hL.sel [1] (by decide) rfl)
   refine DH.take 1 rfl (by kernel_rfl) (by kernel_rfl) (by kernel_rfl) rfl rfl hS (YH.val (v := (.pointer (some ⟨b4, 0, none⟩))) (fun w' hS' => x_mv f73)) ?_
   have hS := (hL.sel [1] (by decide) rfl)
   refine DH.take 2 rfl (by kernel_rfl) (by kernel_rfl) (by kernel_rfl) rfl rfl hS (YH.val (v := (.pointer (some ⟨b4, 0, none⟩))) (fun w' hS' => x_nilCheck rfl)) ?_
   have hS := (hL.sel [1] (by decide) rfl)
   refine DH.take 3 rfl (by kernel_rfl) (by kernel_rfl) (by kernel_rfl) rfl rfl hS (YH.val (v := (.pointer (some ⟨b4, 2, none⟩))) (fun w' hS' => x_fieldAddr (fsz := 1) 0 2 2 U92 rfl Tryz_T2 rfl rfl rfl)) ?_
   have hS := (hL.sel [1] (by decide) rfl)
   refine DH.take 6 rfl (by kernel_rfl) (by kernel_rfl) (by kernel_rfl) rfl rfl hS (YH.val (v := v1) (fun w' hS' => x_mv f72)) ?_
   have hS := (hL.sel [1] (by decide) rfl)
   refine DH.take 7 rfl (by kernel_rfl) (by kernel_rfl) (by kernel_rfl) rfl rfl hS (YH.val (v := (.int .i64 s_l1.2)) (fun w' hS' => x_mv f74)) ?_
   have hS := (hL.sel [1] (by decide) rfl)
   obtain ⟨x85, ha86, hm⟩ := bndE hm
   obtain ⟨hz87, ha91⟩ := idxE ha86
   obtain ⟨b88, q89, hix90⟩ := rdL_ix (hL.rdS 1 rfl h2) hz87 ha91
   refine DH.take 8 rfl (by kernel_rfl) (by kernel_rfl) (by kernel_rfl) rfl rfl hS (YH.val (v := (.pointer (some ⟨b88, q89, none⟩))) (fun w' hS' => x_ix U22 Tryz_T5 rfl rfl hix90)) ?_
   have hS := (hL.sel [1] (by decide) rfl)
   refine DH.take 9 rfl (by kernel_rfl) (by kernel_rfl) (by kernel_rfl) rfl rfl hS (YH.val (v := (.int .u8 (x85.toNat : Int))) (fun w' hS' => x_load1 U5 rfl rfl (rdF_cells (hS'.rdS 0 rfl h2) hix90 ha91 0 _ rfl))) ?_
   have hS := (hL.sel [1] (by decide) rfl)
   refine DH.take 10 rfl (by kernel_rfl) (by kernel_rfl) (by kernel_rfl) rfl rfl hS (YH.val (v := (.int .i64 (IntKind.i64.wrap (x85.toNat : Int)))) (fun w' hS' => x_conv U5 U2 rfl)) ?_
   refine DH.only 4 rfl (by kernel_rfl) (OP.val (v := (.int .i64 s_l1.1)) rfl (x_load1 U2 rfl rfl (hL.cellB 0 rfl rfl)) ?_)
   refine ⟨(hL.sel [1] (by decide) rfl), ?_⟩
   have hS := (hL.sel [1] (by decide) rfl)
   refine DH.take 5 rfl (by kernel_rfl) (by kernel_rfl) (by kernel_rfl) rfl rfl hS (YH.val (v := (.int .i64 (w64 (s_l1.1 * 53)))) (fun w' hS' => x_mul rfl rfl)) ?_
   have hS := (hL.sel [1] (by decide) rfl)
   refine DH.take 11 rfl (by kernel_rfl) (by kernel_rfl) (by kernel_rfl) rfl rfl hS (YH.val (v := (.int .i64 (w64 ((w64 (s_l1.1 * 53)) + (IntKind.i64.wrap (x85.toNat : Int)))))) (fun w' hS' => x_add rfl rfl)) ?_
   have hS := (hL.sel [1] (by decide) rfl)
   refine DH.take 12 rfl (by kernel_rfl) (by kernel_rfl) (by kernel_rfl) rfl rfl hS (YH.val (v := (.int .i64 ((w64 ((w64 (s_l1.1 * 53)) + (IntKind.i64.wrap (x85.toNat : Int)))).tmod 2147483647))) (fun w' hS' => x_rem rfl rfl (by decide))) ?_
   have hS := (hL.sel [1] (by decide) rfl)
   refine DH.take 13 rfl (by kernel_rfl) (by kernel_rfl) (by kernel_rfl) rfl rfl hS (YH.val (v := (.pointer (some ⟨b4, 0, none⟩))) (fun w' hS' => x_nilCheck rfl)) ?_
   have hS := (hL.sel [1] (by decide) rfl)
   refine DH.take 14 rfl (by kernel_rfl) (by kernel_rfl) (by kernel_rfl) rfl rfl hS (YH.val (v := (.pointer (some ⟨b4, 2, none⟩))) (fun w' hS' => x_fieldAddr (fsz := 1) 0 2 2 U92 rfl Tryz_T2 rfl rfl rfl)) ?_
   refine DH.only 15 rfl (by kernel_rfl) (S_store (cs' := #[v1, (.int .i64 0), (.int .i64 ((w64 ((w64 (s_l1.1 * 53)) + (IntKind.i64.wrap (x85.toNat : Int)))).tmod 2147483647))]) hL 0 rfl Tryz_T2 rfl rfl rfl rfl rfl ?_)
   intro wd92 hL
   refine ⟨(hL.sel [1] (by decide) rfl), ?_⟩
   refine DH.done (by kernel_rfl) ?_
   refine CW.regionL ?_
   refine OV (.int .i64 s_l1.2) rfl (x_mv f74) ?_
   refine OV (.int .i64 (w64 (s_l1.2 + 1))) rfl (x_add rfl rfl) ?_
   refine OV (.int .i64 (w64 (s_l1.2 + 1))) rfl (x_assign) ?_
   refine OW.nil ?_
   obtain rfl := Option.some.inj hm
   exact ⟨_, rfl, ⟨f72, f73, rfl, hL⟩⟩
 refine CW.exit ?_
 refine XJ.hit ?_
 obtain rfl := Option.some.inj hm
 exact ⟨_, rfl, ⟨f72, f73, f74, hL⟩⟩

theorem M.spec_l01Next_ok (w0 : World) {b1 : Nat} {v2 : Value} (a0 : Src) (h3 : rdL (fun k => k < w0.heap.size ∧ ¬ (Ent.blk b1 92 #[v2, .int .i64 a0.at_, .int .i64 a0.seed]).S k) w0 v2 a0.code) (he4 : (Ent.blk b1 92 #[v2, .int .i64 a0.at_, .int .i64 a0.seed]).H w0) (a1 : Int) {r : (Int) × (Int × Int)} (hm : M.spec_l01Next a0 a1 = some r) :
    Calls Tryz.prog 40 #[(.pointer (some ⟨b1, 0, none⟩)), (.int .i64 a1)] w0 fun e w' => e = .returned (.int .i64 r.1) ∧ Mut w0 w' (Ent.blk b1 92 #[v2, .int .i64 a0.at_, .int .i64 a0.seed]).S [Ent.blk b1 92 #[v2, .int .i64 r.2.1, .int .i64 r.2.2]] := by
 unfold M.spec_l01Next at hm
 refine calls_CW (args := [(.pointer (some ⟨b1, 0, none⟩)), (.int .i64 a1)]) Tryz.func40 rfl rfl rfl ?_
 have hL := Hp.startIO he4
 refine CSR ?_
 refine OV (.int .i64 0) rfl (x_assign) ?_
 refine ONS ?_
 refine CSR ?_
 refine OV (.int .i64 a1) rfl (x_move) ?_
 refine OV (.bool (decide (a1 ≤ 1))) rfl (x_leq rfl rfl) ?_
 refine OW.nil ?_
 refine CW.condM (t := decide (a1 ≤ 1)) rfl hm (fun hb5 hm => ?_) (fun hb5 hm => ?_)
 · refine CSR ?_
   refine OV (.int .i64 0) rfl (x_assign) ?_
   refine OW.nil ?_
   refine CW.ret ?_
   obtain rfl := Option.some.inj hm
   exact RR1 rfl rfl ⟨rfl, hL.mutOut 1 rfl [0] (by decide) (by decide) rfl⟩
 refine CW.skip ?_
 refine CSR ?_
 refine OV (.pointer (some ⟨b1, 0, none⟩)) rfl (x_move) ?_
 refine OV (.pointer (some ⟨b1, 0, none⟩)) rfl (x_move) ?_
 refine OV (.pointer (some ⟨b1, 0, none⟩)) rfl (x_nilCheck rfl) ?_
 refine OV (.pointer (some ⟨b1, 2, none⟩)) rfl (x_fieldAddr (fsz := 1) 0 2 2 U92 rfl Tryz_T2 rfl rfl rfl) ?_
 refine OV (.int .i64 a0.seed) rfl (x_load1 U2 rfl rfl (hL.cellB 0 rfl rfl)) ?_
 refine OV (.int .i64 (w64 (a0.seed * 48271))) rfl (x_mul rfl rfl) ?_
 refine OV (.int .i64 (w64 ((w64 (a0.seed * 48271)) + 23))) rfl (x_add rfl rfl) ?_
 refine OV (.int .i64 ((w64 ((w64 (a0.seed * 48271)) + 23)).tmod 2147483647)) rfl (x_rem rfl rfl (by decide)) ?_
 refine OV (.pointer (some ⟨b1, 0, none⟩)) rfl (x_nilCheck rfl) ?_
 refine OV (.pointer (some ⟨b1, 2, none⟩)) rfl (x_fieldAddr (fsz := 1) 0 2 2 U92 rfl Tryz_T2 rfl rfl rfl) ?_
 refine OW.cons (S_store (cs' := #[v2, (.int .i64 a0.at_), (.int .i64 ((w64 ((w64 (a0.seed * 48271)) + 23)).tmod 2147483647))]) hL 0 rfl Tryz_T2 rfl rfl rfl rfl rfl ?_)
 intro wd6 hL
 refine ONR ?_
 refine OV (.pointer (some ⟨b1, 0, none⟩)) rfl (x_move) ?_
 refine OV (.pointer (some ⟨b1, 0, none⟩)) rfl (x_nilCheck rfl) ?_
 refine OV (.pointer (some ⟨b1, 2, none⟩)) rfl (x_fieldAddr (fsz := 1) 0 2 2 U92 rfl Tryz_T2 rfl rfl rfl) ?_
 refine OV (.int .i64 ((w64 ((w64 (a0.seed * 48271)) + 23)).tmod 2147483647)) rfl (x_load1 U2 rfl rfl (hL.cellB 0 rfl rfl)) ?_
 refine OV (.int .i64 (w64 (((w64 ((w64 (a0.seed * 48271)) + 23)).tmod 2147483647).tdiv 17))) rfl (x_quo rfl rfl (by decide)) ?_
 refine OV (.int .i64 (w64 (((w64 ((w64 (a0.seed * 48271)) + 23)).tmod 2147483647).tdiv 17))) rfl (x_assign) ?_
 refine OW.nil ?_
 refine CW.seqJ (fun (s_j1 : Int × Int) (F : Fr) (w : World) => F 1 = (.int .i64 a1) ∧ F 5 = (.int .i64 s_j1.2) ∧ Hp w0 [Ent.blk b1 92 #[v2, (.int .i64 s_j1.1), (.int .i64 ((w64 ((w64 (a0.seed * 48271)) + 23)).tmod 2147483647))], Ent.frz w0 (Ent.blk b1 92 #[v2, .int .i64 a0.at_, .int .i64 a0.seed]).S] w) (fun s_j1 => M.spec_l01Next_j1 a0 a1 s_j1 = some r) ?_ ?_
 · refine CW.seq ?_
   refine CW.draw Tryz_mixed ?_
   have hL := hL.call (Mod.drew _)
   refine DW.pre (fuel := 0) (fin := bma 10 1023) (C := fun w' => Mod None_ _ w') [0, 1, 2, 3, 4, 5, 6, 7, 8, 9] (Mod.refl _ _) (by kernel_rfl) (by kernel_rfl) ?_
   refine QW.cons rfl (QP.val (v := (.pointer (some ⟨b1, 0, none⟩))) rfl (fun w' hm' => x_move) ?_)
   refine QW.cons rfl (QP.val (v := (.pointer (some ⟨b1, 0, none⟩))) rfl (fun w' hm' => x_nilCheck rfl) ?_)
   refine QW.cons rfl (QP.val (v := (.pointer (some ⟨b1, 1, none⟩))) rfl (fun w' hm' => x_fieldAddr (fsz := 1) 0 1 1 U92 rfl Tryz_T3 rfl rfl rfl) ?_)
   refine QW.cons rfl (QP.val (v := (.int .i64 a0.at_)) rfl (fun w' hm' => x_load1 U3 rfl rfl ((hL.call hm').cellB 0 rfl rfl)) ?_)
   refine QW.cons rfl (QP.val (v := (.pointer (some ⟨b1, 0, none⟩))) rfl (fun w' hm' => x_move) ?_)
   refine QW.cons rfl (QP.val (v := (.pointer (some ⟨b1, 0, none⟩))) rfl (fun w' hm' => x_nilCheck rfl) ?_)
   refine QW.cons rfl (QP.val (v := (.pointer (some ⟨b1, 0, none⟩))) rfl (fun w' hm' => x_fieldAddr (fsz := 1) 0 0 0 U92 rfl Tryz_T22 rfl rfl rfl) ?_)
   refine QW.cons rfl (QP.val (v := v2) rfl (fun w' hm' => x_load1 U22 rfl rfl ((hL.call hm').cellB 0 rfl rfl)) ?_)
   refine QW.cons rfl (QP.val (v := (.int .i64 (a0.code.length : Int))) rfl (fun w' hm' => x_lenR U22 rfl ((hL.call hm').rdZ 1 rfl h3)) ?_)
   refine QW.cons rfl (QP.val (v := (.bool (decide (a0.at_ < (a0.code.length : Int))))) rfl (fun w' hm' => x_lss rfl rfl) ?_)
   refine QW.nil ?_
   intro wd40 hmod
   have hL := hL.call hmod
   refine DW.done (by kernel_rfl) ?_
   refine CW.condM (t := decide (a0.at_ < (a0.code.length : Int))) rfl hm (fun hb41 hm => ?_) (fun hb41 hm => ?_)
   · refine CW.seq ?_
     refine CW.draw Tryz_mixed ?_
     have hL := hL.call (Mod.drew _)
     refine DW.pre (fuel := 0) (fin := bma 14 16383) (C := fun w' => Mod None_ _ w') [0, 1, 2, 3, 4, 5, 6, 7, 8, 9, 10, 11, 12, 13] (Mod.refl _ _) (by kernel_rfl) (by kernel_rfl) ?_
     refine QW.cons rfl (QP.val (v := (.int .i64 (w64 (((w64 ((w64 (a0.seed * 48271)) + 23)).tmod 2147483647).tdiv 17)))) rfl (fun w' hm' => x_move) ?_)
     refine QW.cons rfl (QP.val (v := (.pointer (some ⟨b1, 0, none⟩))) rfl (fun w' hm' => x_move) ?_)
     refine QW.cons rfl (QP.val (v := (.pointer (some ⟨b1, 0, none⟩))) rfl (fun w' hm' => x_nilCheck rfl) ?_)
     refine QW.cons rfl (QP.val (v := (.pointer (some ⟨b1, 0, none⟩))) rfl (fun w' hm' => x_fieldAddr (fsz := 1) 0 0 0 U92 rfl Tryz_T22 rfl rfl rfl) ?_)
     refine QW.cons rfl (QP.val (v := v2) rfl (fun w' hm' => x_load1 U22 rfl rfl ((hL.call hm').cellB 0 rfl rfl)) ?_)
     refine QW.cons rfl (QP.val (v := (.pointer (some ⟨b1, 0, none⟩))) rfl (fun w' hm' => x_move) ?_)
     refine QW.cons rfl (QP.val (v := (.pointer (some ⟨b1, 0, none⟩))) rfl (fun w' hm' => x_nilCheck rfl) ?_)
     refine QW.cons rfl (QP.val (v := (.pointer (some ⟨b1, 1, none⟩))) rfl (fun w' hm' => x_fieldAddr (fsz := 1) 0 1 1 U92 rfl Tryz_T3 rfl rfl rfl) ?_)
     refine QW.cons rfl (QP.val (v := (.int .i64 a0.at_)) rfl (fun w' hm' => x_load1 U3 rfl rfl ((hL.call hm').cellB 0 rfl rfl)) ?_)
     obtain ⟨x42, ha43, hm⟩ := bndE hm
     obtain ⟨hz44, ha48⟩ := idxE ha43
     obtain ⟨b45, q46, hix47⟩ := rdL_ix (hL.rdZ 1 rfl h3) hz44 ha48
     refine QW.cons rfl (QP.val (v := (.pointer (some ⟨b45, q46, none⟩))) rfl (fun w' hm' => x_ix U22 Tryz_T5 rfl rfl hix47) ?_)
     refine QW.cons rfl (QP.val (v := (.int .u8 (x42.toNat : Int))) rfl (fun w' hm' => x_load1 U5 rfl rfl (rdF_cells ((hL.call hm').rdZ 1 rfl h3) hix47 ha48 0 _ rfl)) ?_)
     refine QW.cons rfl (QP.val (v := (.int .i64 (IntKind.i64.wrap (x42.toNat : Int)))) rfl (fun w' hm' => x_conv U5 U2 rfl) ?_)
     refine QW.cons rfl (QP.val (v := (.int .i64 (w64 ((w64 (((w64 ((w64 (a0.seed * 48271)) + 23)).tmod 2147483647).tdiv 17)) + (IntKind.i64.wrap (x42.toNat : Int)))))) rfl (fun w' hm' => x_add rfl rfl) ?_)
     refine QW.cons rfl (QP.val (v := (.int .i64 (w64 ((w64 (((w64 ((w64 (a0.seed * 48271)) + 23)).tmod 2147483647).tdiv 17)) + (IntKind.i64.wrap (x42.toNat : Int)))))) rfl (fun w' hm' => x_assign) ?_)
     refine QW.nil ?_
     intro wd49 hmod
     have hL := hL.call hmod
     refine DW.done (by kernel_rfl) ?_
     refine CSR ?_
     refine OV (.pointer (some ⟨b1, 0, none⟩)) rfl (x_move) ?_
     refine OV (.pointer (some ⟨b1, 0, none⟩)) rfl (x_nilCheck rfl) ?_
     refine OV (.pointer (some ⟨b1, 1, none⟩)) rfl (x_fieldAddr (fsz := 1) 0 1 1 U92 rfl Tryz_T3 rfl rfl rfl) ?_
     refine OV (.int .i64 a0.at_) rfl (x_load1 U3 rfl rfl (hL.cellB 0 rfl rfl)) ?_
     refine OV (.int .i64 (w64 (a0.at_ + 1))) rfl (x_add rfl rfl) ?_
     refine OV (.pointer (some ⟨b1, 0, none⟩)) rfl (x_nilCheck rfl) ?_
     refine OV (.pointer (some ⟨b1, 1, none⟩)) rfl (x_fieldAddr (fsz := 1) 0 1 1 U92 rfl Tryz_T3 rfl rfl rfl) ?_
     refine OW.cons (S_store (cs' := #[v2, (.int .i64 (w64 (a0.at_ + 1))), (.int .i64 ((w64 ((w64 (a0.seed * 48271)) + 23)).tmod 2147483647))]) hL 0 rfl Tryz_T3 rfl rfl rfl rfl rfl ?_)
     intro wd50 hL
     refine OW.nil ?_
     refine CW.seqJ (fun (s_j2 : Bool) (F : Fr) (w : World) => F 0 = (.pointer (some ⟨b1, 0, none⟩)) ∧ F 1 = (.int .i64 a1) ∧ F 5 = (.int .i64 (w64 ((w64 (((w64 ((w64 (a0.seed * 48271)) + 23)).tmod 2147483647).tdiv 17)) + (IntKind.i64.wrap (x42.toNat : Int))))) ∧ F 62 = (.bool s_j2) ∧ Hp w0 [Ent.blk b1 92 #[v2, (.int .i64 (w64 (a0.at_ + 1))), (.int .i64 ((w64 ((w64 (a0.seed * 48271)) + 23)).tmod 2147483647))], Ent.frz w0 (Ent.blk b1 92 #[v2, .int .i64 a0.at_, .int .i64 a0.seed]).S] w) (fun s_j2 => M.spec_l01Next_j2 a0 a1 x42 s_j2 = some r) ?_ ?_
     · refine CW.regionL ?_
       refine OV (.int .i64 a1) rfl (x_move) ?_
       refine OV (.bool (decide (a1 ≤ 256))) rfl (x_leq rfl rfl) ?_
       refine OV (.bool (decide (a1 ≤ 256))) rfl (x_move) ?_
       refine ifB_elim hm (fun hb67 hm => ?_) (fun hb67 hm => ?_)
       · refine OW.cons (OP.yes' rfl rfl hb67 (OP.val (v := (.pointer (some ⟨b1, 0, none⟩))) rfl (x_move) ?_))
         refine OW.cons (OP.yes' rfl rfl hb67 (OP.val (v := (.pointer (some ⟨b1, 0, none⟩))) rfl (x_nilCheck rfl) ?_))
         refine OW.cons (OP.yes' rfl rfl hb67 (OP.val (v := (.pointer (some ⟨b1, 1, none⟩))) rfl (x_fieldAddr (fsz := 1) 0 1 1 U92 rfl Tryz_T3 rfl rfl rfl) ?_))
         refine OW.cons (OP.yes' rfl rfl hb67 (OP.val (v := (.int .i64 (w64 (a0.at_ + 1)))) rfl (x_load1 U3 rfl rfl (hL.cellB 0 rfl rfl)) ?_))
         refine OW.cons (OP.yes' rfl rfl hb67 (OP.val (v := (.int .i64 ((w64 (a0.at_ + 1)).tmod 2))) rfl (x_rem rfl rfl (by decide)) ?_))
         refine OW.cons (OP.yes' rfl rfl hb67 (OP.val (v := (.bool (((w64 (a0.at_ + 1)).tmod 2) == 0))) rfl (x_eql rfl rfl) ?_))
         refine OV (.bool (((w64 (a0.at_ + 1)).tmod 2) == 0)) rfl (x_pickT' rfl hb67 rfl) ?_
         refine OW.nil ?_
         exact ⟨((w64 (a0.at_ + 1)).tmod 2) == 0, hm, ⟨rfl, rfl, rfl, rfl, hL⟩⟩
       refine OW.cons (OP.no' rfl rfl hb67 rfl ?_)
       refine OW.cons (OP.no' rfl rfl hb67 rfl ?_)
       refine OW.cons (OP.no' rfl rfl hb67 rfl ?_)
       refine OW.cons (OP.no' rfl rfl hb67 rfl ?_)
       refine OW.cons (OP.no' rfl rfl hb67 rfl ?_)
       refine OW.cons (OP.no' rfl rfl hb67 rfl ?_)
       refine OV (.bool false) rfl (x_pickF' rfl hb67 rfl) ?_
       refine OW.nil ?_
       exact ⟨false, hm, ⟨rfl, rfl, rfl, rfl, hL⟩⟩
     intro s_j2 F52 wd53 hJ hm
     unfold M.spec_l01Next_j2 at hm
     obtain ⟨f54, f55, f56, f57, hL⟩ := hJ
     refine CW.condM (t := s_j2) f57 hm (fun hb58 hm => ?_) (fun hb58 hm => ?_)
     · refine CW.draw Tryz_mixed ?_
       have hL := hL.call (Mod.drew _)
       refine DW.pre (fuel := 0) (fin := bma 13 8191) (C := fun w' => Mod None_ _ w') [0, 1, 2, 3, 4, 5, 6, 7, 8, 9, 10, 11, 12] (Mod.refl _ _) (by kernel_rfl) (by kernel_rfl) ?_
       refine QW.cons rfl (QP.val (v := (.pointer (some ⟨b1, 0, none⟩))) rfl (fun w' hm' => x_mv f54) ?_)
       refine QW.cons rfl (QP.val (v := (.pointer (some ⟨b1, 0, none⟩))) rfl (fun w' hm' => x_nilCheck rfl) ?_)
       refine QW.cons rfl (QP.val (v := (.pointer (some ⟨b1, 0, none⟩))) rfl (fun w' hm' => x_fieldAddr (fsz := 1) 0 0 0 U92 rfl Tryz_T22 rfl rfl rfl) ?_)
       refine QW.cons rfl (QP.val (v := v2) rfl (fun w' hm' => x_load1 U22 rfl rfl ((hL.call hm').cellB 0 rfl rfl)) ?_)
       refine QW.cons rfl (QP.val (v := (.pointer (some ⟨b1, 0, none⟩))) rfl (fun w' hm' => x_mv f54) ?_)
       refine QW.cons rfl (QP.val (v := (.pointer (some ⟨b1, 0, none⟩))) rfl (fun w' hm' => x_nilCheck rfl) ?_)
       refine QW.cons rfl (QP.val (v := (.pointer (some ⟨b1, 1, none⟩))) rfl (fun w' hm' => x_fieldAddr (fsz := 1) 0 1 1 U92 rfl Tryz_T3 rfl rfl rfl) ?_)
       refine QW.cons rfl (QP.val (v := (.int .i64 (w64 (a0.at_ + 1)))) rfl (fun w' hm' => x_load1 U3 rfl rfl ((hL.call hm').cellB 0 rfl rfl)) ?_)
       refine QW.cons rfl (QP.val (v := (.int .i64 (w64 ((w64 (a0.at_ + 1)) - 1)))) rfl (fun w' hm' => x_sub rfl rfl) ?_)
       obtain ⟨x59, ha60, hm⟩ := bndE hm
       obtain ⟨hz61, ha65⟩ := idxE ha60
       obtain ⟨b62, q63, hix64⟩ := rdL_ix (hL.rdZ 1 rfl h3) hz61 ha65
       refine QW.cons rfl (QP.val (v := (.pointer (some ⟨b62, q63, none⟩))) rfl (fun w' hm' => x_ix U22 Tryz_T5 rfl rfl hix64) ?_)
       refine QW.cons rfl (QP.val (v := (.int .u8 (x59.toNat : Int))) rfl (fun w' hm' => x_load1 U5 rfl rfl (rdF_cells ((hL.call hm').rdZ 1 rfl h3) hix64 ha65 0 _ rfl)) ?_)
       refine QW.cons rfl (QP.val (v := (.int .i64 (IntKind.i64.wrap (x59.toNat : Int)))) rfl (fun w' hm' => x_conv U5 U2 rfl) ?_)
       refine QW.cons rfl (QP.val (v := (.int .i64 (IntKind.i64.wrap (x59.toNat : Int)))) rfl (fun w' hm' => x_assign) ?_)
       refine QW.nil ?_
       intro wd66 hmod
       have hL := hL.call hmod
       refine DW.done (by kernel_rfl) ?_
       exact ⟨(w64 (a0.at_ + 1), IntKind.i64.wrap (x59.toNat : Int)), hm, ⟨f55, rfl, hL⟩⟩
     refine CW.skip ?_
     exact ⟨(w64 (a0.at_ + 1), w64 ((w64 (((w64 ((w64 (a0.seed * 48271)) + 23)).tmod 2147483647).tdiv 17)) + (IntKind.i64.wrap (x42.toNat : Int)))), hm, ⟨f55, f56, hL⟩⟩
   refine CW.skip ?_
   exact ⟨(a0.at_, w64 (((w64 ((w64 (a0.seed * 48271)) + 23)).tmod 2147483647).tdiv 17)), hm, ⟨rfl, rfl, hL⟩⟩
 intro s_j1 F35 wd36 hJ hm
 unfold M.spec_l01Next_j1 at hm
 obtain ⟨f37, f38, hL⟩ := hJ
 refine CSR ?_
 refine OV (.int .i64 s_j1.2) rfl (x_mv f38) ?_
 refine OV (.int .i64 a1) rfl (x_mv f37) ?_
 obtain ⟨hc39, hm⟩ := chkE hm
 refine OV (.int .i64 (s_j1.2.tmod a1)) rfl (x_rem rfl rfl hc39) ?_
 refine OV (.int .i64 (s_j1.2.tmod a1)) rfl (x_assign) ?_
 refine OW.nil ?_
 refine CW.ret ?_
 obtain rfl := Option.some.inj hm
 exact RR1 rfl rfl ⟨rfl, hL.mutOut 1 rfl [0] (by decide) (by decide) rfl⟩

theorem M.spec_l26DrawBoats_ok (w0 : World) {b1 : Nat} {v2 : Value} (a0 : Src) (h3 : rdL (fun k => k < w0.heap.size ∧ ¬ (Ent.blk b1 92 #[v2, .int .i64 a0.at_, .int .i64 a0.seed]).S k) w0 v2 a0.code) (he4 : (Ent.blk b1 92 #[v2, .int .i64 a0.at_, .int .i64 a0.seed]).H w0) {r : (Int) × (Int × Int)} (hm : M.spec_l26DrawBoats a0 = some r) :
    Calls Tryz.prog 105 #[(.pointer (some ⟨b1, 0, none⟩))] w0 fun e w' => e = .returned (.int .i64 r.1) ∧ Mut w0 w' (Ent.blk b1 92 #[v2, .int .i64 a0.at_, .int .i64 a0.seed]).S [Ent.blk b1 92 #[v2, .int .i64 r.2.1, .int .i64 r.2.2]] := by
 unfold M.spec_l26DrawBoats at hm
 refine calls_CW (args := [(.pointer (some ⟨b1, 0, none⟩))]) Tryz.func105 rfl rfl rfl ?_
 have hL := Hp.startIO he4
 refine CSR ?_
 refine OV (.int .i64 0) rfl (x_assign) ?_
 refine ONS ?_
 refine CSR ?_
 refine OV (.pointer (some ⟨b1, 0, none⟩)) rfl (x_move) ?_
 obtain ⟨x5, hx6, hm⟩ := bndE hm
 refine OW.cons (OP.call rfl (x_call (vs := [(.pointer (some ⟨b1, 0, none⟩)), (.int .i64 24)]) Tryz_C40 ⟨rfl, rfl, trivial⟩) (M.spec_l01Next_ok _ (Src.mk a0.code a0.at_ a0.seed) (hL.exZ 1 0 (by decide) rfl rfl h3) (hL.get 0 rfl) 24 hx6) ?_)
 rintro e7 wd8 ⟨rfl, hF9⟩
 refine ⟨_, rfl, ?_⟩
 have hL := hL.mut 0 rfl hF9
 simp only [lA, lB, lC, lD] at hL
 refine OV (.bool (x5.1 == 0)) rfl (x_eql rfl rfl) ?_
 refine OW.nil ?_
 refine CW.condM (t := x5.1 == 0) rfl hm (fun hb10 hm => ?_) (fun hb10 hm => ?_)
 · refine CSR ?_
   refine OV (.pointer (some ⟨b1, 0, none⟩)) rfl (x_move) ?_
   obtain ⟨x11, hx12, hm⟩ := bndE hm
   refine OW.cons (OP.call rfl (x_call (vs := [(.pointer (some ⟨b1, 0, none⟩)), (.int .i64 2)]) Tryz_C40 ⟨rfl, rfl, trivial⟩) (M.spec_l01Next_ok _ (Src.mk a0.code x5.2.1 x5.2.2) (hL.exZ 1 0 (by decide) rfl rfl h3) (hL.get 0 rfl) 2 hx12) ?_)
   rintro e13 wd14 ⟨rfl, hF15⟩
   refine ⟨_, rfl, ?_⟩
   have hL := hL.mut 0 rfl hF15
   simp only [lA, lB, lC, lD] at hL
   refine OV (.int .i64 (w64 (16 * x11.1))) rfl (x_mul rfl rfl) ?_
   refine OV (.int .i64 (w64 (16 * x11.1))) rfl (x_assign) ?_
   refine OW.nil ?_
   refine CW.ret ?_
   obtain rfl := Option.some.inj hm
   exact RR1 rfl rfl ⟨rfl, hL.mutOut 1 rfl [0] (by decide) (by decide) rfl⟩
 refine CW.skip ?_
 refine CSR ?_
 refine OV (.pointer (some ⟨b1, 0, none⟩)) rfl (x_move) ?_
 obtain ⟨x16, hx17, hm⟩ := bndE hm
 refine OW.cons (OP.call rfl (x_call (vs := [(.pointer (some ⟨b1, 0, none⟩)), (.int .i64 6)]) Tryz_C40 ⟨rfl, rfl, trivial⟩) (M.spec_l01Next_ok _ (Src.mk a0.code x5.2.1 x5.2.2) (hL.exZ 1 0 (by decide) rfl rfl h3) (hL.get 0 rfl) 6 hx17) ?_)
 rintro e18 wd19 ⟨rfl, hF20⟩
 refine ⟨_, rfl, ?_⟩
 have hL := hL.mut 0 rfl hF20
 simp only [lA, lB, lC, lD] at hL
 refine OV (.int .i64 (w64 (1 + x16.1))) rfl (x_add rfl rfl) ?_
 refine OV (.int .i64 (w64 (1 + x16.1))) rfl (x_assign) ?_
 refine OW.nil ?_
 refine CW.ret ?_
 obtain rfl := Option.some.inj hm
 exact RR1 rfl rfl ⟨rfl, hL.mutOut 1 rfl [0] (by decide) (by decide) rfl⟩

theorem M.spec_l26DrawRace_ok (w0 : World) {b1 : Nat} {v2 : Value} (a0 : Src) (h3 : rdL (fun k => k < w0.heap.size ∧ ¬ (Ent.blk b1 92 #[v2, .int .i64 a0.at_, .int .i64 a0.seed]).S k) w0 v2 a0.code) (he4 : (Ent.blk b1 92 #[v2, .int .i64 a0.at_, .int .i64 a0.seed]).H w0) (a1 : Int) {r : (Race) × (Int × Int)} (hm : M.spec_l26DrawRace a0 a1 = some r) :
    Calls Tryz.prog 106 #[(.pointer (some ⟨b1, 0, none⟩)), (.int .i64 a1)] w0 fun e w' => ∃ (rv0 : Value) (rS0 : Nat → Prop), e = .returned (.agg #[rv0]) ∧ Mut w0 w' (Ent.blk b1 92 #[v2, .int .i64 a0.at_, .int .i64 a0.seed]).S [Ent.blk b1 92 #[v2, .int .i64 r.2.1, .int .i64 r.2.2], Ent.own 103 rS0 rv0 r.1.Finishes] := by
 unfold M.spec_l26DrawRace at hm
 refine calls_CW (args := [(.pointer (some ⟨b1, 0, none⟩)), (.int .i64 a1)]) Tryz.func106 rfl rfl rfl ?_
 have hL := Hp.startIO he4
 refine CSR ?_
 refine OW.cons (S_alloc (cs := #[(.slice none 0 0)]) hL Tryz_T101 rfl rfl ?_)
 intro wd5 b6 hL
 refine ONR ?_
 refine OW.cons (S_lit ([] : List Finish) hL U99 Tryz_T103 rfl (by decide) (by first | (simp [Instr.fill, madeCells, Value.cells, ev, upd, Flat.enc, Flat.sz]; done) | rfl | kernel_rfl) rfl rfl ?_)
 intro wd7 v8 S9 hL
 refine OV v8 rfl (x_assign) ?_
 refine ONS ?_
 refine CSR ?_
 refine OV (.int .i64 0) rfl (x_assign) ?_
 refine OW.nil ?_
 obtain ⟨o112, ho113, hm⟩ := bndE hm
 refine CW.loopB (fun (s_l1 : Int × Int × (List Finish) × Int) (F : Fr) (w : World) => ∃ (v108 : Value) (S109 : Nat → Prop), F 0 = (.pointer (some ⟨b1, 0, none⟩)) ∧ F 1 = (.int .i64 a1) ∧ F 4 = (.pointer (some ⟨b6, 0, none⟩)) ∧ F 5 = v108 ∧ F 6 = (.int .i64 s_l1.2.2.2) ∧ Hp w0 [Ent.own 103 S109 v108 s_l1.2.2.1, Ent.blk b6 101 #[(.slice none 0 0)], Ent.blk b1 92 #[v2, (.int .i64 s_l1.1), (.int .i64 s_l1.2.1)], Ent.frz w0 (Ent.blk b1 92 #[v2, .int .i64 a0.at_, .int .i64 a0.seed]).S] w) (fun o => outc o (fun x => some x) (fun s => M.spec_l26DrawRace_a1 s) = some r) ho113 hm ⟨v8, S9, rfl, rfl, rfl, rfl, rfl, hL⟩ ?_ ?_
 · intro s_l1 F114 wd115 hJ hm
   have hm := outcE hm
   have hm : M.spec_l26DrawRace_a1 s_l1 = some r := hm
   unfold M.spec_l26DrawRace_a1 at hm
   obtain ⟨v108, S109, f116, f117, f118, f119, f120, hL⟩ := hJ
   refine CSR ?_
   refine OV v108 rfl (x_mv f119) ?_
   refine OV (.agg #[v108]) rfl (x_build Tryz_B101 (ps := [(0, v108)]) ⟨⟨rfl, rfl⟩, trivial⟩ (by simp [Instr.fill, cells_int, cells_bool, cells_string, cells_agg, cells_slice, cells_pointer, (rdL_cells (hL.rdO 0 rfl))])) ?_
   refine OW.cons (S_storeN (l := [v108]) (cs' := #[v108]) hL 1 rfl Tryz_T101 f118 rfl (List.forall_mem_cons.2 ⟨rdL_one (hL.rdO 0 rfl), (fun _ h => by cases h)⟩) rfl (Nat.le_of_ble_eq_true rfl) rfl ?_)
   intro wd121 hL
   refine OW.nil ?_
   refine CW.ret ?_
   obtain rfl := Option.some.inj hm
   exact RRc rfl f118 (run_loadBlk U101 Tryz_T101 (hL.get 1 rfl) rfl) ⟨v108, S109, rfl, hL.mutOut 3 rfl [2, 0] (by decide) (by decide) rfl⟩
 intro s_l1 F122 wd123 t110 hJ hm hr111
 unfold M.spec_l26DrawRace_l1 at hm
 obtain ⟨v108, S109, f124, f125, f126, f127, f128, hL⟩ := hJ
 refine CW.seq ?_
 refine CSR ?_
 refine OV (.int .i64 s_l1.2.2.2) rfl (x_mv f128) ?_
 refine OV (.int .i64 a1) rfl (x_mv f125) ?_
 refine OV (.bool (decide (s_l1.2.2.2 < a1))) rfl (x_lss rfl rfl) ?_
 refine OW.nil ?_
 refine CW.condM (t := decide (s_l1.2.2.2 < a1)) rfl hm (fun hb129 hm => ?_) (fun hb129 hm => ?_)
 · refine CW.skip ?_
   refine CW.seq ?_
   refine CW.block ?_
   refine CSR ?_
   refine OV (.int .i64 s_l1.2.2.2) rfl (x_mv f128) ?_
   refine OV (.pointer (some ⟨b1, 0, none⟩)) rfl (x_mv f124) ?_
   refine OV (.int .i64 a1) rfl (x_mv f125) ?_
   refine OV (.int .i64 (w64 (2 * a1))) rfl (x_mul rfl rfl) ?_
   obtain ⟨x130, hx131, hm⟩ := bndE hm
   refine OW.cons (OP.call rfl (x_call (vs := [(.pointer (some ⟨b1, 0, none⟩)), (.int .i64 (w64 (2 * a1)))]) Tryz_C40 ⟨rfl, rfl, trivial⟩) (M.spec_l01Next_ok _ (Src.mk a0.code s_l1.1 s_l1.2.1) (hL.exZ 3 2 (by decide) rfl rfl h3) (hL.get 2 rfl) (w64 (2 * a1)) hx131) ?_)
   rintro e132 wd133 ⟨rfl, hF134⟩
   refine ⟨_, rfl, ?_⟩
   have hL := hL.mut 2 rfl hF134
   simp only [lA, lB, lC, lD] at hL
   refine OV (.int .i64 (w64 (1 + x130.1))) rfl (x_add rfl rfl) ?_
   refine OV (.agg #[(.int .i64 s_l1.2.2.2), (.int .i64 0), (.int .i64 (w64 (1 + x130.1)))]) rfl (x_build Tryz_B103 (ps := [(0, (.int .i64 s_l1.2.2.2)), (2, (.int .i64 (w64 (1 + x130.1))))]) ⟨⟨rfl, rfl⟩, ⟨rfl, rfl⟩, trivial⟩ (by simp [Instr.fill, cells_int, cells_bool, cells_string, cells_agg, cells_slice, cells_pointer])) ?_
   refine OW.cons (S_alloc (cs := #[(.int .i64 0), (.int .i64 0), (.int .i64 0)]) hL Tryz_T103 rfl rfl ?_)
   intro wd135 b136 hL
   refine OW.cons (S_storeN (l := [(.int .i64 s_l1.2.2.2), (.int .i64 0), (.int .i64 (w64 (1 + x130.1)))]) (cs' := #[(.int .i64 s_l1.2.2.2), (.int .i64 0), (.int .i64 (w64 (1 + x130.1)))]) hL 0 rfl Tryz_T103 rfl rfl (List.forall_mem_cons.2 ⟨rfl, (List.forall_mem_cons.2 ⟨rfl, (List.forall_mem_cons.2 ⟨rfl, (fun _ h => by cases h)⟩)⟩)⟩) rfl (Nat.le_of_ble_eq_true rfl) rfl ?_)
   intro wd137 hL
   refine OW.nil ?_
   refine CW.seqJ (fun (s_j1 : Int × Int × Int × Int) (F : Fr) (w : World) => F 0 = (.pointer (some ⟨b1, 0, none⟩)) ∧ F 1 = (.int .i64 a1) ∧ F 4 = (.pointer (some ⟨b6, 0, none⟩)) ∧ F 5 = v108 ∧ F 6 = (.int .i64 s_l1.2.2.2) ∧ F 7 = (.pointer (some ⟨b136, 0, none⟩)) ∧ Hp w0 [Ent.blk b136 103 #[(.int .i64 s_l1.2.2.2), (.int .i64 s_j1.2.2.1), (.int .i64 s_j1.2.2.2)], Ent.own 103 S109 v108 s_l1.2.2.1, Ent.blk b6 101 #[(.slice none 0 0)], Ent.blk b1 92 #[v2, (.int .i64 s_j1.1), (.int .i64 s_j1.2.1)], Ent.frz w0 (Ent.blk b1 92 #[v2, .int .i64 a0.at_, .int .i64 a0.seed]).S] w) (fun s_j1 => M.spec_l26DrawRace_j1 s_l1 s_j1 = some t110) ?_ ?_
   · refine CSR ?_
     refine OV (.pointer (some ⟨b1, 0, none⟩)) rfl (x_mv f124) ?_
     obtain ⟨x165, hx166, hm⟩ := bndE hm
     refine OW.cons (OP.call rfl (x_call (vs := [(.pointer (some ⟨b1, 0, none⟩)), (.int .i64 4)]) Tryz_C40 ⟨rfl, rfl, trivial⟩) (M.spec_l01Next_ok _ (Src.mk a0.code x130.2.1 x130.2.2) (hL.exZ 4 3 (by decide) rfl rfl h3) (hL.get 3 rfl) 4 hx166) ?_)
     rintro e167 wd168 ⟨rfl, hF169⟩
     refine ⟨_, rfl, ?_⟩
     have hL := hL.mut 3 rfl hF169
     simp only [lA, lB, lC, lD] at hL
     refine OV (.bool (x165.1 == 0)) rfl (x_eql rfl rfl) ?_
     refine OW.nil ?_
     refine CW.condM (t := x165.1 == 0) rfl hm (fun hb170 hm => ?_) (fun hb170 hm => ?_)
     · refine CW.regionL ?_
       refine OV (.int .i64 s_l1.2.2.2) rfl (x_mv f128) ?_
       refine OV (.pointer (some ⟨b1, 0, none⟩)) rfl (x_mv f124) ?_
       obtain ⟨x171, hx172, hm⟩ := bndE hm
       refine OW.cons (OP.call rfl (x_call (vs := [(.pointer (some ⟨b1, 0, none⟩)), (.int .i64 9)]) Tryz_C40 ⟨rfl, rfl, trivial⟩) (M.spec_l01Next_ok _ (Src.mk a0.code x165.2.1 x165.2.2) (hL.exZ 4 3 (by decide) rfl rfl h3) (hL.get 3 rfl) 9 hx172) ?_)
       rintro e173 wd174 ⟨rfl, hF175⟩
       refine ⟨_, rfl, ?_⟩
       have hL := hL.mut 3 rfl hF175
       simp only [lA, lB, lC, lD] at hL
       refine OV (.int .i64 (w64 (1 + x171.1))) rfl (x_add rfl rfl) ?_
       refine OV (.agg #[(.int .i64 s_l1.2.2.2), (.int .i64 (w64 (1 + x171.1))), (.int .i64 0)]) rfl (x_build Tryz_B103 (ps := [(0, (.int .i64 s_l1.2.2.2)), (1, (.int .i64 (w64 (1 + x171.1))))]) ⟨⟨rfl, rfl⟩, ⟨rfl, rfl⟩, trivial⟩ (by simp [Instr.fill, cells_int, cells_bool, cells_string, cells_agg, cells_slice, cells_pointer])) ?_
       refine OW.cons (S_storeN (l := [(.int .i64 s_l1.2.2.2), (.int .i64 (w64 (1 + x171.1))), (.int .i64 0)]) (cs' := #[(.int .i64 s_l1.2.2.2), (.int .i64 (w64 (1 + x171.1))), (.int .i64 0)]) hL 0 rfl Tryz_T103 rfl rfl (List.forall_mem_cons.2 ⟨rfl, (List.forall_mem_cons.2 ⟨rfl, (List.forall_mem_cons.2 ⟨rfl, (fun _ h => by cases h)⟩)⟩)⟩) rfl (Nat.le_of_ble_eq_true rfl) rfl ?_)
       intro wd176 hL
       refine OW.nil ?_
       exact ⟨(x171.2.1, x171.2.2, w64 (1 + x171.1), 0), hm, ⟨f124, f125, f126, f127, f128, rfl, hL⟩⟩
     refine CW.skip ?_
     exact ⟨(x165.2.1, x165.2.2, 0, w64 (1 + x130.1)), hm, ⟨f124, f125, f126, f127, f128, rfl, hL⟩⟩
   intro s_j1 F150 wd151 hJ hm
   unfold M.spec_l26DrawRace_j1 at hm
   obtain ⟨f152, f153, f154, f155, f156, f157, hL⟩ := hJ
   refine CW.regionL ?_
   refine OV v108 rfl (x_mv f155) ?_
   refine OV (.agg #[(.int .i64 s_l1.2.2.2), (.int .i64 s_j1.2.2.1), (.int .i64 s_j1.2.2.2)]) rfl (x_loadN (cs := [(.int .i64 s_l1.2.2.2), (.int .i64 s_j1.2.2.1), (.int .i64 s_j1.2.2.2)]) U103 Tryz_T103 rfl f157 (hL.cellsB 0 rfl (o := 0) (l := [(.int .i64 s_l1.2.2.2), (.int .i64 s_j1.2.2.1), (.int .i64 s_j1.2.2.2)]) (by intro j u hj; exact (by simpa using hj)))) ?_
   refine OW.cons (S_lit ([(Finish.mk s_l1.2.2.2 s_j1.2.2.1 s_j1.2.2.2)] : List Finish) hL U99 Tryz_T103 rfl (by decide) (by first | (simp [Instr.fill, madeCells, Value.cells, ev, upd, Flat.enc, Flat.sz]; done) | rfl | kernel_rfl) rfl rfl ?_)
   intro wd158 v159 S160 hL
   obtain ⟨hc164, hm⟩ := chkE hm
   refine OW.cons (S_append (ys := ([(Finish.mk s_l1.2.2.2 s_j1.2.2.1 s_j1.2.2.2)] : List Finish)) hL 2 rfl U99 Tryz_T103 rfl rfl rfl (hL.rdO 0 rfl) hc164 (by decide) rfl ?_)
   intro wd161 v162 S163 hL
   refine OV v162 rfl (x_assign) ?_
   refine OW.nil ?_
   refine CW.regionL ?_
   refine OV (.int .i64 s_l1.2.2.2) rfl (x_mv f156) ?_
   refine OV (.int .i64 (w64 (s_l1.2.2.2 + 1))) rfl (x_add rfl rfl) ?_
   refine OV (.int .i64 (w64 (s_l1.2.2.2 + 1))) rfl (x_assign) ?_
   refine OW.nil ?_
   have hL := hL.sel [2, 3, 4, 5] (by decide) rfl
   obtain rfl := Option.some.inj hm
   exact ⟨_, rfl, ⟨v162, S163, f152, f153, f154, rfl, rfl, hL⟩⟩
 refine CW.exit ?_
 refine XJ.hit ?_
 obtain rfl := Option.some.inj hm
 exact ⟨_, rfl, ⟨v108, S109, f124, f125, f126, f127, f128, hL⟩⟩

theorem M.spec_l26DrawSeries_ok (w0 : World) {b1 : Nat} {v2 : Value} (a0 : Src) (h3 : rdL (fun k => k < w0.heap.size ∧ ¬ (Ent.blk b1 92 #[v2, .int .i64 a0.at_, .int .i64 a0.seed]).S k) w0 v2 a0.code) (he4 : (Ent.blk b1 92 #[v2, .int .i64 a0.at_, .int .i64 a0.seed]).H w0) {r : (Series) × (Int × Int)} (hm : M.spec_l26DrawSeries a0 = some r) :
    Calls Tryz.prog 72 #[(.pointer (some ⟨b1, 0, none⟩))] w0 fun e w' => ∃ (rv0 : Value) (rS0 : Nat → Prop), e = .returned (.agg #[(.int .i64 r.1.Boats), (.int .i64 r.1.Scheme), rv0]) ∧ Mut w0 w' (Ent.blk b1 92 #[v2, .int .i64 a0.at_, .int .i64 a0.seed]).S [Ent.blk b1 92 #[v2, .int .i64 r.2.1, .int .i64 r.2.2], Ent.own 101 rS0 rv0 r.1.Races] := by
 unfold M.spec_l26DrawSeries at hm
 refine calls_CW (args := [(.pointer (some ⟨b1, 0, none⟩))]) Tryz.func72 rfl rfl rfl ?_
 have hL := Hp.startIO he4
 refine CSR ?_
 refine OW.cons (S_alloc (cs := #[(.int .i64 0), (.int .i64 0), (.slice none 0 0)]) hL Tryz_T38 rfl rfl ?_)
 intro wd5 b6 hL
 refine ONR ?_
 refine OV (.pointer (some ⟨b1, 0, none⟩)) rfl (x_move) ?_
 obtain ⟨x7, hx8, hm⟩ := bndE hm
 refine OW.cons (OP.call rfl (x_call (vs := [(.pointer (some ⟨b1, 0, none⟩))]) Tryz_C105 ⟨rfl, trivial⟩) (M.spec_l26DrawBoats_ok _ (Src.mk a0.code a0.at_ a0.seed) (hL.exZ 2 1 (by decide) rfl rfl h3) (hL.get 1 rfl) hx8) ?_)
 rintro e9 wd10 ⟨rfl, hF11⟩
 refine ⟨_, rfl, ?_⟩
 have hL := hL.mut 1 rfl hF11
 simp only [lA, lB, lC, lD] at hL
 refine OV (.int .i64 x7.1) rfl (x_assign) ?_
 refine ONR ?_
 refine OV (.int .i64 x7.1) rfl (x_move) ?_
 refine OV (.pointer (some ⟨b1, 0, none⟩)) rfl (x_move) ?_
 obtain ⟨x12, hx13, hm⟩ := bndE hm
 refine OW.cons (OP.call rfl (x_call (vs := [(.pointer (some ⟨b1, 0, none⟩)), (.int .i64 2)]) Tryz_C40 ⟨rfl, rfl, trivial⟩) (M.spec_l01Next_ok _ (Src.mk a0.code x7.2.1 x7.2.2) (hL.exZ 2 1 (by decide) rfl rfl h3) (hL.get 1 rfl) 2 hx13) ?_)
 rintro e14 wd15 ⟨rfl, hF16⟩
 refine ⟨_, rfl, ?_⟩
 have hL := hL.mut 1 rfl hF16
 simp only [lA, lB, lC, lD] at hL
 refine OW.cons (S_lit0 (α := Finish) Race hL U36 Tryz_T101 rfl ?_)
 intro wd17 v18 S19 hL
 refine OV (.agg #[(.int .i64 x7.1), (.int .i64 x12.1), v18]) rfl (x_build Tryz_B38 (ps := [(0, (.int .i64 x7.1)), (1, (.int .i64 x12.1)), (2, v18)]) ⟨⟨rfl, rfl⟩, ⟨rfl, rfl⟩, ⟨rfl, rfl⟩, trivial⟩ (by simp [Instr.fill, cells_int, cells_bool, cells_string, cells_agg, cells_slice, cells_pointer, (rdL_cells (hL.rdO 0 rfl))])) ?_
 refine OW.cons (S_alloc (cs := #[(.int .i64 0), (.int .i64 0), (.slice none 0 0)]) hL Tryz_T38 rfl rfl ?_)
 intro wd20 b21 hL
 refine OW.cons (S_storeN (l := [(.int .i64 x7.1), (.int .i64 x12.1), v18]) (cs' := #[(.int .i64 x7.1), (.int .i64 x12.1), v18]) hL 0 rfl Tryz_T38 rfl rfl (List.forall_mem_cons.2 ⟨rfl, (List.forall_mem_cons.2 ⟨rfl, (List.forall_mem_cons.2 ⟨rdL_one (hL.rdO 1 rfl), (fun _ h => by cases h)⟩)⟩)⟩) rfl (Nat.le_of_ble_eq_true rfl) rfl ?_)
 intro wd22 hL
 refine ONR ?_
 refine OW.cons (S_lit0 (α := Finish) Race hL U36 Tryz_T101 rfl ?_)
 intro wd23 v24 S25 hL
 refine OV v24 rfl (x_assign) ?_
 refine ONS ?_
 refine CSR ?_
 refine OV (.pointer (some ⟨b1, 0, none⟩)) rfl (x_move) ?_
 obtain ⟨x26, hx27, hm⟩ := bndE hm
 refine OW.cons (OP.call rfl (x_call (vs := [(.pointer (some ⟨b1, 0, none⟩)), (.int .i64 7)]) Tryz_C40 ⟨rfl, rfl, trivial⟩) (M.spec_l01Next_ok _ (Src.mk a0.code x12.2.1 x12.2.2) (hL.exZ 5 4 (by decide) rfl rfl h3) (hL.get 4 rfl) 7 hx27) ?_)
 rintro e28 wd29 ⟨rfl, hF30⟩
 refine ⟨_, rfl, ?_⟩
 have hL := hL.mut 4 rfl hF30
 simp only [lA, lB, lC, lD] at hL
 refine OV (.int .i64 x26.1) rfl (x_assign) ?_
 refine OW.nil ?_
 obtain ⟨o67, ho68, hm⟩ := bndE hm
 refine CW.loopB (fun (s_l1 : Int × Int × (List Race) × Int) (F : Fr) (w : World) => ∃ (v63 : Value) (S64 : Nat → Prop), F 0 = (.pointer (some ⟨b1, 0, none⟩)) ∧ F 2 = (.pointer (some ⟨b6, 0, none⟩)) ∧ F 3 = (.int .i64 x7.1) ∧ F 4 = (.pointer (some ⟨b21, 0, none⟩)) ∧ F 5 = v63 ∧ F 6 = (.int .i64 s_l1.2.2.2) ∧ Hp w0 [Ent.own 101 S64 v63 s_l1.2.2.1, Ent.blk b21 38 #[(.int .i64 x7.1), (.int .i64 x12.1), v18], Ent.own 101 S19 v18 ([] : List Race), Ent.blk b6 38 #[(.int .i64 0), (.int .i64 0), (.slice none 0 0)], Ent.blk b1 92 #[v2, (.int .i64 s_l1.1), (.int .i64 s_l1.2.1)], Ent.frz w0 (Ent.blk b1 92 #[v2, .int .i64 a0.at_, .int .i64 a0.seed]).S] w) (fun o => outc o (fun x => some x) (fun s => M.spec_l26DrawSeries_a1 a0 x7 x12 s) = some r) ho68 hm ⟨v24, S25, rfl, rfl, rfl, rfl, rfl, rfl, hL⟩ ?_ ?_
 · intro s_l1 F69 wd70 hJ hm
   have hm := outcE hm
   have hm : M.spec_l26DrawSeries_a1 a0 x7 x12 s_l1 = some r := hm
   unfold M.spec_l26DrawSeries_a1 at hm
   obtain ⟨v63, S64, f71, f72, f73, f74, f75, f76, hL⟩ := hJ
   refine CW.seqJ (fun (s_j1 : Int × Int × Int × (List Race)) (F : Fr) (w : World) => ∃ (v275 : Value) (S276 : Nat → Prop), F 2 = (.pointer (some ⟨b6, 0, none⟩)) ∧ F 4 = (.pointer (some ⟨b21, 0, none⟩)) ∧ F 5 = v275 ∧ Hp w0 [Ent.own 101 S276 v275 s_j1.2.2.2, Ent.blk b21 38 #[(.int .i64 x7.1), (.int .i64 s_j1.2.2.1), v18], Ent.own 101 S19 v18 ([] : List Race), Ent.blk b6 38 #[(.int .i64 0), (.int .i64 0), (.slice none 0 0)], Ent.blk b1 92 #[v2, (.int .i64 s_j1.1), (.int .i64 s_j1.2.1)], Ent.frz w0 (Ent.blk b1 92 #[v2, .int .i64 a0.at_, .int .i64 a0.seed]).S] w) (fun s_j1 => M.spec_l26DrawSeries_j1 x7 s_j1 = some r) ?_ ?_
   · refine CSR ?_
     refine OV (.pointer (some ⟨b1, 0, none⟩)) rfl (x_mv f71) ?_
     obtain ⟨x283, hx284, hm⟩ := bndE hm
     refine OW.cons (OP.call rfl (x_call (vs := [(.pointer (some ⟨b1, 0, none⟩)), (.int .i64 30)]) Tryz_C40 ⟨rfl, rfl, trivial⟩) (M.spec_l01Next_ok _ (Src.mk a0.code s_l1.1 s_l1.2.1) (hL.exZ 5 4 (by decide) rfl rfl h3) (hL.get 4 rfl) 30 hx284) ?_)
     rintro e285 wd286 ⟨rfl, hF287⟩
     refine ⟨_, rfl, ?_⟩
     have hL := hL.mut 4 rfl hF287
     simp only [lA, lB, lC, lD] at hL
     refine OW.nil ?_
     refine CW.blockJ (fun (s_j2 : Int × Int × Int × (List Race)) (F : Fr) (w : World) => ∃ (v381 : Value) (S382 : Nat → Prop), F 2 = (.pointer (some ⟨b6, 0, none⟩)) ∧ F 4 = (.pointer (some ⟨b21, 0, none⟩)) ∧ F 5 = v381 ∧ Hp w0 [Ent.own 101 S382 v381 s_j2.2.2.2, Ent.blk b21 38 #[(.int .i64 x7.1), (.int .i64 s_j2.2.2.1), v18], Ent.own 101 S19 v18 ([] : List Race), Ent.blk b6 38 #[(.int .i64 0), (.int .i64 0), (.slice none 0 0)], Ent.blk b1 92 #[v2, (.int .i64 s_j2.1), (.int .i64 s_j2.2.1)], Ent.frz w0 (Ent.blk b1 92 #[v2, .int .i64 a0.at_, .int .i64 a0.seed]).S] w) (fun s_j2 => M.spec_l26DrawSeries_j2 x7 s_j2 = some r) ?_ ?_
     · refine CSR ?_
       refine OV (.bool (x283.1 == 0)) rfl (x_eql rfl rfl) ?_
       refine OV (.bool (x283.1 == 0)) rfl (x_assign) ?_
       refine OW.nil ?_
       refine CW.condM (t := x283.1 == 0) rfl hm (fun hb388 hm => ?_) (fun hb388 hm => ?_)
       · refine CW.regionL ?_
         refine OV (.pointer (some ⟨b21, 1, none⟩)) rfl (x_fieldAddr (fsz := 1) 0 1 1 U38 rfl Tryz_T2 rfl f74 rfl) ?_
         refine OW.cons (S_store (cs' := #[(.int .i64 x7.1), (.int .i64 2), v18]) hL 1 rfl Tryz_T2 rfl rfl rfl rfl rfl ?_)
         intro wd389 hL
         refine OW.nil ?_
         exact ⟨(x283.2.1, x283.2.2, 2, s_l1.2.2.1), hm, ⟨v63, S64, f72, f74, f75, hL⟩⟩
       refine CSR ?_
       refine OV (.bool (x283.1 == 1)) rfl (x_eql rfl rfl) ?_
       refine OV (.bool (x283.1 == 1)) rfl (x_assign) ?_
       refine OW.nil ?_
       refine CW.condM (t := x283.1 == 1) rfl hm (fun hb390 hm => ?_) (fun hb390 hm => ?_)
       · refine CW.regionL ?_
         refine OV v63 rfl (x_mv f75) ?_
         refine OV (.pointer (some ⟨b1, 0, none⟩)) rfl (x_mv f71) ?_
         refine OV (.int .i64 x7.1) rfl (x_mv f73) ?_
         refine OV (.int .i64 (w64 (x7.1 + 1))) rfl (x_add rfl rfl) ?_
         obtain ⟨x391, hx392, hm⟩ := bndE hm
         refine OW.cons (OP.call rfl (x_call (vs := [(.pointer (some ⟨b1, 0, none⟩)), (.int .i64 (w64 (x7.1 + 1)))]) Tryz_C106 ⟨rfl, rfl, trivial⟩) (M.spec_l26DrawRace_ok _ (Src.mk a0.code x283.2.1 x283.2.2) (hL.exZ 5 4 (by decide) rfl rfl h3) (hL.get 4 rfl) (w64 (x7.1 + 1)) hx392) ?_)
         rintro e395 wd396 ⟨v394, S393, rfl, hF397⟩
         refine ⟨_, rfl, ?_⟩
         have hL := hL.mut 4 rfl hF397
         simp only [lA, lB, lC, lD] at hL
         refine OW.cons (S_lit1 (Race.mk x391.1.Finishes) rfl hL U36 Tryz_T101 rfl rfl ?_)
         intro wd398 v399 S400 hL
         obtain ⟨hc404, hm⟩ := chkE hm
         have hL := hL.sel [1, 0, 2, 3, 4, 5, 6] (by decide) rfl
         refine OW.cons (S_appendN Finish hL U36 Tryz_T101 rfl rfl rfl hc404 (by decide) rfl ?_)
         intro wd401 v402 S403 hL
         refine OV v402 rfl (x_assign) ?_
         refine OW.nil ?_
         exact ⟨(x391.2.1, x391.2.2, x12.1, s_l1.2.2.1 ++ ([(Race.mk x391.1.Finishes)] : List Race)), hm, ⟨v402, S403, f72, f74, rfl, hL⟩⟩
       refine CSR ?_
       refine OV (.bool (x283.1 == 2)) rfl (x_eql rfl rfl) ?_
       refine OV (.bool (x283.1 == 2)) rfl (x_assign) ?_
       refine OW.nil ?_
       refine CW.condM (t := x283.1 == 2) rfl hm (fun hb405 hm => ?_) (fun hb405 hm => ?_)
       · refine CW.seq ?_
         obtain ⟨o442, ho443, hm⟩ := bndE hm
         refine CW.loopB (fun (s_l2 : Int × Int × (List Race)) (F : Fr) (w : World) => ∃ (v438 : Value) (S439 : Nat → Prop), F 0 = (.pointer (some ⟨b1, 0, none⟩)) ∧ F 2 = (.pointer (some ⟨b6, 0, none⟩)) ∧ F 3 = (.int .i64 x7.1) ∧ F 4 = (.pointer (some ⟨b21, 0, none⟩)) ∧ F 5 = v438 ∧ Hp w0 [Ent.own 101 S439 v438 s_l2.2.2, Ent.blk b21 38 #[(.int .i64 x7.1), (.int .i64 x12.1), v18], Ent.own 101 S19 v18 ([] : List Race), Ent.blk b6 38 #[(.int .i64 0), (.int .i64 0), (.slice none 0 0)], Ent.blk b1 92 #[v2, (.int .i64 s_l2.1), (.int .i64 s_l2.2.1)], Ent.frz w0 (Ent.blk b1 92 #[v2, .int .i64 a0.at_, .int .i64 a0.seed]).S] w) (fun o => outc o (fun x => some x) (fun s => M.spec_l26DrawSeries_a2 a0 x7 x12 s) = some r) ho443 hm ⟨v63, S64, f71, f72, f73, f74, f75, hL⟩ ?_ ?_
         · intro s_l2 F444 wd445 hJ hm
           have hm := outcE hm
           have hm : M.spec_l26DrawSeries_a2 a0 x7 x12 s_l2 = some r := hm
           unfold M.spec_l26DrawSeries_a2 at hm
           obtain ⟨v438, S439, f446, f447, f448, f449, f450, hL⟩ := hJ
           refine CW.regionL ?_
           refine OV v438 rfl (x_mv f450) ?_
           refine OV (.pointer (some ⟨b1, 0, none⟩)) rfl (x_mv f446) ?_
           obtain ⟨x451, hx452, hm⟩ := bndE hm
           refine OW.cons (OP.call rfl (x_call (vs := [(.pointer (some ⟨b1, 0, none⟩)), (.int .i64 2)]) Tryz_C40 ⟨rfl, rfl, trivial⟩) (M.spec_l01Next_ok _ (Src.mk a0.code s_l2.1 s_l2.2.1) (hL.exZ 5 4 (by decide) rfl rfl h3) (hL.get 4 rfl) 2 hx452) ?_)
           rintro e453 wd454 ⟨rfl, hF455⟩
           refine ⟨_, rfl, ?_⟩
           have hL := hL.mut 4 rfl hF455
           simp only [lA, lB, lC, lD] at hL
           refine OV (.int .i64 (w64 (12 + x451.1))) rfl (x_add rfl rfl) ?_
           obtain ⟨hc458, hm⟩ := chkE hm
           obtain ⟨v456, hs457⟩ := subV_of (hL.rdO 0 rfl) hc458
           refine OV v456 rfl (x_slice0 U36 Tryz_T101 rfl rfl hs457) ?_
           refine OV v456 rfl (x_assign) ?_
           refine OW.nil ?_
           have hL := hL.prefix 0 rfl hs457
           exact ⟨(x451.2.1, x451.2.2, x12.1, subL s_l2.2.2 0 (w64 (12 + x451.1))), hm, ⟨v456, S439, f447, f449, rfl, hL⟩⟩
         intro s_l2 F459 wd460 t440 hJ hm hr441
         unfold M.spec_l26DrawSeries_l2 at hm
         obtain ⟨v438, S439, f461, f462, f463, f464, f465, hL⟩ := hJ
         refine CW.seq ?_
         refine CSR ?_
         refine OV v438 rfl (x_mv f465) ?_
         refine OV (.int .i64 (s_l2.2.2.length : Int)) rfl (x_lenR U36 rfl (hL.rdO 0 rfl)) ?_
         refine OV (.bool (decide ((s_l2.2.2.length : Int) < 13))) rfl (x_lss rfl rfl) ?_
         refine OW.nil ?_
         refine CW.condM (t := decide ((s_l2.2.2.length : Int) < 13)) rfl hm (fun hb466 hm => ?_) (fun hb466 hm => ?_)
         · refine CW.skip ?_
           refine CW.block ?_
           refine CW.regionL ?_
           refine OV v438 rfl (x_mv f465) ?_
           refine OV (.pointer (some ⟨b1, 0, none⟩)) rfl (x_mv f461) ?_
           refine OV (.int .i64 x7.1) rfl (x_mv f463) ?_
           obtain ⟨x467, hx468, hm⟩ := bndE hm
           refine OW.cons (OP.call rfl (x_call (vs := [(.pointer (some ⟨b1, 0, none⟩)), (.int .i64 x7.1)]) Tryz_C106 ⟨rfl, rfl, trivial⟩) (M.spec_l26DrawRace_ok _ (Src.mk a0.code s_l2.1 s_l2.2.1) (hL.exZ 5 4 (by decide) rfl rfl h3) (hL.get 4 rfl) x7.1 hx468) ?_)
           rintro e471 wd472 ⟨v470, S469, rfl, hF473⟩
           refine ⟨_, rfl, ?_⟩
           have hL := hL.mut 4 rfl hF473
           simp only [lA, lB, lC, lD] at hL
           refine OW.cons (S_lit1 (Race.mk x467.1.Finishes) rfl hL U36 Tryz_T101 rfl rfl ?_)
           intro wd474 v475 S476 hL
           obtain ⟨hc480, hm⟩ := chkE hm
           have hL := hL.sel [1, 0, 2, 3, 4, 5, 6] (by decide) rfl
           refine OW.cons (S_appendN Finish hL U36 Tryz_T101 rfl rfl rfl hc480 (by decide) rfl ?_)
           intro wd477 v478 S479 hL
           refine OV v478 rfl (x_assign) ?_
           refine OW.nil ?_
           obtain rfl := Option.some.inj hm
           exact ⟨_, rfl, ⟨v478, S479, f461, f462, f463, f464, rfl, hL⟩⟩
         refine CW.exit ?_
         refine XJ.hit ?_
         obtain rfl := Option.some.inj hm
         exact ⟨_, rfl, ⟨v438, S439, f461, f462, f463, f464, f465, hL⟩⟩
       refine CW.skip ?_
       exact ⟨(x283.2.1, x283.2.2, x12.1, s_l1.2.2.1), hm, ⟨v63, S64, f72, f74, f75, hL⟩⟩
     intro s_j2 F383 wd384 hJ hm
     unfold M.spec_l26DrawSeries_j2 at hm
     obtain ⟨v381, S382, f385, f386, f387, hL⟩ := hJ
     exact ⟨(s_j2.1, s_j2.2.1, s_j2.2.2.1, s_j2.2.2.2), hm, ⟨v381, S382, f385, f386, f387, hL⟩⟩
   intro s_j1 F277 wd278 hJ hm
   unfold M.spec_l26DrawSeries_j1 at hm
   obtain ⟨v275, S276, f279, f280, f281, hL⟩ := hJ
   refine CSR ?_
   refine OV (.pointer (some ⟨b21, 0, none⟩)) rfl (x_fieldAddr (fsz := 1) 0 0 0 U38 rfl Tryz_T2 rfl f280 rfl) ?_
   refine OV (.int .i64 x7.1) rfl (x_load1 U2 rfl rfl (hL.cellB 1 rfl rfl)) ?_
   refine OV (.pointer (some ⟨b21, 1, none⟩)) rfl (x_fieldAddr (fsz := 1) 0 1 1 U38 rfl Tryz_T2 rfl f280 rfl) ?_
   refine OV (.int .i64 s_j1.2.2.1) rfl (x_load1 U2 rfl rfl (hL.cellB 1 rfl rfl)) ?_
   refine OV v275 rfl (x_mv f281) ?_
   refine OV (.agg #[(.int .i64 x7.1), (.int .i64 s_j1.2.2.1), v275]) rfl (x_build Tryz_B38 (ps := [(0, (.int .i64 x7.1)), (1, (.int .i64 s_j1.2.2.1)), (2, v275)]) ⟨⟨rfl, rfl⟩, ⟨rfl, rfl⟩, ⟨rfl, rfl⟩, trivial⟩ (by simp [Instr.fill, cells_int, cells_bool, cells_string, cells_agg, cells_slice, cells_pointer, (rdL_cells (hL.rdO 0 rfl))])) ?_
   refine OW.cons (S_storeN (l := [(.int .i64 x7.1), (.int .i64 s_j1.2.2.1), v275]) (cs' := #[(.int .i64 x7.1), (.int .i64 s_j1.2.2.1), v275]) hL 3 rfl Tryz_T38 f279 rfl (List.forall_mem_cons.2 ⟨rfl, (List.forall_mem_cons.2 ⟨rfl, (List.forall_mem_cons.2 ⟨rdL_one (hL.rdO 0 rfl), (fun _ h => by cases h)⟩)⟩)⟩) rfl (Nat.le_of_ble_eq_true rfl) rfl ?_)
   intro wd282 hL
   refine OW.nil ?_
   refine CW.ret ?_
   obtain rfl := Option.some.inj hm
   exact RRc rfl f279 (run_loadBlk U38 Tryz_T38 (hL.get 3 rfl) rfl) ⟨v275, S276, rfl, hL.mutOut 5 rfl [4, 0] (by decide) (by decide) rfl⟩
 intro s_l1 F481 wd482 t65 hJ hm hr66
 unfold M.spec_l26DrawSeries_l1 at hm
 obtain ⟨v63, S64, f483, f484, f485, f486, f487, f488, hL⟩ := hJ
 refine CW.seq ?_
 refine CSR ?_
 refine OV (.int .i64 s_l1.2.2.2) rfl (x_mv f488) ?_
 refine OV (.bool (decide (0 < s_l1.2.2.2))) rfl (x_gtr rfl rfl) ?_
 refine OW.nil ?_
 refine CW.condM (t := decide (0 < s_l1.2.2.2)) rfl hm (fun hb489 hm => ?_) (fun hb489 hm => ?_)
 · refine CW.skip ?_
   refine CW.seq ?_
   refine CW.block ?_
   refine CW.regionL ?_
   refine OV v63 rfl (x_mv f487) ?_
   refine OV (.pointer (some ⟨b1, 0, none⟩)) rfl (x_mv f483) ?_
   refine OV (.int .i64 x7.1) rfl (x_mv f485) ?_
   obtain ⟨x490, hx491, hm⟩ := bndE hm
   refine OW.cons (OP.call rfl (x_call (vs := [(.pointer (some ⟨b1, 0, none⟩)), (.int .i64 x7.1)]) Tryz_C106 ⟨rfl, rfl, trivial⟩) (M.spec_l26DrawRace_ok _ (Src.mk a0.code s_l1.1 s_l1.2.1) (hL.exZ 5 4 (by decide) rfl rfl h3) (hL.get 4 rfl) x7.1 hx491) ?_)
   rintro e494 wd495 ⟨v493, S492, rfl, hF496⟩
   refine ⟨_, rfl, ?_⟩
   have hL := hL.mut 4 rfl hF496
   simp only [lA, lB, lC, lD] at hL
   refine OW.cons (S_lit1 (Race.mk x490.1.Finishes) rfl hL U36 Tryz_T101 rfl rfl ?_)
   intro wd497 v498 S499 hL
   obtain ⟨hc503, hm⟩ := chkE hm
   have hL := hL.sel [1, 0, 2, 3, 4, 5, 6] (by decide) rfl
   refine OW.cons (S_appendN Finish hL U36 Tryz_T101 rfl rfl rfl hc503 (by decide) rfl ?_)
   intro wd500 v501 S502 hL
   refine OV v501 rfl (x_assign) ?_
   refine OW.nil ?_
   refine CW.regionL ?_
   refine OV (.int .i64 s_l1.2.2.2) rfl (x_mv f488) ?_
   refine OV (.int .i64 (w64 (s_l1.2.2.2 - 1))) rfl (x_sub rfl rfl) ?_
   refine OV (.int .i64 (w64 (s_l1.2.2.2 - 1))) rfl (x_assign) ?_
   refine OW.nil ?_
   obtain rfl := Option.some.inj hm
   exact ⟨_, rfl, ⟨v501, S502, f483, f484, f485, f486, rfl, rfl, hL⟩⟩
 refine CW.exit ?_
 refine XJ.hit ?_
 obtain rfl := Option.some.inj hm
 exact ⟨_, rfl, ⟨v63, S64, f483, f484, f485, f486, f487, f488, hL⟩⟩

theorem M.spec_l01In_ok (w0 : World) (a0 : Int) (a1 : Int) (a2 : Int) {r : Bool} (hm : M.spec_l01In a0 a1 a2 = some r) :
    Calls Tryz.prog 48 #[(.int .i64 a0), (.int .i64 a1), (.int .i64 a2)] w0 fun e w' => e = .returned (.bool r) ∧ Fresh w0 w' [] := by
 unfold M.spec_l01In at hm
 refine calls_CW (args := [(.int .i64 a0), (.int .i64 a1), (.int .i64 a2)]) Tryz.func48 rfl rfl rfl ?_
 have hL := Hp.start w0
 refine CSR ?_
 refine OV (.bool false) rfl (x_assign) ?_
 refine OW.nil ?_
 refine CW.seqJ (fun (s_j1 : Bool) (F : Fr) (w : World) => F 6 = (.bool s_j1) ∧ Hp w0 [Ent.snap w0 w0.heap.size] w) (fun s_j1 => M.spec_l01In_j1 s_j1 = some r) ?_ ?_
 · refine CW.regionL ?_
   refine OV (.int .i64 a0) rfl (x_move) ?_
   refine OV (.int .i64 a1) rfl (x_move) ?_
   refine OV (.bool (decide (a1 ≤ a0))) rfl (x_geq rfl rfl) ?_
   refine OV (.bool (decide (a1 ≤ a0))) rfl (x_move) ?_
   refine ifB_elim hm (fun hb5 hm => ?_) (fun hb5 hm => ?_)
   · refine OW.cons (OP.yes' rfl rfl hb5 (OP.val (v := (.int .i64 a0)) rfl (x_move) ?_))
     refine OW.cons (OP.yes' rfl rfl hb5 (OP.val (v := (.int .i64 a2)) rfl (x_move) ?_))
     refine OW.cons (OP.yes' rfl rfl hb5 (OP.val (v := (.bool (decide (a0 ≤ a2)))) rfl (x_leq rfl rfl) ?_))
     refine OV (.bool (decide (a0 ≤ a2))) rfl (x_pickT' rfl hb5 rfl) ?_
     refine OV (.bool (decide (a0 ≤ a2))) rfl (x_assign) ?_
     refine OW.nil ?_
     exact ⟨decide (a0 ≤ a2), hm, ⟨rfl, hL⟩⟩
   refine OW.cons (OP.no' rfl rfl hb5 rfl ?_)
   refine OW.cons (OP.no' rfl rfl hb5 rfl ?_)
   refine OW.cons (OP.no' rfl rfl hb5 rfl ?_)
   refine OV (.bool false) rfl (x_pickF' rfl hb5 rfl) ?_
   refine OV (.bool false) rfl (x_assign) ?_
   refine OW.nil ?_
   exact ⟨false, hm, ⟨rfl, hL⟩⟩
 intro s_j1 F2 wd3 hJ hm
 unfold M.spec_l01In_j1 at hm
 obtain ⟨f4, hL⟩ := hJ
 refine CW.ret ?_
 obtain rfl := Option.some.inj hm
 exact RR1 rfl f4 ⟨rfl, hL.fresh 0 rfl [] (by decide) (by decide) rfl⟩

theorem M.spec_l26Code_ok (w0 : World) (a0 : Int) {r : Bool} (hm : M.spec_l26Code a0 = some r) :
    Calls Tryz.prog 96 #[(.int .i64 a0)] w0 fun e w' => e = .returned (.bool r) ∧ Fresh w0 w' [] := by
 unfold M.spec_l26Code at hm
 refine calls_CW (args := [(.int .i64 a0)]) Tryz.func96 rfl rfl rfl ?_
 have hL := Hp.start w0
 refine CSR ?_
 refine OV (.bool false) rfl (x_assign) ?_
 refine ONR ?_
 refine OV (.int .i64 a0) rfl (x_move) ?_
 obtain ⟨x1, hx2, hm⟩ := bndE hm
 refine OW.cons (OP.call rfl (x_call (vs := [(.int .i64 a0), (.int .i64 0), (.int .i64 9)]) Tryz_C48 ⟨rfl, rfl, rfl, trivial⟩) (M.spec_l01In_ok _ a0 0 9 hx2) ?_)
 rintro e3 wd4 ⟨rfl, hF5⟩
 refine ⟨_, rfl, ?_⟩
 have hL := hL.pushAll hF5
 simp only [lA, lB, lC, lD] at hL
 refine OV (.bool x1) rfl (x_assign) ?_
 refine OW.nil ?_
 refine CW.ret ?_
 obtain rfl := Option.some.inj hm
 exact RR1 rfl rfl ⟨rfl, hL.fresh 0 rfl [] (by decide) (by decide) rfl⟩

theorem M.spec_l26Race_ok (w0 : World) (a0 : Int) (a1 : Race) {v1 : Value} (h2 : rdL (· < w0.heap.size) w0 v1 a1.Finishes) {r : Bool} (hm : M.spec_l26Race a0 a1 = some r) :
    Calls Tryz.prog 110 #[(.int .i64 a0), (.agg #[v1])] w0 fun e w' => e = .returned (.bool r) ∧ Fresh w0 w' [] := by
 unfold M.spec_l26Race at hm
 refine calls_CW (args := [(.int .i64 a0), (.agg #[v1])]) Tryz.func110 rfl rfl rfl ?_
 have hL := Hp.start w0
 refine CSR ?_
 refine OW.cons (S_box (cs := #[v1]) hL rfl rfl rfl ?_)
 intro wd3 b4 hL
 refine OV (.bool false) rfl (x_assign) ?_
 refine ONS ?_
 refine CSR ?_
 refine OV (.pointer (some ⟨b4, 0, none⟩)) rfl (x_fieldAddr (fsz := 1) 0 0 0 U101 rfl Tryz_T99 rfl rfl rfl) ?_
 refine OV v1 rfl (x_load1 U99 rfl rfl (hL.cellB 0 rfl rfl)) ?_
 refine OV (.int .i64 (a1.Finishes.length : Int)) rfl (x_lenR U99 rfl (hL.rdS 1 rfl h2)) ?_
 refine OV (.int .i64 a0) rfl (x_move) ?_
 refine OV (.bool ((a1.Finishes.length : Int) != a0)) rfl (x_neq rfl rfl) ?_
 refine OW.nil ?_
 refine CW.condM (t := (a1.Finishes.length : Int) != a0) rfl hm (fun hb5 hm => ?_) (fun hb5 hm => ?_)
 · refine CSR ?_
   refine OV (.bool false) rfl (x_assign) ?_
   refine OW.nil ?_
   refine CW.ret ?_
   obtain rfl := Option.some.inj hm
   exact RR1 rfl rfl ⟨rfl, hL.fresh 1 rfl [] (by decide) (by decide) rfl⟩
 refine CW.skip ?_
 refine CW.seq ?_
 refine CSR ?_
 refine OV (.int .i64 0) rfl (x_assign) ?_
 refine OW.nil ?_
 obtain ⟨o116, ho117, hm⟩ := bndE hm
 refine CW.loopB (fun (s_l1 : Int) (F : Fr) (w : World) => F 3 = (.pointer (some ⟨b4, 0, none⟩)) ∧ F 5 = (.int .i64 s_l1) ∧ Hp w0 [Ent.blk b4 101 #[v1], Ent.snap w0 w0.heap.size] w) (fun o => outc o (fun x => some x) (fun s => M.spec_l26Race_a1 s) = some r) ho117 hm ⟨rfl, rfl, hL⟩ ?_ ?_
 · intro s_l1 F118 wd119 hJ hm
   have hm := outcE hm
   have hm : M.spec_l26Race_a1 s_l1 = some r := hm
   unfold M.spec_l26Race_a1 at hm
   obtain ⟨f120, f121, hL⟩ := hJ
   refine CSR ?_
   refine OV (.bool true) rfl (x_assign) ?_
   refine OW.nil ?_
   refine CW.ret ?_
   obtain rfl := Option.some.inj hm
   exact RR1 rfl rfl ⟨rfl, hL.fresh 1 rfl [] (by decide) (by decide) rfl⟩
 intro s_l1 F122 wd123 t114 hJ hm hr115
 unfold M.spec_l26Race_l1 at hm
 obtain ⟨f124, f125, hL⟩ := hJ
 refine CW.seq ?_
 refine CSR ?_
 refine OV (.int .i64 s_l1) rfl (x_mv f125) ?_
 refine OV (.pointer (some ⟨b4, 0, none⟩)) rfl (x_fieldAddr (fsz := 1) 0 0 0 U101 rfl Tryz_T99 rfl f124 rfl) ?_
 refine OV v1 rfl (x_load1 U99 rfl rfl (hL.cellB 0 rfl rfl)) ?_
 refine OV (.int .i64 (a1.Finishes.length : Int)) rfl (x_lenR U99 rfl (hL.rdS 1 rfl h2)) ?_
 refine OV (.bool (decide (s_l1 < (a1.Finishes.length : Int)))) rfl (x_lss rfl rfl) ?_
 refine OW.nil ?_
 refine CW.condM (t := decide (s_l1 < (a1.Finishes.length : Int))) rfl hm (fun hb126 hm => ?_) (fun hb126 hm => ?_)
 · refine CW.skip ?_
   refine CW.seq ?_
   refine CW.block ?_
   refine CSR ?_
   refine OV (.pointer (some ⟨b4, 0, none⟩)) rfl (x_fieldAddr (fsz := 1) 0 0 0 U101 rfl Tryz_T99 rfl f124 rfl) ?_
   refine OV v1 rfl (x_load1 U99 rfl rfl (hL.cellB 0 rfl rfl)) ?_
   refine OV (.int .i64 s_l1) rfl (x_mv f125) ?_
   obtain ⟨x127, ha128, hm⟩ := bndE hm
   obtain ⟨hz129, ha133⟩ := idxE ha128
   obtain ⟨b130, q131, hix132⟩ := rdL_ix (hL.rdS 1 rfl h2) hz129 ha133
   refine OV (.pointer (some ⟨b130, q131, none⟩)) rfl (x_ix U99 Tryz_T103 rfl rfl hix132) ?_
   refine OV (.agg #[(.int .i64 x127.Boat), (.int .i64 x127.Code), (.int .i64 x127.Time)]) rfl (x_loadN (cs := [(.int .i64 x127.Boat), (.int .i64 x127.Code), (.int .i64 x127.Time)]) U103 Tryz_T103 rfl rfl (rdF_cells (hL.rdS 1 rfl h2) hix132 ha133)) ?_
   refine OW.cons (S_alloc (cs := #[(.int .i64 0), (.int .i64 0), (.int .i64 0)]) hL Tryz_T103 rfl rfl ?_)
   intro wd134 b135 hL
   refine OW.cons (S_storeN (l := [(.int .i64 x127.Boat), (.int .i64 x127.Code), (.int .i64 x127.Time)]) (cs' := #[(.int .i64 x127.Boat), (.int .i64 x127.Code), (.int .i64 x127.Time)]) hL 0 rfl Tryz_T103 rfl rfl (List.forall_mem_cons.2 ⟨rfl, (List.forall_mem_cons.2 ⟨rfl, (List.forall_mem_cons.2 ⟨rfl, (fun _ h => by cases h)⟩)⟩)⟩) rfl (Nat.le_of_ble_eq_true rfl) rfl ?_)
   intro wd136 hL
   refine ONS ?_
   refine CW.seqJ (fun (s_j1 : Bool) (F : Fr) (w : World) => F 3 = (.pointer (some ⟨b4, 0, none⟩)) ∧ F 5 = (.int .i64 s_l1) ∧ F 6 = (.pointer (some ⟨b135, 0, none⟩)) ∧ F 33 = (.bool s_j1) ∧ Hp w0 [Ent.blk b135 103 #[(.int .i64 x127.Boat), (.int .i64 x127.Code), (.int .i64 x127.Time)], Ent.blk b4 101 #[v1], Ent.snap w0 w0.heap.size] w) (fun s_j1 => M.spec_l26Race_j1 s_l1 x127 s_j1 = some t114) ?_ ?_
   · refine CW.regionL ?_
     refine OV (.pointer (some ⟨b135, 0, none⟩)) rfl (x_fieldAddr (fsz := 1) 0 0 0 U103 rfl Tryz_T2 rfl rfl rfl) ?_
     refine OV (.int .i64 x127.Boat) rfl (x_load1 U2 rfl rfl (hL.cellB 0 rfl rfl)) ?_
     refine OV (.int .i64 s_l1) rfl (x_mv f125) ?_
     refine OV (.bool (x127.Boat != s_l1)) rfl (x_neq rfl rfl) ?_
     refine OV (.bool (x127.Boat != s_l1)) rfl (x_move) ?_
     refine ifB_elim hm (fun hb174 hm => ?_) (fun hb174 hm => ?_)
     · refine OW.cons (OP.no' rfl rfl hb174 rfl ?_)
       refine OW.cons (OP.no' rfl rfl hb174 rfl ?_)
       refine OW.cons (OP.no' rfl rfl hb174 rfl ?_)
       refine OW.cons (OP.no' rfl rfl hb174 rfl ?_)
       refine OV (.bool true) rfl (x_pickT' rfl hb174 rfl) ?_
       refine OW.nil ?_
       exact ⟨true, hm, ⟨f124, f125, rfl, rfl, hL⟩⟩
     refine OW.cons (OP.yes' rfl rfl hb174 (OP.val (v := (.pointer (some ⟨b135, 1, none⟩))) rfl (x_fieldAddr (fsz := 1) 0 1 1 U103 rfl Tryz_T2 rfl rfl rfl) ?_))
     refine OW.cons (OP.yes' rfl rfl hb174 (OP.val (v := (.int .i64 x127.Code)) rfl (x_load1 U2 rfl rfl (hL.cellB 0 rfl rfl)) ?_))
     obtain ⟨x175, hx176, hm⟩ := bndE hm
     refine OW.cons (OP.yes' rfl rfl hb174 (OP.call rfl (x_call (vs := [(.int .i64 x127.Code)]) Tryz_C96 ⟨rfl, trivial⟩) (M.spec_l26Code_ok _ x127.Code hx176) ?_))
     rintro e177 wd178 ⟨rfl, hF179⟩
     refine ⟨_, rfl, ?_⟩
     have hL := hL.pushAll hF179
     simp only [lA, lB, lC, lD] at hL
     refine OW.cons (OP.yes' rfl rfl hb174 (OP.val (v := (.bool (!x175))) rfl (x_not rfl) ?_))
     refine OV (.bool (!x175)) rfl (x_pickF' rfl hb174 rfl) ?_
     refine OW.nil ?_
     exact ⟨!x175, hm, ⟨f124, f125, rfl, rfl, hL⟩⟩
   intro s_j1 F143 wd144 hJ hm
   unfold M.spec_l26Race_j1 at hm
   obtain ⟨f145, f146, f147, f148, hL⟩ := hJ
   refine CW.condM (t := s_j1) f148 hm (fun hb149 hm => ?_) (fun hb149 hm => ?_)
   · refine CSR ?_
     refine OV (.bool false) rfl (x_assign) ?_
     refine OW.nil ?_
     refine CW.ret ?_
     obtain rfl := Option.some.inj hm
     have hm := hr115 _ rfl
     obtain rfl := Option.some.inj hm
     exact RR1 rfl rfl ⟨rfl, hL.fresh 2 rfl [] (by decide) (by decide) rfl⟩
   refine CW.skip ?_
   refine CW.seqJ (fun (s_j2 : Bool) (F : Fr) (w : World) => F 3 = (.pointer (some ⟨b4, 0, none⟩)) ∧ F 5 = (.int .i64 s_l1) ∧ F 52 = (.bool s_j2) ∧ Hp w0 [Ent.blk b135 103 #[(.int .i64 x127.Boat), (.int .i64 x127.Code), (.int .i64 x127.Time)], Ent.blk b4 101 #[v1], Ent.snap w0 w0.heap.size] w) (fun s_j2 => M.spec_l26Race_j2 s_l1 s_j2 = some t114) ?_ ?_
   · refine CW.regionL ?_
     refine OV (.pointer (some ⟨b135, 1, none⟩)) rfl (x_fieldAddr (fsz := 1) 0 1 1 U103 rfl Tryz_T2 rfl f147 rfl) ?_
     refine OV (.int .i64 x127.Code) rfl (x_load1 U2 rfl rfl (hL.cellB 0 rfl rfl)) ?_
     refine OV (.bool (x127.Code == 0)) rfl (x_eql rfl rfl) ?_
     refine OV (.bool (x127.Code == 0)) rfl (x_move) ?_
     refine ifB_elim hm (fun hb165 hm => ?_) (fun hb165 hm => ?_)
     · refine OW.cons (OP.yes' rfl rfl hb165 (OP.val (v := (.pointer (some ⟨b135, 2, none⟩))) rfl (x_fieldAddr (fsz := 1) 0 2 2 U103 rfl Tryz_T2 rfl f147 rfl) ?_))
       refine OW.cons (OP.yes' rfl rfl hb165 (OP.val (v := (.int .i64 x127.Time)) rfl (x_load1 U2 rfl rfl (hL.cellB 0 rfl rfl)) ?_))
       obtain ⟨x166, hx167, hm⟩ := bndE hm
       refine OW.cons (OP.yes' rfl rfl hb165 (OP.call rfl (x_call (vs := [(.int .i64 x127.Time), (.int .i64 1), (.int .i64 1000000000)]) Tryz_C48 ⟨rfl, rfl, rfl, trivial⟩) (M.spec_l01In_ok _ x127.Time 1 1000000000 hx167) ?_))
       rintro e168 wd169 ⟨rfl, hF170⟩
       refine ⟨_, rfl, ?_⟩
       have hL := hL.pushAll hF170
       simp only [lA, lB, lC, lD] at hL
       refine OW.cons (OP.yes' rfl rfl hb165 (OP.val (v := (.bool (!x166))) rfl (x_not rfl) ?_))
       refine OV (.bool (!x166)) rfl (x_pickT' rfl hb165 rfl) ?_
       refine OV (.bool (!x166)) rfl (x_move) ?_
       refine ifB_elim hm (fun hb171 hm => ?_) (fun hb171 hm => ?_)
       · refine OW.cons (OP.no' rfl rfl hb171 rfl ?_)
         refine OW.cons (OP.no' rfl rfl hb171 rfl ?_)
         refine OW.cons (OP.no' rfl rfl hb171 rfl ?_)
         refine OW.cons (OP.no' rfl rfl hb171 rfl ?_)
         refine OW.cons (OP.noU rfl rfl rfl ?_)
         refine OW.cons (OP.noU rfl rfl rfl ?_)
         refine OW.cons (OP.noU rfl rfl rfl ?_)
         refine OW.cons (OP.no' rfl rfl hb171 rfl ?_)
         refine OV (.bool true) rfl (x_pickT' rfl hb171 rfl) ?_
         refine OW.nil ?_
         exact ⟨true, hm, ⟨f145, f146, rfl, hL⟩⟩
       refine OW.cons (OP.yes' rfl rfl hb171 (OP.val (v := (.pointer (some ⟨b135, 1, none⟩))) rfl (x_fieldAddr (fsz := 1) 0 1 1 U103 rfl Tryz_T2 rfl f147 rfl) ?_))
       refine OW.cons (OP.yes' rfl rfl hb171 (OP.val (v := (.int .i64 x127.Code)) rfl (x_load1 U2 rfl rfl (hL.cellB 0 rfl rfl)) ?_))
       refine OW.cons (OP.yes' rfl rfl hb171 (OP.val (v := (.bool (x127.Code != 0))) rfl (x_neq rfl rfl) ?_))
       refine OW.cons (OP.yes' rfl rfl hb171 (OP.val (v := (.bool (x127.Code != 0))) rfl (x_move) ?_))
       refine ifB_elim hm (fun hb172 hm => ?_) (fun hb172 hm => ?_)
       · refine OW.cons (OP.yes' rfl rfl hb172 (OP.val (v := (.pointer (some ⟨b135, 2, none⟩))) rfl (x_fieldAddr (fsz := 1) 0 2 2 U103 rfl Tryz_T2 rfl f147 rfl) ?_))
         refine OW.cons (OP.yes' rfl rfl hb172 (OP.val (v := (.int .i64 x127.Time)) rfl (x_load1 U2 rfl rfl (hL.cellB 0 rfl rfl)) ?_))
         refine OW.cons (OP.yes' rfl rfl hb172 (OP.val (v := (.bool (x127.Time != 0))) rfl (x_neq rfl rfl) ?_))
         refine OW.cons (OP.yes' rfl rfl hb171 (OP.val (v := (.bool (x127.Time != 0))) rfl (x_pickT' rfl hb172 rfl) ?_))
         refine OV (.bool (x127.Time != 0)) rfl (x_pickF' rfl hb171 rfl) ?_
         refine OW.nil ?_
         exact ⟨x127.Time != 0, hm, ⟨f145, f146, rfl, hL⟩⟩
       refine OW.cons (OP.no' rfl rfl hb172 rfl ?_)
       refine OW.cons (OP.no' rfl rfl hb172 rfl ?_)
       refine OW.cons (OP.no' rfl rfl hb172 rfl ?_)
       refine OW.cons (OP.yes' rfl rfl hb171 (OP.val (v := (.bool false)) rfl (x_pickF' rfl hb172 rfl) ?_))
       refine OV (.bool false) rfl (x_pickF' rfl hb171 rfl) ?_
       refine OW.nil ?_
       exact ⟨false, hm, ⟨f145, f146, rfl, hL⟩⟩
     refine OW.cons (OP.no' rfl rfl hb165 rfl ?_)
     refine OW.cons (OP.no' rfl rfl hb165 rfl ?_)
     refine OW.cons (OP.no' rfl rfl hb165 rfl ?_)
     refine OW.cons (OP.no' rfl rfl hb165 rfl ?_)
     refine OV (.bool false) rfl (x_pickF' rfl hb165 rfl) ?_
     refine OV (.bool false) rfl (x_move) ?_
     refine OW.cons (OP.yes' rfl rfl rfl (OP.val (v := (.pointer (some ⟨b135, 1, none⟩))) rfl (x_fieldAddr (fsz := 1) 0 1 1 U103 rfl Tryz_T2 rfl f147 rfl) ?_))
     refine OW.cons (OP.yes' rfl rfl rfl (OP.val (v := (.int .i64 x127.Code)) rfl (x_load1 U2 rfl rfl (hL.cellB 0 rfl rfl)) ?_))
     refine OW.cons (OP.yes' rfl rfl rfl (OP.val (v := (.bool (x127.Code != 0))) rfl (x_neq rfl rfl) ?_))
     refine OW.cons (OP.yes' rfl rfl rfl (OP.val (v := (.bool (x127.Code != 0))) rfl (x_move) ?_))
     refine ifB_elim hm (fun hb173 hm => ?_) (fun hb173 hm => ?_)
     · refine OW.cons (OP.yes' rfl rfl hb173 (OP.val (v := (.pointer (some ⟨b135, 2, none⟩))) rfl (x_fieldAddr (fsz := 1) 0 2 2 U103 rfl Tryz_T2 rfl f147 rfl) ?_))
       refine OW.cons (OP.yes' rfl rfl hb173 (OP.val (v := (.int .i64 x127.Time)) rfl (x_load1 U2 rfl rfl (hL.cellB 0 rfl rfl)) ?_))
       refine OW.cons (OP.yes' rfl rfl hb173 (OP.val (v := (.bool (x127.Time != 0))) rfl (x_neq rfl rfl) ?_))
       refine OW.cons (OP.yes' rfl rfl rfl (OP.val (v := (.bool (x127.Time != 0))) rfl (x_pickT' rfl hb173 rfl) ?_))
       refine OV (.bool (x127.Time != 0)) rfl (x_pickF' rfl rfl rfl) ?_
       refine OW.nil ?_
       exact ⟨x127.Time != 0, hm, ⟨f145, f146, rfl, hL⟩⟩
     refine OW.cons (OP.no' rfl rfl hb173 rfl ?_)
     refine OW.cons (OP.no' rfl rfl hb173 rfl ?_)
     refine OW.cons (OP.no' rfl rfl hb173 rfl ?_)
     refine OW.cons (OP.yes' rfl rfl rfl (OP.val (v := (.bool false)) rfl (x_pickF' rfl hb173 rfl) ?_))
     refine OV (.bool false) rfl (x_pickF' rfl rfl rfl) ?_
     refine OW.nil ?_
     exact ⟨false, hm, ⟨f145, f146, rfl, hL⟩⟩
   intro s_j2 F159 wd160 hJ hm
   unfold M.spec_l26Race_j2 at hm
   obtain ⟨f161, f162, f163, hL⟩ := hJ
   refine CW.condM (t := s_j2) f163 hm (fun hb164 hm => ?_) (fun hb164 hm => ?_)
   · refine CSR ?_
     refine OV (.bool false) rfl (x_assign) ?_
     refine OW.nil ?_
     refine CW.ret ?_
     obtain rfl := Option.some.inj hm
     have hm := hr115 _ rfl
     obtain rfl := Option.some.inj hm
     exact RR1 rfl rfl ⟨rfl, hL.fresh 2 rfl [] (by decide) (by decide) rfl⟩
   refine CW.skip ?_
   refine CW.regionL ?_
   refine OV (.int .i64 s_l1) rfl (x_mv f162) ?_
   refine OV (.int .i64 (w64 (s_l1 + 1))) rfl (x_add rfl rfl) ?_
   refine OV (.int .i64 (w64 (s_l1 + 1))) rfl (x_assign) ?_
   refine OW.nil ?_
   have hL := hL.sel [1, 2] (by decide) rfl
   obtain rfl := Option.some.inj hm
   exact ⟨_, rfl, ⟨f161, rfl, hL⟩⟩
 refine CW.exit ?_
 refine XJ.hit ?_
 obtain rfl := Option.some.inj hm
 exact ⟨_, rfl, ⟨f124, f125, hL⟩⟩

theorem M.spec_IsSeries_ok (w0 : World) (a0 : Series) {v1 : Value} (h2 : rdL (· < w0.heap.size) w0 v1 a0.Races) {r : Bool} (hm : M.spec_IsSeries a0 = some r) :
    Calls Tryz.prog 80 #[(.agg #[(.int .i64 a0.Boats), (.int .i64 a0.Scheme), v1])] w0 fun e w' => e = .returned (.bool r) ∧ Fresh w0 w' [] := by
 unfold M.spec_IsSeries at hm
 refine calls_CW (args := [(.agg #[(.int .i64 a0.Boats), (.int .i64 a0.Scheme), v1])]) Tryz.func80 rfl rfl rfl ?_
 have hL := Hp.start w0
 refine CSR ?_
 refine OW.cons (S_box (cs := #[(.int .i64 a0.Boats), (.int .i64 a0.Scheme), v1]) hL rfl rfl rfl ?_)
 intro wd3 b4 hL
 refine OV (.bool false) rfl (x_assign) ?_
 refine ONS ?_
 refine CW.seqJ (fun (s_j1 : Bool) (F : Fr) (w : World) => F 1 = (.pointer (some ⟨b4, 0, none⟩)) ∧ F 19 = (.bool s_j1) ∧ Hp w0 [Ent.blk b4 38 #[(.int .i64 a0.Boats), (.int .i64 a0.Scheme), v1], Ent.snap w0 w0.heap.size] w) (fun s_j1 => M.spec_IsSeries_j1 a0 s_j1 = some r) ?_ ?_
 · refine CW.regionL ?_
   refine OV (.pointer (some ⟨b4, 0, none⟩)) rfl (x_fieldAddr (fsz := 1) 0 0 0 U38 rfl Tryz_T2 rfl rfl rfl) ?_
   refine OV (.int .i64 a0.Boats) rfl (x_load1 U2 rfl rfl (hL.cellB 0 rfl rfl)) ?_
   obtain ⟨x82, hx83, hm⟩ := bndE hm
   refine OW.cons (OP.call rfl (x_call (vs := [(.int .i64 a0.Boats), (.int .i64 1), (.int .i64 16)]) Tryz_C48 ⟨rfl, rfl, rfl, trivial⟩) (M.spec_l01In_ok _ a0.Boats 1 16 hx83) ?_)
   rintro e84 wd85 ⟨rfl, hF86⟩
   refine ⟨_, rfl, ?_⟩
   have hL := hL.pushAll hF86
   simp only [lA, lB, lC, lD] at hL
   refine OV (.bool (!x82)) rfl (x_not rfl) ?_
   refine OV (.bool (!x82)) rfl (x_move) ?_
   refine ifB_elim hm (fun hb87 hm => ?_) (fun hb87 hm => ?_)
   · refine OW.cons (OP.no' rfl rfl hb87 rfl ?_)
     refine OW.cons (OP.no' rfl rfl hb87 rfl ?_)
     refine OW.cons (OP.no' rfl rfl hb87 rfl ?_)
     refine OW.cons (OP.no' rfl rfl hb87 rfl ?_)
     refine OV (.bool true) rfl (x_pickT' rfl hb87 rfl) ?_
     refine OV (.bool true) rfl (x_move) ?_
     refine OW.cons (OP.no' rfl rfl rfl rfl ?_)
     refine OW.cons (OP.no' rfl rfl rfl rfl ?_)
     refine OW.cons (OP.no' rfl rfl rfl rfl ?_)
     refine OW.cons (OP.no' rfl rfl rfl rfl ?_)
     refine OV (.bool true) rfl (x_pickT' rfl rfl rfl) ?_
     refine OW.nil ?_
     exact ⟨true, hm, ⟨rfl, rfl, hL⟩⟩
   refine OW.cons (OP.yes' rfl rfl hb87 (OP.val (v := (.pointer (some ⟨b4, 1, none⟩))) rfl (x_fieldAddr (fsz := 1) 0 1 1 U38 rfl Tryz_T2 rfl rfl rfl) ?_))
   refine OW.cons (OP.yes' rfl rfl hb87 (OP.val (v := (.int .i64 a0.Scheme)) rfl (x_load1 U2 rfl rfl (hL.cellB 0 rfl rfl)) ?_))
   obtain ⟨x88, hx89, hm⟩ := bndE hm
   refine OW.cons (OP.yes' rfl rfl hb87 (OP.call rfl (x_call (vs := [(.int .i64 a0.Scheme), (.int .i64 0), (.int .i64 1)]) Tryz_C48 ⟨rfl, rfl, rfl, trivial⟩) (M.spec_l01In_ok _ a0.Scheme 0 1 hx89) ?_))
   rintro e90 wd91 ⟨rfl, hF92⟩
   refine ⟨_, rfl, ?_⟩
   have hL := hL.pushAll hF92
   simp only [lA, lB, lC, lD] at hL
   refine OW.cons (OP.yes' rfl rfl hb87 (OP.val (v := (.bool (!x88))) rfl (x_not rfl) ?_))
   refine OV (.bool (!x88)) rfl (x_pickF' rfl hb87 rfl) ?_
   refine OV (.bool (!x88)) rfl (x_move) ?_
   refine ifB_elim hm (fun hb93 hm => ?_) (fun hb93 hm => ?_)
   · refine OW.cons (OP.no' rfl rfl hb93 rfl ?_)
     refine OW.cons (OP.no' rfl rfl hb93 rfl ?_)
     refine OW.cons (OP.no' rfl rfl hb93 rfl ?_)
     refine OW.cons (OP.no' rfl rfl hb93 rfl ?_)
     refine OV (.bool true) rfl (x_pickT' rfl hb93 rfl) ?_
     refine OW.nil ?_
     exact ⟨true, hm, ⟨rfl, rfl, hL⟩⟩
   refine OW.cons (OP.yes' rfl rfl hb93 (OP.val (v := (.pointer (some ⟨b4, 2, none⟩))) rfl (x_fieldAddr (fsz := 1) 0 2 2 U38 rfl Tryz_T36 rfl rfl rfl) ?_))
   refine OW.cons (OP.yes' rfl rfl hb93 (OP.val (v := v1) rfl (x_load1 U36 rfl rfl (hL.cellB 0 rfl rfl)) ?_))
   refine OW.cons (OP.yes' rfl rfl hb93 (OP.val (v := (.int .i64 (a0.Races.length : Int))) rfl (x_lenR U36 rfl (hL.rdS 1 rfl h2)) ?_))
   refine OW.cons (OP.yes' rfl rfl hb93 (OP.val (v := (.bool (decide (12 < (a0.Races.length : Int))))) rfl (x_gtr rfl rfl) ?_))
   refine OV (.bool (decide (12 < (a0.Races.length : Int)))) rfl (x_pickF' rfl hb93 rfl) ?_
   refine OW.nil ?_
   exact ⟨decide (12 < (a0.Races.length : Int)), hm, ⟨rfl, rfl, hL⟩⟩
 intro s_j1 F17 wd18 hJ hm
 unfold M.spec_IsSeries_j1 at hm
 obtain ⟨f19, f20, hL⟩ := hJ
 refine CW.condM (t := s_j1) f20 hm (fun hb21 hm => ?_) (fun hb21 hm => ?_)
 · refine CSR ?_
   refine OV (.bool false) rfl (x_assign) ?_
   refine OW.nil ?_
   refine CW.ret ?_
   obtain rfl := Option.some.inj hm
   exact RR1 rfl rfl ⟨rfl, hL.fresh 1 rfl [] (by decide) (by decide) rfl⟩
 refine CW.skip ?_
 refine CW.seq ?_
 refine CSR ?_
 refine OV (.int .i64 0) rfl (x_assign) ?_
 refine OW.nil ?_
 obtain ⟨o56, ho57, hm⟩ := bndE hm
 refine CW.loopB (fun (s_l1 : Int) (F : Fr) (w : World) => F 1 = (.pointer (some ⟨b4, 0, none⟩)) ∧ F 3 = (.int .i64 s_l1) ∧ Hp w0 [Ent.blk b4 38 #[(.int .i64 a0.Boats), (.int .i64 a0.Scheme), v1], Ent.snap w0 w0.heap.size] w) (fun o => outc o (fun x => some x) (fun s => M.spec_IsSeries_a1 s) = some r) ho57 hm ⟨f19, rfl, hL⟩ ?_ ?_
 · intro s_l1 F58 wd59 hJ hm
   have hm := outcE hm
   have hm : M.spec_IsSeries_a1 s_l1 = some r := hm
   unfold M.spec_IsSeries_a1 at hm
   obtain ⟨f60, f61, hL⟩ := hJ
   refine CSR ?_
   refine OV (.bool true) rfl (x_assign) ?_
   refine OW.nil ?_
   refine CW.ret ?_
   obtain rfl := Option.some.inj hm
   exact RR1 rfl rfl ⟨rfl, hL.fresh 1 rfl [] (by decide) (by decide) rfl⟩
 intro s_l1 F62 wd63 t54 hJ hm hr55
 unfold M.spec_IsSeries_l1 at hm
 obtain ⟨f64, f65, hL⟩ := hJ
 refine CW.seq ?_
 refine CSR ?_
 refine OV (.int .i64 s_l1) rfl (x_mv f65) ?_
 refine OV (.pointer (some ⟨b4, 2, none⟩)) rfl (x_fieldAddr (fsz := 1) 0 2 2 U38 rfl Tryz_T36 rfl f64 rfl) ?_
 refine OV v1 rfl (x_load1 U36 rfl rfl (hL.cellB 0 rfl rfl)) ?_
 refine OV (.int .i64 (a0.Races.length : Int)) rfl (x_lenR U36 rfl (hL.rdS 1 rfl h2)) ?_
 refine OV (.bool (decide (s_l1 < (a0.Races.length : Int)))) rfl (x_lss rfl rfl) ?_
 refine OW.nil ?_
 refine CW.condM (t := decide (s_l1 < (a0.Races.length : Int))) rfl hm (fun hb66 hm => ?_) (fun hb66 hm => ?_)
 · refine CW.skip ?_
   refine CW.seq ?_
   refine CW.block ?_
   refine CW.seq ?_
   refine CW.draw Tryz_mixed ?_
   have hL := hL.call (Mod.drew _)
   refine DW.pre (fuel := 0) (fin := bma 9 511) (C := fun w' => Mod None_ _ w') [0, 1, 2, 3, 4, 5, 6, 7, 8] (Mod.refl _ _) (by kernel_rfl) (by kernel_rfl) ?_
   refine QW.cons rfl (QP.val (v := (.pointer (some ⟨b4, 0, none⟩))) rfl (fun w' hm' => x_fieldAddr (fsz := 1) 0 0 0 U38 rfl Tryz_T2 rfl f64 rfl) ?_)
   refine QW.cons rfl (QP.val (v := (.int .i64 a0.Boats)) rfl (fun w' hm' => x_load1 U2 rfl rfl ((hL.call hm').cellB 0 rfl rfl)) ?_)
   refine QW.cons rfl (QP.val (v := (.pointer (some ⟨b4, 2, none⟩))) rfl (fun w' hm' => x_fieldAddr (fsz := 1) 0 2 2 U38 rfl Tryz_T36 rfl f64 rfl) ?_)
   refine QW.cons rfl (QP.val (v := v1) rfl (fun w' hm' => x_load1 U36 rfl rfl ((hL.call hm').cellB 0 rfl rfl)) ?_)
   refine QW.cons rfl (QP.val (v := (.int .i64 s_l1)) rfl (fun w' hm' => x_mv f65) ?_)
   obtain ⟨x67, ha68, hm⟩ := bndE hm
   obtain ⟨hz69, ha77⟩ := idxE ha68
   obtain ⟨b70, q71, v72, hix73, hs74, hc75, hr76⟩ := rdN_at h2 hz69 ha77
   refine QW.cons rfl (QP.val (v := (.pointer (some ⟨b70, q71, none⟩))) rfl (fun w' hm' => x_ix U36 Tryz_T101 rfl rfl hix73) ?_)
   refine QW.cons rfl (QP.val (v := (.agg #[v72])) rfl (fun w' hm' => x_loadN (cs := [v72]) U101 Tryz_T101 rfl rfl (by intro j u hj; match j, hj with | 0, hj => (simp at hj; subst hj; exact ((hL.call hm').cellS 1 rfl hs74 hc75)))) ?_)
   obtain ⟨x78, hx79, hm⟩ := bndE hm
   refine QW.cons rfl (QP.call (v := (.bool x78)) rfl (fun w' hm' => x_call (vs := [(.int .i64 a0.Boats), (.agg #[v72])]) Tryz_C110 ⟨rfl, rfl, trivial⟩) (fun w' hm' => (M.spec_l26Race_ok w' a0.Boats x67 ((hL.call hm').rdS 1 rfl hr76) hx79).mono (fun e w'' h => ⟨h.1, hm'.trans h.2.mod⟩)) ?_)
   refine QW.cons rfl (QP.val (v := (.bool (!x78))) rfl (fun w' hm' => x_not rfl) ?_)
   refine QW.nil ?_
   intro wd80 hmod
   have hL := hL.call hmod
   refine DW.done (by kernel_rfl) ?_
   refine CW.condM (t := !x78) rfl hm (fun hb81 hm => ?_) (fun hb81 hm => ?_)
   · refine CSR ?_
     refine OV (.bool false) rfl (x_assign) ?_
     refine OW.nil ?_
     refine CW.ret ?_
     obtain rfl := Option.some.inj hm
     have hm := hr55 _ rfl
     obtain rfl := Option.some.inj hm
     exact RR1 rfl rfl ⟨rfl, hL.fresh 1 rfl [] (by decide) (by decide) rfl⟩
   refine CW.skip ?_
   refine CW.regionL ?_
   refine OV (.int .i64 s_l1) rfl (x_mv f65) ?_
   refine OV (.int .i64 (w64 (s_l1 + 1))) rfl (x_add rfl rfl) ?_
   refine OV (.int .i64 (w64 (s_l1 + 1))) rfl (x_assign) ?_
   refine OW.nil ?_
   obtain rfl := Option.some.inj hm
   exact ⟨_, rfl, ⟨f64, rfl, hL⟩⟩
 refine CW.exit ?_
 refine XJ.hit ?_
 obtain rfl := Option.some.inj hm
 exact ⟨_, rfl, ⟨f64, f65, hL⟩⟩

theorem M.spec_l26Done_ok (w0 : World) (a0 : Finish) {r : Bool} (hm : M.spec_l26Done a0 = some r) :
    Calls Tryz.prog 111 #[(.agg #[(.int .i64 a0.Boat), (.int .i64 a0.Code), (.int .i64 a0.Time)])] w0 fun e w' => e = .returned (.bool r) ∧ Fresh w0 w' [] := by
 unfold M.spec_l26Done at hm
 refine calls_CW (args := [(.agg #[(.int .i64 a0.Boat), (.int .i64 a0.Code), (.int .i64 a0.Time)])]) Tryz.func111 rfl rfl rfl ?_
 have hL := Hp.start w0
 refine CSR ?_
 refine OW.cons (S_box (cs := #[(.int .i64 a0.Boat), (.int .i64 a0.Code), (.int .i64 a0.Time)]) hL rfl rfl rfl ?_)
 intro wd1 b2 hL
 refine OV (.bool false) rfl (x_assign) ?_
 refine ONR ?_
 refine OV (.pointer (some ⟨b2, 1, none⟩)) rfl (x_fieldAddr (fsz := 1) 0 1 1 U103 rfl Tryz_T2 rfl rfl rfl) ?_
 refine OV (.int .i64 a0.Code) rfl (x_load1 U2 rfl rfl (hL.cellB 0 rfl rfl)) ?_
 refine OV (.bool (a0.Code == 0)) rfl (x_eql rfl rfl) ?_
 refine OV (.bool (a0.Code == 0)) rfl (x_assign) ?_
 refine OW.nil ?_
 refine CW.ret ?_
 obtain rfl := Option.some.inj hm
 exact RR1 rfl rfl ⟨rfl, hL.fresh 1 rfl [] (by decide) (by decide) rfl⟩

theorem M.spec_l26Place_ok (w0 : World) (a0 : Race) {v1 : Value} (h2 : rdL (· < w0.heap.size) w0 v1 a0.Finishes) (a1 : List Int) {v3 : Value} (h4 : rdL (· < w0.heap.size) w0 v3 a1) (a2 : Int) {r : Int × Int} (hm : M.spec_l26Place a0 a1 a2 = some r) :
    Calls Tryz.prog 124 #[(.agg #[v1]), v3, (.int .i64 a2)] w0 fun e w' => e = .returned (.tuple #[(.int .i64 r.1), (.int .i64 r.2)]) ∧ Fresh w0 w' [] := by
 unfold M.spec_l26Place at hm
 refine calls_CW (args := [(.agg #[v1]), v3, (.int .i64 a2)]) Tryz.func124 rfl rfl rfl ?_
 have hL := Hp.start w0
 refine CSR ?_
 refine OW.cons (S_box (cs := #[v1]) hL rfl rfl rfl ?_)
 intro wd5 b6 hL
 refine OV (.int .i64 0) rfl (x_assign) ?_
 refine OV (.int .i64 0) rfl (x_assign) ?_
 refine ONR ?_
 refine OV (.int .i64 1) rfl (x_assign) ?_
 refine ONR ?_
 refine OV (.int .i64 0) rfl (x_assign) ?_
 refine ONS ?_
 refine CSR ?_
 refine OV (.int .i64 0) rfl (x_assign) ?_
 refine OW.nil ?_
 obtain ⟨o819, ho820, hm⟩ := bndE hm
 refine CW.loopB (fun (s_l1 : Int × Int × Int) (F : Fr) (w : World) => F 1 = v3 ∧ F 2 = (.int .i64 a2) ∧ F 3 = (.pointer (some ⟨b6, 0, none⟩)) ∧ F 8 = (.int .i64 s_l1.1) ∧ F 9 = (.int .i64 s_l1.2.1) ∧ F 10 = (.int .i64 s_l1.2.2) ∧ Hp w0 [Ent.blk b6 101 #[v1], Ent.snap w0 w0.heap.size] w) (fun o => outc o (fun x => some x) (fun s => M.spec_l26Place_a1 s) = some r) ho820 hm ⟨rfl, rfl, rfl, rfl, rfl, rfl, hL⟩ ?_ ?_
 · intro s_l1 F821 wd822 hJ hm
   have hm := outcE hm
   have hm : M.spec_l26Place_a1 s_l1 = some r := hm
   unfold M.spec_l26Place_a1 at hm
   obtain ⟨f823, f824, f825, f826, f827, f828, hL⟩ := hJ
   refine CSR ?_
   refine OV (.int .i64 s_l1.1) rfl (x_mv f826) ?_
   refine OV (.int .i64 s_l1.2.1) rfl (x_mv f827) ?_
   refine OV (.int .i64 s_l1.1) rfl (x_assign) ?_
   refine OV (.int .i64 s_l1.2.1) rfl (x_assign) ?_
   refine OW.nil ?_
   refine CW.ret ?_
   obtain rfl := Option.some.inj hm
   exact RR2 rfl rfl rfl ⟨rfl, hL.fresh 1 rfl [] (by decide) (by decide) rfl⟩
 intro s_l1 F829 wd830 t817 hJ hm hr818
 unfold M.spec_l26Place_l1 at hm
 obtain ⟨f831, f832, f833, f834, f835, f836, hL⟩ := hJ
 refine CW.seq ?_
 refine CSR ?_
 refine OV (.int .i64 s_l1.2.2) rfl (x_mv f836) ?_
 refine OV (.pointer (some ⟨b6, 0, none⟩)) rfl (x_fieldAddr (fsz := 1) 0 0 0 U101 rfl Tryz_T99 rfl f833 rfl) ?_
 refine OV v1 rfl (x_load1 U99 rfl rfl (hL.cellB 0 rfl rfl)) ?_
 refine OV (.int .i64 (a0.Finishes.length : Int)) rfl (x_lenR U99 rfl (hL.rdS 1 rfl h2)) ?_
 refine OV (.bool (decide (s_l1.2.2 < (a0.Finishes.length : Int)))) rfl (x_lss rfl rfl) ?_
 refine OW.nil ?_
 refine CW.condM (t := decide (s_l1.2.2 < (a0.Finishes.length : Int))) rfl hm (fun hb837 hm => ?_) (fun hb837 hm => ?_)
 · refine CW.skip ?_
   refine CW.seqJ (fun (s_j1 : Int × Int) (F : Fr) (w : World) => F 1 = v3 ∧ F 2 = (.int .i64 a2) ∧ F 3 = (.pointer (some ⟨b6, 0, none⟩)) ∧ F 8 = (.int .i64 s_j1.1) ∧ F 9 = (.int .i64 s_j1.2) ∧ F 10 = (.int .i64 s_l1.2.2) ∧ Hp w0 [Ent.blk b6 101 #[v1], Ent.snap w0 w0.heap.size] w) (fun s_j1 => M.spec_l26Place_j1 s_l1 s_j1 = some t817) ?_ ?_
   · refine CW.blockJ (fun (s_j2 : Int × Int) (F : Fr) (w : World) => F 1 = v3 ∧ F 2 = (.int .i64 a2) ∧ F 3 = (.pointer (some ⟨b6, 0, none⟩)) ∧ F 8 = (.int .i64 s_j2.1) ∧ F 9 = (.int .i64 s_j2.2) ∧ F 10 = (.int .i64 s_l1.2.2) ∧ Hp w0 [Ent.blk b6 101 #[v1], Ent.snap w0 w0.heap.size] w) (fun s_j2 => M.spec_l26Place_j2 s_l1 s_j2 = some t817) ?_ ?_
     · refine CSR ?_
       refine OV (.pointer (some ⟨b6, 0, none⟩)) rfl (x_fieldAddr (fsz := 1) 0 0 0 U101 rfl Tryz_T99 rfl f833 rfl) ?_
       refine OV v1 rfl (x_load1 U99 rfl rfl (hL.cellB 0 rfl rfl)) ?_
       refine OV (.int .i64 s_l1.2.2) rfl (x_mv f836) ?_
       obtain ⟨x1147, ha1148, hm⟩ := bndE hm
       obtain ⟨hz1149, ha1153⟩ := idxE ha1148
       obtain ⟨b1150, q1151, hix1152⟩ := rdL_ix (hL.rdS 1 rfl h2) hz1149 ha1153
       refine OV (.pointer (some ⟨b1150, q1151, none⟩)) rfl (x_ix U99 Tryz_T103 rfl rfl hix1152) ?_
       refine OV (.agg #[(.int .i64 x1147.Boat), (.int .i64 x1147.Code), (.int .i64 x1147.Time)]) rfl (x_loadN (cs := [(.int .i64 x1147.Boat), (.int .i64 x1147.Code), (.int .i64 x1147.Time)]) U103 Tryz_T103 rfl rfl (rdF_cells (hL.rdS 1 rfl h2) hix1152 ha1153)) ?_
       refine OW.cons (S_alloc (cs := #[(.int .i64 0), (.int .i64 0), (.int .i64 0)]) hL Tryz_T103 rfl rfl ?_)
       intro wd1154 b1155 hL
       refine OW.cons (S_storeN (l := [(.int .i64 x1147.Boat), (.int .i64 x1147.Code), (.int .i64 x1147.Time)]) (cs' := #[(.int .i64 x1147.Boat), (.int .i64 x1147.Code), (.int .i64 x1147.Time)]) hL 0 rfl Tryz_T103 rfl rfl (List.forall_mem_cons.2 ⟨rfl, (List.forall_mem_cons.2 ⟨rfl, (List.forall_mem_cons.2 ⟨rfl, (fun _ h => by cases h)⟩)⟩)⟩) rfl (Nat.le_of_ble_eq_true rfl) rfl ?_)
       intro wd1156 hL
       refine ONS ?_
       refine CW.seqJ (fun (s_j3 : Bool) (F : Fr) (w : World) => F 1 = v3 ∧ F 2 = (.int .i64 a2) ∧ F 3 = (.pointer (some ⟨b6, 0, none⟩)) ∧ F 8 = (.int .i64 s_l1.1) ∧ F 9 = (.int .i64 s_l1.2.1) ∧ F 10 = (.int .i64 s_l1.2.2) ∧ F 11 = (.pointer (some ⟨b1155, 0, none⟩)) ∧ F 37 = (.bool s_j3) ∧ Hp w0 [Ent.blk b1155 103 #[(.int .i64 x1147.Boat), (.int .i64 x1147.Code), (.int .i64 x1147.Time)], Ent.blk b6 101 #[v1], Ent.snap w0 w0.heap.size] w) (fun s_j3 => M.spec_l26Place_j3 a0 a2 s_l1 x1147 s_j3 = some t817) ?_ ?_
       · refine CW.draw Tryz_mixed ?_
         have hL := hL.call (Mod.drew _)
         refine DW.pre (fuel := 0) (fin := bma 14 16383) (C := fun w' => Mod None_ _ w') [0, 1, 2, 3, 4, 5, 6, 7, 8, 9, 10, 11, 12, 13] (Mod.refl _ _) (by kernel_rfl) (by kernel_rfl) ?_
         refine QW.cons rfl (QP.val (v := (.agg #[(.int .i64 x1147.Boat), (.int .i64 x1147.Code), (.int .i64 x1147.Time)])) rfl (fun w' hm' => x_loadN (cs := [(.int .i64 x1147.Boat), (.int .i64 x1147.Code), (.int .i64 x1147.Time)]) U103 Tryz_T103 rfl rfl ((hL.call hm').cellsB 0 rfl (o := 0) (l := [(.int .i64 x1147.Boat), (.int .i64 x1147.Code), (.int .i64 x1147.Time)]) (by intro j u hj; exact (by simpa using hj)))) ?_)
         obtain ⟨x1223, hx1224, hm⟩ := bndE hm
         refine QW.cons rfl (QP.call (v := (.bool x1223)) rfl (fun w' hm' => x_call (vs := [(.agg #[(.int .i64 x1147.Boat), (.int .i64 x1147.Code), (.int .i64 x1147.Time)])]) Tryz_C111 ⟨rfl, trivial⟩) (fun w' hm' => (M.spec_l26Done_ok w' x1147 hx1224).mono (fun e w'' h => ⟨h.1, hm'.trans h.2.mod⟩)) ?_)
         refine QW.cons rfl (QP.val (v := (.bool (!x1223))) rfl (fun w' hm' => x_not rfl) ?_)
         refine QW.cons rfl (QP.val (v := (.bool (!x1223))) rfl (fun w' hm' => x_move) ?_)
         refine ifB_elim hm (fun hb1225 hm => ?_) (fun hb1225 hm => ?_)
         · refine QW.cons rfl (QP.no' rfl rfl hb1225 rfl ?_)
           refine QW.cons rfl (QP.no' rfl rfl hb1225 rfl ?_)
           refine QW.cons rfl (QP.no' rfl rfl hb1225 rfl ?_)
           refine QW.cons rfl (QP.no' rfl rfl hb1225 rfl ?_)
           refine QW.cons rfl (QP.no' rfl rfl hb1225 rfl ?_)
           refine QW.cons rfl (QP.no' rfl rfl hb1225 rfl ?_)
           refine QW.cons rfl (QP.no' rfl rfl hb1225 rfl ?_)
           refine QW.cons rfl (QP.no' rfl rfl hb1225 rfl ?_)
           refine QW.cons rfl (QP.no' rfl rfl hb1225 rfl ?_)
           refine QW.cons rfl (QP.val (v := (.bool true)) rfl (fun w' hm' => x_pickT' rfl hb1225 rfl) ?_)
           refine QW.nil ?_
           intro wd1226 hmod
           have hL := hL.call hmod
           refine DW.done (by kernel_rfl) ?_
           exact ⟨true, hm, ⟨f831, f832, f833, f834, f835, f836, rfl, rfl, hL⟩⟩
         refine QW.cons rfl (QP.yes' rfl rfl hb1225 (QP.val (v := v3) rfl (fun w' hm' => x_mv f831) ?_))
         refine QW.cons rfl (QP.yes' rfl rfl hb1225 (QP.val (v := (.int .i64 s_l1.2.2)) rfl (fun w' hm' => x_mv f836) ?_))
         obtain ⟨x1227, ha1228, hm⟩ := bndE hm
         obtain ⟨hz1229, ha1233⟩ := idxE ha1228
         obtain ⟨b1230, q1231, hix1232⟩ := rdL_ix (hL.rdS 2 rfl h4) hz1229 ha1233
         refine QW.cons rfl (QP.yes' rfl rfl hb1225 (QP.val (v := (.pointer (some ⟨b1230, q1231, none⟩))) rfl (fun w' hm' => x_ix U27 Tryz_T2 rfl rfl hix1232) ?_))
         refine QW.cons rfl (QP.yes' rfl rfl hb1225 (QP.val (v := (.int .i64 x1227)) rfl (fun w' hm' => x_load1 U2 rfl rfl (rdF_cells ((hL.call hm').rdS 2 rfl h4) hix1232 ha1233 0 _ rfl)) ?_))
         refine QW.cons rfl (QP.yes' rfl rfl hb1225 (QP.val (v := v3) rfl (fun w' hm' => x_mv f831) ?_))
         refine QW.cons rfl (QP.yes' rfl rfl hb1225 (QP.val (v := (.int .i64 a2)) rfl (fun w' hm' => x_mv f832) ?_))
         obtain ⟨x1234, ha1235, hm⟩ := bndE hm
         obtain ⟨hz1236, ha1240⟩ := idxE ha1235
         obtain ⟨b1237, q1238, hix1239⟩ := rdL_ix (hL.rdS 2 rfl h4) hz1236 ha1240
         refine QW.cons rfl (QP.yes' rfl rfl hb1225 (QP.val (v := (.pointer (some ⟨b1237, q1238, none⟩))) rfl (fun w' hm' => x_ix U27 Tryz_T2 rfl rfl hix1239) ?_))
         refine QW.cons rfl (QP.yes' rfl rfl hb1225 (QP.val (v := (.int .i64 x1234)) rfl (fun w' hm' => x_load1 U2 rfl rfl (rdF_cells ((hL.call hm').rdS 2 rfl h4) hix1239 ha1240 0 _ rfl)) ?_))
         refine QW.cons rfl (QP.yes' rfl rfl hb1225 (QP.val (v := (.bool (x1227 != x1234))) rfl (fun w' hm' => x_neq rfl rfl) ?_))
         refine QW.cons rfl (QP.val (v := (.bool (x1227 != x1234))) rfl (fun w' hm' => x_pickF' rfl hb1225 rfl) ?_)
         refine QW.nil ?_
         intro wd1241 hmod
         have hL := hL.call hmod
         refine DW.done (by kernel_rfl) ?_
         exact ⟨x1227 != x1234, hm, ⟨f831, f832, f833, f834, f835, f836, rfl, rfl, hL⟩⟩
       intro s_j3 F1176 wd1177 hJ hm
       unfold M.spec_l26Place_j3 at hm
       obtain ⟨f1178, f1179, f1180, f1181, f1182, f1183, f1184, f1185, hL⟩ := hJ
       refine CW.condM (t := s_j3) f1185 hm (fun hb1186 hm => ?_) (fun hb1186 hm => ?_)
       · refine CW.exit ?_
         refine XJ.hit ?_
         have hL := hL.sel [1, 2] (by decide) rfl
         exact ⟨(s_l1.1, s_l1.2.1), hm, ⟨f1178, f1179, f1180, f1181, f1182, f1183, hL⟩⟩
       refine CW.skip ?_
       refine CW.seqJ (fun (s_j4 : Int) (F : Fr) (w : World) => F 1 = v3 ∧ F 2 = (.int .i64 a2) ∧ F 3 = (.pointer (some ⟨b6, 0, none⟩)) ∧ F 8 = (.int .i64 s_j4) ∧ F 9 = (.int .i64 s_l1.2.1) ∧ F 10 = (.int .i64 s_l1.2.2) ∧ F 11 = (.pointer (some ⟨b1155, 0, none⟩)) ∧ Hp w0 [Ent.blk b1155 103 #[(.int .i64 x1147.Boat), (.int .i64 x1147.Code), (.int .i64 x1147.Time)], Ent.blk b6 101 #[v1], Ent.snap w0 w0.heap.size] w) (fun s_j4 => M.spec_l26Place_j4 a0 a2 s_l1 x1147 s_j4 = some t817) ?_ ?_
       · refine CW.seq ?_
         refine CW.draw Tryz_mixed ?_
         have hL := hL.call (Mod.drew _)
         refine DW.pre (fuel := 0) (fin := bma 9 511) (C := fun w' => Mod None_ _ w') [0, 1, 2, 3, 4, 5, 6, 7, 8] (Mod.refl _ _) (by kernel_rfl) (by kernel_rfl) ?_
         refine QW.cons rfl (QP.val (v := (.pointer (some ⟨b1155, 2, none⟩))) rfl (fun w' hm' => x_fieldAddr (fsz := 1) 0 2 2 U103 rfl Tryz_T2 rfl f1184 rfl) ?_)
         refine QW.cons rfl (QP.val (v := (.int .i64 x1147.Time)) rfl (fun w' hm' => x_load1 U2 rfl rfl ((hL.call hm').cellB 0 rfl rfl)) ?_)
         refine QW.cons rfl (QP.val (v := (.pointer (some ⟨b6, 0, none⟩))) rfl (fun w' hm' => x_fieldAddr (fsz := 1) 0 0 0 U101 rfl Tryz_T99 rfl f1180 rfl) ?_)
         refine QW.cons rfl (QP.val (v := v1) rfl (fun w' hm' => x_load1 U99 rfl rfl ((hL.call hm').cellB 1 rfl rfl)) ?_)
         refine QW.cons rfl (QP.val (v := (.int .i64 a2)) rfl (fun w' hm' => x_mv f1179) ?_)
         obtain ⟨x1214, ha1215, hm⟩ := bndE hm
         obtain ⟨hz1216, ha1220⟩ := idxE ha1215
         obtain ⟨b1217, q1218, hix1219⟩ := rdL_ix (hL.rdS 2 rfl h2) hz1216 ha1220
         refine QW.cons rfl (QP.val (v := (.pointer (some ⟨b1217, q1218, none⟩))) rfl (fun w' hm' => x_ix U99 Tryz_T103 rfl rfl hix1219) ?_)
         refine QW.cons rfl (QP.val (v := (.pointer (some ⟨b1217, q1218 + 2, none⟩))) rfl (fun w' hm' => x_fieldAddr (fsz := 1) q1218 2 (q1218 + 2) U103 rfl Tryz_T2 rfl rfl rfl) ?_)
         refine QW.cons rfl (QP.val (v := (.int .i64 x1214.Time)) rfl (fun w' hm' => x_load1 U2 rfl rfl (rdF_cells ((hL.call hm').rdS 2 rfl h2) hix1219 ha1220 2 _ rfl)) ?_)
         refine QW.cons rfl (QP.val (v := (.bool (decide (x1147.Time < x1214.Time)))) rfl (fun w' hm' => x_lss rfl rfl) ?_)
         refine QW.nil ?_
         intro wd1221 hmod
         have hL := hL.call hmod
         refine DW.done (by kernel_rfl) ?_
         refine CW.condM (t := decide (x1147.Time < x1214.Time)) rfl hm (fun hb1222 hm => ?_) (fun hb1222 hm => ?_)
         · refine CW.regionL ?_
           refine OV (.int .i64 s_l1.1) rfl (x_mv f1181) ?_
           refine OV (.int .i64 (w64 (s_l1.1 + 1))) rfl (x_add rfl rfl) ?_
           refine OV (.int .i64 (w64 (s_l1.1 + 1))) rfl (x_assign) ?_
           refine OW.nil ?_
           exact ⟨w64 (s_l1.1 + 1), hm, ⟨f1178, f1179, f1180, rfl, f1182, f1183, f1184, hL⟩⟩
         refine CW.skip ?_
         exact ⟨s_l1.1, hm, ⟨f1178, f1179, f1180, f1181, f1182, f1183, f1184, hL⟩⟩
       intro s_j4 F1196 wd1197 hJ hm
       unfold M.spec_l26Place_j4 at hm
       obtain ⟨f1198, f1199, f1200, f1201, f1202, f1203, f1204, hL⟩ := hJ
       refine CW.seq ?_
       refine CW.draw Tryz_mixed ?_
       have hL := hL.call (Mod.drew _)
       refine DW.pre (fuel := 0) (fin := bma 9 511) (C := fun w' => Mod None_ _ w') [0, 1, 2, 3, 4, 5, 6, 7, 8] (Mod.refl _ _) (by kernel_rfl) (by kernel_rfl) ?_
       refine QW.cons rfl (QP.val (v := (.pointer (some ⟨b1155, 2, none⟩))) rfl (fun w' hm' => x_fieldAddr (fsz := 1) 0 2 2 U103 rfl Tryz_T2 rfl f1204 rfl) ?_)
       refine QW.cons rfl (QP.val (v := (.int .i64 x1147.Time)) rfl (fun w' hm' => x_load1 U2 rfl rfl ((hL.call hm').cellB 0 rfl rfl)) ?_)
       refine QW.cons rfl (QP.val (v := (.pointer (some ⟨b6, 0, none⟩))) rfl (fun w' hm' => x_fieldAddr (fsz := 1) 0 0 0 U101 rfl Tryz_T99 rfl f1200 rfl) ?_)
       refine QW.cons rfl (QP.val (v := v1) rfl (fun w' hm' => x_load1 U99 rfl rfl ((hL.call hm').cellB 1 rfl rfl)) ?_)
       refine QW.cons rfl (QP.val (v := (.int .i64 a2)) rfl (fun w' hm' => x_mv f1199) ?_)
       obtain ⟨x1205, ha1206, hm⟩ := bndE hm
       obtain ⟨hz1207, ha1211⟩ := idxE ha1206
       obtain ⟨b1208, q1209, hix1210⟩ := rdL_ix (hL.rdS 2 rfl h2) hz1207 ha1211
       refine QW.cons rfl (QP.val (v := (.pointer (some ⟨b1208, q1209, none⟩))) rfl (fun w' hm' => x_ix U99 Tryz_T103 rfl rfl hix1210) ?_)
       refine QW.cons rfl (QP.val (v := (.pointer (some ⟨b1208, q1209 + 2, none⟩))) rfl (fun w' hm' => x_fieldAddr (fsz := 1) q1209 2 (q1209 + 2) U103 rfl Tryz_T2 rfl rfl rfl) ?_)
       refine QW.cons rfl (QP.val (v := (.int .i64 x1205.Time)) rfl (fun w' hm' => x_load1 U2 rfl rfl (rdF_cells ((hL.call hm').rdS 2 rfl h2) hix1210 ha1211 2 _ rfl)) ?_)
       refine QW.cons rfl (QP.val (v := (.bool (x1147.Time == x1205.Time))) rfl (fun w' hm' => x_eql rfl rfl) ?_)
       refine QW.nil ?_
       intro wd1212 hmod
       have hL := hL.call hmod
       refine DW.done (by kernel_rfl) ?_
       refine CW.condM (t := x1147.Time == x1205.Time) rfl hm (fun hb1213 hm => ?_) (fun hb1213 hm => ?_)
       · refine CW.regionL ?_
         refine OV (.int .i64 s_l1.2.1) rfl (x_mv f1202) ?_
         refine OV (.int .i64 (w64 (s_l1.2.1 + 1))) rfl (x_add rfl rfl) ?_
         refine OV (.int .i64 (w64 (s_l1.2.1 + 1))) rfl (x_assign) ?_
         refine OW.nil ?_
         have hL := hL.sel [1, 2] (by decide) rfl
         exact ⟨(s_j4, w64 (s_l1.2.1 + 1)), hm, ⟨f1198, f1199, f1200, f1201, rfl, f1203, hL⟩⟩
       refine CW.skip ?_
       have hL := hL.sel [1, 2] (by decide) rfl
       exact ⟨(s_j4, s_l1.2.1), hm, ⟨f1198, f1199, f1200, f1201, f1202, f1203, hL⟩⟩
     intro s_j2 F1139 wd1140 hJ hm
     unfold M.spec_l26Place_j2 at hm
     obtain ⟨f1141, f1142, f1143, f1144, f1145, f1146, hL⟩ := hJ
     exact ⟨(s_j2.1, s_j2.2), hm, ⟨f1141, f1142, f1143, f1144, f1145, f1146, hL⟩⟩
   intro s_j1 F1036 wd1037 hJ hm
   unfold M.spec_l26Place_j1 at hm
   obtain ⟨f1038, f1039, f1040, f1041, f1042, f1043, hL⟩ := hJ
   refine CW.regionL ?_
   refine OV (.int .i64 s_l1.2.2) rfl (x_mv f1043) ?_
   refine OV (.int .i64 (w64 (s_l1.2.2 + 1))) rfl (x_add rfl rfl) ?_
   refine OV (.int .i64 (w64 (s_l1.2.2 + 1))) rfl (x_assign) ?_
   refine OW.nil ?_
   obtain rfl := Option.some.inj hm
   exact ⟨_, rfl, ⟨f1038, f1039, f1040, f1041, f1042, rfl, hL⟩⟩
 refine CW.exit ?_
 refine XJ.hit ?_
 obtain rfl := Option.some.inj hm
 exact ⟨_, rfl, ⟨f831, f832, f833, f834, f835, f836, hL⟩⟩

theorem M.spec_l26Points_ok (w0 : World) (a0 : Race) {v1 : Value} (h2 : rdL (· < w0.heap.size) w0 v1 a0.Finishes) (a1 : Int) {r : (List Int)} (hm : M.spec_l26Points a0 a1 = some r) :
    Calls Tryz.prog 112 #[(.agg #[v1]), (.int .i64 a1)] w0 fun e w' => ∃ (rv0 : Value) (rS0 : Nat → Prop), e = .returned rv0 ∧ Fresh w0 w' [Ent.own 2 rS0 rv0 r] := by
 unfold M.spec_l26Points at hm
 refine calls_CW (args := [(.agg #[v1]), (.int .i64 a1)]) Tryz.func112 rfl rfl rfl ?_
 have hL := Hp.start w0
 refine CSR ?_
 refine OW.cons (S_box (cs := #[v1]) hL rfl rfl rfl ?_)
 intro wd3 b4 hL
 refine OV (.slice none 0 0) rfl (x_assign) ?_
 refine ONR ?_
 refine OV (.pointer (some ⟨b4, 0, none⟩)) rfl (x_fieldAddr (fsz := 1) 0 0 0 U101 rfl Tryz_T99 rfl rfl rfl) ?_
 refine OV v1 rfl (x_load1 U99 rfl rfl (hL.cellB 0 rfl rfl)) ?_
 refine OV (.int .i64 (a0.Finishes.length : Int)) rfl (x_lenR U99 rfl (hL.rdS 1 rfl h2)) ?_
 refine OV (.int .i64 (a0.Finishes.length : Int)) rfl (x_assign) ?_
 refine ONR ?_
 refine OV (.int .i64 0) rfl (x_assign) ?_
 refine ONS ?_
 refine CSR ?_
 refine OV (.int .i64 0) rfl (x_assign) ?_
 refine OW.nil ?_
 obtain ⟨o115, ho116, hm⟩ := bndE hm
 refine CW.loopB (fun (s_l1 : Int × Int) (F : Fr) (w : World) => F 1 = (.int .i64 a1) ∧ F 2 = (.pointer (some ⟨b4, 0, none⟩)) ∧ F 5 = (.int .i64 (a0.Finishes.length : Int)) ∧ F 6 = (.int .i64 s_l1.1) ∧ F 7 = (.int .i64 s_l1.2) ∧ Hp w0 [Ent.blk b4 101 #[v1], Ent.snap w0 w0.heap.size] w) (fun o => outc o (fun x => some x) (fun s => M.spec_l26Points_a1 a0 a1 s) = some r) ho116 hm ⟨rfl, rfl, rfl, rfl, rfl, hL⟩ ?_ ?_
 · intro s_l1 F117 wd118 hJ hm
   have hm := outcE hm
   have hm : M.spec_l26Points_a1 a0 a1 s_l1 = some r := hm
   unfold M.spec_l26Points_a1 at hm
   obtain ⟨f119, f120, f121, f122, f123, hL⟩ := hJ
   refine CSR ?_
   refine OV (.int .i64 (a0.Finishes.length : Int)) rfl (x_mv f121) ?_
   obtain ⟨hc127, hm⟩ := chkE hm
   refine OW.cons (S_make (α := Int) 0 hL U27 Tryz_T2 rfl rfl rfl hc127 (by decide) rfl ?_)
   intro wd124 v125 S126 hL
   refine OV v125 rfl (x_assign) ?_
   refine ONR ?_
   refine OV (.int .i64 (a0.Finishes.length : Int)) rfl (x_mv f121) ?_
   obtain ⟨hc131, hm⟩ := chkE hm
   refine OW.cons (S_make (α := Int) 0 hL U27 Tryz_T2 rfl rfl rfl hc131 (by decide) rfl ?_)
   intro wd128 v129 S130 hL
   refine OV v129 rfl (x_assign) ?_
   refine ONS ?_
   refine CSR ?_
   refine OV (.int .i64 0) rfl (x_assign) ?_
   refine OW.nil ?_
   obtain ⟨o1038, ho1039, hm⟩ := bndE hm
   refine CW.loopB (fun (s_l2 : (List Int) × Int) (F : Fr) (w : World) => ∃ (S1035 : Nat → Prop), F 1 = (.int .i64 a1) ∧ F 2 = (.pointer (some ⟨b4, 0, none⟩)) ∧ F 5 = (.int .i64 (a0.Finishes.length : Int)) ∧ F 6 = (.int .i64 s_l1.1) ∧ F 8 = v125 ∧ F 9 = v129 ∧ F 10 = (.int .i64 s_l2.2) ∧ Hp w0 [Ent.own 2 S130 v129 (List.replicate ((a0.Finishes.length : Int)).toNat (0 : Int)), Ent.own 2 S1035 v125 s_l2.1, Ent.blk b4 101 #[v1], Ent.snap w0 w0.heap.size] w) (fun o => outc o (fun x => some x) (fun s => M.spec_l26Points_a2 s) = some r) ho1039 hm ⟨S126, f119, f120, f121, f122, rfl, rfl, rfl, hL⟩ ?_ ?_
   · intro s_l2 F1040 wd1041 hJ hm
     have hm := outcE hm
     have hm : M.spec_l26Points_a2 s_l2 = some r := hm
     unfold M.spec_l26Points_a2 at hm
     obtain ⟨S1035, f1042, f1043, f1044, f1045, f1046, f1047, f1048, hL⟩ := hJ
     refine CSR ?_
     refine OV v125 rfl (x_mv f1046) ?_
     refine OV v125 rfl (x_assign) ?_
     refine OW.nil ?_
     refine CW.ret ?_
     obtain rfl := Option.some.inj hm
     exact RR1 rfl rfl ⟨v125, S1035, rfl, hL.fresh 3 rfl [1] (by decide) (by decide) rfl⟩
   intro s_l2 F1049 wd1050 t1036 hJ hm hr1037
   unfold M.spec_l26Points_l2 at hm
   obtain ⟨S1035, f1051, f1052, f1053, f1054, f1055, f1056, f1057, hL⟩ := hJ
   refine CW.seq ?_
   refine CSR ?_
   refine OV (.int .i64 s_l2.2) rfl (x_mv f1057) ?_
   refine OV v125 rfl (x_mv f1055) ?_
   refine OV (.int .i64 (s_l2.1.length : Int)) rfl (x_lenR U27 rfl (hL.rdO 1 rfl)) ?_
   refine OV (.bool (decide (s_l2.2 < (s_l2.1.length : Int)))) rfl (x_lss rfl rfl) ?_
   refine OW.nil ?_
   refine CW.condM (t := decide (s_l2.2 < (s_l2.1.length : Int))) rfl hm (fun hb1058 hm => ?_) (fun hb1058 hm => ?_)
   · refine CW.skip ?_
     refine CW.seqJ (fun (s_j1 : (List Int)) (F : Fr) (w : World) => ∃ (S1279 : Nat → Prop), F 1 = (.int .i64 a1) ∧ F 2 = (.pointer (some ⟨b4, 0, none⟩)) ∧ F 5 = (.int .i64 (a0.Finishes.length : Int)) ∧ F 6 = (.int .i64 s_l1.1) ∧ F 8 = v125 ∧ F 9 = v129 ∧ F 10 = (.int .i64 s_l2.2) ∧ Hp w0 [Ent.own 2 S130 v129 (List.replicate ((a0.Finishes.length : Int)).toNat (0 : Int)), Ent.own 2 S1279 v125 s_j1, Ent.blk b4 101 #[v1], Ent.snap w0 w0.heap.size] w) (fun s_j1 => M.spec_l26Points_j1 s_l2 s_j1 = some t1036) ?_ ?_
     · refine CW.blockJ (fun (s_j2 : (List Int)) (F : Fr) (w : World) => ∃ (S1394 : Nat → Prop), F 1 = (.int .i64 a1) ∧ F 2 = (.pointer (some ⟨b4, 0, none⟩)) ∧ F 5 = (.int .i64 (a0.Finishes.length : Int)) ∧ F 6 = (.int .i64 s_l1.1) ∧ F 8 = v125 ∧ F 9 = v129 ∧ F 10 = (.int .i64 s_l2.2) ∧ Hp w0 [Ent.own 2 S130 v129 (List.replicate ((a0.Finishes.length : Int)).toNat (0 : Int)), Ent.own 2 S1394 v125 s_j2, Ent.blk b4 101 #[v1], Ent.snap w0 w0.heap.size] w) (fun s_j2 => M.spec_l26Points_j2 s_l2 s_j2 = some t1036) ?_ ?_
       · refine CSR ?_
         refine OV (.pointer (some ⟨b4, 0, none⟩)) rfl (x_fieldAddr (fsz := 1) 0 0 0 U101 rfl Tryz_T99 rfl f1052 rfl) ?_
         refine OV v1 rfl (x_load1 U99 rfl rfl (hL.cellB 2 rfl rfl)) ?_
         refine OV (.int .i64 s_l2.2) rfl (x_mv f1057) ?_
         obtain ⟨x1404, ha1405, hm⟩ := bndE hm
         obtain ⟨hz1406, ha1410⟩ := idxE ha1405
         obtain ⟨b1407, q1408, hix1409⟩ := rdL_ix (hL.rdS 3 rfl h2) hz1406 ha1410
         refine OV (.pointer (some ⟨b1407, q1408, none⟩)) rfl (x_ix U99 Tryz_T103 rfl rfl hix1409) ?_
         refine OV (.pointer (some ⟨b1407, q1408 + 1, none⟩)) rfl (x_fieldAddr (fsz := 1) q1408 1 (q1408 + 1) U103 rfl Tryz_T2 rfl rfl rfl) ?_
         refine OV (.int .i64 x1404.Code) rfl (x_load1 U2 rfl rfl (rdF_cells (hL.rdS 3 rfl h2) hix1409 ha1410 1 _ rfl)) ?_
         refine OV (.int .i64 x1404.Code) rfl (x_assign) ?_
         refine OW.nil ?_
         refine CW.blockJ (fun (s_j3 : (List Int)) (F : Fr) (w : World) => ∃ (S1455 : Nat → Prop), F 1 = (.int .i64 a1) ∧ F 2 = (.pointer (some ⟨b4, 0, none⟩)) ∧ F 5 = (.int .i64 (a0.Finishes.length : Int)) ∧ F 6 = (.int .i64 s_l1.1) ∧ F 8 = v125 ∧ F 9 = v129 ∧ F 10 = (.int .i64 s_l2.2) ∧ Hp w0 [Ent.own 2 S130 v129 (List.replicate ((a0.Finishes.length : Int)).toNat (0 : Int)), Ent.own 2 S1455 v125 s_j3, Ent.blk b4 101 #[v1], Ent.snap w0 w0.heap.size] w) (fun s_j3 => M.spec_l26Points_j3 s_l2 s_j3 = some t1036) ?_ ?_
         · refine CSR ?_
           refine OV (.int .i64 x1404.Code) rfl (x_move) ?_
           refine OV (.bool (x1404.Code == 0)) rfl (x_eql rfl rfl) ?_
           refine OV (.bool (x1404.Code == 0)) rfl (x_assign) ?_
           refine OW.nil ?_
           refine CW.condM (t := x1404.Code == 0) rfl hm (fun hb1465 hm => ?_) (fun hb1465 hm => ?_)
           · refine CSR ?_
             refine OV (.agg #[v1]) rfl (x_loadN (cs := [v1]) U101 Tryz_T101 rfl f1052 (hL.cellsB 2 rfl (o := 0) (l := [v1]) (by intro j u hj; exact (by simpa using hj)))) ?_
             refine OV v129 rfl (x_mv f1056) ?_
             refine OV (.int .i64 s_l2.2) rfl (x_mv f1057) ?_
             obtain ⟨x1466, hx1467, hm⟩ := bndE hm
             refine OW.cons (OP.call rfl (x_call (vs := [(.agg #[v1]), v129, (.int .i64 s_l2.2)]) Tryz_C124 ⟨rfl, rfl, rfl, trivial⟩) (M.spec_l26Place_ok _ a0 (hL.rdS 3 rfl h2) (List.replicate ((a0.Finishes.length : Int)).toNat (0 : Int)) (hL.rdO 0 rfl) s_l2.2 hx1467) ?_)
             rintro e1468 wd1469 ⟨rfl, hF1470⟩
             refine ⟨_, rfl, ?_⟩
             have hL := hL.pushAll hF1470
             simp only [lA, lB, lC, lD] at hL
             refine OV (.tuple #[(.int .i64 x1466.1), (.int .i64 x1466.2)]) rfl (x_move) ?_
             refine OV (.int .i64 x1466.1) rfl (x_extract rfl rfl) ?_
             refine OV (.int .i64 x1466.2) rfl (x_extract rfl rfl) ?_
             refine OV (.int .i64 x1466.1) rfl (x_assign) ?_
             refine OV (.int .i64 x1466.2) rfl (x_assign) ?_
             refine OW.nil ?_
             refine CW.regionL ?_
             refine OV v125 rfl (x_mv f1055) ?_
             refine OV (.int .i64 s_l2.2) rfl (x_mv f1057) ?_
             refine OV (.int .i64 x1466.1) rfl (x_move) ?_
             refine OV (.int .i64 (w64 (2 * x1466.1))) rfl (x_mul rfl rfl) ?_
             refine OV (.int .i64 x1466.2) rfl (x_move) ?_
             refine OV (.int .i64 (w64 ((w64 (2 * x1466.1)) + x1466.2))) rfl (x_add rfl rfl) ?_
             refine OV (.int .i64 (w64 ((w64 ((w64 (2 * x1466.1)) + x1466.2)) - 1))) rfl (x_sub rfl rfl) ?_
             refine OV (.int .i64 (w64 (5 * (w64 ((w64 ((w64 (2 * x1466.1)) + x1466.2)) - 1))))) rfl (x_mul rfl rfl) ?_
             obtain ⟨x1471, ha1472, hm⟩ := bndE hm
             obtain ⟨hz1473, ha1477⟩ := idxE ha1472
             obtain ⟨b1474, q1475, hix1476⟩ := rdL_ix (hL.rdO 1 rfl) hz1473 ha1477
             refine OV (.pointer (some ⟨b1474, q1475, none⟩)) rfl (x_ix U27 Tryz_T2 rfl rfl hix1476) ?_
             refine OW.cons (S_storeX (j := 0) (w64 (5 * (w64 ((w64 ((w64 (2 * x1466.1)) + x1466.2)) - 1)))) hL 1 rfl Tryz_T2 hix1476 ha1477 rfl rfl rfl rfl rfl rfl ?_)
             intro wd1478 hL
             refine OW.nil ?_
             exact ⟨s_l2.1.set (s_l2.2 : Int).toNat (w64 (5 * (w64 ((w64 ((w64 (2 * x1466.1)) + x1466.2)) - 1)))), hm, ⟨S1035, f1051, f1052, f1053, f1054, f1055, f1056, f1057, hL⟩⟩
           refine CSR ?_
           refine OV (.int .i64 x1404.Code) rfl (x_move) ?_
           refine OV (.bool (x1404.Code == 9)) rfl (x_eql rfl rfl) ?_
           refine OV (.bool (x1404.Code == 9)) rfl (x_assign) ?_
           refine OW.nil ?_
           refine CW.condM (t := x1404.Code == 9) rfl hm (fun hb1479 hm => ?_) (fun hb1479 hm => ?_)
           · refine CW.skip ?_
             exact ⟨s_l2.1, hm, ⟨S1035, f1051, f1052, f1053, f1054, f1055, f1056, f1057, hL⟩⟩
           refine CW.seqJ (fun (s_j4 : Bool) (F : Fr) (w : World) => F 1 = (.int .i64 a1) ∧ F 2 = (.pointer (some ⟨b4, 0, none⟩)) ∧ F 5 = (.int .i64 (a0.Finishes.length : Int)) ∧ F 6 = (.int .i64 s_l1.1) ∧ F 8 = v125 ∧ F 9 = v129 ∧ F 10 = (.int .i64 s_l2.2) ∧ F 77 = (.bool s_j4) ∧ Hp w0 [Ent.own 2 S130 v129 (List.replicate ((a0.Finishes.length : Int)).toNat (0 : Int)), Ent.own 2 S1035 v125 s_l2.1, Ent.blk b4 101 #[v1], Ent.snap w0 w0.heap.size] w) (fun s_j4 => M.spec_l26Points_j4 a0 s_l1 s_l2 s_j4 = some t1036) ?_ ?_
           · refine CW.regionL ?_
             refine OV (.int .i64 x1404.Code) rfl (x_move) ?_
             refine OV (.bool (x1404.Code == 1)) rfl (x_eql rfl rfl) ?_
             refine OV (.bool (x1404.Code == 1)) rfl (x_move) ?_
             refine ifB_elim hm (fun hb1508 hm => ?_) (fun hb1508 hm => ?_)
             · refine OW.cons (OP.no' rfl rfl hb1508 rfl ?_)
               refine OW.cons (OP.no' rfl rfl hb1508 rfl ?_)
               refine OV (.bool true) rfl (x_pickT' rfl hb1508 rfl) ?_
               refine OV (.bool true) rfl (x_assign) ?_
               refine OW.nil ?_
               exact ⟨true, hm, ⟨f1051, f1052, f1053, f1054, f1055, f1056, f1057, rfl, hL⟩⟩
             refine OW.cons (OP.yes' rfl rfl hb1508 (OP.val (v := (.int .i64 a1)) rfl (x_mv f1051) ?_))
             refine OW.cons (OP.yes' rfl rfl hb1508 (OP.val (v := (.bool (a1 == 0))) rfl (x_eql rfl rfl) ?_))
             refine OV (.bool (a1 == 0)) rfl (x_pickF' rfl hb1508 rfl) ?_
             refine OV (.bool (a1 == 0)) rfl (x_assign) ?_
             refine OW.nil ?_
             exact ⟨a1 == 0, hm, ⟨f1051, f1052, f1053, f1054, f1055, f1056, f1057, rfl, hL⟩⟩
           intro s_j4 F1481 wd1482 hJ hm
           unfold M.spec_l26Points_j4 at hm
           obtain ⟨f1483, f1484, f1485, f1486, f1487, f1488, f1489, f1490, hL⟩ := hJ
           refine CW.condM (t := s_j4) f1490 hm (fun hb1491 hm => ?_) (fun hb1491 hm => ?_)
           · refine CW.regionL ?_
             refine OV v125 rfl (x_mv f1487) ?_
             refine OV (.int .i64 s_l2.2) rfl (x_mv f1489) ?_
             refine OV (.int .i64 (a0.Finishes.length : Int)) rfl (x_mv f1485) ?_
             refine OV (.int .i64 (w64 ((a0.Finishes.length : Int) + 1))) rfl (x_add rfl rfl) ?_
             refine OV (.int .i64 (w64 (10 * (w64 ((a0.Finishes.length : Int) + 1))))) rfl (x_mul rfl rfl) ?_
             obtain ⟨x1492, ha1493, hm⟩ := bndE hm
             obtain ⟨hz1494, ha1498⟩ := idxE ha1493
             obtain ⟨b1495, q1496, hix1497⟩ := rdL_ix (hL.rdO 1 rfl) hz1494 ha1498
             refine OV (.pointer (some ⟨b1495, q1496, none⟩)) rfl (x_ix U27 Tryz_T2 rfl rfl hix1497) ?_
             refine OW.cons (S_storeX (j := 0) (w64 (10 * (w64 ((a0.Finishes.length : Int) + 1)))) hL 1 rfl Tryz_T2 hix1497 ha1498 rfl rfl rfl rfl rfl rfl ?_)
             intro wd1499 hL
             refine OW.nil ?_
             exact ⟨s_l2.1.set (s_l2.2 : Int).toNat (w64 (10 * (w64 ((a0.Finishes.length : Int) + 1)))), hm, ⟨S1035, f1483, f1484, f1485, f1486, f1487, f1488, f1489, hL⟩⟩
           refine CW.regionL ?_
           refine OV v125 rfl (x_mv f1487) ?_
           refine OV (.int .i64 s_l2.2) rfl (x_mv f1489) ?_
           refine OV (.int .i64 s_l1.1) rfl (x_mv f1486) ?_
           refine OV (.int .i64 (w64 (s_l1.1 + 1))) rfl (x_add rfl rfl) ?_
           refine OV (.int .i64 (w64 (10 * (w64 (s_l1.1 + 1))))) rfl (x_mul rfl rfl) ?_
           obtain ⟨x1500, ha1501, hm⟩ := bndE hm
           obtain ⟨hz1502, ha1506⟩ := idxE ha1501
           obtain ⟨b1503, q1504, hix1505⟩ := rdL_ix (hL.rdO 1 rfl) hz1502 ha1506
           refine OV (.pointer (some ⟨b1503, q1504, none⟩)) rfl (x_ix U27 Tryz_T2 rfl rfl hix1505) ?_
           refine OW.cons (S_storeX (j := 0) (w64 (10 * (w64 (s_l1.1 + 1)))) hL 1 rfl Tryz_T2 hix1505 ha1506 rfl rfl rfl rfl rfl rfl ?_)
           intro wd1507 hL
           refine OW.nil ?_
           exact ⟨s_l2.1.set (s_l2.2 : Int).toNat (w64 (10 * (w64 (s_l1.1 + 1)))), hm, ⟨S1035, f1483, f1484, f1485, f1486, f1487, f1488, f1489, hL⟩⟩
         intro s_j3 F1456 wd1457 hJ hm
         unfold M.spec_l26Points_j3 at hm
         obtain ⟨S1455, f1458, f1459, f1460, f1461, f1462, f1463, f1464, hL⟩ := hJ
         exact ⟨s_j3, hm, ⟨S1455, f1458, f1459, f1460, f1461, f1462, f1463, f1464, hL⟩⟩
       intro s_j2 F1395 wd1396 hJ hm
       unfold M.spec_l26Points_j2 at hm
       obtain ⟨S1394, f1397, f1398, f1399, f1400, f1401, f1402, f1403, hL⟩ := hJ
       exact ⟨s_j2, hm, ⟨S1394, f1397, f1398, f1399, f1400, f1401, f1402, f1403, hL⟩⟩
     intro s_j1 F1280 wd1281 hJ hm
     unfold M.spec_l26Points_j1 at hm
     obtain ⟨S1279, f1282, f1283, f1284, f1285, f1286, f1287, f1288, hL⟩ := hJ
     refine CW.regionL ?_
     refine OV (.int .i64 s_l2.2) rfl (x_mv f1288) ?_
     refine OV (.int .i64 (w64 (s_l2.2 + 1))) rfl (x_add rfl rfl) ?_
     refine OV (.int .i64 (w64 (s_l2.2 + 1))) rfl (x_assign) ?_
     refine OW.nil ?_
     obtain rfl := Option.some.inj hm
     exact ⟨_, rfl, ⟨S1279, f1282, f1283, f1284, f1285, f1286, f1287, rfl, hL⟩⟩
   refine CW.exit ?_
   refine XJ.hit ?_
   obtain rfl := Option.some.inj hm
   exact ⟨_, rfl, ⟨S1035, f1051, f1052, f1053, f1054, f1055, f1056, f1057, hL⟩⟩
 intro s_l1 F1509 wd1510 t113 hJ hm hr114
 unfold M.spec_l26Points_l1 at hm
 obtain ⟨f1511, f1512, f1513, f1514, f1515, hL⟩ := hJ
 refine CW.seq ?_
 refine CSR ?_
 refine OV (.int .i64 s_l1.2) rfl (x_mv f1515) ?_
 refine OV (.pointer (some ⟨b4, 0, none⟩)) rfl (x_fieldAddr (fsz := 1) 0 0 0 U101 rfl Tryz_T99 rfl f1512 rfl) ?_
 refine OV v1 rfl (x_load1 U99 rfl rfl (hL.cellB 0 rfl rfl)) ?_
 refine OV (.int .i64 (a0.Finishes.length : Int)) rfl (x_lenR U99 rfl (hL.rdS 1 rfl h2)) ?_
 refine OV (.bool (decide (s_l1.2 < (a0.Finishes.length : Int)))) rfl (x_lss rfl rfl) ?_
 refine OW.nil ?_
 refine CW.condM (t := decide (s_l1.2 < (a0.Finishes.length : Int))) rfl hm (fun hb1516 hm => ?_) (fun hb1516 hm => ?_)
 · refine CW.skip ?_
   refine CW.seqJ (fun (s_j5 : Int) (F : Fr) (w : World) => F 1 = (.int .i64 a1) ∧ F 2 = (.pointer (some ⟨b4, 0, none⟩)) ∧ F 5 = (.int .i64 (a0.Finishes.length : Int)) ∧ F 6 = (.int .i64 s_j5) ∧ F 7 = (.int .i64 s_l1.2) ∧ Hp w0 [Ent.blk b4 101 #[v1], Ent.snap w0 w0.heap.size] w) (fun s_j5 => M.spec_l26Points_j5 s_l1 s_j5 = some t113) ?_ ?_
   · refine CW.blockJ (fun (s_j6 : Int) (F : Fr) (w : World) => F 1 = (.int .i64 a1) ∧ F 2 = (.pointer (some ⟨b4, 0, none⟩)) ∧ F 5 = (.int .i64 (a0.Finishes.length : Int)) ∧ F 6 = (.int .i64 s_j6) ∧ F 7 = (.int .i64 s_l1.2) ∧ Hp w0 [Ent.blk b4 101 #[v1], Ent.snap w0 w0.heap.size] w) (fun s_j6 => M.spec_l26Points_j6 s_l1 s_j6 = some t113) ?_ ?_
     · refine CSR ?_
       refine OV (.pointer (some ⟨b4, 0, none⟩)) rfl (x_fieldAddr (fsz := 1) 0 0 0 U101 rfl Tryz_T99 rfl f1512 rfl) ?_
       refine OV v1 rfl (x_load1 U99 rfl rfl (hL.cellB 0 rfl rfl)) ?_
       refine OV (.int .i64 s_l1.2) rfl (x_mv f1515) ?_
       obtain ⟨x1562, ha1563, hm⟩ := bndE hm
       obtain ⟨hz1564, ha1568⟩ := idxE ha1563
       obtain ⟨b1565, q1566, hix1567⟩ := rdL_ix (hL.rdS 1 rfl h2) hz1564 ha1568
       refine OV (.pointer (some ⟨b1565, q1566, none⟩)) rfl (x_ix U99 Tryz_T103 rfl rfl hix1567) ?_
       refine OV (.pointer (some ⟨b1565, q1566 + 1, none⟩)) rfl (x_fieldAddr (fsz := 1) q1566 1 (q1566 + 1) U103 rfl Tryz_T2 rfl rfl rfl) ?_
       refine OV (.int .i64 x1562.Code) rfl (x_load1 U2 rfl rfl (rdF_cells (hL.rdS 1 rfl h2) hix1567 ha1568 1 _ rfl)) ?_
       refine OV (.bool (x1562.Code != 1)) rfl (x_neq rfl rfl) ?_
       refine OW.nil ?_
       refine CW.condM (t := x1562.Code != 1) rfl hm (fun hb1569 hm => ?_) (fun hb1569 hm => ?_)
       · refine CW.regionL ?_
         refine OV (.int .i64 s_l1.1) rfl (x_mv f1514) ?_
         refine OV (.int .i64 (w64 (s_l1.1 + 1))) rfl (x_add rfl rfl) ?_
         refine OV (.int .i64 (w64 (s_l1.1 + 1))) rfl (x_assign) ?_
         refine OW.nil ?_
         exact ⟨w64 (s_l1.1 + 1), hm, ⟨f1511, f1512, f1513, rfl, f1515, hL⟩⟩
       refine CW.skip ?_
       exact ⟨s_l1.1, hm, ⟨f1511, f1512, f1513, f1514, f1515, hL⟩⟩
     intro s_j6 F1555 wd1556 hJ hm
     unfold M.spec_l26Points_j6 at hm
     obtain ⟨f1557, f1558, f1559, f1560, f1561, hL⟩ := hJ
     exact ⟨s_j6, hm, ⟨f1557, f1558, f1559, f1560, f1561, hL⟩⟩
   intro s_j5 F1540 wd1541 hJ hm
   unfold M.spec_l26Points_j5 at hm
   obtain ⟨f1542, f1543, f1544, f1545, f1546, hL⟩ := hJ
   refine CW.regionL ?_
   refine OV (.int .i64 s_l1.2) rfl (x_mv f1546) ?_
   refine OV (.int .i64 (w64 (s_l1.2 + 1))) rfl (x_add rfl rfl) ?_
   refine OV (.int .i64 (w64 (s_l1.2 + 1))) rfl (x_assign) ?_
   refine OW.nil ?_
   obtain rfl := Option.some.inj hm
   exact ⟨_, rfl, ⟨f1542, f1543, f1544, f1545, rfl, hL⟩⟩
 refine CW.exit ?_
 refine XJ.hit ?_
 obtain rfl := Option.some.inj hm
 exact ⟨_, rfl, ⟨f1511, f1512, f1513, f1514, f1515, hL⟩⟩

theorem M.spec_TableOf_ok (w0 : World) (a0 : Series) {v1 : Value} (h2 : rdL (· < w0.heap.size) w0 v1 a0.Races) {r : Table × Int} (hm : M.spec_TableOf a0 = some r) :
    Calls Tryz.prog 83 #[(.agg #[(.int .i64 a0.Boats), (.int .i64 a0.Scheme), v1])] w0 fun e w' => ∃ (rv0 : Value) (rS0 : Nat → Prop), ∃ (rv1 : Value) (rS1 : Nat → Prop), e = .returned (.tuple #[(.agg #[(.int .i64 r.1.Boats), rv0, rv1]), (.int .i64 r.2)]) ∧ Fresh w0 w' [Ent.own 27 rS0 rv0 r.1.Points, Ent.own 27 rS1 rv1 r.1.Codes] := by
 unfold M.spec_TableOf at hm
 refine calls_CW (args := [(.agg #[(.int .i64 a0.Boats), (.int .i64 a0.Scheme), v1])]) Tryz.func83 rfl rfl rfl ?_
 have hL := Hp.start w0
 refine CSR ?_
 refine OW.cons (S_box (cs := #[(.int .i64 a0.Boats), (.int .i64 a0.Scheme), v1]) hL rfl rfl rfl ?_)
 intro wd3 b4 hL
 refine OW.cons (S_alloc (cs := #[(.int .i64 0), (.slice none 0 0), (.slice none 0 0)]) hL Tryz_T26 rfl rfl ?_)
 intro wd5 b6 hL
 refine OV (.int .i64 0) rfl (x_assign) ?_
 refine ONS ?_
 refine CSR ?_
 refine OV (.agg #[(.int .i64 a0.Boats), (.int .i64 a0.Scheme), v1]) rfl (x_loadN (cs := [(.int .i64 a0.Boats), (.int .i64 a0.Scheme), v1]) U38 Tryz_T38 rfl rfl (hL.cellsB 1 rfl (o := 0) (l := [(.int .i64 a0.Boats), (.int .i64 a0.Scheme), v1]) (by intro j u hj; exact (by simpa using hj)))) ?_
 obtain ⟨x7, hx8, hm⟩ := bndE hm
 refine OW.cons (OP.call rfl (x_call (vs := [(.agg #[(.int .i64 a0.Boats), (.int .i64 a0.Scheme), v1])]) Tryz_C80 ⟨rfl, trivial⟩) (M.spec_IsSeries_ok _ a0 (hL.rdS 2 rfl h2) hx8) ?_)
 rintro e9 wd10 ⟨rfl, hF11⟩
 refine ⟨_, rfl, ?_⟩
 have hL := hL.pushAll hF11
 simp only [lA, lB, lC, lD] at hL
 refine OV (.bool (!x7)) rfl (x_not rfl) ?_
 refine OW.nil ?_
 refine CW.condM (t := !x7) rfl hm (fun hb12 hm => ?_) (fun hb12 hm => ?_)
 · refine CSR ?_
   refine OV (.agg #[(.int .i64 0), (.slice none 0 0), (.slice none 0 0)]) rfl (x_build Tryz_B26 (ps := []) trivial (by simp [Instr.fill, cells_int, cells_bool, cells_string, cells_agg, cells_slice, cells_pointer])) ?_
   refine OW.cons (S_storeN (l := [(.int .i64 0), (.slice none 0 0), (.slice none 0 0)]) (cs' := #[(.int .i64 0), (.slice none 0 0), (.slice none 0 0)]) hL 0 rfl Tryz_T26 rfl rfl (List.forall_mem_cons.2 ⟨rfl, (List.forall_mem_cons.2 ⟨rfl, (List.forall_mem_cons.2 ⟨rfl, (fun _ h => by cases h)⟩)⟩)⟩) rfl (Nat.le_of_ble_eq_true rfl) rfl ?_)
   intro wd13 hL
   refine OV (.int .i64 1) rfl (x_assign) ?_
   refine OW.nil ?_
   refine CW.ret ?_
   have hL := hL.pushNil (List Int) 27
   have hL := hL.pushNil (List Int) 27
   obtain rfl := Option.some.inj hm
   exact RRct rfl rfl (run_loadBlk U26 Tryz_T26 (hL.get 2 rfl) rfl) rfl ⟨(.slice none 0 0), None_, (.slice none 0 0), None_, rfl, hL.fresh 4 rfl [1, 0] (by decide) (by decide) rfl⟩
 refine CW.skip ?_
 refine CSR ?_
 refine OV (.pointer (some ⟨b4, 0, none⟩)) rfl (x_fieldAddr (fsz := 1) 0 0 0 U38 rfl Tryz_T2 rfl rfl rfl) ?_
 refine OV (.int .i64 a0.Boats) rfl (x_load1 U2 rfl rfl (hL.cellB 1 rfl rfl)) ?_
 refine OW.cons (S_lit0 (α := Int) (List Int) hL U24 Tryz_T27 rfl ?_)
 intro wd14 v15 S16 hL
 refine OW.cons (S_lit0 (α := Int) (List Int) hL U24 Tryz_T27 rfl ?_)
 intro wd17 v18 S19 hL
 refine OV (.agg #[(.int .i64 a0.Boats), v15, v18]) rfl (x_build Tryz_B26 (ps := [(0, (.int .i64 a0.Boats)), (1, v15), (2, v18)]) ⟨⟨rfl, rfl⟩, ⟨rfl, rfl⟩, ⟨rfl, rfl⟩, trivial⟩ (by simp [Instr.fill, cells_int, cells_bool, cells_string, cells_agg, cells_slice, cells_pointer, (rdL_cells (hL.rdO 1 rfl)), (rdL_cells (hL.rdO 0 rfl))])) ?_
 refine OW.cons (S_alloc (cs := #[(.int .i64 0), (.slice none 0 0), (.slice none 0 0)]) hL Tryz_T26 rfl rfl ?_)
 intro wd20 b21 hL
 refine OW.cons (S_storeN (l := [(.int .i64 a0.Boats), v15, v18]) (cs' := #[(.int .i64 a0.Boats), v15, v18]) hL 0 rfl Tryz_T26 rfl rfl (List.forall_mem_cons.2 ⟨rfl, (List.forall_mem_cons.2 ⟨rdL_one (hL.rdO 2 rfl), (List.forall_mem_cons.2 ⟨rdL_one (hL.rdO 1 rfl), (fun _ h => by cases h)⟩)⟩)⟩) rfl (Nat.le_of_ble_eq_true rfl) rfl ?_)
 intro wd22 hL
 refine ONS ?_
 refine CSR ?_
 refine OV (.int .i64 0) rfl (x_assign) ?_
 refine OW.nil ?_
 obtain ⟨o451, ho452, hm⟩ := bndE hm
 have hL := hL.sel [2, 1, 0, 3, 4, 5] (by decide) rfl
 refine CW.loopB (fun (s_l1 : (List (List Int)) × (List (List Int)) × Int) (F : Fr) (w : World) => ∃ (v445 : Value) (S446 : Nat → Prop) (v447 : Value) (S448 : Nat → Prop), F 1 = (.pointer (some ⟨b4, 0, none⟩)) ∧ F 2 = (.pointer (some ⟨b6, 0, none⟩)) ∧ F 4 = (.pointer (some ⟨b21, 0, none⟩)) ∧ F 5 = (.int .i64 s_l1.2.2) ∧ Hp w0 [Ent.own 27 S446 v445 s_l1.1, Ent.own 27 S448 v447 s_l1.2.1, Ent.blk b21 26 #[(.int .i64 a0.Boats), v445, v447], Ent.blk b6 26 #[(.int .i64 0), (.slice none 0 0), (.slice none 0 0)], Ent.blk b4 38 #[(.int .i64 a0.Boats), (.int .i64 a0.Scheme), v1], Ent.snap w0 w0.heap.size] w) (fun o => outc o (fun x => some x) (fun s => M.spec_TableOf_a1 a0 s) = some r) ho452 hm ⟨v15, S16, v18, S19, rfl, rfl, rfl, rfl, hL⟩ ?_ ?_
 · intro s_l1 F453 wd454 hJ hm
   have hm := outcE hm
   have hm : M.spec_TableOf_a1 a0 s_l1 = some r := hm
   unfold M.spec_TableOf_a1 at hm
   obtain ⟨v445, S446, v447, S448, f455, f456, f457, f458, hL⟩ := hJ
   refine CSR ?_
   refine OV (.agg #[(.int .i64 a0.Boats), v445, v447]) rfl (x_loadN (cs := [(.int .i64 a0.Boats), v445, v447]) U26 Tryz_T26 rfl f457 (hL.cellsB 2 rfl (o := 0) (l := [(.int .i64 a0.Boats), v445, v447]) (by intro j u hj; exact (by simpa using hj)))) ?_
   refine OW.cons (S_storeN (l := [(.int .i64 a0.Boats), v445, v447]) (cs' := #[(.int .i64 a0.Boats), v445, v447]) hL 3 rfl Tryz_T26 f456 rfl (List.forall_mem_cons.2 ⟨rfl, (List.forall_mem_cons.2 ⟨rdL_one (hL.rdO 0 rfl), (List.forall_mem_cons.2 ⟨rdL_one (hL.rdO 1 rfl), (fun _ h => by cases h)⟩)⟩)⟩) rfl (Nat.le_of_ble_eq_true rfl) rfl ?_)
   intro wd459 hL
   refine OV (.int .i64 0) rfl (x_assign) ?_
   refine OW.nil ?_
   refine CW.ret ?_
   obtain rfl := Option.some.inj hm
   exact RRct rfl f456 (run_loadBlk U26 Tryz_T26 (hL.get 3 rfl) rfl) rfl ⟨v445, S446, v447, S448, rfl, hL.fresh 5 rfl [0, 1] (by decide) (by decide) rfl⟩
 intro s_l1 F460 wd461 t449 hJ hm hr450
 unfold M.spec_TableOf_l1 at hm
 obtain ⟨v445, S446, v447, S448, f462, f463, f464, f465, hL⟩ := hJ
 refine CW.seq ?_
 refine CSR ?_
 refine OV (.int .i64 s_l1.2.2) rfl (x_mv f465) ?_
 refine OV (.pointer (some ⟨b4, 2, none⟩)) rfl (x_fieldAddr (fsz := 1) 0 2 2 U38 rfl Tryz_T36 rfl f462 rfl) ?_
 refine OV v1 rfl (x_load1 U36 rfl rfl (hL.cellB 4 rfl rfl)) ?_
 refine OV (.int .i64 (a0.Races.length : Int)) rfl (x_lenR U36 rfl (hL.rdS 5 rfl h2)) ?_
 refine OV (.bool (decide (s_l1.2.2 < (a0.Races.length : Int)))) rfl (x_lss rfl rfl) ?_
 refine OW.nil ?_
 refine CW.condM (t := decide (s_l1.2.2 < (a0.Races.length : Int))) rfl hm (fun hb466 hm => ?_) (fun hb466 hm => ?_)
 · refine CW.skip ?_
   refine CW.seq ?_
   refine CW.block ?_
   refine CSR ?_
   refine OW.cons (S_lit ([] : List Int) hL U27 Tryz_T2 rfl (by decide) (by first | (simp [Instr.fill, madeCells, Value.cells, ev, upd, Flat.enc, Flat.sz]; done) | rfl | kernel_rfl) rfl rfl ?_)
   intro wd467 v468 S469 hL
   refine OV v468 rfl (x_assign) ?_
   refine ONS ?_
   refine CSR ?_
   refine OV (.int .i64 0) rfl (x_assign) ?_
   refine OW.nil ?_
   obtain ⟨o550, ho551, hm⟩ := bndE hm
   refine CW.loopB (fun (s_l2 : (List Int) × Int) (F : Fr) (w : World) => ∃ (v546 : Value) (S547 : Nat → Prop), F 1 = (.pointer (some ⟨b4, 0, none⟩)) ∧ F 2 = (.pointer (some ⟨b6, 0, none⟩)) ∧ F 4 = (.pointer (some ⟨b21, 0, none⟩)) ∧ F 5 = (.int .i64 s_l1.2.2) ∧ F 6 = v546 ∧ F 7 = (.int .i64 s_l2.2) ∧ Hp w0 [Ent.own 2 S547 v546 s_l2.1, Ent.own 27 S446 v445 s_l1.1, Ent.own 27 S448 v447 s_l1.2.1, Ent.blk b21 26 #[(.int .i64 a0.Boats), v445, v447], Ent.blk b6 26 #[(.int .i64 0), (.slice none 0 0), (.slice none 0 0)], Ent.blk b4 38 #[(.int .i64 a0.Boats), (.int .i64 a0.Scheme), v1], Ent.snap w0 w0.heap.size] w) (fun o => outc o (fun x => some (.ret x)) (fun s => M.spec_TableOf_a2 a0 s_l1 s) = some t449) ho551 hm ⟨v468, S469, f462, f463, f464, f465, rfl, rfl, hL⟩ ?_ ?_
   · intro s_l2 F552 wd553 hJ hm
     have hm := outcE hm
     have hm : M.spec_TableOf_a2 a0 s_l1 s_l2 = some t449 := hm
     unfold M.spec_TableOf_a2 at hm
     obtain ⟨v546, S547, f554, f555, f556, f557, f558, f559, hL⟩ := hJ
     obtain ⟨wz560, hL, ho561⟩ := hL.freeze 1 rfl
     simp only [lC, lD] at hL
     obtain ⟨wz562, hL, ho563⟩ := hL.freeze 2 rfl
     simp only [lC, lD] at hL
     refine CW.drawH (fun w' => Hp w0 [Ent.blk b6 26 #[(.int .i64 0), (.slice none 0 0), (.slice none 0 0)], Ent.blk b4 38 #[(.int .i64 a0.Boats), (.int .i64 a0.Scheme), v1], Ent.snap w0 w0.heap.size] w') Tryz_mixed ?_
     have hL := hL.call (Mod.drew _)
     have hS := (hL.sel [4, 5, 6] (by decide) rfl)
     refine DH.take 0 rfl (by kernel_rfl) (by kernel_rfl) (by kernel_rfl) rfl rfl hS (YH.val (v := (.pointer (some ⟨b4, 0, none⟩))) (fun w' hS' => x_fieldAddr (fsz := 1) 0 0 0 U38 rfl Tryz_T2 rfl f554 rfl)) ?_
     have hS := (hL.sel [4, 5, 6] (by decide) rfl)
     refine DH.take 1 rfl (by kernel_rfl) (by kernel_rfl) (by kernel_rfl) rfl rfl hS (YH.val (v := (.int .i64 a0.Boats)) (fun w' hS' => x_load1 U2 rfl rfl (hS'.cellB 1 rfl rfl))) ?_
     have hS := (hL.sel [4, 5, 6] (by decide) rfl)
     refine DH.take 2 rfl (by kernel_rfl) (by kernel_rfl) (by kernel_rfl) rfl rfl hS (YH.val (v := (.pointer (some ⟨b21, 1, none⟩))) (fun w' hS' => x_fieldAddr (fsz := 1) 0 1 1 U26 rfl Tryz_T24 rfl f556 rfl)) ?_
     have hS := (hL.sel [4, 5, 6] (by decide) rfl)
     refine DH.take 4 rfl (by kernel_rfl) (by kernel_rfl) (by kernel_rfl) rfl rfl hS (YH.val (v := (.pointer (some ⟨b4, 2, none⟩))) (fun w' hS' => x_fieldAddr (fsz := 1) 0 2 2 U38 rfl Tryz_T36 rfl f554 rfl)) ?_
     have hS := (hL.sel [4, 5, 6] (by decide) rfl)
     refine DH.take 5 rfl (by kernel_rfl) (by kernel_rfl) (by kernel_rfl) rfl rfl hS (YH.val (v := v1) (fun w' hS' => x_load1 U36 rfl rfl (hS'.cellB 1 rfl rfl))) ?_
     have hS := (hL.sel [4, 5, 6] (by decide) rfl)
     refine DH.take 6 rfl (by kernel_rfl) (by kernel_rfl) (by kernel_rfl) rfl rfl hS (YH.val (v := (.int .i64 s_l1.2.2)) (fun w' hS' => x_mv f557)) ?_
     have hS := (hL.sel [4, 5, 6] (by decide) rfl)
     obtain ⟨x597, ha598, hm⟩ := bndE hm
     obtain ⟨hz599, ha607⟩ := idxE ha598
     obtain ⟨b600, q601, v602, hix603, hs604, hc605, hr606⟩ := rdN_at h2 hz599 ha607
     refine DH.take 7 rfl (by kernel_rfl) (by kernel_rfl) (by kernel_rfl) rfl rfl hS (YH.val (v := (.pointer (some ⟨b600, q601, none⟩))) (fun w' hS' => x_ix U36 Tryz_T101 rfl rfl hix603)) ?_
     have hS := (hL.sel [4, 5, 6] (by decide) rfl)
     refine DH.take 8 rfl (by kernel_rfl) (by kernel_rfl) (by kernel_rfl) rfl rfl hS (YH.val (v := (.agg #[v602])) (fun w' hS' => x_loadN (cs := [v602]) U101 Tryz_T101 rfl rfl (by intro j u hj; match j, hj with | 0, hj => (simp at hj; subst hj; exact (hS'.cellS 2 rfl hs604 hc605))))) ?_
     have hS := (hL.sel [4, 5, 6] (by decide) rfl)
     refine DH.take 9 rfl (by kernel_rfl) (by kernel_rfl) (by kernel_rfl) rfl rfl hS (YH.val (v := (.pointer (some ⟨b4, 1, none⟩))) (fun w' hS' => x_fieldAddr (fsz := 1) 0 1 1 U38 rfl Tryz_T2 rfl f554 rfl)) ?_
     have hS := (hL.sel [4, 5, 6] (by decide) rfl)
     refine DH.take 10 rfl (by kernel_rfl) (by kernel_rfl) (by kernel_rfl) rfl rfl hS (YH.val (v := (.int .i64 a0.Scheme)) (fun w' hS' => x_load1 U2 rfl rfl (hS'.cellB 1 rfl rfl))) ?_
     have hS := (hL.sel [4, 5, 6] (by decide) rfl)
     refine DH.take 14 rfl (by kernel_rfl) (by kernel_rfl) (by kernel_rfl) rfl rfl hS (YH.val (v := (.pointer (some ⟨b21, 2, none⟩))) (fun w' hS' => x_fieldAddr (fsz := 1) 0 2 2 U26 rfl Tryz_T24 rfl f556 rfl)) ?_
     have hS := (hL.sel [4, 5, 6] (by decide) rfl)
     refine DH.take 16 rfl (by kernel_rfl) (by kernel_rfl) (by kernel_rfl) rfl rfl hS (YH.val (v := v546) (fun w' hS' => x_mv f558)) ?_
     obtain ⟨x608, hx609, hm⟩ := bndE hm
     obtain ⟨hc621, hm⟩ := chkE hm
     obtain ⟨hc628, hm⟩ := chkE hm
     refine DH.node (listed' := (bma 21 2097151)) (fuel' := 0) (fun (F : Fr) (w : World) => ∃ (v781 : Value) (S782 : Nat → Prop) (v783 : Value) (S784 : Nat → Prop), F 1 = (.pointer (some ⟨b4, 0, none⟩)) ∧ F 2 = (.pointer (some ⟨b6, 0, none⟩)) ∧ F 4 = (.pointer (some ⟨b21, 0, none⟩)) ∧ F 5 = (.int .i64 s_l1.2.2) ∧ Hp w0 [Ent.own 27 S782 v781 (s_l1.2.1 ++ ([s_l2.1] : List (List Int))), Ent.own 27 S784 v783 (s_l1.1 ++ ([x608] : List (List Int))), Ent.blk b21 26 #[(.int .i64 a0.Boats), v783, v781], Ent.blk b6 26 #[(.int .i64 0), (.slice none 0 0), (.slice none 0 0)], Ent.blk b4 38 #[(.int .i64 a0.Boats), (.int .i64 a0.Scheme), v1], Ent.snap w0 w0.heap.size] w) ?_ (fun hN752 => ?_)
     · intro F857 wd858 hJ
       obtain ⟨v781, S782, v783, S784, f859, f860, f861, f862, hL⟩ := hJ
       refine DH.done (by kernel_rfl) ?_
       refine CW.regionL ?_
       refine OV (.int .i64 s_l1.2.2) rfl (x_mv f862) ?_
       refine OV (.int .i64 (w64 (s_l1.2.2 + 1))) rfl (x_add rfl rfl) ?_
       refine OV (.int .i64 (w64 (s_l1.2.2 + 1))) rfl (x_assign) ?_
       refine OW.nil ?_
       have hL := hL.sel [1, 0, 2, 3, 4, 5] (by decide) rfl
       obtain rfl := Option.some.inj hm
       exact ⟨_, rfl, ⟨v783, S784, v781, S782, f859, f860, f861, rfl, hL⟩⟩
     refine DH.node (listed' := (bma 21 1048575)) (fuel' := 1) (fun (F : Fr) (w : World) => ∃ (v785 : Value) (S786 : Nat → Prop) (v787 : Value) (S788 : Nat → Prop), F 1 = (.pointer (some ⟨b4, 0, none⟩)) ∧ F 2 = (.pointer (some ⟨b6, 0, none⟩)) ∧ F 4 = (.pointer (some ⟨b21, 0, none⟩)) ∧ F 5 = (.int .i64 s_l1.2.2) ∧ F 68 = (.agg #[(.int .i64 a0.Boats), v787, v785]) ∧ Hp w0 [Ent.own 27 S786 v785 (s_l1.2.1 ++ ([s_l2.1] : List (List Int))), Ent.own 27 S788 v787 (s_l1.1 ++ ([x608] : List (List Int))), Ent.blk b21 26 #[(.int .i64 a0.Boats), v445, v447], Ent.blk b6 26 #[(.int .i64 0), (.slice none 0 0), (.slice none 0 0)], Ent.blk b4 38 #[(.int .i64 a0.Boats), (.int .i64 a0.Scheme), v1], Ent.snap w0 w0.heap.size] w) ?_ (fun hN753 => ?_)
     · intro F863 wd864 hJ
       obtain ⟨v785, S786, v787, S788, f865, f866, f867, f868, f869, hL⟩ := hJ
       refine DH.only 20 rfl (by kernel_rfl) (S_storeN (l := [(.int .i64 a0.Boats), v787, v785]) (cs' := #[(.int .i64 a0.Boats), v787, v785]) hL 2 rfl Tryz_T26 f867 rfl (List.forall_mem_cons.2 ⟨rfl, (List.forall_mem_cons.2 ⟨rdL_one (hL.rdO 1 rfl), (List.forall_mem_cons.2 ⟨rdL_one (hL.rdO 0 rfl), (fun _ h => by cases h)⟩)⟩)⟩) f869 (Nat.le_of_ble_eq_true rfl) rfl ?_)
       intro wd870 hL
       refine ⟨(hL.sel [3, 4, 5] (by decide) rfl), ?_⟩
       exact DH.relist (listed' := (bma 21 2097151)) (by kernel_rfl) (hN752 _ _ ⟨v785, S786, v787, S788, f865, f866, f867, f868, hL⟩)
     refine DH.node (listed' := (bma 21 262143)) (fuel' := 3) (fun (F : Fr) (w : World) => ∃ (v789 : Value) (S790 : Nat → Prop) (v791 : Value) (S792 : Nat → Prop), F 1 = (.pointer (some ⟨b4, 0, none⟩)) ∧ F 2 = (.pointer (some ⟨b6, 0, none⟩)) ∧ F 4 = (.pointer (some ⟨b21, 0, none⟩)) ∧ F 5 = (.int .i64 s_l1.2.2) ∧ F 50 = (.int .i64 a0.Boats) ∧ F 62 = v791 ∧ F 64 = v447 ∧ F 66 = v789 ∧ Hp w0 [Ent.own 27 S790 v789 ([s_l2.1] : List (List Int)), Ent.own 27 S792 v791 (s_l1.1 ++ ([x608] : List (List Int))), Ent.frzS wz562 S448, Ent.blk b21 26 #[(.int .i64 a0.Boats), v445, v447], Ent.blk b6 26 #[(.int .i64 0), (.slice none 0 0), (.slice none 0 0)], Ent.blk b4 38 #[(.int .i64 a0.Boats), (.int .i64 a0.Scheme), v1], Ent.snap w0 w0.heap.size] w) ?_ (fun hN754 => ?_)
     · intro F871 wd872 hJ
       obtain ⟨v789, S790, v791, S792, f873, f874, f875, f876, f877, f878, f879, f880, hL⟩ := hJ
       have hL := hL.thaw 2 rfl ho563
       have hL := hL.sel [2, 0, 1, 3, 4, 5, 6] (by decide) rfl
       refine DH.only 18 rfl (by kernel_rfl) (S_appendN Int hL U24 Tryz_T27 rfl f879 f880 hc628 (by decide) rfl ?_)
       intro wd881 v882 S883 hL
       refine ⟨(hL.sel [3, 4, 5] (by decide) rfl), ?_⟩
       have hS := (hL.sel [3, 4, 5] (by decide) rfl)
       refine DH.take 19 rfl (by kernel_rfl) (by kernel_rfl) (by kernel_rfl) rfl rfl hS (YH.val (v := (.agg #[(.int .i64 a0.Boats), v791, v882])) (fun w' hS' => x_build Tryz_B26 (ps := [(0, (.int .i64 a0.Boats)), (1, v791), (2, v882)]) ⟨⟨rfl, f877⟩, ⟨rfl, f878⟩, ⟨rfl, rfl⟩, trivial⟩ (by simp [Instr.fill, cells_int, cells_bool, cells_string, cells_agg, cells_slice, cells_pointer, (rdL_cells (hL.rdO 1 rfl)), (rdL_cells (hL.rdO 0 rfl))]))) ?_
       exact DH.relist (listed' := (bma 21 1048575)) (by kernel_rfl) (hN753 _ _ ⟨v882, S883, v791, S792, f873, f874, f875, f876, rfl, hL⟩)
     refine DH.node (listed' := (bma 21 131071)) (fuel' := 4) (fun (F : Fr) (w : World) => ∃ (v793 : Value) (S794 : Nat → Prop), F 1 = (.pointer (some ⟨b4, 0, none⟩)) ∧ F 2 = (.pointer (some ⟨b6, 0, none⟩)) ∧ F 4 = (.pointer (some ⟨b21, 0, none⟩)) ∧ F 5 = (.int .i64 s_l1.2.2) ∧ F 50 = (.int .i64 a0.Boats) ∧ F 62 = v793 ∧ F 64 = v447 ∧ F 65 = v546 ∧ Hp w0 [Ent.own 27 S794 v793 (s_l1.1 ++ ([x608] : List (List Int))), Ent.own 2 S547 v546 s_l2.1, Ent.frzS wz562 S448, Ent.blk b21 26 #[(.int .i64 a0.Boats), v445, v447], Ent.blk b6 26 #[(.int .i64 0), (.slice none 0 0), (.slice none 0 0)], Ent.blk b4 38 #[(.int .i64 a0.Boats), (.int .i64 a0.Scheme), v1], Ent.snap w0 w0.heap.size] w) ?_ (fun hN755 => ?_)
     · intro F884 wd885 hJ
       obtain ⟨v793, S794, f886, f887, f888, f889, f890, f891, f892, f893, hL⟩ := hJ
       have hL := hL.sel [1, 0, 2, 3, 4, 5, 6] (by decide) rfl
       refine DH.only 17 rfl (by kernel_rfl) (S_lit1 s_l2.1 rfl hL U24 Tryz_T27 ((congrArg Value.cells f893).trans (rdL_cells (hL.rdO 0 rfl))) rfl ?_)
       intro wd894 v895 S896 hL
       refine ⟨(hL.sel [4, 5, 6] (by decide) rfl), ?_⟩
       exact DH.relist (listed' := (bma 21 262143)) (by kernel_rfl) (hN754 _ _ ⟨v895, S896, v793, S794, f886, f887, f888, f889, f890, f891, f892, rfl, hL⟩)
     refine DH.node (listed' := (bma 21 229375)) (fuel' := 4) (fun (F : Fr) (w : World) => ∃ (v795 : Value) (S796 : Nat → Prop) (v797 : Value) (S798 : Nat → Prop), F 1 = (.pointer (some ⟨b4, 0, none⟩)) ∧ F 2 = (.pointer (some ⟨b6, 0, none⟩)) ∧ F 4 = (.pointer (some ⟨b21, 0, none⟩)) ∧ F 5 = (.int .i64 s_l1.2.2) ∧ F 50 = (.int .i64 a0.Boats) ∧ F 62 = v797 ∧ F 63 = (.pointer (some ⟨b21, 2, none⟩)) ∧ F 66 = v795 ∧ Hp w0 [Ent.own 27 S796 v795 ([s_l2.1] : List (List Int)), Ent.own 27 S798 v797 (s_l1.1 ++ ([x608] : List (List Int))), Ent.frzS wz562 S448, Ent.blk b21 26 #[(.int .i64 a0.Boats), v445, v447], Ent.blk b6 26 #[(.int .i64 0), (.slice none 0 0), (.slice none 0 0)], Ent.blk b4 38 #[(.int .i64 a0.Boats), (.int .i64 a0.Scheme), v1], Ent.snap w0 w0.heap.size] w) ?_ (fun hN756 => ?_)
     · intro F897 wd898 hJ
       obtain ⟨v795, S796, v797, S798, f899, f900, f901, f902, f903, f904, f905, f906, hL⟩ := hJ
       refine DH.only 15 rfl (by kernel_rfl) (OP.val (v := v447) rfl (x_load1 U24 rfl f905 (hL.cellB 3 rfl rfl)) ?_)
       refine ⟨(hL.sel [4, 5, 6] (by decide) rfl), ?_⟩
       exact DH.relist (listed' := (bma 21 262143)) (by kernel_rfl) (hN754 _ _ ⟨v795, S796, v797, S798, f899, f900, f901, f902, f903, f904, rfl, f906, hL⟩)
     refine DH.node (listed' := (bma 21 253951)) (fuel' := 4) (fun (F : Fr) (w : World) => ∃ (v799 : Value) (S800 : Nat → Prop) (v801 : Value) (S802 : Nat → Prop), F 1 = (.pointer (some ⟨b4, 0, none⟩)) ∧ F 2 = (.pointer (some ⟨b6, 0, none⟩)) ∧ F 4 = (.pointer (some ⟨b21, 0, none⟩)) ∧ F 5 = (.int .i64 s_l1.2.2) ∧ F 50 = (.int .i64 a0.Boats) ∧ F 52 = v445 ∧ F 61 = v801 ∧ F 64 = v447 ∧ F 66 = v799 ∧ Hp w0 [Ent.own 27 S800 v799 ([s_l2.1] : List (List Int)), Ent.own 27 S802 v801 ([x608] : List (List Int)), Ent.frzS wz560 S446, Ent.frzS wz562 S448, Ent.blk b21 26 #[(.int .i64 a0.Boats), v445, v447], Ent.blk b6 26 #[(.int .i64 0), (.slice none 0 0), (.slice none 0 0)], Ent.blk b4 38 #[(.int .i64 a0.Boats), (.int .i64 a0.Scheme), v1], Ent.snap w0 w0.heap.size] w) ?_ (fun hN757 => ?_)
     · intro F907 wd908 hJ
       obtain ⟨v799, S800, v801, S802, f909, f910, f911, f912, f913, f914, f915, f916, f917, hL⟩ := hJ
       have hL := hL.thaw 2 rfl ho561
       have hL := hL.sel [2, 1, 0, 3, 4, 5, 6, 7] (by decide) rfl
       refine DH.only 13 rfl (by kernel_rfl) (S_appendN Int hL U24 Tryz_T27 rfl f914 f915 hc621 (by decide) rfl ?_)
       intro wd918 v919 S920 hL
       refine ⟨(hL.sel [4, 5, 6] (by decide) rfl), ?_⟩
       have hL := hL.sel [1, 0, 2, 3, 4, 5, 6] (by decide) rfl
       exact DH.relist (listed' := (bma 21 262143)) (by kernel_rfl) (hN754 _ _ ⟨v799, S800, v919, S920, f909, f910, f911, f912, f913, rfl, f916, f917, hL⟩)
     refine DH.node (listed' := (bma 21 98303)) (fuel' := 5) (fun (F : Fr) (w : World) => ∃ (v803 : Value) (S804 : Nat → Prop), F 1 = (.pointer (some ⟨b4, 0, none⟩)) ∧ F 2 = (.pointer (some ⟨b6, 0, none⟩)) ∧ F 4 = (.pointer (some ⟨b21, 0, none⟩)) ∧ F 5 = (.int .i64 s_l1.2.2) ∧ F 50 = (.int .i64 a0.Boats) ∧ F 62 = v803 ∧ F 63 = (.pointer (some ⟨b21, 2, none⟩)) ∧ F 65 = v546 ∧ Hp w0 [Ent.own 27 S804 v803 (s_l1.1 ++ ([x608] : List (List Int))), Ent.own 2 S547 v546 s_l2.1, Ent.frzS wz562 S448, Ent.blk b21 26 #[(.int .i64 a0.Boats), v445, v447], Ent.blk b6 26 #[(.int .i64 0), (.slice none 0 0), (.slice none 0 0)], Ent.blk b4 38 #[(.int .i64 a0.Boats), (.int .i64 a0.Scheme), v1], Ent.snap w0 w0.heap.size] w) ?_ (fun hN758 => ?_)
     · intro F921 wd922 hJ
       obtain ⟨v803, S804, f923, f924, f925, f926, f927, f928, f929, f930, hL⟩ := hJ
       refine DH.all (rs := [15, 17]) (by kernel_rfl) (by simp) ?_
       intro i931 hi932
       simp only [List.mem_cons, List.not_mem_nil, or_false] at hi932
       rcases hi932 with rfl | rfl
       · refine ⟨_, rfl, ?_⟩
         refine OP.val (v := v447) rfl (x_load1 U24 rfl f929 (hL.cellB 3 rfl rfl)) ?_
         refine ⟨(hL.sel [4, 5, 6] (by decide) rfl), ?_⟩
         exact DH.relist (listed' := (bma 21 131071)) (by kernel_rfl) (hN755 _ _ ⟨v803, S804, f923, f924, f925, f926, f927, f928, rfl, f930, hL⟩)
       refine ⟨_, rfl, ?_⟩
       have hL := hL.sel [1, 0, 2, 3, 4, 5, 6] (by decide) rfl
       refine S_lit1 s_l2.1 rfl hL U24 Tryz_T27 ((congrArg Value.cells f930).trans (rdL_cells (hL.rdO 0 rfl))) rfl ?_
       intro wd933 v934 S935 hL
       refine ⟨(hL.sel [4, 5, 6] (by decide) rfl), ?_⟩
       exact DH.relist (listed' := (bma 21 229375)) (by kernel_rfl) (hN756 _ _ ⟨v934, S935, v803, S804, f923, f924, f925, f926, f927, f928, f929, rfl, hL⟩)
     refine DH.node (listed' := (bma 21 122879)) (fuel' := 5) (fun (F : Fr) (w : World) => ∃ (v805 : Value) (S806 : Nat → Prop), F 1 = (.pointer (some ⟨b4, 0, none⟩)) ∧ F 2 = (.pointer (some ⟨b6, 0, none⟩)) ∧ F 4 = (.pointer (some ⟨b21, 0, none⟩)) ∧ F 5 = (.int .i64 s_l1.2.2) ∧ F 50 = (.int .i64 a0.Boats) ∧ F 52 = v445 ∧ F 61 = v805 ∧ F 64 = v447 ∧ F 65 = v546 ∧ Hp w0 [Ent.own 27 S806 v805 ([x608] : List (List Int)), Ent.own 2 S547 v546 s_l2.1, Ent.frzS wz560 S446, Ent.frzS wz562 S448, Ent.blk b21 26 #[(.int .i64 a0.Boats), v445, v447], Ent.blk b6 26 #[(.int .i64 0), (.slice none 0 0), (.slice none 0 0)], Ent.blk b4 38 #[(.int .i64 a0.Boats), (.int .i64 a0.Scheme), v1], Ent.snap w0 w0.heap.size] w) ?_ (fun hN759 => ?_)
     · intro F936 wd937 hJ
       obtain ⟨v805, S806, f938, f939, f940, f941, f942, f943, f944, f945, f946, hL⟩ := hJ
       refine DH.all (rs := [13, 17]) (by kernel_rfl) (by simp) ?_
       intro i947 hi948
       simp only [List.mem_cons, List.not_mem_nil, or_false] at hi948
       rcases hi948 with rfl | rfl
       · refine ⟨_, rfl, ?_⟩
         have hL := hL.thaw 2 rfl ho561
         have hL := hL.sel [2, 0, 1, 3, 4, 5, 6, 7] (by decide) rfl
         refine S_appendN Int hL U24 Tryz_T27 rfl f943 f944 hc621 (by decide) rfl ?_
         intro wd949 v950 S951 hL
         refine ⟨(hL.sel [4, 5, 6] (by decide) rfl), ?_⟩
         exact DH.relist (listed' := (bma 21 131071)) (by kernel_rfl) (hN755 _ _ ⟨v950, S951, f938, f939, f940, f941, f942, rfl, f945, f946, hL⟩)
       refine ⟨_, rfl, ?_⟩
       have hL := hL.sel [1, 0, 2, 3, 4, 5, 6, 7] (by decide) rfl
       refine S_lit1 s_l2.1 rfl hL U24 Tryz_T27 ((congrArg Value.cells f946).trans (rdL_cells (hL.rdO 0 rfl))) rfl ?_
       intro wd952 v953 S954 hL
       refine ⟨(hL.sel [5, 6, 7] (by decide) rfl), ?_⟩
       exact DH.relist (listed' := (bma 21 253951)) (by kernel_rfl) (hN757 _ _ ⟨v953, S954, v805, S806, f938, f939, f940, f941, f942, f943, f944, f945, rfl, hL⟩)
     refine DH.node (listed' := (bma 21 221183)) (fuel' := 5) (fun (F : Fr) (w : World) => ∃ (v807 : Value) (S808 : Nat → Prop) (v809 : Value) (S810 : Nat → Prop), F 1 = (.pointer (some ⟨b4, 0, none⟩)) ∧ F 2 = (.pointer (some ⟨b6, 0, none⟩)) ∧ F 4 = (.pointer (some ⟨b21, 0, none⟩)) ∧ F 5 = (.int .i64 s_l1.2.2) ∧ F 50 = (.int .i64 a0.Boats) ∧ F 52 = v445 ∧ F 61 = v809 ∧ F 63 = (.pointer (some ⟨b21, 2, none⟩)) ∧ F 66 = v807 ∧ Hp w0 [Ent.own 27 S808 v807 ([s_l2.1] : List (List Int)), Ent.own 27 S810 v809 ([x608] : List (List Int)), Ent.frzS wz560 S446, Ent.frzS wz562 S448, Ent.blk b21 26 #[(.int .i64 a0.Boats), v445, v447], Ent.blk b6 26 #[(.int .i64 0), (.slice none 0 0), (.slice none 0 0)], Ent.blk b4 38 #[(.int .i64 a0.Boats), (.int .i64 a0.Scheme), v1], Ent.snap w0 w0.heap.size] w) ?_ (fun hN760 => ?_)
     · intro F955 wd956 hJ
       obtain ⟨v807, S808, v809, S810, f957, f958, f959, f960, f961, f962, f963, f964, f965, hL⟩ := hJ
       refine DH.all (rs := [13, 15]) (by kernel_rfl) (by simp) ?_
       intro i966 hi967
       simp only [List.mem_cons, List.not_mem_nil, or_false] at hi967
       rcases hi967 with rfl | rfl
       · refine ⟨_, rfl, ?_⟩
         have hL := hL.thaw 2 rfl ho561
         have hL := hL.sel [2, 1, 0, 3, 4, 5, 6, 7] (by decide) rfl
         refine S_appendN Int hL U24 Tryz_T27 rfl f962 f963 hc621 (by decide) rfl ?_
         intro wd968 v969 S970 hL
         refine ⟨(hL.sel [4, 5, 6] (by decide) rfl), ?_⟩
         have hL := hL.sel [1, 0, 2, 3, 4, 5, 6] (by decide) rfl
         exact DH.relist (listed' := (bma 21 229375)) (by kernel_rfl) (hN756 _ _ ⟨v807, S808, v969, S970, f957, f958, f959, f960, f961, rfl, f964, f965, hL⟩)
       refine ⟨_, rfl, ?_⟩
       refine OP.val (v := v447) rfl (x_load1 U24 rfl f964 (hL.cellB 4 rfl rfl)) ?_
       refine ⟨(hL.sel [5, 6, 7] (by decide) rfl), ?_⟩
       exact DH.relist (listed' := (bma 21 253951)) (by kernel_rfl) (hN757 _ _ ⟨v807, S808, v809, S810, f957, f958, f959, f960, f961, f962, f963, rfl, f965, hL⟩)
     refine DH.node (listed' := (bma 21 249855)) (fuel' := 5) (fun (F : Fr) (w : World) => ∃ (v811 : Value) (S812 : Nat → Prop) (v813 : Value) (S814 : Nat → Prop), F 1 = (.pointer (some ⟨b4, 0, none⟩)) ∧ F 2 = (.pointer (some ⟨b6, 0, none⟩)) ∧ F 4 = (.pointer (some ⟨b21, 0, none⟩)) ∧ F 5 = (.int .i64 s_l1.2.2) ∧ F 50 = (.int .i64 a0.Boats) ∧ F 52 = v445 ∧ F 60 = v813 ∧ F 64 = v447 ∧ F 66 = v811 ∧ Hp w0 [Ent.own 27 S812 v811 ([s_l2.1] : List (List Int)), Ent.own 2 S814 v813 x608, Ent.frzS wz560 S446, Ent.frzS wz562 S448, Ent.blk b21 26 #[(.int .i64 a0.Boats), v445, v447], Ent.blk b6 26 #[(.int .i64 0), (.slice none 0 0), (.slice none 0 0)], Ent.blk b4 38 #[(.int .i64 a0.Boats), (.int .i64 a0.Scheme), v1], Ent.snap w0 w0.heap.size] w) ?_ (fun hN761 => ?_)
     · intro F971 wd972 hJ
       obtain ⟨v811, S812, v813, S814, f973, f974, f975, f976, f977, f978, f979, f980, f981, hL⟩ := hJ
       have hL := hL.sel [1, 0, 2, 3, 4, 5, 6, 7] (by decide) rfl
       refine DH.only 12 rfl (by kernel_rfl) (S_lit1 x608 rfl hL U24 Tryz_T27 ((congrArg Value.cells f979).trans (rdL_cells (hL.rdO 0 rfl))) rfl ?_)
       intro wd982 v983 S984 hL
       refine ⟨(hL.sel [5, 6, 7] (by decide) rfl), ?_⟩
       have hL := hL.sel [1, 0, 2, 3, 4, 5, 6, 7] (by decide) rfl
       exact DH.relist (listed' := (bma 21 253951)) (by kernel_rfl) (hN757 _ _ ⟨v811, S812, v983, S984, f973, f974, f975, f976, f977, f978, rfl, f980, f981, hL⟩)
     refine DH.node (listed' := (bma 21 253943)) (fuel' := 5) (fun (F : Fr) (w : World) => ∃ (v815 : Value) (S816 : Nat → Prop) (v817 : Value) (S818 : Nat → Prop), F 1 = (.pointer (some ⟨b4, 0, none⟩)) ∧ F 2 = (.pointer (some ⟨b6, 0, none⟩)) ∧ F 4 = (.pointer (some ⟨b21, 0, none⟩)) ∧ F 5 = (.int .i64 s_l1.2.2) ∧ F 50 = (.int .i64 a0.Boats) ∧ F 51 = (.pointer (some ⟨b21, 1, none⟩)) ∧ F 61 = v817 ∧ F 64 = v447 ∧ F 66 = v815 ∧ Hp w0 [Ent.own 27 S816 v815 ([s_l2.1] : List (List Int)), Ent.own 27 S818 v817 ([x608] : List (List Int)), Ent.frzS wz560 S446, Ent.frzS wz562 S448, Ent.blk b21 26 #[(.int .i64 a0.Boats), v445, v447], Ent.blk b6 26 #[(.int .i64 0), (.slice none 0 0), (.slice none 0 0)], Ent.blk b4 38 #[(.int .i64 a0.Boats), (.int .i64 a0.Scheme), v1], Ent.snap w0 w0.heap.size] w) ?_ (fun hN762 => ?_)
     · intro F985 wd986 hJ
       obtain ⟨v815, S816, v817, S818, f987, f988, f989, f990, f991, f992, f993, f994, f995, hL⟩ := hJ
       refine DH.only 3 rfl (by kernel_rfl) (OP.val (v := v445) rfl (x_load1 U24 rfl f992 (hL.cellB 4 rfl rfl)) ?_)
       refine ⟨(hL.sel [5, 6, 7] (by decide) rfl), ?_⟩
       exact DH.relist (listed' := (bma 21 253951)) (by kernel_rfl) (hN757 _ _ ⟨v815, S816, v817, S818, f987, f988, f989, f990, f991, rfl, f993, f994, f995, hL⟩)
     refine DH.node (listed' := (bma 21 90111)) (fuel' := 6) (fun (F : Fr) (w : World) => ∃ (v819 : Value) (S820 : Nat → Prop), F 1 = (.pointer (some ⟨b4, 0, none⟩)) ∧ F 2 = (.pointer (some ⟨b6, 0, none⟩)) ∧ F 4 = (.pointer (some ⟨b21, 0, none⟩)) ∧ F 5 = (.int .i64 s_l1.2.2) ∧ F 50 = (.int .i64 a0.Boats) ∧ F 52 = v445 ∧ F 61 = v819 ∧ F 63 = (.pointer (some ⟨b21, 2, none⟩)) ∧ F 65 = v546 ∧ Hp w0 [Ent.own 27 S820 v819 ([x608] : List (List Int)), Ent.own 2 S547 v546 s_l2.1, Ent.frzS wz560 S446, Ent.frzS wz562 S448, Ent.blk b21 26 #[(.int .i64 a0.Boats), v445, v447], Ent.blk b6 26 #[(.int .i64 0), (.slice none 0 0), (.slice none 0 0)], Ent.blk b4 38 #[(.int .i64 a0.Boats), (.int .i64 a0.Scheme), v1], Ent.snap w0 w0.heap.size] w) ?_ (fun hN763 => ?_)
     · intro F996 wd997 hJ
       obtain ⟨v819, S820, f998, f999, f1000, f1001, f1002, f1003, f1004, f1005, f1006, hL⟩ := hJ
       refine DH.all (rs := [13, 15, 17]) (by kernel_rfl) (by simp) ?_
       intro i1007 hi1008
       simp only [List.mem_cons, List.not_mem_nil, or_false] at hi1008
       rcases hi1008 with rfl | rfl | rfl
       · refine ⟨_, rfl, ?_⟩
         have hL := hL.thaw 2 rfl ho561
         have hL := hL.sel [2, 0, 1, 3, 4, 5, 6, 7] (by decide) rfl
         refine S_appendN Int hL U24 Tryz_T27 rfl f1003 f1004 hc621 (by decide) rfl ?_
         intro wd1009 v1010 S1011 hL
         refine ⟨(hL.sel [4, 5, 6] (by decide) rfl), ?_⟩
         exact DH.relist (listed' := (bma 21 98303)) (by kernel_rfl) (hN758 _ _ ⟨v1010, S1011, f998, f999, f1000, f1001, f1002, rfl, f1005, f1006, hL⟩)
       · refine ⟨_, rfl, ?_⟩
         refine OP.val (v := v447) rfl (x_load1 U24 rfl f1005 (hL.cellB 4 rfl rfl)) ?_
         refine ⟨(hL.sel [5, 6, 7] (by decide) rfl), ?_⟩
         exact DH.relist (listed' := (bma 21 122879)) (by kernel_rfl) (hN759 _ _ ⟨v819, S820, f998, f999, f1000, f1001, f1002, f1003, f1004, rfl, f1006, hL⟩)
       refine ⟨_, rfl, ?_⟩
       have hL := hL.sel [1, 0, 2, 3, 4, 5, 6, 7] (by decide) rfl
       refine S_lit1 s_l2.1 rfl hL U24 Tryz_T27 ((congrArg Value.cells f1006).trans (rdL_cells (hL.rdO 0 rfl))) rfl ?_
       intro wd1012 v1013 S1014 hL
       refine ⟨(hL.sel [5, 6, 7] (by decide) rfl), ?_⟩
       exact DH.relist (listed' := (bma 21 221183)) (by kernel_rfl) (hN760 _ _ ⟨v1013, S1014, v819, S820, f998, f999, f1000, f1001, f1002, f1003, f1004, f1005, rfl, hL⟩)
     refine DH.node (listed' := (bma 21 118783)) (fuel' := 6) (fun (F : Fr) (w : World) => ∃ (v821 : Value) (S822 : Nat → Prop), F 1 = (.pointer (some ⟨b4, 0, none⟩)) ∧ F 2 = (.pointer (some ⟨b6, 0, none⟩)) ∧ F 4 = (.pointer (some ⟨b21, 0, none⟩)) ∧ F 5 = (.int .i64 s_l1.2.2) ∧ F 50 = (.int .i64 a0.Boats) ∧ F 52 = v445 ∧ F 60 = v821 ∧ F 64 = v447 ∧ F 65 = v546 ∧ Hp w0 [Ent.own 2 S822 v821 x608, Ent.own 2 S547 v546 s_l2.1, Ent.frzS wz560 S446, Ent.frzS wz562 S448, Ent.blk b21 26 #[(.int .i64 a0.Boats), v445, v447], Ent.blk b6 26 #[(.int .i64 0), (.slice none 0 0), (.slice none 0 0)], Ent.blk b4 38 #[(.int .i64 a0.Boats), (.int .i64 a0.Scheme), v1], Ent.snap w0 w0.heap.size] w) ?_ (fun hN764 => ?_)
     · intro F1015 wd1016 hJ
       obtain ⟨v821, S822, f1017, f1018, f1019, f1020, f1021, f1022, f1023, f1024, f1025, hL⟩ := hJ
       refine DH.all (rs := [12, 17]) (by kernel_rfl) (by simp) ?_
       intro i1026 hi1027
       simp only [List.mem_cons, List.not_mem_nil, or_false] at hi1027
       rcases hi1027 with rfl | rfl
       · refine ⟨_, rfl, ?_⟩
         refine S_lit1 x608 rfl hL U24 Tryz_T27 ((congrArg Value.cells f1023).trans (rdL_cells (hL.rdO 0 rfl))) rfl ?_
         intro wd1028 v1029 S1030 hL
         refine ⟨(hL.sel [5, 6, 7] (by decide) rfl), ?_⟩
         exact DH.relist (listed' := (bma 21 122879)) (by kernel_rfl) (hN759 _ _ ⟨v1029, S1030, f1017, f1018, f1019, f1020, f1021, f1022, rfl, f1024, f1025, hL⟩)
       refine ⟨_, rfl, ?_⟩
       have hL := hL.sel [1, 0, 2, 3, 4, 5, 6, 7] (by decide) rfl
       refine S_lit1 s_l2.1 rfl hL U24 Tryz_T27 ((congrArg Value.cells f1025).trans (rdL_cells (hL.rdO 0 rfl))) rfl ?_
       intro wd1031 v1032 S1033 hL
       refine ⟨(hL.sel [5, 6, 7] (by decide) rfl), ?_⟩
       exact DH.relist (listed' := (bma 21 249855)) (by kernel_rfl) (hN761 _ _ ⟨v1032, S1033, v821, S822, f1017, f1018, f1019, f1020, f1021, f1022, f1023, f1024, rfl, hL⟩)
     refine DH.node (listed' := (bma 21 217087)) (fuel' := 6) (fun (F : Fr) (w : World) => ∃ (v823 : Value) (S824 : Nat → Prop) (v825 : Value) (S826 : Nat → Prop), F 1 = (.pointer (some ⟨b4, 0, none⟩)) ∧ F 2 = (.pointer (some ⟨b6, 0, none⟩)) ∧ F 4 = (.pointer (some ⟨b21, 0, none⟩)) ∧ F 5 = (.int .i64 s_l1.2.2) ∧ F 50 = (.int .i64 a0.Boats) ∧ F 52 = v445 ∧ F 60 = v825 ∧ F 63 = (.pointer (some ⟨b21, 2, none⟩)) ∧ F 66 = v823 ∧ Hp w0 [Ent.own 27 S824 v823 ([s_l2.1] : List (List Int)), Ent.own 2 S826 v825 x608, Ent.frzS wz560 S446, Ent.frzS wz562 S448, Ent.blk b21 26 #[(.int .i64 a0.Boats), v445, v447], Ent.blk b6 26 #[(.int .i64 0), (.slice none 0 0), (.slice none 0 0)], Ent.blk b4 38 #[(.int .i64 a0.Boats), (.int .i64 a0.Scheme), v1], Ent.snap w0 w0.heap.size] w) ?_ (fun hN765 => ?_)
     · intro F1034 wd1035 hJ
       obtain ⟨v823, S824, v825, S826, f1036, f1037, f1038, f1039, f1040, f1041, f1042, f1043, f1044, hL⟩ := hJ
       refine DH.all (rs := [12, 15]) (by kernel_rfl) (by simp) ?_
       intro i1045 hi1046
       simp only [List.mem_cons, List.not_mem_nil, or_false] at hi1046
       rcases hi1046 with rfl | rfl
       · refine ⟨_, rfl, ?_⟩
         have hL := hL.sel [1, 0, 2, 3, 4, 5, 6, 7] (by decide) rfl
         refine S_lit1 x608 rfl hL U24 Tryz_T27 ((congrArg Value.cells f1042).trans (rdL_cells (hL.rdO 0 rfl))) rfl ?_
         intro wd1047 v1048 S1049 hL
         refine ⟨(hL.sel [5, 6, 7] (by decide) rfl), ?_⟩
         have hL := hL.sel [1, 0, 2, 3, 4, 5, 6, 7] (by decide) rfl
         exact DH.relist (listed' := (bma 21 221183)) (by kernel_rfl) (hN760 _ _ ⟨v823, S824, v1048, S1049, f1036, f1037, f1038, f1039, f1040, f1041, rfl, f1043, f1044, hL⟩)
       refine ⟨_, rfl, ?_⟩
       refine OP.val (v := v447) rfl (x_load1 U24 rfl f1043 (hL.cellB 4 rfl rfl)) ?_
       refine ⟨(hL.sel [5, 6, 7] (by decide) rfl), ?_⟩
       exact DH.relist (listed' := (bma 21 249855)) (by kernel_rfl) (hN761 _ _ ⟨v823, S824, v825, S826, f1036, f1037, f1038, f1039, f1040, f1041, f1042, rfl, f1044, hL⟩)
     refine DH.node (listed' := (bma 21 247807)) (fuel' := 6) (fun (F : Fr) (w : World) => ∃ (v827 : Value) (S828 : Nat → Prop), F 1 = (.pointer (some ⟨b4, 0, none⟩)) ∧ F 2 = (.pointer (some ⟨b6, 0, none⟩)) ∧ F 4 = (.pointer (some ⟨b21, 0, none⟩)) ∧ F 5 = (.int .i64 s_l1.2.2) ∧ F 50 = (.int .i64 a0.Boats) ∧ F 52 = v445 ∧ F 57 = (.agg #[v602]) ∧ F 59 = (.int .i64 a0.Scheme) ∧ F 64 = v447 ∧ F 66 = v827 ∧ Hp w0 [Ent.own 27 S828 v827 ([s_l2.1] : List (List Int)), Ent.frzS wz560 S446, Ent.frzS wz562 S448, Ent.blk b21 26 #[(.int .i64 a0.Boats), v445, v447], Ent.blk b6 26 #[(.int .i64 0), (.slice none 0 0), (.slice none 0 0)], Ent.blk b4 38 #[(.int .i64 a0.Boats), (.int .i64 a0.Scheme), v1], Ent.snap w0 w0.heap.size] w) ?_ (fun hN766 => ?_)
     · intro F1050 wd1051 hJ
       obtain ⟨v827, S828, f1052, f1053, f1054, f1055, f1056, f1057, f1058, f1059, f1060, f1061, hL⟩ := hJ
       refine DH.only 11 rfl (by kernel_rfl) (OP.call rfl (x_call (vs := [(.agg #[v602]), (.int .i64 a0.Scheme)]) Tryz_C112 ⟨f1058, f1059, trivial⟩) (M.spec_l26Points_ok _ x597 (hL.rdS 6 rfl hr606) a0.Scheme hx609) ?_)
       rintro e1064 wd1065 ⟨v1063, S1062, rfl, hF1066⟩
       refine ⟨_, rfl, ?_⟩
       have hL := hL.pushAll hF1066
       simp only [lA, lB, lC, lD] at hL
       refine ⟨(hL.sel [5, 6, 7] (by decide) rfl), ?_⟩
       have hL := hL.sel [1, 0, 2, 3, 4, 5, 6, 7] (by decide) rfl
       exact DH.relist (listed' := (bma 21 249855)) (by kernel_rfl) (hN761 _ _ ⟨v827, S828, v1063, S1062, f1052, f1053, f1054, f1055, f1056, f1057, rfl, f1060, f1061, hL⟩)
     refine DH.node (listed' := (bma 21 122871)) (fuel' := 6) (fun (F : Fr) (w : World) => ∃ (v829 : Value) (S830 : Nat → Prop), F 1 = (.pointer (some ⟨b4, 0, none⟩)) ∧ F 2 = (.pointer (some ⟨b6, 0, none⟩)) ∧ F 4 = (.pointer (some ⟨b21, 0, none⟩)) ∧ F 5 = (.int .i64 s_l1.2.2) ∧ F 50 = (.int .i64 a0.Boats) ∧ F 51 = (.pointer (some ⟨b21, 1, none⟩)) ∧ F 61 = v829 ∧ F 64 = v447 ∧ F 65 = v546 ∧ Hp w0 [Ent.own 27 S830 v829 ([x608] : List (List Int)), Ent.own 2 S547 v546 s_l2.1, Ent.frzS wz560 S446, Ent.frzS wz562 S448, Ent.blk b21 26 #[(.int .i64 a0.Boats), v445, v447], Ent.blk b6 26 #[(.int .i64 0), (.slice none 0 0), (.slice none 0 0)], Ent.blk b4 38 #[(.int .i64 a0.Boats), (.int .i64 a0.Scheme), v1], Ent.snap w0 w0.heap.size] w) ?_ (fun hN767 => ?_)
     · intro F1067 wd1068 hJ
       obtain ⟨v829, S830, f1069, f1070, f1071, f1072, f1073, f1074, f1075, f1076, f1077, hL⟩ := hJ
       refine DH.all (rs := [3, 17]) (by kernel_rfl) (by simp) ?_
       intro i1078 hi1079
       simp only [List.mem_cons, List.not_mem_nil, or_false] at hi1079
       rcases hi1079 with rfl | rfl
       · refine ⟨_, rfl, ?_⟩
         refine OP.val (v := v445) rfl (x_load1 U24 rfl f1074 (hL.cellB 4 rfl rfl)) ?_
         refine ⟨(hL.sel [5, 6, 7] (by decide) rfl), ?_⟩
         exact DH.relist (listed' := (bma 21 122879)) (by kernel_rfl) (hN759 _ _ ⟨v829, S830, f1069, f1070, f1071, f1072, f1073, rfl, f1075, f1076, f1077, hL⟩)
       refine ⟨_, rfl, ?_⟩
       have hL := hL.sel [1, 0, 2, 3, 4, 5, 6, 7] (by decide) rfl
       refine S_lit1 s_l2.1 rfl hL U24 Tryz_T27 ((congrArg Value.cells f1077).trans (rdL_cells (hL.rdO 0 rfl))) rfl ?_
       intro wd1080 v1081 S1082 hL
       refine ⟨(hL.sel [5, 6, 7] (by decide) rfl), ?_⟩
       exact DH.relist (listed' := (bma 21 253943)) (by kernel_rfl) (hN762 _ _ ⟨v1081, S1082, v829, S830, f1069, f1070, f1071, f1072, f1073, f1074, f1075, f1076, rfl, hL⟩)
     refine DH.node (listed' := (bma 21 221175)) (fuel' := 6) (fun (F : Fr) (w : World) => ∃ (v831 : Value) (S832 : Nat → Prop) (v833 : Value) (S834 : Nat → Prop), F 1 = (.pointer (some ⟨b4, 0, none⟩)) ∧ F 2 = (.pointer (some ⟨b6, 0, none⟩)) ∧ F 4 = (.pointer (some ⟨b21, 0, none⟩)) ∧ F 5 = (.int .i64 s_l1.2.2) ∧ F 50 = (.int .i64 a0.Boats) ∧ F 51 = (.pointer (some ⟨b21, 1, none⟩)) ∧ F 61 = v833 ∧ F 63 = (.pointer (some ⟨b21, 2, none⟩)) ∧ F 66 = v831 ∧ Hp w0 [Ent.own 27 S832 v831 ([s_l2.1] : List (List Int)), Ent.own 27 S834 v833 ([x608] : List (List Int)), Ent.frzS wz560 S446, Ent.frzS wz562 S448, Ent.blk b21 26 #[(.int .i64 a0.Boats), v445, v447], Ent.blk b6 26 #[(.int .i64 0), (.slice none 0 0), (.slice none 0 0)], Ent.blk b4 38 #[(.int .i64 a0.Boats), (.int .i64 a0.Scheme), v1], Ent.snap w0 w0.heap.size] w) ?_ (fun hN768 => ?_)
     · intro F1083 wd1084 hJ
       obtain ⟨v831, S832, v833, S834, f1085, f1086, f1087, f1088, f1089, f1090, f1091, f1092, f1093, hL⟩ := hJ
       refine DH.all (rs := [3, 15]) (by kernel_rfl) (by simp) ?_
       intro i1094 hi1095
       simp only [List.mem_cons, List.not_mem_nil, or_false] at hi1095
       rcases hi1095 with rfl | rfl
       · refine ⟨_, rfl, ?_⟩
         refine OP.val (v := v445) rfl (x_load1 U24 rfl f1090 (hL.cellB 4 rfl rfl)) ?_
         refine ⟨(hL.sel [5, 6, 7] (by decide) rfl), ?_⟩
         exact DH.relist (listed' := (bma 21 221183)) (by kernel_rfl) (hN760 _ _ ⟨v831, S832, v833, S834, f1085, f1086, f1087, f1088, f1089, rfl, f1091, f1092, f1093, hL⟩)
       refine ⟨_, rfl, ?_⟩
       refine OP.val (v := v447) rfl (x_load1 U24 rfl f1092 (hL.cellB 4 rfl rfl)) ?_
       refine ⟨(hL.sel [5, 6, 7] (by decide) rfl), ?_⟩
       exact DH.relist (listed' := (bma 21 253943)) (by kernel_rfl) (hN762 _ _ ⟨v831, S832, v833, S834, f1085, f1086, f1087, f1088, f1089, f1090, f1091, rfl, f1093, hL⟩)
     refine DH.node (listed' := (bma 21 249847)) (fuel' := 6) (fun (F : Fr) (w : World) => ∃ (v835 : Value) (S836 : Nat → Prop) (v837 : Value) (S838 : Nat → Prop), F 1 = (.pointer (some ⟨b4, 0, none⟩)) ∧ F 2 = (.pointer (some ⟨b6, 0, none⟩)) ∧ F 4 = (.pointer (some ⟨b21, 0, none⟩)) ∧ F 5 = (.int .i64 s_l1.2.2) ∧ F 50 = (.int .i64 a0.Boats) ∧ F 51 = (.pointer (some ⟨b21, 1, none⟩)) ∧ F 60 = v837 ∧ F 64 = v447 ∧ F 66 = v835 ∧ Hp w0 [Ent.own 27 S836 v835 ([s_l2.1] : List (List Int)), Ent.own 2 S838 v837 x608, Ent.frzS wz560 S446, Ent.frzS wz562 S448, Ent.blk b21 26 #[(.int .i64 a0.Boats), v445, v447], Ent.blk b6 26 #[(.int .i64 0), (.slice none 0 0), (.slice none 0 0)], Ent.blk b4 38 #[(.int .i64 a0.Boats), (.int .i64 a0.Scheme), v1], Ent.snap w0 w0.heap.size] w) ?_ (fun hN769 => ?_)
     · intro F1096 wd1097 hJ
       obtain ⟨v835, S836, v837, S838, f1098, f1099, f1100, f1101, f1102, f1103, f1104, f1105, f1106, hL⟩ := hJ
       refine DH.all (rs := [3, 12]) (by kernel_rfl) (by simp) ?_
       intro i1107 hi1108
       simp only [List.mem_cons, List.not_mem_nil, or_false] at hi1108
       rcases hi1108 with rfl | rfl
       · refine ⟨_, rfl, ?_⟩
         refine OP.val (v := v445) rfl (x_load1 U24 rfl f1103 (hL.cellB 4 rfl rfl)) ?_
         refine ⟨(hL.sel [5, 6, 7] (by decide) rfl), ?_⟩
         exact DH.relist (listed' := (bma 21 249855)) (by kernel_rfl) (hN761 _ _ ⟨v835, S836, v837, S838, f1098, f1099, f1100, f1101, f1102, rfl, f1104, f1105, f1106, hL⟩)
       refine ⟨_, rfl, ?_⟩
       have hL := hL.sel [1, 0, 2, 3, 4, 5, 6, 7] (by decide) rfl
       refine S_lit1 x608 rfl hL U24 Tryz_T27 ((congrArg Value.cells f1104).trans (rdL_cells (hL.rdO 0 rfl))) rfl ?_
       intro wd1109 v1110 S1111 hL
       refine ⟨(hL.sel [5, 6, 7] (by decide) rfl), ?_⟩
       have hL := hL.sel [1, 0, 2, 3, 4, 5, 6, 7] (by decide) rfl
       exact DH.relist (listed' := (bma 21 253943)) (by kernel_rfl) (hN762 _ _ ⟨v835, S836, v1110, S1111, f1098, f1099, f1100, f1101, f1102, f1103, rfl, f1105, f1106, hL⟩)
     refine DH.node (listed' := (bma 21 86015)) (fuel' := 7) (fun (F : Fr) (w : World) => ∃ (v839 : Value) (S840 : Nat → Prop), F 1 = (.pointer (some ⟨b4, 0, none⟩)) ∧ F 2 = (.pointer (some ⟨b6, 0, none⟩)) ∧ F 4 = (.pointer (some ⟨b21, 0, none⟩)) ∧ F 5 = (.int .i64 s_l1.2.2) ∧ F 50 = (.int .i64 a0.Boats) ∧ F 52 = v445 ∧ F 60 = v839 ∧ F 63 = (.pointer (some ⟨b21, 2, none⟩)) ∧ F 65 = v546 ∧ Hp w0 [Ent.own 2 S840 v839 x608, Ent.own 2 S547 v546 s_l2.1, Ent.frzS wz560 S446, Ent.frzS wz562 S448, Ent.blk b21 26 #[(.int .i64 a0.Boats), v445, v447], Ent.blk b6 26 #[(.int .i64 0), (.slice none 0 0), (.slice none 0 0)], Ent.blk b4 38 #[(.int .i64 a0.Boats), (.int .i64 a0.Scheme), v1], Ent.snap w0 w0.heap.size] w) ?_ (fun hN770 => ?_)
     · intro F1112 wd1113 hJ
       obtain ⟨v839, S840, f1114, f1115, f1116, f1117, f1118, f1119, f1120, f1121, f1122, hL⟩ := hJ
       refine DH.all (rs := [12, 15, 17]) (by kernel_rfl) (by simp) ?_
       intro i1123 hi1124
       simp only [List.mem_cons, List.not_mem_nil, or_false] at hi1124
       rcases hi1124 with rfl | rfl | rfl
       · refine ⟨_, rfl, ?_⟩
         refine S_lit1 x608 rfl hL U24 Tryz_T27 ((congrArg Value.cells f1120).trans (rdL_cells (hL.rdO 0 rfl))) rfl ?_
         intro wd1125 v1126 S1127 hL
         refine ⟨(hL.sel [5, 6, 7] (by decide) rfl), ?_⟩
         exact DH.relist (listed' := (bma 21 90111)) (by kernel_rfl) (hN763 _ _ ⟨v1126, S1127, f1114, f1115, f1116, f1117, f1118, f1119, rfl, f1121, f1122, hL⟩)
       · refine ⟨_, rfl, ?_⟩
         refine OP.val (v := v447) rfl (x_load1 U24 rfl f1121 (hL.cellB 4 rfl rfl)) ?_
         refine ⟨(hL.sel [5, 6, 7] (by decide) rfl), ?_⟩
         exact DH.relist (listed' := (bma 21 118783)) (by kernel_rfl) (hN764 _ _ ⟨v839, S840, f1114, f1115, f1116, f1117, f1118, f1119, f1120, rfl, f1122, hL⟩)
       refine ⟨_, rfl, ?_⟩
       have hL := hL.sel [1, 0, 2, 3, 4, 5, 6, 7] (by decide) rfl
       refine S_lit1 s_l2.1 rfl hL U24 Tryz_T27 ((congrArg Value.cells f1122).trans (rdL_cells (hL.rdO 0 rfl))) rfl ?_
       intro wd1128 v1129 S1130 hL
       refine ⟨(hL.sel [5, 6, 7] (by decide) rfl), ?_⟩
       exact DH.relist (listed' := (bma 21 217087)) (by kernel_rfl) (hN765 _ _ ⟨v1129, S1130, v839, S840, f1114, f1115, f1116, f1117, f1118, f1119, f1120, f1121, rfl, hL⟩)
     refine DH.node (listed' := (bma 21 116735)) (fuel' := 7) (fun (F : Fr) (w : World) => F 1 = (.pointer (some ⟨b4, 0, none⟩)) ∧ F 2 = (.pointer (some ⟨b6, 0, none⟩)) ∧ F 4 = (.pointer (some ⟨b21, 0, none⟩)) ∧ F 5 = (.int .i64 s_l1.2.2) ∧ F 50 = (.int .i64 a0.Boats) ∧ F 52 = v445 ∧ F 57 = (.agg #[v602]) ∧ F 59 = (.int .i64 a0.Scheme) ∧ F 64 = v447 ∧ F 65 = v546 ∧ Hp w0 [Ent.own 2 S547 v546 s_l2.1, Ent.frzS wz560 S446, Ent.frzS wz562 S448, Ent.blk b21 26 #[(.int .i64 a0.Boats), v445, v447], Ent.blk b6 26 #[(.int .i64 0), (.slice none 0 0), (.slice none 0 0)], Ent.blk b4 38 #[(.int .i64 a0.Boats), (.int .i64 a0.Scheme), v1], Ent.snap w0 w0.heap.size] w) ?_ (fun hN771 => ?_)
     · intro F1131 wd1132 hJ
       obtain ⟨f1133, f1134, f1135, f1136, f1137, f1138, f1139, f1140, f1141, f1142, hL⟩ := hJ
       refine DH.all (rs := [11, 17]) (by kernel_rfl) (by simp) ?_
       intro i1143 hi1144
       simp only [List.mem_cons, List.not_mem_nil, or_false] at hi1144
       rcases hi1144 with rfl | rfl
       · refine ⟨_, rfl, ?_⟩
         refine OP.call rfl (x_call (vs := [(.agg #[v602]), (.int .i64 a0.Scheme)]) Tryz_C112 ⟨f1139, f1140, trivial⟩) (M.spec_l26Points_ok _ x597 (hL.rdS 6 rfl hr606) a0.Scheme hx609) ?_
         rintro e1147 wd1148 ⟨v1146, S1145, rfl, hF1149⟩
         refine ⟨_, rfl, ?_⟩
         have hL := hL.pushAll hF1149
         simp only [lA, lB, lC, lD] at hL
         refine ⟨(hL.sel [5, 6, 7] (by decide) rfl), ?_⟩
         exact DH.relist (listed' := (bma 21 118783)) (by kernel_rfl) (hN764 _ _ ⟨v1146, S1145, f1133, f1134, f1135, f1136, f1137, f1138, rfl, f1141, f1142, hL⟩)
       refine ⟨_, rfl, ?_⟩
       refine S_lit1 s_l2.1 rfl hL U24 Tryz_T27 ((congrArg Value.cells f1142).trans (rdL_cells (hL.rdO 0 rfl))) rfl ?_
       intro wd1150 v1151 S1152 hL
       refine ⟨(hL.sel [4, 5, 6] (by decide) rfl), ?_⟩
       exact DH.relist (listed' := (bma 21 247807)) (by kernel_rfl) (hN766 _ _ ⟨v1151, S1152, f1133, f1134, f1135, f1136, f1137, f1138, f1139, f1140, f1141, rfl, hL⟩)
     refine DH.node (listed' := (bma 21 215039)) (fuel' := 7) (fun (F : Fr) (w : World) => ∃ (v841 : Value) (S842 : Nat → Prop), F 1 = (.pointer (some ⟨b4, 0, none⟩)) ∧ F 2 = (.pointer (some ⟨b6, 0, none⟩)) ∧ F 4 = (.pointer (some ⟨b21, 0, none⟩)) ∧ F 5 = (.int .i64 s_l1.2.2) ∧ F 50 = (.int .i64 a0.Boats) ∧ F 52 = v445 ∧ F 57 = (.agg #[v602]) ∧ F 59 = (.int .i64 a0.Scheme) ∧ F 63 = (.pointer (some ⟨b21, 2, none⟩)) ∧ F 66 = v841 ∧ Hp w0 [Ent.own 27 S842 v841 ([s_l2.1] : List (List Int)), Ent.frzS wz560 S446, Ent.frzS wz562 S448, Ent.blk b21 26 #[(.int .i64 a0.Boats), v445, v447], Ent.blk b6 26 #[(.int .i64 0), (.slice none 0 0), (.slice none 0 0)], Ent.blk b4 38 #[(.int .i64 a0.Boats), (.int .i64 a0.Scheme), v1], Ent.snap w0 w0.heap.size] w) ?_ (fun hN772 => ?_)
     · intro F1153 wd1154 hJ
       obtain ⟨v841, S842, f1155, f1156, f1157, f1158, f1159, f1160, f1161, f1162, f1163, f1164, hL⟩ := hJ
       refine DH.all (rs := [11, 15]) (by kernel_rfl) (by simp) ?_
       intro i1165 hi1166
       simp only [List.mem_cons, List.not_mem_nil, or_false] at hi1166
       rcases hi1166 with rfl | rfl
       · refine ⟨_, rfl, ?_⟩
         refine OP.call rfl (x_call (vs := [(.agg #[v602]), (.int .i64 a0.Scheme)]) Tryz_C112 ⟨f1161, f1162, trivial⟩) (M.spec_l26Points_ok _ x597 (hL.rdS 6 rfl hr606) a0.Scheme hx609) ?_
         rintro e1169 wd1170 ⟨v1168, S1167, rfl, hF1171⟩
         refine ⟨_, rfl, ?_⟩
         have hL := hL.pushAll hF1171
         simp only [lA, lB, lC, lD] at hL
         refine ⟨(hL.sel [5, 6, 7] (by decide) rfl), ?_⟩
         have hL := hL.sel [1, 0, 2, 3, 4, 5, 6, 7] (by decide) rfl
         exact DH.relist (listed' := (bma 21 217087)) (by kernel_rfl) (hN765 _ _ ⟨v841, S842, v1168, S1167, f1155, f1156, f1157, f1158, f1159, f1160, rfl, f1163, f1164, hL⟩)
       refine ⟨_, rfl, ?_⟩
       refine OP.val (v := v447) rfl (x_load1 U24 rfl f1163 (hL.cellB 3 rfl rfl)) ?_
       refine ⟨(hL.sel [4, 5, 6] (by decide) rfl), ?_⟩
       exact DH.relist (listed' := (bma 21 247807)) (by kernel_rfl) (hN766 _ _ ⟨v841, S842, f1155, f1156, f1157, f1158, f1159, f1160, f1161, f1162, rfl, f1164, hL⟩)
     refine DH.node (listed' := (bma 21 90103)) (fuel' := 7) (fun (F : Fr) (w : World) => ∃ (v843 : Value) (S844 : Nat → Prop), F 1 = (.pointer (some ⟨b4, 0, none⟩)) ∧ F 2 = (.pointer (some ⟨b6, 0, none⟩)) ∧ F 4 = (.pointer (some ⟨b21, 0, none⟩)) ∧ F 5 = (.int .i64 s_l1.2.2) ∧ F 50 = (.int .i64 a0.Boats) ∧ F 51 = (.pointer (some ⟨b21, 1, none⟩)) ∧ F 61 = v843 ∧ F 63 = (.pointer (some ⟨b21, 2, none⟩)) ∧ F 65 = v546 ∧ Hp w0 [Ent.own 27 S844 v843 ([x608] : List (List Int)), Ent.own 2 S547 v546 s_l2.1, Ent.frzS wz560 S446, Ent.frzS wz562 S448, Ent.blk b21 26 #[(.int .i64 a0.Boats), v445, v447], Ent.blk b6 26 #[(.int .i64 0), (.slice none 0 0), (.slice none 0 0)], Ent.blk b4 38 #[(.int .i64 a0.Boats), (.int .i64 a0.Scheme), v1], Ent.snap w0 w0.heap.size] w) ?_ (fun hN773 => ?_)
     · intro F1172 wd1173 hJ
       obtain ⟨v843, S844, f1174, f1175, f1176, f1177, f1178, f1179, f1180, f1181, f1182, hL⟩ := hJ
       refine DH.all (rs := [3, 15, 17]) (by kernel_rfl) (by simp) ?_
       intro i1183 hi1184
       simp only [List.mem_cons, List.not_mem_nil, or_false] at hi1184
       rcases hi1184 with rfl | rfl | rfl
       · refine ⟨_, rfl, ?_⟩
         refine OP.val (v := v445) rfl (x_load1 U24 rfl f1179 (hL.cellB 4 rfl rfl)) ?_
         refine ⟨(hL.sel [5, 6, 7] (by decide) rfl), ?_⟩
         exact DH.relist (listed' := (bma 21 90111)) (by kernel_rfl) (hN763 _ _ ⟨v843, S844, f1174, f1175, f1176, f1177, f1178, rfl, f1180, f1181, f1182, hL⟩)
       · refine ⟨_, rfl, ?_⟩
         refine OP.val (v := v447) rfl (x_load1 U24 rfl f1181 (hL.cellB 4 rfl rfl)) ?_
         refine ⟨(hL.sel [5, 6, 7] (by decide) rfl), ?_⟩
         exact DH.relist (listed' := (bma 21 122871)) (by kernel_rfl) (hN767 _ _ ⟨v843, S844, f1174, f1175, f1176, f1177, f1178, f1179, f1180, rfl, f1182, hL⟩)
       refine ⟨_, rfl, ?_⟩
       have hL := hL.sel [1, 0, 2, 3, 4, 5, 6, 7] (by decide) rfl
       refine S_lit1 s_l2.1 rfl hL U24 Tryz_T27 ((congrArg Value.cells f1182).trans (rdL_cells (hL.rdO 0 rfl))) rfl ?_
       intro wd1185 v1186 S1187 hL
       refine ⟨(hL.sel [5, 6, 7] (by decide) rfl), ?_⟩
       exact DH.relist (listed' := (bma 21 221175)) (by kernel_rfl) (hN768 _ _ ⟨v1186, S1187, v843, S844, f1174, f1175, f1176, f1177, f1178, f1179, f1180, f1181, rfl, hL⟩)
     refine DH.node (listed' := (bma 21 118775)) (fuel' := 7) (fun (F : Fr) (w : World) => ∃ (v845 : Value) (S846 : Nat → Prop), F 1 = (.pointer (some ⟨b4, 0, none⟩)) ∧ F 2 = (.pointer (some ⟨b6, 0, none⟩)) ∧ F 4 = (.pointer (some ⟨b21, 0, none⟩)) ∧ F 5 = (.int .i64 s_l1.2.2) ∧ F 50 = (.int .i64 a0.Boats) ∧ F 51 = (.pointer (some ⟨b21, 1, none⟩)) ∧ F 60 = v845 ∧ F 64 = v447 ∧ F 65 = v546 ∧ Hp w0 [Ent.own 2 S846 v845 x608, Ent.own 2 S547 v546 s_l2.1, Ent.frzS wz560 S446, Ent.frzS wz562 S448, Ent.blk b21 26 #[(.int .i64 a0.Boats), v445, v447], Ent.blk b6 26 #[(.int .i64 0), (.slice none 0 0), (.slice none 0 0)], Ent.blk b4 38 #[(.int .i64 a0.Boats), (.int .i64 a0.Scheme), v1], Ent.snap w0 w0.heap.size] w) ?_ (fun hN774 => ?_)
     · intro F1188 wd1189 hJ
       obtain ⟨v845, S846, f1190, f1191, f1192, f1193, f1194, f1195, f1196, f1197, f1198, hL⟩ := hJ
       refine DH.all (rs := [3, 12, 17]) (by kernel_rfl) (by simp) ?_
       intro i1199 hi1200
       simp only [List.mem_cons, List.not_mem_nil, or_false] at hi1200
       rcases hi1200 with rfl | rfl | rfl
       · refine ⟨_, rfl, ?_⟩
         refine OP.val (v := v445) rfl (x_load1 U24 rfl f1195 (hL.cellB 4 rfl rfl)) ?_
         refine ⟨(hL.sel [5, 6, 7] (by decide) rfl), ?_⟩
         exact DH.relist (listed' := (bma 21 118783)) (by kernel_rfl) (hN764 _ _ ⟨v845, S846, f1190, f1191, f1192, f1193, f1194, rfl, f1196, f1197, f1198, hL⟩)
       · refine ⟨_, rfl, ?_⟩
         refine S_lit1 x608 rfl hL U24 Tryz_T27 ((congrArg Value.cells f1196).trans (rdL_cells (hL.rdO 0 rfl))) rfl ?_
         intro wd1201 v1202 S1203 hL
         refine ⟨(hL.sel [5, 6, 7] (by decide) rfl), ?_⟩
         exact DH.relist (listed' := (bma 21 122871)) (by kernel_rfl) (hN767 _ _ ⟨v1202, S1203, f1190, f1191, f1192, f1193, f1194, f1195, rfl, f1197, f1198, hL⟩)
       refine ⟨_, rfl, ?_⟩
       have hL := hL.sel [1, 0, 2, 3, 4, 5, 6, 7] (by decide) rfl
       refine S_lit1 s_l2.1 rfl hL U24 Tryz_T27 ((congrArg Value.cells f1198).trans (rdL_cells (hL.rdO 0 rfl))) rfl ?_
       intro wd1204 v1205 S1206 hL
       refine ⟨(hL.sel [5, 6, 7] (by decide) rfl), ?_⟩
       exact DH.relist (listed' := (bma 21 249847)) (by kernel_rfl) (hN769 _ _ ⟨v1205, S1206, v845, S846, f1190, f1191, f1192, f1193, f1194, f1195, f1196, f1197, rfl, hL⟩)
     refine DH.node (listed' := (bma 21 217079)) (fuel' := 7) (fun (F : Fr) (w : World) => ∃ (v847 : Value) (S848 : Nat → Prop) (v849 : Value) (S850 : Nat → Prop), F 1 = (.pointer (some ⟨b4, 0, none⟩)) ∧ F 2 = (.pointer (some ⟨b6, 0, none⟩)) ∧ F 4 = (.pointer (some ⟨b21, 0, none⟩)) ∧ F 5 = (.int .i64 s_l1.2.2) ∧ F 50 = (.int .i64 a0.Boats) ∧ F 51 = (.pointer (some ⟨b21, 1, none⟩)) ∧ F 60 = v849 ∧ F 63 = (.pointer (some ⟨b21, 2, none⟩)) ∧ F 66 = v847 ∧ Hp w0 [Ent.own 27 S848 v847 ([s_l2.1] : List (List Int)), Ent.own 2 S850 v849 x608, Ent.frzS wz560 S446, Ent.frzS wz562 S448, Ent.blk b21 26 #[(.int .i64 a0.Boats), v445, v447], Ent.blk b6 26 #[(.int .i64 0), (.slice none 0 0), (.slice none 0 0)], Ent.blk b4 38 #[(.int .i64 a0.Boats), (.int .i64 a0.Scheme), v1], Ent.snap w0 w0.heap.size] w) ?_ (fun hN775 => ?_)
     · intro F1207 wd1208 hJ
       obtain ⟨v847, S848, v849, S850, f1209, f1210, f1211, f1212, f1213, f1214, f1215, f1216, f1217, hL⟩ := hJ
       refine DH.all (rs := [3, 12, 15]) (by kernel_rfl) (by simp) ?_
       intro i1218 hi1219
       simp only [List.mem_cons, List.not_mem_nil, or_false] at hi1219
       rcases hi1219 with rfl | rfl | rfl
       · refine ⟨_, rfl, ?_⟩
         refine OP.val (v := v445) rfl (x_load1 U24 rfl f1214 (hL.cellB 4 rfl rfl)) ?_
         refine ⟨(hL.sel [5, 6, 7] (by decide) rfl), ?_⟩
         exact DH.relist (listed' := (bma 21 217087)) (by kernel_rfl) (hN765 _ _ ⟨v847, S848, v849, S850, f1209, f1210, f1211, f1212, f1213, rfl, f1215, f1216, f1217, hL⟩)
       · refine ⟨_, rfl, ?_⟩
         have hL := hL.sel [1, 0, 2, 3, 4, 5, 6, 7] (by decide) rfl
         refine S_lit1 x608 rfl hL U24 Tryz_T27 ((congrArg Value.cells f1215).trans (rdL_cells (hL.rdO 0 rfl))) rfl ?_
         intro wd1220 v1221 S1222 hL
         refine ⟨(hL.sel [5, 6, 7] (by decide) rfl), ?_⟩
         have hL := hL.sel [1, 0, 2, 3, 4, 5, 6, 7] (by decide) rfl
         exact DH.relist (listed' := (bma 21 221175)) (by kernel_rfl) (hN768 _ _ ⟨v847, S848, v1221, S1222, f1209, f1210, f1211, f1212, f1213, f1214, rfl, f1216, f1217, hL⟩)
       refine ⟨_, rfl, ?_⟩
       refine OP.val (v := v447) rfl (x_load1 U24 rfl f1216 (hL.cellB 4 rfl rfl)) ?_
       refine ⟨(hL.sel [5, 6, 7] (by decide) rfl), ?_⟩
       exact DH.relist (listed' := (bma 21 249847)) (by kernel_rfl) (hN769 _ _ ⟨v847, S848, v849, S850, f1209, f1210, f1211, f1212, f1213, f1214, f1215, rfl, f1217, hL⟩)
     refine DH.node (listed' := (bma 21 247799)) (fuel' := 7) (fun (F : Fr) (w : World) => ∃ (v851 : Value) (S852 : Nat → Prop), F 1 = (.pointer (some ⟨b4, 0, none⟩)) ∧ F 2 = (.pointer (some ⟨b6, 0, none⟩)) ∧ F 4 = (.pointer (some ⟨b21, 0, none⟩)) ∧ F 5 = (.int .i64 s_l1.2.2) ∧ F 50 = (.int .i64 a0.Boats) ∧ F 51 = (.pointer (some ⟨b21, 1, none⟩)) ∧ F 57 = (.agg #[v602]) ∧ F 59 = (.int .i64 a0.Scheme) ∧ F 64 = v447 ∧ F 66 = v851 ∧ Hp w0 [Ent.own 27 S852 v851 ([s_l2.1] : List (List Int)), Ent.frzS wz560 S446, Ent.frzS wz562 S448, Ent.blk b21 26 #[(.int .i64 a0.Boats), v445, v447], Ent.blk b6 26 #[(.int .i64 0), (.slice none 0 0), (.slice none 0 0)], Ent.blk b4 38 #[(.int .i64 a0.Boats), (.int .i64 a0.Scheme), v1], Ent.snap w0 w0.heap.size] w) ?_ (fun hN776 => ?_)
     · intro F1223 wd1224 hJ
       obtain ⟨v851, S852, f1225, f1226, f1227, f1228, f1229, f1230, f1231, f1232, f1233, f1234, hL⟩ := hJ
       refine DH.all (rs := [3, 11]) (by kernel_rfl) (by simp) ?_
       intro i1235 hi1236
       simp only [List.mem_cons, List.not_mem_nil, or_false] at hi1236
       rcases hi1236 with rfl | rfl
       · refine ⟨_, rfl, ?_⟩
         refine OP.val (v := v445) rfl (x_load1 U24 rfl f1230 (hL.cellB 3 rfl rfl)) ?_
         refine ⟨(hL.sel [4, 5, 6] (by decide) rfl), ?_⟩
         exact DH.relist (listed' := (bma 21 247807)) (by kernel_rfl) (hN766 _ _ ⟨v851, S852, f1225, f1226, f1227, f1228, f1229, rfl, f1231, f1232, f1233, f1234, hL⟩)
       refine ⟨_, rfl, ?_⟩
       refine OP.call rfl (x_call (vs := [(.agg #[v602]), (.int .i64 a0.Scheme)]) Tryz_C112 ⟨f1231, f1232, trivial⟩) (M.spec_l26Points_ok _ x597 (hL.rdS 6 rfl hr606) a0.Scheme hx609) ?_
       rintro e1239 wd1240 ⟨v1238, S1237, rfl, hF1241⟩
       refine ⟨_, rfl, ?_⟩
       have hL := hL.pushAll hF1241
       simp only [lA, lB, lC, lD] at hL
       refine ⟨(hL.sel [5, 6, 7] (by decide) rfl), ?_⟩
       have hL := hL.sel [1, 0, 2, 3, 4, 5, 6, 7] (by decide) rfl
       exact DH.relist (listed' := (bma 21 249847)) (by kernel_rfl) (hN769 _ _ ⟨v851, S852, v1238, S1237, f1225, f1226, f1227, f1228, f1229, f1230, rfl, f1233, f1234, hL⟩)
     refine DH.node (listed' := (bma 21 83967)) (fuel' := 8) (fun (F : Fr) (w : World) => F 1 = (.pointer (some ⟨b4, 0, none⟩)) ∧ F 2 = (.pointer (some ⟨b6, 0, none⟩)) ∧ F 4 = (.pointer (some ⟨b21, 0, none⟩)) ∧ F 5 = (.int .i64 s_l1.2.2) ∧ F 50 = (.int .i64 a0.Boats) ∧ F 52 = v445 ∧ F 57 = (.agg #[v602]) ∧ F 59 = (.int .i64 a0.Scheme) ∧ F 63 = (.pointer (some ⟨b21, 2, none⟩)) ∧ F 65 = v546 ∧ Hp w0 [Ent.own 2 S547 v546 s_l2.1, Ent.frzS wz560 S446, Ent.frzS wz562 S448, Ent.blk b21 26 #[(.int .i64 a0.Boats), v445, v447], Ent.blk b6 26 #[(.int .i64 0), (.slice none 0 0), (.slice none 0 0)], Ent.blk b4 38 #[(.int .i64 a0.Boats), (.int .i64 a0.Scheme), v1], Ent.snap w0 w0.heap.size] w) ?_ (fun hN777 => ?_)
     · intro F1242 wd1243 hJ
       obtain ⟨f1244, f1245, f1246, f1247, f1248, f1249, f1250, f1251, f1252, f1253, hL⟩ := hJ
       refine DH.all (rs := [11, 15, 17]) (by kernel_rfl) (by simp) ?_
       intro i1254 hi1255
       simp only [List.mem_cons, List.not_mem_nil, or_false] at hi1255
       rcases hi1255 with rfl | rfl | rfl
       · refine ⟨_, rfl, ?_⟩
         refine OP.call rfl (x_call (vs := [(.agg #[v602]), (.int .i64 a0.Scheme)]) Tryz_C112 ⟨f1250, f1251, trivial⟩) (M.spec_l26Points_ok _ x597 (hL.rdS 6 rfl hr606) a0.Scheme hx609) ?_
         rintro e1258 wd1259 ⟨v1257, S1256, rfl, hF1260⟩
         refine ⟨_, rfl, ?_⟩
         have hL := hL.pushAll hF1260
         simp only [lA, lB, lC, lD] at hL
         refine ⟨(hL.sel [5, 6, 7] (by decide) rfl), ?_⟩
         exact DH.relist (listed' := (bma 21 86015)) (by kernel_rfl) (hN770 _ _ ⟨v1257, S1256, f1244, f1245, f1246, f1247, f1248, f1249, rfl, f1252, f1253, hL⟩)
       · refine ⟨_, rfl, ?_⟩
         refine OP.val (v := v447) rfl (x_load1 U24 rfl f1252 (hL.cellB 3 rfl rfl)) ?_
         refine ⟨(hL.sel [4, 5, 6] (by decide) rfl), ?_⟩
         exact DH.relist (listed' := (bma 21 116735)) (by kernel_rfl) (hN771 _ _ ⟨f1244, f1245, f1246, f1247, f1248, f1249, f1250, f1251, rfl, f1253, hL⟩)
       refine ⟨_, rfl, ?_⟩
       refine S_lit1 s_l2.1 rfl hL U24 Tryz_T27 ((congrArg Value.cells f1253).trans (rdL_cells (hL.rdO 0 rfl))) rfl ?_
       intro wd1261 v1262 S1263 hL
       refine ⟨(hL.sel [4, 5, 6] (by decide) rfl), ?_⟩
       exact DH.relist (listed' := (bma 21 215039)) (by kernel_rfl) (hN772 _ _ ⟨v1262, S1263, f1244, f1245, f1246, f1247, f1248, f1249, f1250, f1251, f1252, rfl, hL⟩)
     refine DH.node (listed' := (bma 21 86007)) (fuel' := 8) (fun (F : Fr) (w : World) => ∃ (v853 : Value) (S854 : Nat → Prop), F 1 = (.pointer (some ⟨b4, 0, none⟩)) ∧ F 2 = (.pointer (some ⟨b6, 0, none⟩)) ∧ F 4 = (.pointer (some ⟨b21, 0, none⟩)) ∧ F 5 = (.int .i64 s_l1.2.2) ∧ F 50 = (.int .i64 a0.Boats) ∧ F 51 = (.pointer (some ⟨b21, 1, none⟩)) ∧ F 60 = v853 ∧ F 63 = (.pointer (some ⟨b21, 2, none⟩)) ∧ F 65 = v546 ∧ Hp w0 [Ent.own 2 S854 v853 x608, Ent.own 2 S547 v546 s_l2.1, Ent.frzS wz560 S446, Ent.frzS wz562 S448, Ent.blk b21 26 #[(.int .i64 a0.Boats), v445, v447], Ent.blk b6 26 #[(.int .i64 0), (.slice none 0 0), (.slice none 0 0)], Ent.blk b4 38 #[(.int .i64 a0.Boats), (.int .i64 a0.Scheme), v1], Ent.snap w0 w0.heap.size] w) ?_ (fun hN778 => ?_)
     · intro F1264 wd1265 hJ
       obtain ⟨v853, S854, f1266, f1267, f1268, f1269, f1270, f1271, f1272, f1273, f1274, hL⟩ := hJ
       refine DH.all (rs := [3, 12, 15, 17]) (by kernel_rfl) (by simp) ?_
       intro i1275 hi1276
       simp only [List.mem_cons, List.not_mem_nil, or_false] at hi1276
       rcases hi1276 with rfl | rfl | rfl | rfl
       · refine ⟨_, rfl, ?_⟩
         refine OP.val (v := v445) rfl (x_load1 U24 rfl f1271 (hL.cellB 4 rfl rfl)) ?_
         refine ⟨(hL.sel [5, 6, 7] (by decide) rfl), ?_⟩
         exact DH.relist (listed' := (bma 21 86015)) (by kernel_rfl) (hN770 _ _ ⟨v853, S854, f1266, f1267, f1268, f1269, f1270, rfl, f1272, f1273, f1274, hL⟩)
       · refine ⟨_, rfl, ?_⟩
         refine S_lit1 x608 rfl hL U24 Tryz_T27 ((congrArg Value.cells f1272).trans (rdL_cells (hL.rdO 0 rfl))) rfl ?_
         intro wd1277 v1278 S1279 hL
         refine ⟨(hL.sel [5, 6, 7] (by decide) rfl), ?_⟩
         exact DH.relist (listed' := (bma 21 90103)) (by kernel_rfl) (hN773 _ _ ⟨v1278, S1279, f1266, f1267, f1268, f1269, f1270, f1271, rfl, f1273, f1274, hL⟩)
       · refine ⟨_, rfl, ?_⟩
         refine OP.val (v := v447) rfl (x_load1 U24 rfl f1273 (hL.cellB 4 rfl rfl)) ?_
         refine ⟨(hL.sel [5, 6, 7] (by decide) rfl), ?_⟩
         exact DH.relist (listed' := (bma 21 118775)) (by kernel_rfl) (hN774 _ _ ⟨v853, S854, f1266, f1267, f1268, f1269, f1270, f1271, f1272, rfl, f1274, hL⟩)
       refine ⟨_, rfl, ?_⟩
       have hL := hL.sel [1, 0, 2, 3, 4, 5, 6, 7] (by decide) rfl
       refine S_lit1 s_l2.1 rfl hL U24 Tryz_T27 ((congrArg Value.cells f1274).trans (rdL_cells (hL.rdO 0 rfl))) rfl ?_
       intro wd1280 v1281 S1282 hL
       refine ⟨(hL.sel [5, 6, 7] (by decide) rfl), ?_⟩
       exact DH.relist (listed' := (bma 21 217079)) (by kernel_rfl) (hN775 _ _ ⟨v1281, S1282, v853, S854, f1266, f1267, f1268, f1269, f1270, f1271, f1272, f1273, rfl, hL⟩)
     refine DH.node (listed' := (bma 21 116727)) (fuel' := 8) (fun (F : Fr) (w : World) => F 1 = (.pointer (some ⟨b4, 0, none⟩)) ∧ F 2 = (.pointer (some ⟨b6, 0, none⟩)) ∧ F 4 = (.pointer (some ⟨b21, 0, none⟩)) ∧ F 5 = (.int .i64 s_l1.2.2) ∧ F 50 = (.int .i64 a0.Boats) ∧ F 51 = (.pointer (some ⟨b21, 1, none⟩)) ∧ F 57 = (.agg #[v602]) ∧ F 59 = (.int .i64 a0.Scheme) ∧ F 64 = v447 ∧ F 65 = v546 ∧ Hp w0 [Ent.own 2 S547 v546 s_l2.1, Ent.frzS wz560 S446, Ent.frzS wz562 S448, Ent.blk b21 26 #[(.int .i64 a0.Boats), v445, v447], Ent.blk b6 26 #[(.int .i64 0), (.slice none 0 0), (.slice none 0 0)], Ent.blk b4 38 #[(.int .i64 a0.Boats), (.int .i64 a0.Scheme), v1], Ent.snap w0 w0.heap.size] w) ?_ (fun hN779 => ?_)
     · intro F1283 wd1284 hJ
       obtain ⟨f1285, f1286, f1287, f1288, f1289, f1290, f1291, f1292, f1293, f1294, hL⟩ := hJ
       refine DH.all (rs := [3, 11, 17]) (by kernel_rfl) (by simp) ?_
       intro i1295 hi1296
       simp only [List.mem_cons, List.not_mem_nil, or_false] at hi1296
       rcases hi1296 with rfl | rfl | rfl
       · refine ⟨_, rfl, ?_⟩
         refine OP.val (v := v445) rfl (x_load1 U24 rfl f1290 (hL.cellB 3 rfl rfl)) ?_
         refine ⟨(hL.sel [4, 5, 6] (by decide) rfl), ?_⟩
         exact DH.relist (listed' := (bma 21 116735)) (by kernel_rfl) (hN771 _ _ ⟨f1285, f1286, f1287, f1288, f1289, rfl, f1291, f1292, f1293, f1294, hL⟩)
       · refine ⟨_, rfl, ?_⟩
         refine OP.call rfl (x_call (vs := [(.agg #[v602]), (.int .i64 a0.Scheme)]) Tryz_C112 ⟨f1291, f1292, trivial⟩) (M.spec_l26Points_ok _ x597 (hL.rdS 6 rfl hr606) a0.Scheme hx609) ?_
         rintro e1299 wd1300 ⟨v1298, S1297, rfl, hF1301⟩
         refine ⟨_, rfl, ?_⟩
         have hL := hL.pushAll hF1301
         simp only [lA, lB, lC, lD] at hL
         refine ⟨(hL.sel [5, 6, 7] (by decide) rfl), ?_⟩
         exact DH.relist (listed' := (bma 21 118775)) (by kernel_rfl) (hN774 _ _ ⟨v1298, S1297, f1285, f1286, f1287, f1288, f1289, f1290, rfl, f1293, f1294, hL⟩)
       refine ⟨_, rfl, ?_⟩
       refine S_lit1 s_l2.1 rfl hL U24 Tryz_T27 ((congrArg Value.cells f1294).trans (rdL_cells (hL.rdO 0 rfl))) rfl ?_
       intro wd1302 v1303 S1304 hL
       refine ⟨(hL.sel [4, 5, 6] (by decide) rfl), ?_⟩
       exact DH.relist (listed' := (bma 21 247799)) (by kernel_rfl) (hN776 _ _ ⟨v1303, S1304, f1285, f1286, f1287, f1288, f1289, f1290, f1291, f1292, f1293, rfl, hL⟩)
     refine DH.node (listed' := (bma 21 215031)) (fuel' := 8) (fun (F : Fr) (w : World) => ∃ (v855 : Value) (S856 : Nat → Prop), F 1 = (.pointer (some ⟨b4, 0, none⟩)) ∧ F 2 = (.pointer (some ⟨b6, 0, none⟩)) ∧ F 4 = (.pointer (some ⟨b21, 0, none⟩)) ∧ F 5 = (.int .i64 s_l1.2.2) ∧ F 50 = (.int .i64 a0.Boats) ∧ F 51 = (.pointer (some ⟨b21, 1, none⟩)) ∧ F 57 = (.agg #[v602]) ∧ F 59 = (.int .i64 a0.Scheme) ∧ F 63 = (.pointer (some ⟨b21, 2, none⟩)) ∧ F 66 = v855 ∧ Hp w0 [Ent.own 27 S856 v855 ([s_l2.1] : List (List Int)), Ent.frzS wz560 S446, Ent.frzS wz562 S448, Ent.blk b21 26 #[(.int .i64 a0.Boats), v445, v447], Ent.blk b6 26 #[(.int .i64 0), (.slice none 0 0), (.slice none 0 0)], Ent.blk b4 38 #[(.int .i64 a0.Boats), (.int .i64 a0.Scheme), v1], Ent.snap w0 w0.heap.size] w) ?_ (fun hN780 => ?_)
     · intro F1305 wd1306 hJ
       obtain ⟨v855, S856, f1307, f1308, f1309, f1310, f1311, f1312, f1313, f1314, f1315, f1316, hL⟩ := hJ
       refine DH.all (rs := [3, 11, 15]) (by kernel_rfl) (by simp) ?_
       intro i1317 hi1318
       simp only [List.mem_cons, List.not_mem_nil, or_false] at hi1318
       rcases hi1318 with rfl | rfl | rfl
       · refine ⟨_, rfl, ?_⟩
         refine OP.val (v := v445) rfl (x_load1 U24 rfl f1312 (hL.cellB 3 rfl rfl)) ?_
         refine ⟨(hL.sel [4, 5, 6] (by decide) rfl), ?_⟩
         exact DH.relist (listed' := (bma 21 215039)) (by kernel_rfl) (hN772 _ _ ⟨v855, S856, f1307, f1308, f1309, f1310, f1311, rfl, f1313, f1314, f1315, f1316, hL⟩)
       · refine ⟨_, rfl, ?_⟩
         refine OP.call rfl (x_call (vs := [(.agg #[v602]), (.int .i64 a0.Scheme)]) Tryz_C112 ⟨f1313, f1314, trivial⟩) (M.spec_l26Points_ok _ x597 (hL.rdS 6 rfl hr606) a0.Scheme hx609) ?_
         rintro e1321 wd1322 ⟨v1320, S1319, rfl, hF1323⟩
         refine ⟨_, rfl, ?_⟩
         have hL := hL.pushAll hF1323
         simp only [lA, lB, lC, lD] at hL
         refine ⟨(hL.sel [5, 6, 7] (by decide) rfl), ?_⟩
         have hL := hL.sel [1, 0, 2, 3, 4, 5, 6, 7] (by decide) rfl
         exact DH.relist (listed' := (bma 21 217079)) (by kernel_rfl) (hN775 _ _ ⟨v855, S856, v1320, S1319, f1307, f1308, f1309, f1310, f1311, f1312, rfl, f1315, f1316, hL⟩)
       refine ⟨_, rfl, ?_⟩
       refine OP.val (v := v447) rfl (x_load1 U24 rfl f1315 (hL.cellB 3 rfl rfl)) ?_
       refine ⟨(hL.sel [4, 5, 6] (by decide) rfl), ?_⟩
       exact DH.relist (listed' := (bma 21 247799)) (by kernel_rfl) (hN776 _ _ ⟨v855, S856, f1307, f1308, f1309, f1310, f1311, f1312, f1313, f1314, rfl, f1316, hL⟩)
     refine DH.all (rs := [3, 11, 15, 17]) (by kernel_rfl) (by simp) ?_
     intro i1324 hi1325
     simp only [List.mem_cons, List.not_mem_nil, or_false] at hi1325
     rcases hi1325 with rfl | rfl | rfl | rfl
     · refine ⟨_, rfl, ?_⟩
       refine OP.val (v := v445) rfl (x_load1 U24 rfl rfl (hL.cellB 3 rfl rfl)) ?_
       refine ⟨(hL.sel [4, 5, 6] (by decide) rfl), ?_⟩
       exact DH.relist (listed' := (bma 21 83967)) (by kernel_rfl) (hN777 _ _ ⟨f554, f555, f556, f557, rfl, rfl, rfl, rfl, rfl, rfl, hL⟩)
     · refine ⟨_, rfl, ?_⟩
       refine OP.call rfl (x_call (vs := [(.agg #[v602]), (.int .i64 a0.Scheme)]) Tryz_C112 ⟨rfl, rfl, trivial⟩) (M.spec_l26Points_ok _ x597 (hL.rdS 6 rfl hr606) a0.Scheme hx609) ?_
       rintro e1328 wd1329 ⟨v1327, S1326, rfl, hF1330⟩
       refine ⟨_, rfl, ?_⟩
       have hL := hL.pushAll hF1330
       simp only [lA, lB, lC, lD] at hL
       refine ⟨(hL.sel [5, 6, 7] (by decide) rfl), ?_⟩
       exact DH.relist (listed' := (bma 21 86007)) (by kernel_rfl) (hN778 _ _ ⟨v1327, S1326, f554, f555, f556, f557, rfl, rfl, rfl, rfl, rfl, hL⟩)
     · refine ⟨_, rfl, ?_⟩
       refine OP.val (v := v447) rfl (x_load1 U24 rfl rfl (hL.cellB 3 rfl rfl)) ?_
       refine ⟨(hL.sel [4, 5, 6] (by decide) rfl), ?_⟩
       exact DH.relist (listed' := (bma 21 116727)) (by kernel_rfl) (hN779 _ _ ⟨f554, f555, f556, f557, rfl, rfl, rfl, rfl, rfl, rfl, hL⟩)
     refine ⟨_, rfl, ?_⟩
     refine S_lit1 s_l2.1 rfl hL U24 Tryz_T27 ((congrArg Value.cells (show _ = v546 from rfl)).trans (rdL_cells (hL.rdO 0 rfl))) rfl ?_
     intro wd1331 v1332 S1333 hL
     refine ⟨(hL.sel [4, 5, 6] (by decide) rfl), ?_⟩
     exact DH.relist (listed' := (bma 21 215031)) (by kernel_rfl) (hN780 _ _ ⟨v1332, S1333, f554, f555, f556, f557, rfl, rfl, rfl, rfl, rfl, rfl, hL⟩)
   intro s_l2 F1334 wd1335 t548 hJ hm hr549
   unfold M.spec_TableOf_l2 at hm
   obtain ⟨v546, S547, f1336, f1337, f1338, f1339, f1340, f1341, hL⟩ := hJ
   refine CW.seq ?_
   refine CSR ?_
   refine OV (.int .i64 s_l2.2) rfl (x_mv f1341) ?_
   refine OV (.pointer (some ⟨b4, 2, none⟩)) rfl (x_fieldAddr (fsz := 1) 0 2 2 U38 rfl Tryz_T36 rfl f1336 rfl) ?_
   refine OV v1 rfl (x_load1 U36 rfl rfl (hL.cellB 5 rfl rfl)) ?_
   refine OV (.int .i64 s_l1.2.2) rfl (x_mv f1339) ?_
   obtain ⟨x1342, ha1343, hm⟩ := bndE hm
   obtain ⟨hz1344, ha1352⟩ := idxE ha1343
   obtain ⟨b1345, q1346, v1347, hix1348, hs1349, hc1350, hr1351⟩ := rdN_at h2 hz1344 ha1352
   refine OV (.pointer (some ⟨b1345, q1346, none⟩)) rfl (x_ix U36 Tryz_T101 rfl rfl hix1348) ?_
   refine OV (.pointer (some ⟨b1345, q1346, none⟩)) rfl (x_fieldAddr (fsz := 1) q1346 0 q1346 U101 rfl Tryz_T99 rfl rfl rfl) ?_
   refine OV v1347 rfl (x_load1 U99 rfl rfl (hL.cellS 6 rfl hs1349 hc1350)) ?_
   refine OV (.int .i64 (x1342.Finishes.length : Int)) rfl (x_lenR U99 rfl (hL.rdS 6 rfl hr1351)) ?_
   refine OV (.bool (decide (s_l2.2 < (x1342.Finishes.length : Int)))) rfl (x_lss rfl rfl) ?_
   refine OW.nil ?_
   refine CW.condM (t := decide (s_l2.2 < (x1342.Finishes.length : Int))) rfl hm (fun hb1353 hm => ?_) (fun hb1353 hm => ?_)
   · refine CW.skip ?_
     refine CW.seq ?_
     refine CW.block ?_
     refine CW.regionL ?_
     refine OV v546 rfl (x_mv f1340) ?_
     refine OV (.pointer (some ⟨b4, 2, none⟩)) rfl (x_fieldAddr (fsz := 1) 0 2 2 U38 rfl Tryz_T36 rfl f1336 rfl) ?_
     refine OV v1 rfl (x_load1 U36 rfl rfl (hL.cellB 5 rfl rfl)) ?_
     refine OV (.int .i64 s_l1.2.2) rfl (x_mv f1339) ?_
     obtain ⟨x1354, ha1355, hm⟩ := bndE hm
     obtain ⟨hz1356, ha1364⟩ := idxE ha1355
     obtain ⟨b1357, q1358, v1359, hix1360, hs1361, hc1362, hr1363⟩ := rdN_at h2 hz1356 ha1364
     refine OV (.pointer (some ⟨b1357, q1358, none⟩)) rfl (x_ix U36 Tryz_T101 rfl rfl hix1360) ?_
     refine OV (.pointer (some ⟨b1357, q1358, none⟩)) rfl (x_fieldAddr (fsz := 1) q1358 0 q1358 U101 rfl Tryz_T99 rfl rfl rfl) ?_
     refine OV v1359 rfl (x_load1 U99 rfl rfl (hL.cellS 6 rfl hs1361 hc1362)) ?_
     refine OV (.int .i64 s_l2.2) rfl (x_mv f1341) ?_
     obtain ⟨x1365, ha1366, hm⟩ := bndE hm
     obtain ⟨hz1367, ha1371⟩ := idxE ha1366
     obtain ⟨b1368, q1369, hix1370⟩ := rdL_ix (hL.rdS 6 rfl hr1363) hz1367 ha1371
     refine OV (.pointer (some ⟨b1368, q1369, none⟩)) rfl (x_ix U99 Tryz_T103 rfl rfl hix1370) ?_
     refine OV (.pointer (some ⟨b1368, q1369 + 1, none⟩)) rfl (x_fieldAddr (fsz := 1) q1369 1 (q1369 + 1) U103 rfl Tryz_T2 rfl rfl rfl) ?_
     refine OV (.int .i64 x1365.Code) rfl (x_load1 U2 rfl rfl (rdF_cells (hL.rdS 6 rfl hr1363) hix1370 ha1371 1 _ rfl)) ?_
     refine OW.cons (S_lit ([x1365.Code] : List Int) hL U27 Tryz_T2 rfl (by decide) (by first | (simp [Instr.fill, madeCells, Value.cells, ev, upd, Flat.enc, Flat.sz]; done) | rfl | kernel_rfl) rfl rfl ?_)
     intro wd1372 v1373 S1374 hL
     obtain ⟨hc1378, hm⟩ := chkE hm
     refine OW.cons (S_append (ys := ([x1365.Code] : List Int)) hL 1 rfl U27 Tryz_T2 rfl rfl rfl (hL.rdO 0 rfl) hc1378 (by decide) rfl ?_)
     intro wd1375 v1376 S1377 hL
     refine OV v1376 rfl (x_assign) ?_
     refine OW.nil ?_
     refine CW.regionL ?_
     refine OV (.int .i64 s_l2.2) rfl (x_mv f1341) ?_
     refine OV (.int .i64 (w64 (s_l2.2 + 1))) rfl (x_add rfl rfl) ?_
     refine OV (.int .i64 (w64 (s_l2.2 + 1))) rfl (x_assign) ?_
     refine OW.nil ?_
     have hL := hL.sel [1, 2, 3, 4, 5, 6, 7] (by decide) rfl
     obtain rfl := Option.some.inj hm
     exact ⟨_, rfl, ⟨v1376, S1377, f1336, f1337, f1338, f1339, rfl, rfl, hL⟩⟩
   refine CW.exit ?_
   refine XJ.hit ?_
   obtain rfl := Option.some.inj hm
   exact ⟨_, rfl, ⟨v546, S547, f1336, f1337, f1338, f1339, f1340, f1341, hL⟩⟩
 refine CW.exit ?_
 refine XJ.hit ?_
 obtain rfl := Option.some.inj hm
 exact ⟨_, rfl, ⟨v445, S446, v447, S448, f462, f463, f464, f465, hL⟩⟩

end Go.Proofs.YtmmkkcmliofknaaGreatDoor
