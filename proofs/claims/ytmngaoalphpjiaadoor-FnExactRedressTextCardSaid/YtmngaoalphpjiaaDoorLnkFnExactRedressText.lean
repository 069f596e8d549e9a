/- Links: each Go function returns what its model computes and leaves what was there. Printed by my generator. -/
import Derived.Test.YtmngaoalphpjiaaDoorMod4
import Derived.Test.YtmngaoalphpjiaaDoorBase9
import Derived.Test.YtmngaoalphpjiaaDoorProg
import Derived.KernelRfl
import Derived.Test.YtmngaoalphpjiaaDoorLayFtx
namespace Go.Proofs.YtmngaoalphpjiaaDoor
set_option maxRecDepth 10000
open Go Go.RowKit Go.ChangeShapes Go.WideShapes
set_option linter.unusedVariables false
set_option linter.unusedSimpArgs false

theorem Tryd_mixed : Tryd.prog.follows .mixedOrders = true := by kernel_rfl
theorem Tryd_T2 : TyI Tryd.prog 2 1 8 (.int .i64 0) := by unfold TyI; kernel_rfl
theorem Tryd_T4 : TyI Tryd.prog 4 1 1 (.bool false) := by unfold TyI; kernel_rfl
theorem Tryd_T5 : TyI Tryd.prog 5 1 1 (.int .u8 0) := by unfold TyI; kernel_rfl
theorem Tryd_T9 : TyI Tryd.prog 9 1 16 (.string ByteArray.empty) := by unfold TyI; kernel_rfl
theorem Tryd_T23 : TyI Tryd.prog 23 4 32 (.agg #[.int .i64 0, .int .i64 0, .int .i64 0, .int .i64 0]) := by unfold TyI; kernel_rfl
theorem Tryd_T25 : TyI Tryd.prog 25 4 32 (.agg #[.int .i64 0, .int .i64 0, .int .i64 0, .int .i64 0]) := by unfold TyI; kernel_rfl
theorem Tryd_T35 : TyI Tryd.prog 35 1 24 (.slice none 0 0) := by unfold TyI; kernel_rfl
theorem Tryd_T37 : TyI Tryd.prog 37 1 24 (.agg #[.slice none 0 0]) := by unfold TyI; kernel_rfl
theorem Tryd_T40 : TyI Tryd.prog 40 1 24 (.slice none 0 0) := by unfold TyI; kernel_rfl
theorem Tryd_T42 : TyI Tryd.prog 42 1 24 (.agg #[.slice none 0 0]) := by unfold TyI; kernel_rfl
theorem Tryd_T46 : TyI Tryd.prog 46 1 24 (.slice none 0 0) := by unfold TyI; kernel_rfl
theorem Tryd_T48 : TyI Tryd.prog 48 3 56 (.agg #[.int .i64 0, .slice none 0 0, .slice none 0 0]) := by unfold TyI; kernel_rfl
theorem Tryd_T49 : TyI Tryd.prog 49 1 24 (.slice none 0 0) := by unfold TyI; kernel_rfl
theorem Tryd_T52 : TyI Tryd.prog 52 3 56 (.agg #[.int .i64 0, .slice none 0 0, .slice none 0 0]) := by unfold TyI; kernel_rfl
theorem Tryd_T61 : TyI Tryd.prog 61 3 48 (.agg #[.string ByteArray.empty, .string ByteArray.empty, .string ByteArray.empty]) := by unfold TyI; kernel_rfl
theorem Tryd_T66 : TyI Tryd.prog 66 2 16 (.agg #[.int .i64 0, .int .i64 0]) := by unfold TyI; kernel_rfl
theorem Tryd_T68 : TyI Tryd.prog 68 2 16 (.agg #[.int .i64 0, .int .i64 0]) := by unfold TyI; kernel_rfl
theorem Tryd_T75 : TyI Tryd.prog 75 3 24 (.agg #[.int .i64 0, .int .i64 0, .int .i64 0]) := by unfold TyI; kernel_rfl
theorem Tryd_T98 : TyI Tryd.prog 98 3 24 (.agg #[.int .i64 0, .int .i64 0, .int .i64 0]) := by unfold TyI; kernel_rfl
theorem Tryd_T100 : TyI Tryd.prog 100 10 160 (.agg #[.string ByteArray.empty, .string ByteArray.empty, .string ByteArray.empty, .string ByteArray.empty, .string ByteArray.empty, .string ByteArray.empty, .string ByteArray.empty, .string ByteArray.empty, .string ByteArray.empty, .string ByteArray.empty]) := by unfold TyI; kernel_rfl
theorem Tryd_C7 : CallOK Tryd.prog 7 := ⟨_, _, Tryd.func7, rfl, by kernel_rfl⟩
theorem Tryd_C8 : CallOK Tryd.prog 8 := ⟨_, _, Tryd.func8, rfl, by kernel_rfl⟩
theorem Tryd_C9 : CallOK Tryd.prog 9 := ⟨_, _, Tryd.func9, rfl, by kernel_rfl⟩
theorem Tryd_C10 : CallOK Tryd.prog 10 := ⟨_, _, Tryd.func10, rfl, by kernel_rfl⟩
theorem Tryd_C12 : CallOK Tryd.prog 12 := ⟨_, _, Tryd.func12, rfl, by kernel_rfl⟩
theorem Tryd_C15 : CallOK Tryd.prog 15 := ⟨_, _, Tryd.func15, rfl, by kernel_rfl⟩
theorem Tryd_C16 : CallOK Tryd.prog 16 := ⟨_, _, Tryd.func16, rfl, by kernel_rfl⟩
theorem Tryd_C17 : CallOK Tryd.prog 17 := ⟨_, _, Tryd.func17, rfl, by kernel_rfl⟩
theorem Tryd_C20 : CallOK Tryd.prog 20 := ⟨_, _, Tryd.func20, rfl, by kernel_rfl⟩
theorem Tryd_C21 : CallOK Tryd.prog 21 := ⟨_, _, Tryd.func21, rfl, by kernel_rfl⟩
theorem Tryd_C22 : CallOK Tryd.prog 22 := ⟨_, _, Tryd.func22, rfl, by kernel_rfl⟩
theorem Tryd_C23 : CallOK Tryd.prog 23 := ⟨_, _, Tryd.func23, rfl, by kernel_rfl⟩
theorem Tryd_C24 : CallOK Tryd.prog 24 := ⟨_, _, Tryd.func24, rfl, by kernel_rfl⟩
theorem Tryd_C25 : CallOK Tryd.prog 25 := ⟨_, _, Tryd.func25, rfl, by kernel_rfl⟩
theorem Tryd_C26 : CallOK Tryd.prog 26 := ⟨_, _, Tryd.func26, rfl, by kernel_rfl⟩
theorem Tryd_C27 : CallOK Tryd.prog 27 := ⟨_, _, Tryd.func27, rfl, by kernel_rfl⟩
theorem Tryd_C28 : CallOK Tryd.prog 28 := ⟨_, _, Tryd.func28, rfl, by kernel_rfl⟩
theorem Tryd_C29 : CallOK Tryd.prog 29 := ⟨_, _, Tryd.func29, rfl, by kernel_rfl⟩
theorem Tryd_C30 : CallOK Tryd.prog 30 := ⟨_, _, Tryd.func30, rfl, by kernel_rfl⟩
theorem Tryd_C31 : CallOK Tryd.prog 31 := ⟨_, _, Tryd.func31, rfl, by kernel_rfl⟩
theorem Tryd_C32 : CallOK Tryd.prog 32 := ⟨_, _, Tryd.func32, rfl, by kernel_rfl⟩
theorem Tryd_C33 : CallOK Tryd.prog 33 := ⟨_, _, Tryd.func33, rfl, by kernel_rfl⟩
theorem Tryd_C35 : CallOK Tryd.prog 35 := ⟨_, _, Tryd.func35, rfl, by kernel_rfl⟩
theorem Tryd_C36 : CallOK Tryd.prog 36 := ⟨_, _, Tryd.func36, rfl, by kernel_rfl⟩
theorem Tryd_C38 : CallOK Tryd.prog 38 := ⟨_, _, Tryd.func38, rfl, by kernel_rfl⟩
theorem Tryd_C39 : CallOK Tryd.prog 39 := ⟨_, _, Tryd.func39, rfl, by kernel_rfl⟩
theorem Tryd_C40 : CallOK Tryd.prog 40 := ⟨_, _, Tryd.func40, rfl, by kernel_rfl⟩
theorem Tryd_C41 : CallOK Tryd.prog 41 := ⟨_, _, Tryd.func41, rfl, by kernel_rfl⟩
theorem Tryd_C42 : CallOK Tryd.prog 42 := ⟨_, _, Tryd.func42, rfl, by kernel_rfl⟩
theorem Tryd_C43 : CallOK Tryd.prog 43 := ⟨_, _, Tryd.func43, rfl, by kernel_rfl⟩
theorem Tryd_C44 : CallOK Tryd.prog 44 := ⟨_, _, Tryd.func44, rfl, by kernel_rfl⟩
theorem Tryd_C45 : CallOK Tryd.prog 45 := ⟨_, _, Tryd.func45, rfl, by kernel_rfl⟩
theorem Tryd_C46 : CallOK Tryd.prog 46 := ⟨_, _, Tryd.func46, rfl, by kernel_rfl⟩
theorem Tryd_C47 : CallOK Tryd.prog 47 := ⟨_, _, Tryd.func47, rfl, by kernel_rfl⟩
theorem Tryd_C48 : CallOK Tryd.prog 48 := ⟨_, _, Tryd.func48, rfl, by kernel_rfl⟩
theorem Tryd_C49 : CallOK Tryd.prog 49 := ⟨_, _, Tryd.func49, rfl, by kernel_rfl⟩
theorem Tryd_C50 : CallOK Tryd.prog 50 := ⟨_, _, Tryd.func50, rfl, by kernel_rfl⟩
theorem Tryd_C51 : CallOK Tryd.prog 51 := ⟨_, _, Tryd.func51, rfl, by kernel_rfl⟩
theorem Tryd_C52 : CallOK Tryd.prog 52 := ⟨_, _, Tryd.func52, rfl, by kernel_rfl⟩
theorem Tryd_C53 : CallOK Tryd.prog 53 := ⟨_, _, Tryd.func53, rfl, by kernel_rfl⟩
theorem Tryd_C54 : CallOK Tryd.prog 54 := ⟨_, _, Tryd.func54, rfl, by kernel_rfl⟩
theorem Tryd_C55 : CallOK Tryd.prog 55 := ⟨_, _, Tryd.func55, rfl, by kernel_rfl⟩
theorem Tryd_C56 : CallOK Tryd.prog 56 := ⟨_, _, Tryd.func56, rfl, by kernel_rfl⟩
theorem Tryd_C57 : CallOK Tryd.prog 57 := ⟨_, _, Tryd.func57, rfl, by kernel_rfl⟩
theorem Tryd_C58 : CallOK Tryd.prog 58 := ⟨_, _, Tryd.func58, rfl, by kernel_rfl⟩
theorem Tryd_C59 : CallOK Tryd.prog 59 := ⟨_, _, Tryd.func59, rfl, by kernel_rfl⟩
theorem Tryd_C63 : CallOK Tryd.prog 63 := ⟨_, _, Tryd.func63, rfl, by kernel_rfl⟩
theorem Tryd_C64 : CallOK Tryd.prog 64 := ⟨_, _, Tryd.func64, rfl, by kernel_rfl⟩
theorem Tryd_C65 : CallOK Tryd.prog 65 := ⟨_, _, Tryd.func65, rfl, by kernel_rfl⟩
theorem Tryd_C66 : CallOK Tryd.prog 66 := ⟨_, _, Tryd.func66, rfl, by kernel_rfl⟩
theorem Tryd_C67 : CallOK Tryd.prog 67 := ⟨_, _, Tryd.func67, rfl, by kernel_rfl⟩
theorem Tryd_C68 : CallOK Tryd.prog 68 := ⟨_, _, Tryd.func68, rfl, by kernel_rfl⟩
theorem Tryd_C69 : CallOK Tryd.prog 69 := ⟨_, _, Tryd.func69, rfl, by kernel_rfl⟩
theorem Tryd_C70 : CallOK Tryd.prog 70 := ⟨_, _, Tryd.func70, rfl, by kernel_rfl⟩
theorem Tryd_C71 : CallOK Tryd.prog 71 := ⟨_, _, Tryd.func71, rfl, by kernel_rfl⟩
theorem Tryd_C72 : CallOK Tryd.prog 72 := ⟨_, _, Tryd.func72, rfl, by kernel_rfl⟩
theorem Tryd_C73 : CallOK Tryd.prog 73 := ⟨_, _, Tryd.func73, rfl, by kernel_rfl⟩
theorem Tryd_C74 : CallOK Tryd.prog 74 := ⟨_, _, Tryd.func74, rfl, by kernel_rfl⟩
theorem Tryd_C75 : CallOK Tryd.prog 75 := ⟨_, _, Tryd.func75, rfl, by kernel_rfl⟩
theorem Tryd_C76 : CallOK Tryd.prog 76 := ⟨_, _, Tryd.func76, rfl, by kernel_rfl⟩
theorem Tryd_C77 : CallOK Tryd.prog 77 := ⟨_, _, Tryd.func77, rfl, by kernel_rfl⟩
theorem Tryd_C81 : CallOK Tryd.prog 81 := ⟨_, _, Tryd.func81, rfl, by kernel_rfl⟩
theorem Tryd_C82 : CallOK Tryd.prog 82 := ⟨_, _, Tryd.func82, rfl, by kernel_rfl⟩
theorem Tryd_C83 : CallOK Tryd.prog 83 := ⟨_, _, Tryd.func83, rfl, by kernel_rfl⟩
theorem Tryd_C84 : CallOK Tryd.prog 84 := ⟨_, _, Tryd.func84, rfl, by kernel_rfl⟩
theorem Tryd_C85 : CallOK Tryd.prog 85 := ⟨_, _, Tryd.func85, rfl, by kernel_rfl⟩
theorem Tryd_C86 : CallOK Tryd.prog 86 := ⟨_, _, Tryd.func86, rfl, by kernel_rfl⟩
theorem Tryd_C87 : CallOK Tryd.prog 87 := ⟨_, _, Tryd.func87, rfl, by kernel_rfl⟩
theorem Tryd_C88 : CallOK Tryd.prog 88 := ⟨_, _, Tryd.func88, rfl, by kernel_rfl⟩
theorem Tryd_C89 : CallOK Tryd.prog 89 := ⟨_, _, Tryd.func89, rfl, by kernel_rfl⟩
theorem Tryd_C90 : CallOK Tryd.prog 90 := ⟨_, _, Tryd.func90, rfl, by kernel_rfl⟩
theorem Tryd_C91 : CallOK Tryd.prog 91 := ⟨_, _, Tryd.func91, rfl, by kernel_rfl⟩
theorem Tryd_C92 : CallOK Tryd.prog 92 := ⟨_, _, Tryd.func92, rfl, by kernel_rfl⟩
theorem Tryd_C93 : CallOK Tryd.prog 93 := ⟨_, _, Tryd.func93, rfl, by kernel_rfl⟩
theorem Tryd_C100 : CallOK Tryd.prog 100 := ⟨_, _, Tryd.func100, rfl, by kernel_rfl⟩
theorem Tryd_C101 : CallOK Tryd.prog 101 := ⟨_, _, Tryd.func101, rfl, by kernel_rfl⟩
theorem Tryd_C102 : CallOK Tryd.prog 102 := ⟨_, _, Tryd.func102, rfl, by kernel_rfl⟩
theorem Tryd_C103 : CallOK Tryd.prog 103 := ⟨_, _, Tryd.func103, rfl, by kernel_rfl⟩
theorem Tryd_C104 : CallOK Tryd.prog 104 := ⟨_, _, Tryd.func104, rfl, by kernel_rfl⟩
theorem Tryd_C105 : CallOK Tryd.prog 105 := ⟨_, _, Tryd.func105, rfl, by kernel_rfl⟩
theorem Tryd_C107 : CallOK Tryd.prog 107 := ⟨_, _, Tryd.func107, rfl, by kernel_rfl⟩
theorem Tryd_C111 : CallOK Tryd.prog 111 := ⟨_, _, Tryd.func111, rfl, by kernel_rfl⟩
theorem Tryd_C112 : CallOK Tryd.prog 112 := ⟨_, _, Tryd.func112, rfl, by kernel_rfl⟩
theorem Tryd_C113 : CallOK Tryd.prog 113 := ⟨_, _, Tryd.func113, rfl, by kernel_rfl⟩
theorem Tryd_C117 : CallOK Tryd.prog 117 := ⟨_, _, Tryd.func117, rfl, by kernel_rfl⟩
theorem Tryd_C123 : CallOK Tryd.prog 123 := ⟨_, _, Tryd.func123, rfl, by kernel_rfl⟩
theorem Tryd_C133 : CallOK Tryd.prog 133 := ⟨_, _, Tryd.func133, rfl, by kernel_rfl⟩
abbrev U2 := @Tryd.underlying2
abbrev U5 := @Tryd.underlying5
abbrev U9 := @Tryd.underlying9
abbrev U23 := @Tryd.underlying23
abbrev U25 := @Tryd.underlying25
abbrev U60 := @Tryd.underlying60
abbrev U61 := @Tryd.underlying61
abbrev U86 := @Tryd.underlying86

theorem M.laws_toRedress_ok (w0 : World) (a0 : Redress) {r : Redress} (hm : M.laws_toRedress a0 = some r) :
    Calls Tryd.prog 8 #[(.agg #[(.int .i64 a0.Race), (.int .i64 a0.Boat), (.int .i64 a0.Kind), (.int .i64 a0.Points)])] w0 fun e w' => e = .returned (.agg #[(.int .i64 r.Race), (.int .i64 r.Boat), (.int .i64 r.Kind), (.int .i64 r.Points)]) ∧ Fresh w0 w' [] := by
 unfold M.laws_toRedress at hm
 refine calls_CW (args := [(.agg #[(.int .i64 a0.Race), (.int .i64 a0.Boat), (.int .i64 a0.Kind), (.int .i64 a0.Points)])]) Tryd.func8 rfl rfl rfl ?_
 have hL := Hp.start w0
 refine CSR ?_
 refine OW.cons (S_box (cs := #[(.int .i64 a0.Race), (.int .i64 a0.Boat), (.int .i64 a0.Kind), (.int .i64 a0.Points)]) hL rfl rfl rfl ?_)
 intro wd1 b2 hL
 refine OW.cons (S_alloc (cs := #[(.int .i64 0), (.int .i64 0), (.int .i64 0), (.int .i64 0)]) hL Tryd_T25 rfl rfl ?_)
 intro wd3 b4 hL
 refine ONR ?_
 refine OW.cons (S_alloc (cs := #[(.int .i64 0), (.int .i64 0), (.int .i64 0), (.int .i64 0)]) hL Tryd_T25 rfl rfl ?_)
 intro wd5 b6 hL
 refine ONR ?_
 refine OV (.pointer (some ⟨b2, 0, none⟩)) rfl (x_fieldAddr (fsz := 1) 0 0 0 U23 rfl Tryd_T2 rfl rfl rfl) ?_
 refine OV (.int .i64 a0.Race) rfl (x_load1 U2 rfl rfl (hL.cellB 2 rfl rfl)) ?_
 refine OV (.pointer (some ⟨b6, 0, none⟩)) rfl (x_fieldAddr (fsz := 1) 0 0 0 U25 rfl Tryd_T2 rfl rfl rfl) ?_
 refine OW.cons (S_store (cs' := #[(.int .i64 a0.Race), (.int .i64 0), (.int .i64 0), (.int .i64 0)]) hL 0 rfl Tryd_T2 rfl rfl rfl rfl rfl ?_)
 intro wd7 hL
 refine ONR ?_
 refine OV (.pointer (some ⟨b2, 1, none⟩)) rfl (x_fieldAddr (fsz := 1) 0 1 1 U23 rfl Tryd_T2 rfl rfl rfl) ?_
 refine OV (.int .i64 a0.Boat) rfl (x_load1 U2 rfl rfl (hL.cellB 2 rfl rfl)) ?_
 refine OV (.pointer (some ⟨b6, 1, none⟩)) rfl (x_fieldAddr (fsz := 1) 0 1 1 U25 rfl Tryd_T2 rfl rfl rfl) ?_
 refine OW.cons (S_store (cs' := #[(.int .i64 a0.Race), (.int .i64 a0.Boat), (.int .i64 0), (.int .i64 0)]) hL 0 rfl Tryd_T2 rfl rfl rfl rfl rfl ?_)
 intro wd8 hL
 refine ONR ?_
 refine OV (.pointer (some ⟨b2, 2, none⟩)) rfl (x_fieldAddr (fsz := 1) 0 2 2 U23 rfl Tryd_T2 rfl rfl rfl) ?_
 refine OV (.int .i64 a0.Kind) rfl (x_load1 U2 rfl rfl (hL.cellB 2 rfl rfl)) ?_
 refine OV (.pointer (some ⟨b6, 2, none⟩)) rfl (x_fieldAddr (fsz := 1) 0 2 2 U25 rfl Tryd_T2 rfl rfl rfl) ?_
 refine OW.cons (S_store (cs' := #[(.int .i64 a0.Race), (.int .i64 a0.Boat), (.int .i64 a0.Kind), (.int .i64 0)]) hL 0 rfl Tryd_T2 rfl rfl rfl rfl rfl ?_)
 intro wd9 hL
 refine ONR ?_
 refine OV (.pointer (some ⟨b2, 3, none⟩)) rfl (x_fieldAddr (fsz := 1) 0 3 3 U23 rfl Tryd_T2 rfl rfl rfl) ?_
 refine OV (.int .i64 a0.Points) rfl (x_load1 U2 rfl rfl (hL.cellB 2 rfl rfl)) ?_
 refine OV (.pointer (some ⟨b6, 3, none⟩)) rfl (x_fieldAddr (fsz := 1) 0 3 3 U25 rfl Tryd_T2 rfl rfl rfl) ?_
 refine OW.cons (S_store (cs' := #[(.int .i64 a0.Race), (.int .i64 a0.Boat), (.int .i64 a0.Kind), (.int .i64 a0.Points)]) hL 0 rfl Tryd_T2 rfl rfl rfl rfl rfl ?_)
 intro wd10 hL
 refine ONR ?_
 refine OV (.agg #[(.int .i64 a0.Race), (.int .i64 a0.Boat), (.int .i64 a0.Kind), (.int .i64 a0.Points)]) rfl (x_loadN (cs := [(.int .i64 a0.Race), (.int .i64 a0.Boat), (.int .i64 a0.Kind), (.int .i64 a0.Points)]) U25 Tryd_T25 rfl rfl (hL.cellsB 0 rfl (o := 0) (l := [(.int .i64 a0.Race), (.int .i64 a0.Boat), (.int .i64 a0.Kind), (.int .i64 a0.Points)]) (by intro j u hj; exact (by simpa using hj)))) ?_
 refine OW.cons (S_storeN (l := [(.int .i64 a0.Race), (.int .i64 a0.Boat), (.int .i64 a0.Kind), (.int .i64 a0.Points)]) (cs' := #[(.int .i64 a0.Race), (.int .i64 a0.Boat), (.int .i64 a0.Kind), (.int .i64 a0.Points)]) hL 1 rfl Tryd_T25 rfl rfl (List.forall_mem_cons.2 ⟨rfl, (List.forall_mem_cons.2 ⟨rfl, (List.forall_mem_cons.2 ⟨rfl, (List.forall_mem_cons.2 ⟨rfl, (fun _ h => by cases h)⟩)⟩)⟩)⟩) rfl (Nat.le_of_ble_eq_true rfl) rfl ?_)
 intro wd11 hL
 refine OW.nil ?_
 refine CW.ret ?_
 obtain rfl := Option.some.inj hm
 exact RRc rfl rfl (run_loadBlk U25 Tryd_T25 (hL.get 1 rfl) rfl) ⟨rfl, hL.fresh 3 rfl [] (by decide) (by decide) rfl⟩

theorem M.spec_l01In_ok (w0 : World) (a0 : Int) (a1 : Int) (a2 : Int) {r : Bool} (hm : M.spec_l01In a0 a1 a2 = some r) :
    Calls Tryd.prog 27 #[(.int .i64 a0), (.int .i64 a1), (.int .i64 a2)] w0 fun e w' => e = .returned (.bool r) ∧ Fresh w0 w' [] := by
 unfold M.spec_l01In at hm
 refine calls_CW (args := [(.int .i64 a0), (.int .i64 a1), (.int .i64 a2)]) Tryd.func27 rfl rfl rfl ?_
 have hL := Hp.start w0
 refine CSR ?_
 refine OV (.bool false) rfl (x_assign) ?_
 refine OW.nil ?_
 refine CW.seqJ (fun (s_j1 : Bool) (F : Fr) (w : World) => F 6 = (.bool s_j1) ∧ Hp w0 [Ent.snap w0 w0.heap.size] w) (fun s_j1 => M.spec_l01In_j1 s_j1 = some r) ?_ ?_
 · refine CW.regionL ?_
   refine OV (.int .i64 a0) rfl (x_move) ?_
   refine OV (.int .i64 a1) rfl (x_move) ?_
   refine OV (.bool (decide (a1 ≤ a0))) rfl (x_geq rfl rfl) ?_
   refine OV (.bool (decide (a1 ≤ a0))) rfl (x_move) ?_
   refine ifB_elim hm (fun hb5 hm => ?_) (fun hb5 hm => ?_)
   · refine OW.cons (OP.yes' rfl rfl hb5 (OP.val (v := (.int .i64 a0)) rfl (x_move) ?_))
     refine OW.cons (OP.yes' rfl rfl hb5 (OP.val (v := (.int .i64 a2)) rfl (x_move) ?_))
     refine OW.cons (OP.yes' rfl rfl hb5 (OP.val (v := (.bool (decide (a0 ≤ a2)))) rfl (x_leq rfl rfl) ?_))
     refine OV (.bool (decide (a0 ≤ a2))) rfl (x_pickT' rfl hb5 rfl) ?_
     refine OV (.bool (decide (a0 ≤ a2))) rfl (x_assign) ?_
     refine OW.nil ?_
     exact ⟨decide (a0 ≤ a2), hm, ⟨rfl, hL⟩⟩
   refine OW.cons (OP.no' rfl rfl hb5 rfl ?_)
   refine OW.cons (OP.no' rfl rfl hb5 rfl ?_)
   refine OW.cons (OP.no' rfl rfl hb5 rfl ?_)
   refine OV (.bool false) rfl (x_pickF' rfl hb5 rfl) ?_
   refine OV (.bool false) rfl (x_assign) ?_
   refine OW.nil ?_
   exact ⟨false, hm, ⟨rfl, hL⟩⟩
 intro s_j1 F2 wd3 hJ hm
 unfold M.spec_l01In_j1 at hm
 obtain ⟨f4, hL⟩ := hJ
 refine CW.ret ?_
 obtain rfl := Option.some.inj hm
 exact RR1 rfl f4 ⟨rfl, hL.fresh 0 rfl [] (by decide) (by decide) rfl⟩

theorem M.spec_l26Number_ok (w0 : World) (a0 : Int) {r : ByteArray} (hm : M.spec_l26Number a0 = some r) :
    Calls Tryd.prog 28 #[(.int .i64 a0)] w0 fun e w' => e = .returned (.string r) ∧ Fresh w0 w' [] := by
 unfold M.spec_l26Number at hm
 refine calls_CW (args := [(.int .i64 a0)]) Tryd.func28 rfl rfl rfl ?_
 have hL := Hp.start w0
 refine CSR ?_
 refine OV (.string (⟨#[]⟩ : ByteArray)) rfl (x_assign) ?_
 refine ONR ?_
 refine OW.cons (S_lit ([] : List UInt8) hL U86 Tryd_T5 rfl (by decide) (by first | (simp [Instr.fill, madeCells, Value.cells, ev, upd, Flat.enc, Flat.sz]; done) | rfl | kernel_rfl) rfl rfl ?_)
 intro wd1 v2 S3 hL
 refine OV v2 rfl (x_assign) ?_
 refine ONS ?_
 refine CSR ?_
 refine OV (.int .i64 a0) rfl (x_move) ?_
 refine OV (.int .i64 a0) rfl (x_assign) ?_
 refine OW.nil ?_
 obtain ⟨o40, ho41, hm⟩ := bndE hm
 refine CW.loopB (fun (s_l1 : (List UInt8) × Int) (F : Fr) (w : World) => ∃ (v36 : Value) (S37 : Nat → Prop), F 3 = v36 ∧ F 4 = (.int .i64 s_l1.2) ∧ Hp w0 [Ent.own 5 S37 v36 s_l1.1, Ent.snap w0 w0.heap.size] w) (fun o => outc o (fun x => some x) (fun s => M.spec_l26Number_a1 s) = some r) ho41 hm ⟨v2, S3, rfl, rfl, hL⟩ ?_ ?_
 · intro s_l1 F42 wd43 hJ hm
   have hm := outcE hm
   have hm : M.spec_l26Number_a1 s_l1 = some r := hm
   unfold M.spec_l26Number_a1 at hm
   obtain ⟨v36, S37, f44, f45, hL⟩ := hJ
   refine CSR ?_
   refine OV v36 rfl (x_mv f44) ?_
   refine OV (.string (bts s_l1.1)) rfl (x_bts U86 U5 U9 rfl (hL.rdO 0 rfl)) ?_
   refine OV (.string (bts s_l1.1)) rfl (x_assign) ?_
   refine OW.nil ?_
   refine CW.ret ?_
   obtain rfl := Option.some.inj hm
   exact RR1 rfl rfl ⟨rfl, hL.fresh 1 rfl [] (by decide) (by decide) rfl⟩
 intro s_l1 F46 wd47 t38 hJ hm hr39
 unfold M.spec_l26Number_l1 at hm
 obtain ⟨v36, S37, f48, f49, hL⟩ := hJ
 refine CW.seq ?_
 refine CW.seqJ (fun (s_j1 : Bool) (F : Fr) (w : World) => F 3 = v36 ∧ F 4 = (.int .i64 s_l1.2) ∧ F 13 = (.bool s_j1) ∧ Hp w0 [Ent.own 5 S37 v36 s_l1.1, Ent.snap w0 w0.heap.size] w) (fun s_j1 => M.spec_l26Number_j1 s_l1 s_j1 = some t38) ?_ ?_
 · refine CW.regionL ?_
   refine OV (.int .i64 s_l1.2) rfl (x_mv f49) ?_
   refine OV (.bool (decide (0 < s_l1.2))) rfl (x_gtr rfl rfl) ?_
   refine OV (.bool (decide (0 < s_l1.2))) rfl (x_move) ?_
   refine ifB_elim hm (fun hb64 hm => ?_) (fun hb64 hm => ?_)
   · refine OW.cons (OP.no' rfl rfl hb64 rfl ?_)
     refine OW.cons (OP.no' rfl rfl hb64 rfl ?_)
     refine OW.cons (OP.no' rfl rfl hb64 rfl ?_)
     refine OV (.bool true) rfl (x_pickT' rfl hb64 rfl) ?_
     refine OW.nil ?_
     exact ⟨true, hm, ⟨f48, f49, rfl, hL⟩⟩
   refine OW.cons (OP.yes' rfl rfl hb64 (OP.val (v := v36) rfl (x_mv f48) ?_))
   refine OW.cons (OP.yes' rfl rfl hb64 (OP.val (v := (.int .i64 (s_l1.1.length : Int))) rfl (x_lenR U86 rfl (hL.rdO 0 rfl)) ?_))
   refine OW.cons (OP.yes' rfl rfl hb64 (OP.val (v := (.bool ((s_l1.1.length : Int) == 0))) rfl (x_eql rfl rfl) ?_))
   refine OV (.bool ((s_l1.1.length : Int) == 0)) rfl (x_pickF' rfl hb64 rfl) ?_
   refine OW.nil ?_
   exact ⟨(s_l1.1.length : Int) == 0, hm, ⟨f48, f49, rfl, hL⟩⟩
 intro s_j1 F51 wd52 hJ hm
 unfold M.spec_l26Number_j1 at hm
 obtain ⟨f53, f54, f55, hL⟩ := hJ
 refine CW.condM (t := s_j1) f55 hm (fun hb56 hm => ?_) (fun hb56 hm => ?_)
 · refine CW.skip ?_
   refine CW.seq ?_
   refine CW.block ?_
   refine CW.regionL ?_
   refine OV (.int .i64 s_l1.2) rfl (x_mv f54) ?_
   refine OV (.int .i64 (s_l1.2.tmod 10)) rfl (x_rem rfl rfl (by decide)) ?_
   refine OV (.int .i64 (w64 (48 + (s_l1.2.tmod 10)))) rfl (x_add rfl rfl) ?_
   refine OV (.int .u8 (IntKind.u8.wrap (w64 (48 + (s_l1.2.tmod 10))))) rfl (x_conv U2 U5 rfl) ?_
   refine OW.cons (S_lit ([(UInt8.ofNat (IntKind.u8.wrap (w64 (48 + (s_l1.2.tmod 10)))).toNat)] : List UInt8) hL U86 Tryd_T5 rfl (by decide) (by simp only [Flat.enc, List.flatMap_cons, List.flatMap_nil, u8w]; first | rfl | kernel_rfl) rfl rfl ?_)
   intro wd57 v58 S59 hL
   refine OV v36 rfl (x_mv f53) ?_
   obtain ⟨hc63, hm⟩ := chkE hm
   refine OW.cons (S_append (ys := s_l1.1) hL 0 rfl U86 Tryd_T5 rfl rfl rfl (hL.rdO 1 rfl) hc63 (by decide) rfl ?_)
   intro wd60 v61 S62 hL
   refine OV v61 rfl (x_assign) ?_
   refine OW.nil ?_
   refine CW.regionL ?_
   refine OV (.int .i64 s_l1.2) rfl (x_mv f54) ?_
   refine OV (.int .i64 (w64 (s_l1.2.tdiv 10))) rfl (x_quo rfl rfl (by decide)) ?_
   refine OV (.int .i64 (w64 (s_l1.2.tdiv 10))) rfl (x_assign) ?_
   refine OW.nil ?_
   have hL := hL.sel [0, 2] (by decide) rfl
   obtain rfl := Option.some.inj hm
   exact ⟨_, rfl, ⟨v61, S62, rfl, rfl, hL⟩⟩
 refine CW.exit ?_
 refine XJ.hit ?_
 obtain rfl := Option.some.inj hm
 exact ⟨_, rfl, ⟨v36, S37, f53, f54, hL⟩⟩

theorem M.spec_RedressText_ok (w0 : World) (a0 : Redress) {r : ByteArray} (hm : M.spec_RedressText a0 = some r) :
    Calls Tryd.prog 7 #[(.agg #[(.int .i64 a0.Race), (.int .i64 a0.Boat), (.int .i64 a0.Kind), (.int .i64 a0.Points)])] w0 fun e w' => e = .returned (.string r) ∧ Fresh w0 w' [] := by
 unfold M.spec_RedressText at hm
 refine calls_CW (args := [(.agg #[(.int .i64 a0.Race), (.int .i64 a0.Boat), (.int .i64 a0.Kind), (.int .i64 a0.Points)])]) Tryd.func7 rfl rfl rfl ?_
 have hL := Hp.start w0
 refine CSR ?_
 refine OW.cons (S_box (cs := #[(.int .i64 a0.Race), (.int .i64 a0.Boat), (.int .i64 a0.Kind), (.int .i64 a0.Points)]) hL rfl rfl rfl ?_)
 intro wd1 b2 hL
 refine OV (.string (⟨#[]⟩ : ByteArray)) rfl (x_assign) ?_
 refine ONS ?_
 refine CW.seqJ (fun (s_j1 : Bool) (F : Fr) (w : World) => F 1 = (.pointer (some ⟨b2, 0, none⟩)) ∧ F 19 = (.bool s_j1) ∧ Hp w0 [Ent.blk b2 25 #[(.int .i64 a0.Race), (.int .i64 a0.Boat), (.int .i64 a0.Kind), (.int .i64 a0.Points)], Ent.snap w0 w0.heap.size] w) (fun s_j1 => M.spec_RedressText_j1 a0 s_j1 = some r) ?_ ?_
 · refine CW.regionL ?_
   refine OV (.pointer (some ⟨b2, 0, none⟩)) rfl (x_fieldAddr (fsz := 1) 0 0 0 U25 rfl Tryd_T2 rfl rfl rfl) ?_
   refine OV (.int .i64 a0.Race) rfl (x_load1 U2 rfl rfl (hL.cellB 0 rfl rfl)) ?_
   obtain ⟨x286, hx287, hm⟩ := bndE hm
   refine OW.cons (OP.call rfl (x_call (vs := [(.int .i64 a0.Race), (.int .i64 0), (.int .i64 11)]) Tryd_C27 ⟨rfl, rfl, rfl, trivial⟩) (M.spec_l01In_ok _ a0.Race 0 11 hx287) ?_)
   rintro e288 wd289 ⟨rfl, hF290⟩
   refine ⟨_, rfl, ?_⟩
   have hL := hL.pushAll hF290
   simp only [lA, lB, lC, lD] at hL
   refine OV (.bool (!x286)) rfl (x_not rfl) ?_
   refine OV (.bool (!x286)) rfl (x_move) ?_
   refine ifB_elim hm (fun hb291 hm => ?_) (fun hb291 hm => ?_)
   · refine OW.cons (OP.no' rfl rfl hb291 rfl ?_)
     refine OW.cons (OP.no' rfl rfl hb291 rfl ?_)
     refine OW.cons (OP.no' rfl rfl hb291 rfl ?_)
     refine OW.cons (OP.no' rfl rfl hb291 rfl ?_)
     refine OV (.bool true) rfl (x_pickT' rfl hb291 rfl) ?_
     refine OV (.bool true) rfl (x_move) ?_
     refine OW.cons (OP.no' rfl rfl rfl rfl ?_)
     refine OW.cons (OP.no' rfl rfl rfl rfl ?_)
     refine OW.cons (OP.no' rfl rfl rfl rfl ?_)
     refine OW.cons (OP.no' rfl rfl rfl rfl ?_)
     refine OV (.bool true) rfl (x_pickT' rfl rfl rfl) ?_
     refine OW.nil ?_
     exact ⟨true, hm, ⟨rfl, rfl, hL⟩⟩
   refine OW.cons (OP.yes' rfl rfl hb291 (OP.val (v := (.pointer (some ⟨b2, 1, none⟩))) rfl (x_fieldAddr (fsz := 1) 0 1 1 U25 rfl Tryd_T2 rfl rfl rfl) ?_))
   refine OW.cons (OP.yes' rfl rfl hb291 (OP.val (v := (.int .i64 a0.Boat)) rfl (x_load1 U2 rfl rfl (hL.cellB 0 rfl rfl)) ?_))
   obtain ⟨x292, hx293, hm⟩ := bndE hm
   refine OW.cons (OP.yes' rfl rfl hb291 (OP.call rfl (x_call (vs := [(.int .i64 a0.Boat), (.int .i64 0), (.int .i64 15)]) Tryd_C27 ⟨rfl, rfl, rfl, trivial⟩) (M.spec_l01In_ok _ a0.Boat 0 15 hx293) ?_))
   rintro e294 wd295 ⟨rfl, hF296⟩
   refine ⟨_, rfl, ?_⟩
   have hL := hL.pushAll hF296
   simp only [lA, lB, lC, lD] at hL
   refine OW.cons (OP.yes' rfl rfl hb291 (OP.val (v := (.bool (!x292))) rfl (x_not rfl) ?_))
   refine OV (.bool (!x292)) rfl (x_pickF' rfl hb291 rfl) ?_
   refine OV (.bool (!x292)) rfl (x_move) ?_
   refine ifB_elim hm (fun hb297 hm => ?_) (fun hb297 hm => ?_)
   · refine OW.cons (OP.no' rfl rfl hb297 rfl ?_)
     refine OW.cons (OP.no' rfl rfl hb297 rfl ?_)
     refine OW.cons (OP.no' rfl rfl hb297 rfl ?_)
     refine OW.cons (OP.no' rfl rfl hb297 rfl ?_)
     refine OV (.bool true) rfl (x_pickT' rfl hb297 rfl) ?_
     refine OW.nil ?_
     exact ⟨true, hm, ⟨rfl, rfl, hL⟩⟩
   refine OW.cons (OP.yes' rfl rfl hb297 (OP.val (v := (.pointer (some ⟨b2, 2, none⟩))) rfl (x_fieldAddr (fsz := 1) 0 2 2 U25 rfl Tryd_T2 rfl rfl rfl) ?_))
   refine OW.cons (OP.yes' rfl rfl hb297 (OP.val (v := (.int .i64 a0.Kind)) rfl (x_load1 U2 rfl rfl (hL.cellB 0 rfl rfl)) ?_))
   obtain ⟨x298, hx299, hm⟩ := bndE hm
   refine OW.cons (OP.yes' rfl rfl hb297 (OP.call rfl (x_call (vs := [(.int .i64 a0.Kind), (.int .i64 1), (.int .i64 3)]) Tryd_C27 ⟨rfl, rfl, rfl, trivial⟩) (M.spec_l01In_ok _ a0.Kind 1 3 hx299) ?_))
   rintro e300 wd301 ⟨rfl, hF302⟩
   refine ⟨_, rfl, ?_⟩
   have hL := hL.pushAll hF302
   simp only [lA, lB, lC, lD] at hL
   refine OW.cons (OP.yes' rfl rfl hb297 (OP.val (v := (.bool (!x298))) rfl (x_not rfl) ?_))
   refine OV (.bool (!x298)) rfl (x_pickF' rfl hb297 rfl) ?_
   refine OW.nil ?_
   exact ⟨!x298, hm, ⟨rfl, rfl, hL⟩⟩
 intro s_j1 F20 wd21 hJ hm
 unfold M.spec_RedressText_j1 at hm
 obtain ⟨f22, f23, hL⟩ := hJ
 refine CW.condM (t := s_j1) f23 hm (fun hb24 hm => ?_) (fun hb24 hm => ?_)
 · refine CSR ?_
   refine OV (.string (⟨#[]⟩ : ByteArray)) rfl (x_assign) ?_
   refine OW.nil ?_
   refine CW.ret ?_
   obtain rfl := Option.some.inj hm
   exact RR1 rfl rfl ⟨rfl, hL.fresh 1 rfl [] (by decide) (by decide) rfl⟩
 refine CW.skip ?_
 refine CW.seq ?_
 refine CW.seqJ (fun (s_j2 : Bool) (F : Fr) (w : World) => F 1 = (.pointer (some ⟨b2, 0, none⟩)) ∧ F 33 = (.bool s_j2) ∧ Hp w0 [Ent.blk b2 25 #[(.int .i64 a0.Race), (.int .i64 a0.Boat), (.int .i64 a0.Kind), (.int .i64 a0.Points)], Ent.snap w0 w0.heap.size] w) (fun s_j2 => M.spec_RedressText_j2 a0 s_j2 = some r) ?_ ?_
 · refine CW.regionL ?_
   refine OV (.pointer (some ⟨b2, 2, none⟩)) rfl (x_fieldAddr (fsz := 1) 0 2 2 U25 rfl Tryd_T2 rfl f22 rfl) ?_
   refine OV (.int .i64 a0.Kind) rfl (x_load1 U2 rfl rfl (hL.cellB 0 rfl rfl)) ?_
   refine OV (.bool (a0.Kind != 3)) rfl (x_neq rfl rfl) ?_
   refine OV (.bool (a0.Kind != 3)) rfl (x_move) ?_
   refine ifB_elim hm (fun hb274 hm => ?_) (fun hb274 hm => ?_)
   · refine OW.cons (OP.yes' rfl rfl hb274 (OP.val (v := (.pointer (some ⟨b2, 3, none⟩))) rfl (x_fieldAddr (fsz := 1) 0 3 3 U25 rfl Tryd_T2 rfl f22 rfl) ?_))
     refine OW.cons (OP.yes' rfl rfl hb274 (OP.val (v := (.int .i64 a0.Points)) rfl (x_load1 U2 rfl rfl (hL.cellB 0 rfl rfl)) ?_))
     refine OW.cons (OP.yes' rfl rfl hb274 (OP.val (v := (.bool (a0.Points != 0))) rfl (x_neq rfl rfl) ?_))
     refine OV (.bool (a0.Points != 0)) rfl (x_pickT' rfl hb274 rfl) ?_
     refine OV (.bool (a0.Points != 0)) rfl (x_move) ?_
     refine ifB_elim hm (fun hb275 hm => ?_) (fun hb275 hm => ?_)
     · refine OW.cons (OP.no' rfl rfl hb275 rfl ?_)
       refine OW.cons (OP.no' rfl rfl hb275 rfl ?_)
       refine OW.cons (OP.no' rfl rfl hb275 rfl ?_)
       refine OW.cons (OP.no' rfl rfl hb275 rfl ?_)
       refine OV (.bool true) rfl (x_pickT' rfl hb275 rfl) ?_
       refine OW.nil ?_
       exact ⟨true, hm, ⟨f22, rfl, hL⟩⟩
     refine OW.cons (OP.yes' rfl rfl hb275 (OP.val (v := (.pointer (some ⟨b2, 3, none⟩))) rfl (x_fieldAddr (fsz := 1) 0 3 3 U25 rfl Tryd_T2 rfl f22 rfl) ?_))
     refine OW.cons (OP.yes' rfl rfl hb275 (OP.val (v := (.int .i64 a0.Points)) rfl (x_load1 U2 rfl rfl (hL.cellB 0 rfl rfl)) ?_))
     obtain ⟨x276, hx277, hm⟩ := bndE hm
     refine OW.cons (OP.yes' rfl rfl hb275 (OP.call rfl (x_call (vs := [(.int .i64 a0.Points), (.int .i64 0), (.int .i64 10000)]) Tryd_C27 ⟨rfl, rfl, rfl, trivial⟩) (M.spec_l01In_ok _ a0.Points 0 10000 hx277) ?_))
     rintro e278 wd279 ⟨rfl, hF280⟩
     refine ⟨_, rfl, ?_⟩
     have hL := hL.pushAll hF280
     simp only [lA, lB, lC, lD] at hL
     refine OW.cons (OP.yes' rfl rfl hb275 (OP.val (v := (.bool (!x276))) rfl (x_not rfl) ?_))
     refine OV (.bool (!x276)) rfl (x_pickF' rfl hb275 rfl) ?_
     refine OW.nil ?_
     exact ⟨!x276, hm, ⟨f22, rfl, hL⟩⟩
   refine OW.cons (OP.no' rfl rfl hb274 rfl ?_)
   refine OW.cons (OP.no' rfl rfl hb274 rfl ?_)
   refine OW.cons (OP.no' rfl rfl hb274 rfl ?_)
   refine OV (.bool false) rfl (x_pickF' rfl hb274 rfl) ?_
   refine OV (.bool false) rfl (x_move) ?_
   refine OW.cons (OP.yes' rfl rfl rfl (OP.val (v := (.pointer (some ⟨b2, 3, none⟩))) rfl (x_fieldAddr (fsz := 1) 0 3 3 U25 rfl Tryd_T2 rfl f22 rfl) ?_))
   refine OW.cons (OP.yes' rfl rfl rfl (OP.val (v := (.int .i64 a0.Points)) rfl (x_load1 U2 rfl rfl (hL.cellB 0 rfl rfl)) ?_))
   obtain ⟨x281, hx282, hm⟩ := bndE hm
   refine OW.cons (OP.yes' rfl rfl rfl (OP.call rfl (x_call (vs := [(.int .i64 a0.Points), (.int .i64 0), (.int .i64 10000)]) Tryd_C27 ⟨rfl, rfl, rfl, trivial⟩) (M.spec_l01In_ok _ a0.Points 0 10000 hx282) ?_))
   rintro e283 wd284 ⟨rfl, hF285⟩
   refine ⟨_, rfl, ?_⟩
   have hL := hL.pushAll hF285
   simp only [lA, lB, lC, lD] at hL
   refine OW.cons (OP.yes' rfl rfl rfl (OP.val (v := (.bool (!x281))) rfl (x_not rfl) ?_))
   refine OV (.bool (!x281)) rfl (x_pickF' rfl rfl rfl) ?_
   refine OW.nil ?_
   exact ⟨!x281, hm, ⟨f22, rfl, hL⟩⟩
 intro s_j2 F37 wd38 hJ hm
 unfold M.spec_RedressText_j2 at hm
 obtain ⟨f39, f40, hL⟩ := hJ
 refine CW.condM (t := s_j2) f40 hm (fun hb41 hm => ?_) (fun hb41 hm => ?_)
 · refine CSR ?_
   refine OV (.string (⟨#[]⟩ : ByteArray)) rfl (x_assign) ?_
   refine OW.nil ?_
   refine CW.ret ?_
   obtain rfl := Option.some.inj hm
   exact RR1 rfl rfl ⟨rfl, hL.fresh 1 rfl [] (by decide) (by decide) rfl⟩
 refine CW.skip ?_
 refine CW.seq ?_
 refine CW.drawH (fun w' => Hp w0 [Ent.blk b2 25 #[(.int .i64 a0.Race), (.int .i64 a0.Boat), (.int .i64 a0.Kind), (.int .i64 a0.Points)], Ent.snap w0 w0.heap.size] w') Tryd_mixed ?_
 have hL := hL.call (Mod.drew _)
 have hS := (hL.sel [0, 1] (by decide) rfl)
 refine DH.take 0 rfl (by kernel_rfl) (by kernel_rfl) (by kernel_rfl) rfl rfl hS (YH.val (v := (.pointer (some ⟨b2, 0, none⟩))) (fun w' hS' => x_fieldAddr (fsz := 1) 0 0 0 U25 rfl Tryd_T2 rfl f39 rfl)) ?_
 have hS := (hL.sel [0, 1] (by decide) rfl)
 refine DH.take 1 rfl (by kernel_rfl) (by kernel_rfl) (by kernel_rfl) rfl rfl hS (YH.val (v := (.int .i64 a0.Race)) (fun w' hS' => x_load1 U2 rfl rfl (hS'.cellB 0 rfl rfl))) ?_
 have hS := (hL.sel [0, 1] (by decide) rfl)
 refine DH.take 4 rfl (by kernel_rfl) (by kernel_rfl) (by kernel_rfl) rfl rfl hS (YH.val (v := (.pointer (some ⟨b2, 1, none⟩))) (fun w' hS' => x_fieldAddr (fsz := 1) 0 1 1 U25 rfl Tryd_T2 rfl f39 rfl)) ?_
 have hS := (hL.sel [0, 1] (by decide) rfl)
 refine DH.take 5 rfl (by kernel_rfl) (by kernel_rfl) (by kernel_rfl) rfl rfl hS (YH.val (v := (.int .i64 a0.Boat)) (fun w' hS' => x_load1 U2 rfl rfl (hS'.cellB 0 rfl rfl))) ?_
 have hS := (hL.sel [0, 1] (by decide) rfl)
 refine DH.take 10 rfl (by kernel_rfl) (by kernel_rfl) (by kernel_rfl) rfl rfl hS (YH.val (v := (.pointer (some ⟨b2, 2, none⟩))) (fun w' hS' => x_fieldAddr (fsz := 1) 0 2 2 U25 rfl Tryd_T2 rfl f39 rfl)) ?_
 have hS := (hL.sel [0, 1] (by decide) rfl)
 refine DH.take 11 rfl (by kernel_rfl) (by kernel_rfl) (by kernel_rfl) rfl rfl hS (YH.val (v := (.int .i64 a0.Kind)) (fun w' hS' => x_load1 U2 rfl rfl (hS'.cellB 0 rfl rfl))) ?_
 have hS := (hL.sel [0, 1] (by decide) rfl)
 refine DH.take 12 rfl (by kernel_rfl) (by kernel_rfl) (by kernel_rfl) rfl rfl hS (YH.val (v := (.int .i64 (w64 (a0.Kind - 1)))) (fun w' hS' => x_sub rfl rfl)) ?_
 obtain ⟨x66, hx67, hm⟩ := bndE hm
 obtain ⟨hc71, hm⟩ := chkE hm
 obtain ⟨x72, hx73, hm⟩ := bndE hm
 obtain ⟨hc77, hm⟩ := chkE hm
 obtain ⟨hc78, hm⟩ := chkE hm
 obtain ⟨x82, ha83, hm⟩ := bndE hm
 obtain ⟨hc89, hm⟩ := chkE hm
 refine DH.node (listed' := (bma 17 131071)) (fuel' := 0) (fun (F : Fr) (w : World) => ∃ (v140 : Value) (S141 : Nat → Prop), F 1 = (.pointer (some ⟨b2, 0, none⟩)) ∧ F 3 = (.string ((((x66 ++ (⟨#[32]⟩ : ByteArray)) ++ x72) ++ (⟨#[32]⟩ : ByteArray)) ++ x82)) ∧ Hp w0 [Ent.own 9 S141 v140 ([(⟨#[97, 108, 108]⟩ : ByteArray), (⟨#[98, 101, 102, 111, 114, 101]⟩ : ByteArray), (⟨#[112, 111, 105, 110, 116, 115]⟩ : ByteArray)] : List ByteArray), Ent.blk b2 25 #[(.int .i64 a0.Race), (.int .i64 a0.Boat), (.int .i64 a0.Kind), (.int .i64 a0.Points)], Ent.snap w0 w0.heap.size] w) ?_ (fun hN132 => ?_)
 · intro F161 wd162 hJ
   obtain ⟨v140, S141, f163, f164, hL⟩ := hJ
   refine DH.done (by kernel_rfl) ?_
   refine CW.seqJ (fun (s_j3 : ByteArray) (F : Fr) (w : World) => F 3 = (.string s_j3) ∧ Hp w0 [Ent.blk b2 25 #[(.int .i64 a0.Race), (.int .i64 a0.Boat), (.int .i64 a0.Kind), (.int .i64 a0.Points)], Ent.snap w0 w0.heap.size] w) (fun s_j3 => M.spec_RedressText_j3 s_j3 = some r) ?_ ?_
   · refine CSR ?_
     refine OV (.pointer (some ⟨b2, 2, none⟩)) rfl (x_fieldAddr (fsz := 1) 0 2 2 U25 rfl Tryd_T2 rfl f163 rfl) ?_
     refine OV (.int .i64 a0.Kind) rfl (x_load1 U2 rfl rfl (hL.cellB 1 rfl rfl)) ?_
     refine OV (.bool (a0.Kind == 3)) rfl (x_eql rfl rfl) ?_
     refine OW.nil ?_
     refine CW.condM (t := a0.Kind == 3) rfl hm (fun hb176 hm => ?_) (fun hb176 hm => ?_)
     · refine CW.regionL ?_
       refine OV (.string ((((x66 ++ (⟨#[32]⟩ : ByteArray)) ++ x72) ++ (⟨#[32]⟩ : ByteArray)) ++ x82)) rfl (x_mv f164) ?_
       obtain ⟨hc177, hm⟩ := chkE hm
       refine OV (.string (((((x66 ++ (⟨#[32]⟩ : ByteArray)) ++ x72) ++ (⟨#[32]⟩ : ByteArray)) ++ x82) ++ (⟨#[32]⟩ : ByteArray))) rfl (x_addT rfl rfl hc177) ?_
       refine OV (.pointer (some ⟨b2, 3, none⟩)) rfl (x_fieldAddr (fsz := 1) 0 3 3 U25 rfl Tryd_T2 rfl f163 rfl) ?_
       refine OV (.int .i64 a0.Points) rfl (x_load1 U2 rfl rfl (hL.cellB 1 rfl rfl)) ?_
       obtain ⟨x178, hx179, hm⟩ := bndE hm
       refine OW.cons (OP.call rfl (x_call (vs := [(.int .i64 a0.Points)]) Tryd_C28 ⟨rfl, trivial⟩) (M.spec_l26Number_ok _ a0.Points hx179) ?_)
       rintro e180 wd181 ⟨rfl, hF182⟩
       refine ⟨_, rfl, ?_⟩
       have hL := hL.pushAll hF182
       simp only [lA, lB, lC, lD] at hL
       obtain ⟨hc183, hm⟩ := chkE hm
       refine OV (.string ((((((x66 ++ (⟨#[32]⟩ : ByteArray)) ++ x72) ++ (⟨#[32]⟩ : ByteArray)) ++ x82) ++ (⟨#[32]⟩ : ByteArray)) ++ x178)) rfl (x_addT rfl rfl hc183) ?_
       refine OV (.string ((((((x66 ++ (⟨#[32]⟩ : ByteArray)) ++ x72) ++ (⟨#[32]⟩ : ByteArray)) ++ x82) ++ (⟨#[32]⟩ : ByteArray)) ++ x178)) rfl (x_assign) ?_
       refine OW.nil ?_
       have hL := hL.sel [1, 2] (by decide) rfl
       exact ⟨(((((x66 ++ (⟨#[32]⟩ : ByteArray)) ++ x72) ++ (⟨#[32]⟩ : ByteArray)) ++ x82) ++ (⟨#[32]⟩ : ByteArray)) ++ x178, hm, ⟨rfl, hL⟩⟩
     refine CW.skip ?_
     have hL := hL.sel [1, 2] (by decide) rfl
     exact ⟨(((x66 ++ (⟨#[32]⟩ : ByteArray)) ++ x72) ++ (⟨#[32]⟩ : ByteArray)) ++ x82, hm, ⟨f164, hL⟩⟩
   intro s_j3 F173 wd174 hJ hm
   unfold M.spec_RedressText_j3 at hm
   obtain ⟨f175, hL⟩ := hJ
   refine CSR ?_
   refine OV (.string s_j3) rfl (x_mv f175) ?_
   refine OV (.string s_j3) rfl (x_assign) ?_
   refine OW.nil ?_
   refine CW.ret ?_
   obtain rfl := Option.some.inj hm
   exact RR1 rfl rfl ⟨rfl, hL.fresh 1 rfl [] (by decide) (by decide) rfl⟩
 refine DH.node (listed' := (bma 17 16383)) (fuel' := 3) (fun (F : Fr) (w : World) => ∃ (v142 : Value) (S143 : Nat → Prop) (b144 : Nat) (q145 : Nat), IxAddr v142 (GoT.sz ByteArray) (w64 (a0.Kind - 1)) b144 q145 ∧ F 1 = (.pointer (some ⟨b2, 0, none⟩)) ∧ F 42 = (.string (((x66 ++ (⟨#[32]⟩ : ByteArray)) ++ x72) ++ (⟨#[32]⟩ : ByteArray))) ∧ F 47 = (.pointer (some ⟨b144, q145, none⟩)) ∧ Hp w0 [Ent.own 9 S143 v142 ([(⟨#[97, 108, 108]⟩ : ByteArray), (⟨#[98, 101, 102, 111, 114, 101]⟩ : ByteArray), (⟨#[112, 111, 105, 110, 116, 115]⟩ : ByteArray)] : List ByteArray), Ent.blk b2 25 #[(.int .i64 a0.Race), (.int .i64 a0.Boat), (.int .i64 a0.Kind), (.int .i64 a0.Points)], Ent.snap w0 w0.heap.size] w) ?_ (fun hN133 => ?_)
 · intro F184 wd185 hJ
   obtain ⟨v142, S143, b144, q145, hix146, f186, f187, f188, hL⟩ := hJ
   obtain ⟨_, ha103⟩ := idxE ha83
   refine DH.only 14 rfl (by kernel_rfl) (OP.val (v := (.string x82)) rfl (x_load1 U9 rfl f188 (rdF_cells (hL.rdO 0 rfl) hix146 ha103 0 _ rfl)) ?_)
   refine ⟨(hL.sel [1, 2] (by decide) rfl), ?_⟩
   have hS := (hL.sel [1, 2] (by decide) rfl)
   refine DH.take 15 rfl (by kernel_rfl) (by kernel_rfl) (by kernel_rfl) rfl rfl hS (YH.val (v := (.string ((((x66 ++ (⟨#[32]⟩ : ByteArray)) ++ x72) ++ (⟨#[32]⟩ : ByteArray)) ++ x82))) (fun w' hS' => x_addT f187 rfl hc89)) ?_
   have hS := (hL.sel [1, 2] (by decide) rfl)
   refine DH.take 16 rfl (by kernel_rfl) (by kernel_rfl) (by kernel_rfl) rfl rfl hS (YH.val (v := (.string ((((x66 ++ (⟨#[32]⟩ : ByteArray)) ++ x72) ++ (⟨#[32]⟩ : ByteArray)) ++ x82))) (fun w' hS' => x_assign)) ?_
   exact DH.relist (listed' := (bma 17 131071)) (by kernel_rfl) (hN132 _ _ ⟨v142, S143, f186, rfl, hL⟩)
 refine DH.node (listed' := (bma 17 7679)) (fuel' := 5) (fun (F : Fr) (w : World) => F 1 = (.pointer (some ⟨b2, 0, none⟩)) ∧ F 42 = (.string (((x66 ++ (⟨#[32]⟩ : ByteArray)) ++ x72) ++ (⟨#[32]⟩ : ByteArray))) ∧ F 46 = (.int .i64 (w64 (a0.Kind - 1))) ∧ Hp w0 [Ent.blk b2 25 #[(.int .i64 a0.Race), (.int .i64 a0.Boat), (.int .i64 a0.Kind), (.int .i64 a0.Points)], Ent.snap w0 w0.heap.size] w) ?_ (fun hN134 => ?_)
 · intro F189 wd190 hJ
   obtain ⟨f191, f192, f193, hL⟩ := hJ
   refine DH.only 9 rfl (by kernel_rfl) (S_lit ([(⟨#[97, 108, 108]⟩ : ByteArray), (⟨#[98, 101, 102, 111, 114, 101]⟩ : ByteArray), (⟨#[112, 111, 105, 110, 116, 115]⟩ : ByteArray)] : List ByteArray) hL U60 Tryd_T9 rfl (by decide) (by first | (simp [Instr.fill, madeCells, Value.cells, ev, upd, Flat.enc, Flat.sz]; done) | rfl | kernel_rfl) rfl rfl ?_)
   intro wd194 v195 S196 hL
   refine ⟨(hL.sel [1, 2] (by decide) rfl), ?_⟩
   have hS := (hL.sel [1, 2] (by decide) rfl)
   obtain ⟨hz197, ha201⟩ := idxE ha83
   obtain ⟨b198, q199, hix200⟩ := rdL_ix (hL.rdO 0 rfl) hz197 ha201
   refine DH.take 13 rfl (by kernel_rfl) (by kernel_rfl) (by kernel_rfl) rfl rfl hS (YH.val (v := (.pointer (some ⟨b198, q199, none⟩))) (fun w' hS' => x_ix U60 Tryd_T9 rfl f193 hix200)) ?_
   exact DH.relist (listed' := (bma 17 16383)) (by kernel_rfl) (hN133 _ _ ⟨v195, S196, b198, q199, hix200, f191, f192, rfl, hL⟩)
 refine DH.node (listed' := (bma 17 32319)) (fuel' := 5) (fun (F : Fr) (w : World) => ∃ (v147 : Value) (S148 : Nat → Prop), F 1 = (.pointer (some ⟨b2, 0, none⟩)) ∧ F 37 = (.string (x66 ++ (⟨#[32]⟩ : ByteArray))) ∧ F 39 = (.int .i64 a0.Boat) ∧ F 48 = (.string x82) ∧ Hp w0 [Ent.own 9 S148 v147 ([(⟨#[97, 108, 108]⟩ : ByteArray), (⟨#[98, 101, 102, 111, 114, 101]⟩ : ByteArray), (⟨#[112, 111, 105, 110, 116, 115]⟩ : ByteArray)] : List ByteArray), Ent.blk b2 25 #[(.int .i64 a0.Race), (.int .i64 a0.Boat), (.int .i64 a0.Kind), (.int .i64 a0.Points)], Ent.snap w0 w0.heap.size] w) ?_ (fun hN135 => ?_)
 · intro F202 wd203 hJ
   obtain ⟨v147, S148, f204, f205, f206, f207, hL⟩ := hJ
   refine DH.only 6 rfl (by kernel_rfl) (OP.call rfl (x_call (vs := [(.int .i64 a0.Boat)]) Tryd_C28 ⟨f206, trivial⟩) (M.spec_l26Number_ok _ a0.Boat hx73) ?_)
   rintro e208 wd209 ⟨rfl, hF210⟩
   refine ⟨_, rfl, ?_⟩
   have hL := hL.pushAll hF210
   simp only [lA, lB, lC, lD] at hL
   refine ⟨(hL.sel [1, 2] (by decide) rfl), ?_⟩
   have hS := (hL.sel [1, 2] (by decide) rfl)
   refine DH.take 7 rfl (by kernel_rfl) (by kernel_rfl) (by kernel_rfl) rfl rfl hS (YH.val (v := (.string ((x66 ++ (⟨#[32]⟩ : ByteArray)) ++ x72))) (fun w' hS' => x_addT f205 rfl hc77)) ?_
   have hS := (hL.sel [1, 2] (by decide) rfl)
   refine DH.take 8 rfl (by kernel_rfl) (by kernel_rfl) (by kernel_rfl) rfl rfl hS (YH.val (v := (.string (((x66 ++ (⟨#[32]⟩ : ByteArray)) ++ x72) ++ (⟨#[32]⟩ : ByteArray)))) (fun w' hS' => x_addT rfl rfl hc78)) ?_
   have hS := (hL.sel [1, 2] (by decide) rfl)
   refine DH.take 15 rfl (by kernel_rfl) (by kernel_rfl) (by kernel_rfl) rfl rfl hS (YH.val (v := (.string ((((x66 ++ (⟨#[32]⟩ : ByteArray)) ++ x72) ++ (⟨#[32]⟩ : ByteArray)) ++ x82))) (fun w' hS' => x_addT rfl f207 hc89)) ?_
   have hS := (hL.sel [1, 2] (by decide) rfl)
   refine DH.take 16 rfl (by kernel_rfl) (by kernel_rfl) (by kernel_rfl) rfl rfl hS (YH.val (v := (.string ((((x66 ++ (⟨#[32]⟩ : ByteArray)) ++ x72) ++ (⟨#[32]⟩ : ByteArray)) ++ x82))) (fun w' hS' => x_assign)) ?_
   exact DH.relist (listed' := (bma 17 131071)) (by kernel_rfl) (hN132 _ _ ⟨v147, S148, f204, rfl, hL⟩)
 refine DH.node (listed' := (bma 17 15935)) (fuel' := 6) (fun (F : Fr) (w : World) => ∃ (v149 : Value) (S150 : Nat → Prop) (b151 : Nat) (q152 : Nat), IxAddr v149 (GoT.sz ByteArray) (w64 (a0.Kind - 1)) b151 q152 ∧ F 1 = (.pointer (some ⟨b2, 0, none⟩)) ∧ F 37 = (.string (x66 ++ (⟨#[32]⟩ : ByteArray))) ∧ F 39 = (.int .i64 a0.Boat) ∧ F 47 = (.pointer (some ⟨b151, q152, none⟩)) ∧ Hp w0 [Ent.own 9 S150 v149 ([(⟨#[97, 108, 108]⟩ : ByteArray), (⟨#[98, 101, 102, 111, 114, 101]⟩ : ByteArray), (⟨#[112, 111, 105, 110, 116, 115]⟩ : ByteArray)] : List ByteArray), Ent.blk b2 25 #[(.int .i64 a0.Race), (.int .i64 a0.Boat), (.int .i64 a0.Kind), (.int .i64 a0.Points)], Ent.snap w0 w0.heap.size] w) ?_ (fun hN136 => ?_)
 · intro F211 wd212 hJ
   obtain ⟨v149, S150, b151, q152, hix153, f213, f214, f215, f216, hL⟩ := hJ
   obtain ⟨_, ha111⟩ := idxE ha83
   refine DH.all (rs := [6, 14]) (by kernel_rfl) (by simp) ?_
   intro i217 hi218
   simp only [List.mem_cons, List.not_mem_nil, or_false] at hi218
   rcases hi218 with rfl | rfl
   · refine ⟨_, rfl, ?_⟩
     refine OP.call rfl (x_call (vs := [(.int .i64 a0.Boat)]) Tryd_C28 ⟨f215, trivial⟩) (M.spec_l26Number_ok _ a0.Boat hx73) ?_
     rintro e219 wd220 ⟨rfl, hF221⟩
     refine ⟨_, rfl, ?_⟩
     have hL := hL.pushAll hF221
     simp only [lA, lB, lC, lD] at hL
     refine ⟨(hL.sel [1, 2] (by decide) rfl), ?_⟩
     have hS := (hL.sel [1, 2] (by decide) rfl)
     refine DH.take 7 rfl (by kernel_rfl) (by kernel_rfl) (by kernel_rfl) rfl rfl hS (YH.val (v := (.string ((x66 ++ (⟨#[32]⟩ : ByteArray)) ++ x72))) (fun w' hS' => x_addT f214 rfl hc77)) ?_
     have hS := (hL.sel [1, 2] (by decide) rfl)
     refine DH.take 8 rfl (by kernel_rfl) (by kernel_rfl) (by kernel_rfl) rfl rfl hS (YH.val (v := (.string (((x66 ++ (⟨#[32]⟩ : ByteArray)) ++ x72) ++ (⟨#[32]⟩ : ByteArray)))) (fun w' hS' => x_addT rfl rfl hc78)) ?_
     exact DH.relist (listed' := (bma 17 16383)) (by kernel_rfl) (hN133 _ _ ⟨v149, S150, b151, q152, hix153, f213, rfl, f216, hL⟩)
   refine ⟨_, rfl, ?_⟩
   refine OP.val (v := (.string x82)) rfl (x_load1 U9 rfl f216 (rdF_cells (hL.rdO 0 rfl) hix153 ha111 0 _ rfl)) ?_
   refine ⟨(hL.sel [1, 2] (by decide) rfl), ?_⟩
   exact DH.relist (listed' := (bma 17 32319)) (by kernel_rfl) (hN135 _ _ ⟨v149, S150, f213, f214, f215, rfl, hL⟩)
 refine DH.node (listed' := (bma 17 32307)) (fuel' := 7) (fun (F : Fr) (w : World) => ∃ (v154 : Value) (S155 : Nat → Prop), F 1 = (.pointer (some ⟨b2, 0, none⟩)) ∧ F 35 = (.int .i64 a0.Race) ∧ F 39 = (.int .i64 a0.Boat) ∧ F 48 = (.string x82) ∧ Hp w0 [Ent.own 9 S155 v154 ([(⟨#[97, 108, 108]⟩ : ByteArray), (⟨#[98, 101, 102, 111, 114, 101]⟩ : ByteArray), (⟨#[112, 111, 105, 110, 116, 115]⟩ : ByteArray)] : List ByteArray), Ent.blk b2 25 #[(.int .i64 a0.Race), (.int .i64 a0.Boat), (.int .i64 a0.Kind), (.int .i64 a0.Points)], Ent.snap w0 w0.heap.size] w) ?_ (fun hN137 => ?_)
 · intro F222 wd223 hJ
   obtain ⟨v154, S155, f224, f225, f226, f227, hL⟩ := hJ
   refine DH.only 2 rfl (by kernel_rfl) (OP.call rfl (x_call (vs := [(.int .i64 a0.Race)]) Tryd_C28 ⟨f225, trivial⟩) (M.spec_l26Number_ok _ a0.Race hx67) ?_)
   rintro e228 wd229 ⟨rfl, hF230⟩
   refine ⟨_, rfl, ?_⟩
   have hL := hL.pushAll hF230
   simp only [lA, lB, lC, lD] at hL
   refine ⟨(hL.sel [1, 2] (by decide) rfl), ?_⟩
   have hS := (hL.sel [1, 2] (by decide) rfl)
   refine DH.take 3 rfl (by kernel_rfl) (by kernel_rfl) (by kernel_rfl) rfl rfl hS (YH.val (v := (.string (x66 ++ (⟨#[32]⟩ : ByteArray)))) (fun w' hS' => x_addT rfl rfl hc71)) ?_
   exact DH.relist (listed' := (bma 17 32319)) (by kernel_rfl) (hN135 _ _ ⟨v154, S155, f224, rfl, f226, f227, hL⟩)
 refine DH.node (listed' := (bma 17 7231)) (fuel' := 8) (fun (F : Fr) (w : World) => F 1 = (.pointer (some ⟨b2, 0, none⟩)) ∧ F 37 = (.string (x66 ++ (⟨#[32]⟩ : ByteArray))) ∧ F 39 = (.int .i64 a0.Boat) ∧ F 46 = (.int .i64 (w64 (a0.Kind - 1))) ∧ Hp w0 [Ent.blk b2 25 #[(.int .i64 a0.Race), (.int .i64 a0.Boat), (.int .i64 a0.Kind), (.int .i64 a0.Points)], Ent.snap w0 w0.heap.size] w) ?_ (fun hN138 => ?_)
 · intro F231 wd232 hJ
   obtain ⟨f233, f234, f235, f236, hL⟩ := hJ
   refine DH.all (rs := [6, 9]) (by kernel_rfl) (by simp) ?_
   intro i237 hi238
   simp only [List.mem_cons, List.not_mem_nil, or_false] at hi238
   rcases hi238 with rfl | rfl
   · refine ⟨_, rfl, ?_⟩
     refine OP.call rfl (x_call (vs := [(.int .i64 a0.Boat)]) Tryd_C28 ⟨f235, trivial⟩) (M.spec_l26Number_ok _ a0.Boat hx73) ?_
     rintro e239 wd240 ⟨rfl, hF241⟩
     refine ⟨_, rfl, ?_⟩
     have hL := hL.pushAll hF241
     simp only [lA, lB, lC, lD] at hL
     refine ⟨(hL.sel [0, 1] (by decide) rfl), ?_⟩
     have hS := (hL.sel [0, 1] (by decide) rfl)
     refine DH.take 7 rfl (by kernel_rfl) (by kernel_rfl) (by kernel_rfl) rfl rfl hS (YH.val (v := (.string ((x66 ++ (⟨#[32]⟩ : ByteArray)) ++ x72))) (fun w' hS' => x_addT f234 rfl hc77)) ?_
     have hS := (hL.sel [0, 1] (by decide) rfl)
     refine DH.take 8 rfl (by kernel_rfl) (by kernel_rfl) (by kernel_rfl) rfl rfl hS (YH.val (v := (.string (((x66 ++ (⟨#[32]⟩ : ByteArray)) ++ x72) ++ (⟨#[32]⟩ : ByteArray)))) (fun w' hS' => x_addT rfl rfl hc78)) ?_
     exact DH.relist (listed' := (bma 17 7679)) (by kernel_rfl) (hN134 _ _ ⟨f233, rfl, f236, hL⟩)
   refine ⟨_, rfl, ?_⟩
   refine S_lit ([(⟨#[97, 108, 108]⟩ : ByteArray), (⟨#[98, 101, 102, 111, 114, 101]⟩ : ByteArray), (⟨#[112, 111, 105, 110, 116, 115]⟩ : ByteArray)] : List ByteArray) hL U60 Tryd_T9 rfl (by decide) (by first | (simp [Instr.fill, madeCells, Value.cells, ev, upd, Flat.enc, Flat.sz]; done) | rfl | kernel_rfl) rfl rfl ?_
   intro wd242 v243 S244 hL
   refine ⟨(hL.sel [1, 2] (by decide) rfl), ?_⟩
   have hS := (hL.sel [1, 2] (by decide) rfl)
   obtain ⟨hz245, ha249⟩ := idxE ha83
   obtain ⟨b246, q247, hix248⟩ := rdL_ix (hL.rdO 0 rfl) hz245 ha249
   refine DH.take 13 rfl (by kernel_rfl) (by kernel_rfl) (by kernel_rfl) rfl rfl hS (YH.val (v := (.pointer (some ⟨b246, q247, none⟩))) (fun w' hS' => x_ix U60 Tryd_T9 rfl f236 hix248)) ?_
   exact DH.relist (listed' := (bma 17 15935)) (by kernel_rfl) (hN136 _ _ ⟨v243, S244, b246, q247, hix248, f233, f234, f235, rfl, hL⟩)
 refine DH.node (listed' := (bma 17 15923)) (fuel' := 8) (fun (F : Fr) (w : World) => ∃ (v156 : Value) (S157 : Nat → Prop) (b158 : Nat) (q159 : Nat), IxAddr v156 (GoT.sz ByteArray) (w64 (a0.Kind - 1)) b158 q159 ∧ F 1 = (.pointer (some ⟨b2, 0, none⟩)) ∧ F 35 = (.int .i64 a0.Race) ∧ F 39 = (.int .i64 a0.Boat) ∧ F 47 = (.pointer (some ⟨b158, q159, none⟩)) ∧ Hp w0 [Ent.own 9 S157 v156 ([(⟨#[97, 108, 108]⟩ : ByteArray), (⟨#[98, 101, 102, 111, 114, 101]⟩ : ByteArray), (⟨#[112, 111, 105, 110, 116, 115]⟩ : ByteArray)] : List ByteArray), Ent.blk b2 25 #[(.int .i64 a0.Race), (.int .i64 a0.Boat), (.int .i64 a0.Kind), (.int .i64 a0.Points)], Ent.snap w0 w0.heap.size] w) ?_ (fun hN139 => ?_)
 · intro F250 wd251 hJ
   obtain ⟨v156, S157, b158, q159, hix160, f252, f253, f254, f255, hL⟩ := hJ
   obtain ⟨_, ha125⟩ := idxE ha83
   refine DH.all (rs := [2, 14]) (by kernel_rfl) (by simp) ?_
   intro i256 hi257
   simp only [List.mem_cons, List.not_mem_nil, or_false] at hi257
   rcases hi257 with rfl | rfl
   · refine ⟨_, rfl, ?_⟩
     refine OP.call rfl (x_call (vs := [(.int .i64 a0.Race)]) Tryd_C28 ⟨f253, trivial⟩) (M.spec_l26Number_ok _ a0.Race hx67) ?_
     rintro e258 wd259 ⟨rfl, hF260⟩
     refine ⟨_, rfl, ?_⟩
     have hL := hL.pushAll hF260
     simp only [lA, lB, lC, lD] at hL
     refine ⟨(hL.sel [1, 2] (by decide) rfl), ?_⟩
     have hS := (hL.sel [1, 2] (by decide) rfl)
     refine DH.take 3 rfl (by kernel_rfl) (by kernel_rfl) (by kernel_rfl) rfl rfl hS (YH.val (v := (.string (x66 ++ (⟨#[32]⟩ : ByteArray)))) (fun w' hS' => x_addT rfl rfl hc71)) ?_
     exact DH.relist (listed' := (bma 17 15935)) (by kernel_rfl) (hN136 _ _ ⟨v156, S157, b158, q159, hix160, f252, rfl, f254, f255, hL⟩)
   refine ⟨_, rfl, ?_⟩
   refine OP.val (v := (.string x82)) rfl (x_load1 U9 rfl f255 (rdF_cells (hL.rdO 0 rfl) hix160 ha125 0 _ rfl)) ?_
   refine ⟨(hL.sel [1, 2] (by decide) rfl), ?_⟩
   exact DH.relist (listed' := (bma 17 32307)) (by kernel_rfl) (hN137 _ _ ⟨v156, S157, f252, f253, f254, rfl, hL⟩)
 refine DH.all (rs := [2, 9]) (by kernel_rfl) (by simp) ?_
 intro i261 hi262
 simp only [List.mem_cons, List.not_mem_nil, or_false] at hi262
 rcases hi262 with rfl | rfl
 · refine ⟨_, rfl, ?_⟩
   refine OP.call rfl (x_call (vs := [(.int .i64 a0.Race)]) Tryd_C28 ⟨rfl, trivial⟩) (M.spec_l26Number_ok _ a0.Race hx67) ?_
   rintro e263 wd264 ⟨rfl, hF265⟩
   refine ⟨_, rfl, ?_⟩
   have hL := hL.pushAll hF265
   simp only [lA, lB, lC, lD] at hL
   refine ⟨(hL.sel [0, 1] (by decide) rfl), ?_⟩
   have hS := (hL.sel [0, 1] (by decide) rfl)
   refine DH.take 3 rfl (by kernel_rfl) (by kernel_rfl) (by kernel_rfl) rfl rfl hS (YH.val (v := (.string (x66 ++ (⟨#[32]⟩ : ByteArray)))) (fun w' hS' => x_addT rfl rfl hc71)) ?_
   exact DH.relist (listed' := (bma 17 7231)) (by kernel_rfl) (hN138 _ _ ⟨f39, rfl, rfl, rfl, hL⟩)
 refine ⟨_, rfl, ?_⟩
 refine S_lit ([(⟨#[97, 108, 108]⟩ : ByteArray), (⟨#[98, 101, 102, 111, 114, 101]⟩ : ByteArray), (⟨#[112, 111, 105, 110, 116, 115]⟩ : ByteArray)] : List ByteArray) hL U60 Tryd_T9 rfl (by decide) (by first | (simp [Instr.fill, madeCells, Value.cells, ev, upd, Flat.enc, Flat.sz]; done) | rfl | kernel_rfl) rfl rfl ?_
 intro wd266 v267 S268 hL
 refine ⟨(hL.sel [1, 2] (by decide) rfl), ?_⟩
 have hS := (hL.sel [1, 2] (by decide) rfl)
 obtain ⟨hz269, ha273⟩ := idxE ha83
 obtain ⟨b270, q271, hix272⟩ := rdL_ix (hL.rdO 0 rfl) hz269 ha273
 refine DH.take 13 rfl (by kernel_rfl) (by kernel_rfl) (by kernel_rfl) rfl rfl hS (YH.val (v := (.pointer (some ⟨b270, q271, none⟩))) (fun w' hS' => x_ix U60 Tryd_T9 rfl rfl hix272)) ?_
 exact DH.relist (listed' := (bma 17 15923)) (by kernel_rfl) (hN139 _ _ ⟨v267, S268, b270, q271, hix272, f39, rfl, rfl, rfl, hL⟩)

theorem M.impl_within_ok (w0 : World) (a0 : Int) (a1 : Int) (a2 : Int) {r : Bool} (hm : M.impl_within a0 a1 a2 = some r) :
    Calls Tryd.prog 29 #[(.int .i64 a0), (.int .i64 a1), (.int .i64 a2)] w0 fun e w' => e = .returned (.bool r) ∧ Fresh w0 w' [] := by
 unfold M.impl_within at hm
 refine calls_CW (args := [(.int .i64 a0), (.int .i64 a1), (.int .i64 a2)]) Tryd.func29 rfl rfl rfl ?_
 have hL := Hp.start w0
 refine CSR ?_
 refine OV (.bool false) rfl (x_assign) ?_
 refine OW.nil ?_
 refine CW.seqJ (fun (s_j1 : Bool) (F : Fr) (w : World) => F 6 = (.bool s_j1) ∧ Hp w0 [Ent.snap w0 w0.heap.size] w) (fun s_j1 => M.impl_within_j1 s_j1 = some r) ?_ ?_
 · refine CW.regionL ?_
   refine OV (.int .i64 a0) rfl (x_move) ?_
   refine OV (.int .i64 a1) rfl (x_move) ?_
   refine OV (.bool (decide (a1 ≤ a0))) rfl (x_geq rfl rfl) ?_
   refine OV (.bool (decide (a1 ≤ a0))) rfl (x_move) ?_
   refine ifB_elim hm (fun hb5 hm => ?_) (fun hb5 hm => ?_)
   · refine OW.cons (OP.yes' rfl rfl hb5 (OP.val (v := (.int .i64 a0)) rfl (x_move) ?_))
     refine OW.cons (OP.yes' rfl rfl hb5 (OP.val (v := (.int .i64 a2)) rfl (x_move) ?_))
     refine OW.cons (OP.yes' rfl rfl hb5 (OP.val (v := (.bool (decide (a0 ≤ a2)))) rfl (x_leq rfl rfl) ?_))
     refine OV (.bool (decide (a0 ≤ a2))) rfl (x_pickT' rfl hb5 rfl) ?_
     refine OV (.bool (decide (a0 ≤ a2))) rfl (x_assign) ?_
     refine OW.nil ?_
     exact ⟨decide (a0 ≤ a2), hm, ⟨rfl, hL⟩⟩
   refine OW.cons (OP.no' rfl rfl hb5 rfl ?_)
   refine OW.cons (OP.no' rfl rfl hb5 rfl ?_)
   refine OW.cons (OP.no' rfl rfl hb5 rfl ?_)
   refine OV (.bool false) rfl (x_pickF' rfl hb5 rfl) ?_
   refine OV (.bool false) rfl (x_assign) ?_
   refine OW.nil ?_
   exact ⟨false, hm, ⟨rfl, hL⟩⟩
 intro s_j1 F2 wd3 hJ hm
 unfold M.impl_within_j1 at hm
 obtain ⟨f4, hL⟩ := hJ
 refine CW.ret ?_
 obtain rfl := Option.some.inj hm
 exact RR1 rfl f4 ⟨rfl, hL.fresh 0 rfl [] (by decide) (by decide) rfl⟩

theorem M.impl_isBoat_ok (w0 : World) (a0 : Int) {r : Bool} (hm : M.impl_isBoat a0 = some r) :
    Calls Tryd.prog 30 #[(.int .i64 a0)] w0 fun e w' => e = .returned (.bool r) ∧ Fresh w0 w' [] := by
 unfold M.impl_isBoat at hm
 refine calls_CW (args := [(.int .i64 a0)]) Tryd.func30 rfl rfl rfl ?_
 have hL := Hp.start w0
 refine CSR ?_
 refine OV (.bool false) rfl (x_assign) ?_
 refine ONR ?_
 refine OV (.int .i64 a0) rfl (x_move) ?_
 obtain ⟨x1, hx2, hm⟩ := bndE hm
 refine OW.cons (OP.call rfl (x_call (vs := [(.int .i64 a0), (.int .i64 0), (.int .i64 15)]) Tryd_C29 ⟨rfl, rfl, rfl, trivial⟩) (M.impl_within_ok _ a0 0 15 hx2) ?_)
 rintro e3 wd4 ⟨rfl, hF5⟩
 refine ⟨_, rfl, ?_⟩
 have hL := hL.pushAll hF5
 simp only [lA, lB, lC, lD] at hL
 refine OV (.bool x1) rfl (x_assign) ?_
 refine OW.nil ?_
 refine CW.ret ?_
 obtain rfl := Option.some.inj hm
 exact RR1 rfl rfl ⟨rfl, hL.fresh 0 rfl [] (by decide) (by decide) rfl⟩

theorem M.impl_isRedress_ok (w0 : World) (a0 : Redress) {r : Bool} (hm : M.impl_isRedress a0 = some r) :
    Calls Tryd.prog 31 #[(.agg #[(.int .i64 a0.Race), (.int .i64 a0.Boat), (.int .i64 a0.Kind), (.int .i64 a0.Points)])] w0 fun e w' => e = .returned (.bool r) ∧ Fresh w0 w' [] := by
 unfold M.impl_isRedress at hm
 refine calls_CW (args := [(.agg #[(.int .i64 a0.Race), (.int .i64 a0.Boat), (.int .i64 a0.Kind), (.int .i64 a0.Points)])]) Tryd.func31 rfl rfl rfl ?_
 have hL := Hp.start w0
 refine CSR ?_
 refine OW.cons (S_box (cs := #[(.int .i64 a0.Race), (.int .i64 a0.Boat), (.int .i64 a0.Kind), (.int .i64 a0.Points)]) hL rfl rfl rfl ?_)
 intro wd1 b2 hL
 refine OV (.bool false) rfl (x_assign) ?_
 refine ONS ?_
 refine CSR ?_
 refine OV (.pointer (some ⟨b2, 2, none⟩)) rfl (x_fieldAddr (fsz := 1) 0 2 2 U25 rfl Tryd_T2 rfl rfl rfl) ?_
 refine OV (.int .i64 a0.Kind) rfl (x_load1 U2 rfl rfl (hL.cellB 0 rfl rfl)) ?_
 refine OV (.bool (a0.Kind == 3)) rfl (x_eql rfl rfl) ?_
 refine OW.nil ?_
 refine CW.condM (t := a0.Kind == 3) rfl hm (fun hb3 hm => ?_) (fun hb3 hm => ?_)
 · refine CSR ?_
   refine OV (.pointer (some ⟨b2, 3, none⟩)) rfl (x_fieldAddr (fsz := 1) 0 3 3 U25 rfl Tryd_T2 rfl rfl rfl) ?_
   refine OV (.int .i64 a0.Points) rfl (x_load1 U2 rfl rfl (hL.cellB 0 rfl rfl)) ?_
   obtain ⟨x4, hx5, hm⟩ := bndE hm
   refine OW.cons (OP.call rfl (x_call (vs := [(.int .i64 a0.Points), (.int .i64 0), (.int .i64 10000)]) Tryd_C29 ⟨rfl, rfl, rfl, trivial⟩) (M.impl_within_ok _ a0.Points 0 10000 hx5) ?_)
   rintro e6 wd7 ⟨rfl, hF8⟩
   refine ⟨_, rfl, ?_⟩
   have hL := hL.pushAll hF8
   simp only [lA, lB, lC, lD] at hL
   refine OV (.bool x4) rfl (x_assign) ?_
   refine OW.nil ?_
   refine CW.ret ?_
   obtain rfl := Option.some.inj hm
   exact RR1 rfl rfl ⟨rfl, hL.fresh 1 rfl [] (by decide) (by decide) rfl⟩
 refine CW.skip ?_
 refine CW.seqJ (fun (s_j1 : Bool) (F : Fr) (w : World) => F 2 = (.bool s_j1) ∧ Hp w0 [Ent.blk b2 25 #[(.int .i64 a0.Race), (.int .i64 a0.Boat), (.int .i64 a0.Kind), (.int .i64 a0.Points)], Ent.snap w0 w0.heap.size] w) (fun s_j1 => M.impl_isRedress_j1 s_j1 = some r) ?_ ?_
 · refine CW.regionL ?_
   refine OV (.pointer (some ⟨b2, 2, none⟩)) rfl (x_fieldAddr (fsz := 1) 0 2 2 U25 rfl Tryd_T2 rfl rfl rfl) ?_
   refine OV (.int .i64 a0.Kind) rfl (x_load1 U2 rfl rfl (hL.cellB 0 rfl rfl)) ?_
   obtain ⟨x18, hx19, hm⟩ := bndE hm
   refine OW.cons (OP.call rfl (x_call (vs := [(.int .i64 a0.Kind), (.int .i64 1), (.int .i64 2)]) Tryd_C29 ⟨rfl, rfl, rfl, trivial⟩) (M.impl_within_ok _ a0.Kind 1 2 hx19) ?_)
   rintro e20 wd21 ⟨rfl, hF22⟩
   refine ⟨_, rfl, ?_⟩
   have hL := hL.pushAll hF22
   simp only [lA, lB, lC, lD] at hL
   refine OV (.bool x18) rfl (x_move) ?_
   refine ifB_elim hm (fun hb23 hm => ?_) (fun hb23 hm => ?_)
   · refine OW.cons (OP.yes' rfl rfl hb23 (OP.val (v := (.pointer (some ⟨b2, 3, none⟩))) rfl (x_fieldAddr (fsz := 1) 0 3 3 U25 rfl Tryd_T2 rfl rfl rfl) ?_))
     refine OW.cons (OP.yes' rfl rfl hb23 (OP.val (v := (.int .i64 a0.Points)) rfl (x_load1 U2 rfl rfl (hL.cellB 0 rfl rfl)) ?_))
     refine OW.cons (OP.yes' rfl rfl hb23 (OP.val (v := (.bool (a0.Points == 0))) rfl (x_eql rfl rfl) ?_))
     refine OV (.bool (a0.Points == 0)) rfl (x_pickT' rfl hb23 rfl) ?_
     refine OV (.bool (a0.Points == 0)) rfl (x_assign) ?_
     refine OW.nil ?_
     exact ⟨a0.Points == 0, hm, ⟨rfl, hL⟩⟩
   refine OW.cons (OP.no' rfl rfl hb23 rfl ?_)
   refine OW.cons (OP.no' rfl rfl hb23 rfl ?_)
   refine OW.cons (OP.no' rfl rfl hb23 rfl ?_)
   refine OV (.bool false) rfl (x_pickF' rfl hb23 rfl) ?_
   refine OV (.bool false) rfl (x_assign) ?_
   refine OW.nil ?_
   exact ⟨false, hm, ⟨rfl, hL⟩⟩
 intro s_j1 F15 wd16 hJ hm
 unfold M.impl_isRedress_j1 at hm
 obtain ⟨f17, hL⟩ := hJ
 refine CW.ret ?_
 obtain rfl := Option.some.inj hm
 exact RR1 rfl f17 ⟨rfl, hL.fresh 1 rfl [] (by decide) (by decide) rfl⟩

theorem M.strconv_FormatInt_ok (w0 : World) (htab : Lib.TabIs Tryd.prog w0 "internal/strconv.uint64pow10" .u64 Lib.pow10Tab) (a0 : Int) (a1 : Int) {r : ByteArray} (hm : M.strconv_FormatInt a0 a1 = some r) :
    Calls Tryd.prog 59 #[(.int .i64 a0), (.int .i64 a1)] w0 fun e w' => e = .returned (.string r) ∧ Fresh w0 w' [] := by
 unfold M.strconv_FormatInt at hm
 obtain ⟨⟨hb, h0, h1⟩, h2⟩ := chkE hm
 subst hb
 obtain rfl := Option.some.inj h2
 exact (Any.strconv_FormatInt_10 fmtLaid a0 h0 h1 w0 htab).mono fun e w' h => ⟨h.1, fresh_grow h.2⟩

theorem M.impl_text_ok (w0 : World) (htab : Lib.TabIs Tryd.prog w0 "internal/strconv.uint64pow10" .u64 Lib.pow10Tab) (a0 : Int) {r : ByteArray} (hm : M.impl_text a0 = some r) :
    Calls Tryd.prog 32 #[(.int .i64 a0)] w0 fun e w' => e = .returned (.string r) ∧ Fresh w0 w' [] := by
 unfold M.impl_text at hm
 refine calls_CW (args := [(.int .i64 a0)]) Tryd.func32 rfl rfl rfl ?_
 have hL := Hp.start w0
 refine CSR ?_
 refine OV (.string (⟨#[]⟩ : ByteArray)) rfl (x_assign) ?_
 refine ONR ?_
 refine OV (.int .i64 a0) rfl (x_move) ?_
 obtain ⟨x1, hx2, hm⟩ := bndE hm
 refine OW.cons (OP.call rfl (x_call (vs := [(.int .i64 a0), (.int .i64 10)]) Tryd_C59 ⟨rfl, rfl, trivial⟩) (M.strconv_FormatInt_ok _ (hL.tab 0 rfl rfl htab) a0 10 hx2) ?_)
 rintro e3 wd4 ⟨rfl, hF5⟩
 refine ⟨_, rfl, ?_⟩
 have hL := hL.pushAll hF5
 simp only [lA, lB, lC, lD] at hL
 refine OV (.string x1) rfl (x_assign) ?_
 refine OW.nil ?_
 refine CW.ret ?_
 obtain rfl := Option.some.inj hm
 exact RR1 rfl rfl ⟨rfl, hL.fresh 0 rfl [] (by decide) (by decide) rfl⟩

theorem M.impl_RedressText_ok (w0 : World) (htab : Lib.TabIs Tryd.prog w0 "internal/strconv.uint64pow10" .u64 Lib.pow10Tab) (a0 : Redress) {r : ByteArray} (hm : M.impl_RedressText a0 = some r) :
    Calls Tryd.prog 9 #[(.agg #[(.int .i64 a0.Race), (.int .i64 a0.Boat), (.int .i64 a0.Kind), (.int .i64 a0.Points)])] w0 fun e w' => e = .returned (.string r) ∧ Fresh w0 w' [] := by
 unfold M.impl_RedressText at hm
 refine calls_CW (args := [(.agg #[(.int .i64 a0.Race), (.int .i64 a0.Boat), (.int .i64 a0.Kind), (.int .i64 a0.Points)])]) Tryd.func9 rfl rfl rfl ?_
 have hL := Hp.start w0
 refine CSR ?_
 refine OW.cons (S_box (cs := #[(.int .i64 a0.Race), (.int .i64 a0.Boat), (.int .i64 a0.Kind), (.int .i64 a0.Points)]) hL rfl rfl rfl ?_)
 intro wd1 b2 hL
 refine OV (.string (⟨#[]⟩ : ByteArray)) rfl (x_assign) ?_
 refine ONR ?_
 refine OV (.agg #[(.string (⟨#[97, 108, 108]⟩ : ByteArray)), (.string (⟨#[98, 101, 102, 111, 114, 101]⟩ : ByteArray)), (.string (⟨#[112, 111, 105, 110, 116, 115]⟩ : ByteArray))]) rfl (x_buildA U61 Tryd_T61 Tryd_T9 (ps := [(0, (.string (⟨#[97, 108, 108]⟩ : ByteArray))), (1, (.string (⟨#[98, 101, 102, 111, 114, 101]⟩ : ByteArray))), (2, (.string (⟨#[112, 111, 105, 110, 116, 115]⟩ : ByteArray)))]) ⟨⟨rfl, rfl⟩, ⟨rfl, rfl⟩, ⟨rfl, rfl⟩, trivial⟩ (by first | rfl | kernel_rfl | simp [Instr.fill, cells_string])) ?_
 refine OW.cons (S_alloc (cs := #[(.string ByteArray.empty), (.string ByteArray.empty), (.string ByteArray.empty)]) hL Tryd_T61 rfl rfl ?_)
 intro wd3 b4 hL
 refine OW.cons (S_storeN (l := [(.string (⟨#[97, 108, 108]⟩ : ByteArray)), (.string (⟨#[98, 101, 102, 111, 114, 101]⟩ : ByteArray)), (.string (⟨#[112, 111, 105, 110, 116, 115]⟩ : ByteArray))]) (cs' := #[(.string (⟨#[97, 108, 108]⟩ : ByteArray)), (.string (⟨#[98, 101, 102, 111, 114, 101]⟩ : ByteArray)), (.string (⟨#[112, 111, 105, 110, 116, 115]⟩ : ByteArray))]) hL 0 rfl Tryd_T61 rfl rfl (List.forall_mem_cons.2 ⟨rfl, (List.forall_mem_cons.2 ⟨rfl, (List.forall_mem_cons.2 ⟨rfl, (fun _ h => by cases h)⟩)⟩)⟩) rfl (Nat.le_of_ble_eq_true rfl) rfl ?_)
 intro wd5 hL
 refine ONS ?_
 refine CW.seqJ (fun (s_j1 : Bool) (F : Fr) (w : World) => F 1 = (.pointer (some ⟨b2, 0, none⟩)) ∧ F 3 = (.pointer (some ⟨b4, 0, none⟩)) ∧ F 20 = (.bool s_j1) ∧ Hp w0 [Ent.blk b4 61 #[(.string (⟨#[97, 108, 108]⟩ : ByteArray)), (.string (⟨#[98, 101, 102, 111, 114, 101]⟩ : ByteArray)), (.string (⟨#[112, 111, 105, 110, 116, 115]⟩ : ByteArray))], Ent.blk b2 25 #[(.int .i64 a0.Race), (.int .i64 a0.Boat), (.int .i64 a0.Kind), (.int .i64 a0.Points)], Ent.snap w0 w0.heap.size] w) (fun s_j1 => M.impl_RedressText_j1 a0 s_j1 = some r) ?_ ?_
 · refine CW.regionL ?_
   refine OV (.pointer (some ⟨b2, 0, none⟩)) rfl (x_fieldAddr (fsz := 1) 0 0 0 U25 rfl Tryd_T2 rfl rfl rfl) ?_
   refine OV (.int .i64 a0.Race) rfl (x_load1 U2 rfl rfl (hL.cellB 1 rfl rfl)) ?_
   obtain ⟨x64, hx65, hm⟩ := bndE hm
   refine OW.cons (OP.call rfl (x_call (vs := [(.int .i64 a0.Race), (.int .i64 0), (.int .i64 11)]) Tryd_C29 ⟨rfl, rfl, rfl, trivial⟩) (M.impl_within_ok _ a0.Race 0 11 hx65) ?_)
   rintro e66 wd67 ⟨rfl, hF68⟩
   refine ⟨_, rfl, ?_⟩
   have hL := hL.pushAll hF68
   simp only [lA, lB, lC, lD] at hL
   refine OV (.bool (!x64)) rfl (x_not rfl) ?_
   refine OV (.bool (!x64)) rfl (x_move) ?_
   refine ifB_elim hm (fun hb69 hm => ?_) (fun hb69 hm => ?_)
   · refine OW.cons (OP.no' rfl rfl hb69 rfl ?_)
     refine OW.cons (OP.no' rfl rfl hb69 rfl ?_)
     refine OW.cons (OP.no' rfl rfl hb69 rfl ?_)
     refine OW.cons (OP.no' rfl rfl hb69 rfl ?_)
     refine OV (.bool true) rfl (x_pickT' rfl hb69 rfl) ?_
     refine OV (.bool true) rfl (x_move) ?_
     refine OW.cons (OP.no' rfl rfl rfl rfl ?_)
     refine OW.cons (OP.no' rfl rfl rfl rfl ?_)
     refine OW.cons (OP.no' rfl rfl rfl rfl ?_)
     refine OV (.bool true) rfl (x_pickT' rfl rfl rfl) ?_
     refine OW.nil ?_
     exact ⟨true, hm, ⟨rfl, rfl, rfl, hL⟩⟩
   refine OW.cons (OP.yes' rfl rfl hb69 (OP.val (v := (.pointer (some ⟨b2, 1, none⟩))) rfl (x_fieldAddr (fsz := 1) 0 1 1 U25 rfl Tryd_T2 rfl rfl rfl) ?_))
   refine OW.cons (OP.yes' rfl rfl hb69 (OP.val (v := (.int .i64 a0.Boat)) rfl (x_load1 U2 rfl rfl (hL.cellB 1 rfl rfl)) ?_))
   obtain ⟨x70, hx71, hm⟩ := bndE hm
   refine OW.cons (OP.yes' rfl rfl hb69 (OP.call rfl (x_call (vs := [(.int .i64 a0.Boat)]) Tryd_C30 ⟨rfl, trivial⟩) (M.impl_isBoat_ok _ a0.Boat hx71) ?_))
   rintro e72 wd73 ⟨rfl, hF74⟩
   refine ⟨_, rfl, ?_⟩
   have hL := hL.pushAll hF74
   simp only [lA, lB, lC, lD] at hL
   refine OW.cons (OP.yes' rfl rfl hb69 (OP.val (v := (.bool (!x70))) rfl (x_not rfl) ?_))
   refine OV (.bool (!x70)) rfl (x_pickF' rfl hb69 rfl) ?_
   refine OV (.bool (!x70)) rfl (x_move) ?_
   refine ifB_elim hm (fun hb75 hm => ?_) (fun hb75 hm => ?_)
   · refine OW.cons (OP.no' rfl rfl hb75 rfl ?_)
     refine OW.cons (OP.no' rfl rfl hb75 rfl ?_)
     refine OW.cons (OP.no' rfl rfl hb75 rfl ?_)
     refine OV (.bool true) rfl (x_pickT' rfl hb75 rfl) ?_
     refine OW.nil ?_
     exact ⟨true, hm, ⟨rfl, rfl, rfl, hL⟩⟩
   refine OW.cons (OP.yes' rfl rfl hb75 (OP.val (v := (.agg #[(.int .i64 a0.Race), (.int .i64 a0.Boat), (.int .i64 a0.Kind), (.int .i64 a0.Points)])) rfl (x_loadN (cs := [(.int .i64 a0.Race), (.int .i64 a0.Boat), (.int .i64 a0.Kind), (.int .i64 a0.Points)]) U25 Tryd_T25 rfl rfl (hL.cellsB 1 rfl (o := 0) (l := [(.int .i64 a0.Race), (.int .i64 a0.Boat), (.int .i64 a0.Kind), (.int .i64 a0.Points)]) (by intro j u hj; exact (by simpa using hj)))) ?_))
   obtain ⟨x76, hx77, hm⟩ := bndE hm
   refine OW.cons (OP.yes' rfl rfl hb75 (OP.call rfl (x_call (vs := [(.agg #[(.int .i64 a0.Race), (.int .i64 a0.Boat), (.int .i64 a0.Kind), (.int .i64 a0.Points)])]) Tryd_C31 ⟨rfl, trivial⟩) (M.impl_isRedress_ok _ a0 hx77) ?_))
   rintro e78 wd79 ⟨rfl, hF80⟩
   refine ⟨_, rfl, ?_⟩
   have hL := hL.pushAll hF80
   simp only [lA, lB, lC, lD] at hL
   refine OW.cons (OP.yes' rfl rfl hb75 (OP.val (v := (.bool (!x76))) rfl (x_not rfl) ?_))
   refine OV (.bool (!x76)) rfl (x_pickF' rfl hb75 rfl) ?_
   refine OW.nil ?_
   exact ⟨!x76, hm, ⟨rfl, rfl, rfl, hL⟩⟩
 intro s_j1 F23 wd24 hJ hm
 unfold M.impl_RedressText_j1 at hm
 obtain ⟨f25, f26, f27, hL⟩ := hJ
 refine CW.condM (t := s_j1) f27 hm (fun hb28 hm => ?_) (fun hb28 hm => ?_)
 · refine CSR ?_
   refine OV (.string (⟨#[]⟩ : ByteArray)) rfl (x_assign) ?_
   refine OW.nil ?_
   refine CW.ret ?_
   obtain rfl := Option.some.inj hm
   exact RR1 rfl rfl ⟨rfl, hL.fresh 2 rfl [] (by decide) (by decide) rfl⟩
 refine CW.skip ?_
 refine CW.seq ?_
 refine CW.draw Tryd_mixed ?_
 have hL := hL.call (Mod.drew _)
 refine DW.pre (fuel := 0) (fin := bma 16 65535) (C := fun w' => Mod None_ _ w') [0, 1, 2, 3, 4, 5, 6, 7, 8, 9, 10, 11, 12, 13, 14, 15] (Mod.refl _ _) (by kernel_rfl) (by kernel_rfl) ?_
 refine QW.cons rfl (QP.val (v := (.pointer (some ⟨b2, 0, none⟩))) rfl (fun w' hm' => x_fieldAddr (fsz := 1) 0 0 0 U25 rfl Tryd_T2 rfl f25 rfl) ?_)
 refine QW.cons rfl (QP.val (v := (.int .i64 a0.Race)) rfl (fun w' hm' => x_load1 U2 rfl rfl ((hL.call hm').cellB 1 rfl rfl)) ?_)
 obtain ⟨x29, hx30, hm⟩ := bndE hm
 refine QW.cons rfl (QP.call (v := (.string x29)) rfl (fun w' hm' => x_call (vs := [(.int .i64 a0.Race)]) Tryd_C32 ⟨rfl, trivial⟩) (fun w' hm' => (M.impl_text_ok w' ((hL.call hm').tab 2 rfl rfl htab) a0.Race hx30).mono (fun e w'' h => ⟨h.1, hm'.trans h.2.mod⟩)) ?_)
 obtain ⟨hc31, hm⟩ := chkE hm
 refine QW.cons rfl (QP.val (v := (.string (x29 ++ (⟨#[32]⟩ : ByteArray)))) rfl (fun w' hm' => x_addT rfl rfl hc31) ?_)
 refine QW.cons rfl (QP.val (v := (.pointer (some ⟨b2, 1, none⟩))) rfl (fun w' hm' => x_fieldAddr (fsz := 1) 0 1 1 U25 rfl Tryd_T2 rfl f25 rfl) ?_)
 refine QW.cons rfl (QP.val (v := (.int .i64 a0.Boat)) rfl (fun w' hm' => x_load1 U2 rfl rfl ((hL.call hm').cellB 1 rfl rfl)) ?_)
 obtain ⟨x32, hx33, hm⟩ := bndE hm
 refine QW.cons rfl (QP.call (v := (.string x32)) rfl (fun w' hm' => x_call (vs := [(.int .i64 a0.Boat)]) Tryd_C32 ⟨rfl, trivial⟩) (fun w' hm' => (M.impl_text_ok w' ((hL.call hm').tab 2 rfl rfl htab) a0.Boat hx33).mono (fun e w'' h => ⟨h.1, hm'.trans h.2.mod⟩)) ?_)
 obtain ⟨hc34, hm⟩ := chkE hm
 refine QW.cons rfl (QP.val (v := (.string ((x29 ++ (⟨#[32]⟩ : ByteArray)) ++ x32))) rfl (fun w' hm' => x_addT rfl rfl hc34) ?_)
 obtain ⟨hc35, hm⟩ := chkE hm
 refine QW.cons rfl (QP.val (v := (.string (((x29 ++ (⟨#[32]⟩ : ByteArray)) ++ x32) ++ (⟨#[32]⟩ : ByteArray)))) rfl (fun w' hm' => x_addT rfl rfl hc35) ?_)
 refine QW.cons rfl (QP.val (v := (.pointer (some ⟨b2, 2, none⟩))) rfl (fun w' hm' => x_fieldAddr (fsz := 1) 0 2 2 U25 rfl Tryd_T2 rfl f25 rfl) ?_)
 refine QW.cons rfl (QP.val (v := (.int .i64 a0.Kind)) rfl (fun w' hm' => x_load1 U2 rfl rfl ((hL.call hm').cellB 1 rfl rfl)) ?_)
 refine QW.cons rfl (QP.val (v := (.int .i64 (w64 (a0.Kind - 1)))) rfl (fun w' hm' => x_sub rfl rfl) ?_)
 obtain ⟨x36, ha37, hm⟩ := bndE hm
 obtain ⟨hz38, ha42⟩ := idxE ha37
 obtain ⟨b39, q40, hix41⟩ := rdL_ix (hL.rdArr 0 rfl ([(⟨#[97, 108, 108]⟩ : ByteArray), (⟨#[98, 101, 102, 111, 114, 101]⟩ : ByteArray), (⟨#[112, 111, 105, 110, 116, 115]⟩ : ByteArray)] : List ByteArray) rfl (cells_str _) (by decide)) hz38 ha42
 refine QW.cons rfl (QP.val (v := (.pointer (some ⟨b39, q40, none⟩))) rfl (fun w' hm' => x_ixArr U61 Tryd_T9 f26 rfl hix41) ?_)
 refine QW.cons rfl (QP.val (v := (.string x36)) rfl (fun w' hm' => x_load1 U9 rfl rfl (rdF_cells ((hL.call hm').rdArr 0 rfl ([(⟨#[97, 108, 108]⟩ : ByteArray), (⟨#[98, 101, 102, 111, 114, 101]⟩ : ByteArray), (⟨#[112, 111, 105, 110, 116, 115]⟩ : ByteArray)] : List ByteArray) rfl (cells_str _) (by decide)) hix41 ha42 0 _ rfl)) ?_)
 obtain ⟨hc43, hm⟩ := chkE hm
 refine QW.cons rfl (QP.val (v := (.string ((((x29 ++ (⟨#[32]⟩ : ByteArray)) ++ x32) ++ (⟨#[32]⟩ : ByteArray)) ++ x36))) rfl (fun w' hm' => x_addT rfl rfl hc43) ?_)
 refine QW.cons rfl (QP.val (v := (.string ((((x29 ++ (⟨#[32]⟩ : ByteArray)) ++ x32) ++ (⟨#[32]⟩ : ByteArray)) ++ x36))) rfl (fun w' hm' => x_assign) ?_)
 refine QW.nil ?_
 intro wd44 hmod
 have hL := hL.call hmod
 refine DW.done (by kernel_rfl) ?_
 refine CW.seqJ (fun (s_j2 : ByteArray) (F : Fr) (w : World) => F 4 = (.string s_j2) ∧ Hp w0 [Ent.blk b4 61 #[(.string (⟨#[97, 108, 108]⟩ : ByteArray)), (.string (⟨#[98, 101, 102, 111, 114, 101]⟩ : ByteArray)), (.string (⟨#[112, 111, 105, 110, 116, 115]⟩ : ByteArray))], Ent.blk b2 25 #[(.int .i64 a0.Race), (.int .i64 a0.Boat), (.int .i64 a0.Kind), (.int .i64 a0.Points)], Ent.snap w0 w0.heap.size] w) (fun s_j2 => M.impl_RedressText_j2 s_j2 = some r) ?_ ?_
 · refine CSR ?_
   refine OV (.pointer (some ⟨b2, 2, none⟩)) rfl (x_fieldAddr (fsz := 1) 0 2 2 U25 rfl Tryd_T2 rfl f25 rfl) ?_
   refine OV (.int .i64 a0.Kind) rfl (x_load1 U2 rfl rfl (hL.cellB 1 rfl rfl)) ?_
   refine OV (.bool (a0.Kind == 3)) rfl (x_eql rfl rfl) ?_
   refine OW.nil ?_
   refine CW.condM (t := a0.Kind == 3) rfl hm (fun hb56 hm => ?_) (fun hb56 hm => ?_)
   · refine CW.regionL ?_
     refine OV (.string ((((x29 ++ (⟨#[32]⟩ : ByteArray)) ++ x32) ++ (⟨#[32]⟩ : ByteArray)) ++ x36)) rfl (x_move) ?_
     refine OV (.pointer (some ⟨b2, 3, none⟩)) rfl (x_fieldAddr (fsz := 1) 0 3 3 U25 rfl Tryd_T2 rfl f25 rfl) ?_
     refine OV (.int .i64 a0.Points) rfl (x_load1 U2 rfl rfl (hL.cellB 1 rfl rfl)) ?_
     obtain ⟨x57, hx58, hm⟩ := bndE hm
     refine OW.cons (OP.call rfl (x_call (vs := [(.int .i64 a0.Points)]) Tryd_C32 ⟨rfl, trivial⟩) (M.impl_text_ok _ (hL.tab 2 rfl rfl htab) a0.Points hx58) ?_)
     rintro e59 wd60 ⟨rfl, hF61⟩
     refine ⟨_, rfl, ?_⟩
     have hL := hL.pushAll hF61
     simp only [lA, lB, lC, lD] at hL
     obtain ⟨hc62, hm⟩ := chkE hm
     refine OV (.string ((⟨#[32]⟩ : ByteArray) ++ x57)) rfl (x_addT rfl rfl hc62) ?_
     obtain ⟨hc63, hm⟩ := chkE hm
     refine OV (.string (((((x29 ++ (⟨#[32]⟩ : ByteArray)) ++ x32) ++ (⟨#[32]⟩ : ByteArray)) ++ x36) ++ ((⟨#[32]⟩ : ByteArray) ++ x57))) rfl (x_addT rfl rfl hc63) ?_
     refine OV (.string (((((x29 ++ (⟨#[32]⟩ : ByteArray)) ++ x32) ++ (⟨#[32]⟩ : ByteArray)) ++ x36) ++ ((⟨#[32]⟩ : ByteArray) ++ x57))) rfl (x_assign) ?_
     refine OW.nil ?_
     exact ⟨((((x29 ++ (⟨#[32]⟩ : ByteArray)) ++ x32) ++ (⟨#[32]⟩ : ByteArray)) ++ x36) ++ ((⟨#[32]⟩ : ByteArray) ++ x57), hm, ⟨rfl, hL⟩⟩
   refine CW.skip ?_
   exact ⟨(((x29 ++ (⟨#[32]⟩ : ByteArray)) ++ x32) ++ (⟨#[32]⟩ : ByteArray)) ++ x36, hm, ⟨rfl, hL⟩⟩
 intro s_j2 F53 wd54 hJ hm
 unfold M.impl_RedressText_j2 at hm
 obtain ⟨f55, hL⟩ := hJ
 refine CSR ?_
 refine OV (.string s_j2) rfl (x_mv f55) ?_
 refine OV (.string s_j2) rfl (x_assign) ?_
 refine OW.nil ?_
 refine CW.ret ?_
 obtain rfl := Option.some.inj hm
 exact RR1 rfl rfl ⟨rfl, hL.fresh 2 rfl [] (by decide) (by decide) rfl⟩

theorem M.laws_FnExactRedressText_ok (w0 : World) (htab : Lib.TabIs Tryd.prog w0 "internal/strconv.uint64pow10" .u64 Lib.pow10Tab) (a0 : Redress) {r : Bool} (hm : M.laws_FnExactRedressText a0 = some r) :
    Calls Tryd.prog 3 #[(.agg #[(.int .i64 a0.Race), (.int .i64 a0.Boat), (.int .i64 a0.Kind), (.int .i64 a0.Points)])] w0 fun e w' => e = .returned (.bool r) ∧ Fresh w0 w' [] := by
 unfold M.laws_FnExactRedressText at hm
 refine calls_CW (args := [(.agg #[(.int .i64 a0.Race), (.int .i64 a0.Boat), (.int .i64 a0.Kind), (.int .i64 a0.Points)])]) Tryd.func3 rfl rfl rfl ?_
 have hL := Hp.start w0
 refine CSR ?_
 refine OW.cons (S_box (cs := #[(.int .i64 a0.Race), (.int .i64 a0.Boat), (.int .i64 a0.Kind), (.int .i64 a0.Points)]) hL rfl rfl rfl ?_)
 intro wd1 b2 hL
 refine OV (.bool false) rfl (x_assign) ?_
 refine ONR ?_
 refine OV (.agg #[(.int .i64 a0.Race), (.int .i64 a0.Boat), (.int .i64 a0.Kind), (.int .i64 a0.Points)]) rfl (x_loadN (cs := [(.int .i64 a0.Race), (.int .i64 a0.Boat), (.int .i64 a0.Kind), (.int .i64 a0.Points)]) U23 Tryd_T23 rfl rfl (hL.cellsB 0 rfl (o := 0) (l := [(.int .i64 a0.Race), (.int .i64 a0.Boat), (.int .i64 a0.Kind), (.int .i64 a0.Points)]) (by intro j u hj; exact (by simpa using hj)))) ?_
 obtain ⟨x3, hx4, hm⟩ := bndE hm
 refine OW.cons (OP.call rfl (x_call (vs := [(.agg #[(.int .i64 a0.Race), (.int .i64 a0.Boat), (.int .i64 a0.Kind), (.int .i64 a0.Points)])]) Tryd_C8 ⟨rfl, trivial⟩) (M.laws_toRedress_ok _ a0 hx4) ?_)
 rintro e5 wd6 ⟨rfl, hF7⟩
 refine ⟨_, rfl, ?_⟩
 have hL := hL.pushAll hF7
 simp only [lA, lB, lC, lD] at hL
 obtain ⟨x8, hx9, hm⟩ := bndE hm
 refine OW.cons (OP.call rfl (x_call (vs := [(.agg #[(.int .i64 x3.Race), (.int .i64 x3.Boat), (.int .i64 x3.Kind), (.int .i64 x3.Points)])]) Tryd_C7 ⟨rfl, trivial⟩) (M.spec_RedressText_ok _ x3 hx9) ?_)
 rintro e10 wd11 ⟨rfl, hF12⟩
 refine ⟨_, rfl, ?_⟩
 have hL := hL.pushAll hF12
 simp only [lA, lB, lC, lD] at hL
 refine OV (.string x8) rfl (x_assign) ?_
 refine ONR ?_
 refine OV (.agg #[(.int .i64 a0.Race), (.int .i64 a0.Boat), (.int .i64 a0.Kind), (.int .i64 a0.Points)]) rfl (x_loadN (cs := [(.int .i64 a0.Race), (.int .i64 a0.Boat), (.int .i64 a0.Kind), (.int .i64 a0.Points)]) U23 Tryd_T23 rfl rfl (hL.cellsB 0 rfl (o := 0) (l := [(.int .i64 a0.Race), (.int .i64 a0.Boat), (.int .i64 a0.Kind), (.int .i64 a0.Points)]) (by intro j u hj; exact (by simpa using hj)))) ?_
 obtain ⟨x13, hx14, hm⟩ := bndE hm
 refine OW.cons (OP.call rfl (x_call (vs := [(.agg #[(.int .i64 a0.Race), (.int .i64 a0.Boat), (.int .i64 a0.Kind), (.int .i64 a0.Points)])]) Tryd_C8 ⟨rfl, trivial⟩) (M.laws_toRedress_ok _ a0 hx14) ?_)
 rintro e15 wd16 ⟨rfl, hF17⟩
 refine ⟨_, rfl, ?_⟩
 have hL := hL.pushAll hF17
 simp only [lA, lB, lC, lD] at hL
 obtain ⟨x18, hx19, hm⟩ := bndE hm
 refine OW.cons (OP.call rfl (x_call (vs := [(.agg #[(.int .i64 x13.Race), (.int .i64 x13.Boat), (.int .i64 x13.Kind), (.int .i64 x13.Points)])]) Tryd_C9 ⟨rfl, trivial⟩) (M.impl_RedressText_ok _ (hL.tab 1 rfl rfl htab) x13 hx19) ?_)
 rintro e20 wd21 ⟨rfl, hF22⟩
 refine ⟨_, rfl, ?_⟩
 have hL := hL.pushAll hF22
 simp only [lA, lB, lC, lD] at hL
 refine OV (.string x18) rfl (x_assign) ?_
 refine ONS ?_
 refine CSR ?_
 refine OV (.string x18) rfl (x_move) ?_
 refine OV (.string x8) rfl (x_move) ?_
 refine OV (.bool (!(sEq x18 x8))) rfl (x_neqT rfl rfl) ?_
 refine OW.nil ?_
 refine CW.condM (t := !(sEq x18 x8)) rfl hm (fun hb23 hm => ?_) (fun hb23 hm => ?_)
 · refine CSR ?_
   refine OV (.bool false) rfl (x_assign) ?_
   refine OW.nil ?_
   refine CW.ret ?_
   obtain rfl := Option.some.inj hm
   exact RR1 rfl rfl ⟨rfl, hL.fresh 1 rfl [] (by decide) (by decide) rfl⟩
 refine CW.skip ?_
 refine CSR ?_
 refine OV (.bool true) rfl (x_assign) ?_
 refine OW.nil ?_
 refine CW.ret ?_
 obtain rfl := Option.some.inj hm
 exact RR1 rfl rfl ⟨rfl, hL.fresh 1 rfl [] (by decide) (by decide) rfl⟩

end Go.Proofs.YtmngaoalphpjiaaDoor
