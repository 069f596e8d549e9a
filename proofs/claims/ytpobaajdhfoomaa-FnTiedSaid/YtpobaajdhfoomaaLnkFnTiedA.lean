/- Links: each Go function returns what its model computes and leaves what was there. Printed by my generator. -/
import Derived.Test.YtpobaajdhfoomaaMod6
import Derived.Test.YtpobaajdhfoomaaBase15
import Derived.Test.YtpobaajdhfoomaaProg
import Derived.KernelRfl
import Derived.Test.YtpobaajdhfoomaaLayFp27b
namespace Go.Proofs.Ytpobaajdhfoomaa
set_option maxRecDepth 10000
open Go Go.RowKit Go.ChangeShapes Go.WideShapes
set_option linter.unusedVariables false
set_option linter.unusedSimpArgs false

theorem Try_mixed : Try.prog.follows .mixedOrders = true := by kernel_rfl
theorem Try_T2 : TyI Try.prog 2 1 8 (.int .i64 0) := by unfold TyI; kernel_rfl
theorem Try_T3 : TyI Try.prog 3 1 8 (.int .i64 0) := by unfold TyI; kernel_rfl
theorem Try_T4 : TyI Try.prog 4 1 1 (.bool false) := by unfold TyI; kernel_rfl
theorem Try_T5 : TyI Try.prog 5 1 1 (.int .u8 0) := by unfold TyI; kernel_rfl
theorem Try_T22 : TyI Try.prog 22 1 24 (.slice none 0 0) := by unfold TyI; kernel_rfl
theorem Try_T24 : TyI Try.prog 24 3 56 (.agg #[.int .i64 0, .slice none 0 0, .slice none 0 0]) := by unfold TyI; kernel_rfl
theorem Try_T25 : TyI Try.prog 25 1 24 (.slice none 0 0) := by unfold TyI; kernel_rfl
theorem Try_T29 : TyI Try.prog 29 3 56 (.agg #[.int .i64 0, .slice none 0 0, .slice none 0 0]) := by unfold TyI; kernel_rfl
theorem Try_T47 : TyI Try.prog 47 1 24 (.slice none 0 0) := by unfold TyI; kernel_rfl
theorem Try_T95 : TyI Try.prog 95 1 24 (.slice none 0 0) := by unfold TyI; kernel_rfl
theorem Try_T97 : TyI Try.prog 97 3 40 (.agg #[.int .i64 0, .int .i64 0, .slice none 0 0]) := by unfold TyI; kernel_rfl
theorem Try_T99 : TyI Try.prog 99 1 24 (.slice none 0 0) := by unfold TyI; kernel_rfl
theorem Try_T101 : TyI Try.prog 101 1 24 (.agg #[.slice none 0 0]) := by unfold TyI; kernel_rfl
theorem Try_T103 : TyI Try.prog 103 3 24 (.agg #[.int .i64 0, .int .i64 0, .int .i64 0]) := by unfold TyI; kernel_rfl
theorem Try_B29 : BuildI Try.prog 29 [(0, 1), (1, 1), (2, 1)] #[.int .i64 0, .slice none 0 0, .slice none 0 0] := by unfold BuildI; kernel_rfl
theorem Try_B90 : BuildI Try.prog 90 [(0, 1), (1, 1), (2, 1)] #[.slice none 0 0, .int .i64 0, .int .i64 0] := by unfold BuildI; kernel_rfl
theorem Try_B97 : BuildI Try.prog 97 [(0, 1), (1, 1), (2, 1)] #[.int .i64 0, .int .i64 0, .slice none 0 0] := by unfold BuildI; kernel_rfl
theorem Try_B101 : BuildI Try.prog 101 [(0, 1)] #[.slice none 0 0] := by unfold BuildI; kernel_rfl
theorem Try_B103 : BuildI Try.prog 103 [(0, 1), (1, 1), (2, 1)] #[.int .i64 0, .int .i64 0, .int .i64 0] := by unfold BuildI; kernel_rfl
theorem Try_C13 : CallOK Try.prog 13 := ⟨_, _, Try.func13, rfl, by kernel_rfl⟩
theorem Try_C14 : CallOK Try.prog 14 := ⟨_, _, Try.func14, rfl, by kernel_rfl⟩
theorem Try_C15 : CallOK Try.prog 15 := ⟨_, _, Try.func15, rfl, by kernel_rfl⟩
theorem Try_C16 : CallOK Try.prog 16 := ⟨_, _, Try.func16, rfl, by kernel_rfl⟩
theorem Try_C17 : CallOK Try.prog 17 := ⟨_, _, Try.func17, rfl, by kernel_rfl⟩
theorem Try_C18 : CallOK Try.prog 18 := ⟨_, _, Try.func18, rfl, by kernel_rfl⟩
theorem Try_C19 : CallOK Try.prog 19 := ⟨_, _, Try.func19, rfl, by kernel_rfl⟩
theorem Try_C20 : CallOK Try.prog 20 := ⟨_, _, Try.func20, rfl, by kernel_rfl⟩
theorem Try_C21 : CallOK Try.prog 21 := ⟨_, _, Try.func21, rfl, by kernel_rfl⟩
theorem Try_C22 : CallOK Try.prog 22 := ⟨_, _, Try.func22, rfl, by kernel_rfl⟩
theorem Try_C23 : CallOK Try.prog 23 := ⟨_, _, Try.func23, rfl, by kernel_rfl⟩
theorem Try_C24 : CallOK Try.prog 24 := ⟨_, _, Try.func24, rfl, by kernel_rfl⟩
theorem Try_C25 : CallOK Try.prog 25 := ⟨_, _, Try.func25, rfl, by kernel_rfl⟩
theorem Try_C26 : CallOK Try.prog 26 := ⟨_, _, Try.func26, rfl, by kernel_rfl⟩
theorem Try_C27 : CallOK Try.prog 27 := ⟨_, _, Try.func27, rfl, by kernel_rfl⟩
theorem Try_C28 : CallOK Try.prog 28 := ⟨_, _, Try.func28, rfl, by kernel_rfl⟩
theorem Try_C29 : CallOK Try.prog 29 := ⟨_, _, Try.func29, rfl, by kernel_rfl⟩
theorem Try_C30 : CallOK Try.prog 30 := ⟨_, _, Try.func30, rfl, by kernel_rfl⟩
theorem Try_C31 : CallOK Try.prog 31 := ⟨_, _, Try.func31, rfl, by kernel_rfl⟩
theorem Try_C32 : CallOK Try.prog 32 := ⟨_, _, Try.func32, rfl, by kernel_rfl⟩
theorem Try_C33 : CallOK Try.prog 33 := ⟨_, _, Try.func33, rfl, by kernel_rfl⟩
theorem Try_C34 : CallOK Try.prog 34 := ⟨_, _, Try.func34, rfl, by kernel_rfl⟩
theorem Try_C35 : CallOK Try.prog 35 := ⟨_, _, Try.func35, rfl, by kernel_rfl⟩
theorem Try_C36 : CallOK Try.prog 36 := ⟨_, _, Try.func36, rfl, by kernel_rfl⟩
theorem Try_C37 : CallOK Try.prog 37 := ⟨_, _, Try.func37, rfl, by kernel_rfl⟩
theorem Try_C38 : CallOK Try.prog 38 := ⟨_, _, Try.func38, rfl, by kernel_rfl⟩
theorem Try_C39 : CallOK Try.prog 39 := ⟨_, _, Try.func39, rfl, by kernel_rfl⟩
theorem Try_C40 : CallOK Try.prog 40 := ⟨_, _, Try.func40, rfl, by kernel_rfl⟩
theorem Try_C41 : CallOK Try.prog 41 := ⟨_, _, Try.func41, rfl, by kernel_rfl⟩
theorem Try_C42 : CallOK Try.prog 42 := ⟨_, _, Try.func42, rfl, by kernel_rfl⟩
theorem Try_C43 : CallOK Try.prog 43 := ⟨_, _, Try.func43, rfl, by kernel_rfl⟩
theorem Try_C44 : CallOK Try.prog 44 := ⟨_, _, Try.func44, rfl, by kernel_rfl⟩
theorem Try_C45 : CallOK Try.prog 45 := ⟨_, _, Try.func45, rfl, by kernel_rfl⟩
theorem Try_C46 : CallOK Try.prog 46 := ⟨_, _, Try.func46, rfl, by kernel_rfl⟩
theorem Try_C47 : CallOK Try.prog 47 := ⟨_, _, Try.func47, rfl, by kernel_rfl⟩
theorem Try_C48 : CallOK Try.prog 48 := ⟨_, _, Try.func48, rfl, by kernel_rfl⟩
theorem Try_C49 : CallOK Try.prog 49 := ⟨_, _, Try.func49, rfl, by kernel_rfl⟩
theorem Try_C50 : CallOK Try.prog 50 := ⟨_, _, Try.func50, rfl, by kernel_rfl⟩
theorem Try_C51 : CallOK Try.prog 51 := ⟨_, _, Try.func51, rfl, by kernel_rfl⟩
theorem Try_C52 : CallOK Try.prog 52 := ⟨_, _, Try.func52, rfl, by kernel_rfl⟩
theorem Try_C53 : CallOK Try.prog 53 := ⟨_, _, Try.func53, rfl, by kernel_rfl⟩
theorem Try_C54 : CallOK Try.prog 54 := ⟨_, _, Try.func54, rfl, by kernel_rfl⟩
theorem Try_C55 : CallOK Try.prog 55 := ⟨_, _, Try.func55, rfl, by kernel_rfl⟩
theorem Try_C56 : CallOK Try.prog 56 := ⟨_, _, Try.func56, rfl, by kernel_rfl⟩
theorem Try_C57 : CallOK Try.prog 57 := ⟨_, _, Try.func57, rfl, by kernel_rfl⟩
theorem Try_C58 : CallOK Try.prog 58 := ⟨_, _, Try.func58, rfl, by kernel_rfl⟩
theorem Try_C59 : CallOK Try.prog 59 := ⟨_, _, Try.func59, rfl, by kernel_rfl⟩
theorem Try_C60 : CallOK Try.prog 60 := ⟨_, _, Try.func60, rfl, by kernel_rfl⟩
theorem Try_C61 : CallOK Try.prog 61 := ⟨_, _, Try.func61, rfl, by kernel_rfl⟩
theorem Try_C62 : CallOK Try.prog 62 := ⟨_, _, Try.func62, rfl, by kernel_rfl⟩
theorem Try_C63 : CallOK Try.prog 63 := ⟨_, _, Try.func63, rfl, by kernel_rfl⟩
theorem Try_C64 : CallOK Try.prog 64 := ⟨_, _, Try.func64, rfl, by kernel_rfl⟩
theorem Try_C65 : CallOK Try.prog 65 := ⟨_, _, Try.func65, rfl, by kernel_rfl⟩
theorem Try_C66 : CallOK Try.prog 66 := ⟨_, _, Try.func66, rfl, by kernel_rfl⟩
theorem Try_C67 : CallOK Try.prog 67 := ⟨_, _, Try.func67, rfl, by kernel_rfl⟩
theorem Try_C68 : CallOK Try.prog 68 := ⟨_, _, Try.func68, rfl, by kernel_rfl⟩
theorem Try_C69 : CallOK Try.prog 69 := ⟨_, _, Try.func69, rfl, by kernel_rfl⟩
theorem Try_C70 : CallOK Try.prog 70 := ⟨_, _, Try.func70, rfl, by kernel_rfl⟩
theorem Try_C71 : CallOK Try.prog 71 := ⟨_, _, Try.func71, rfl, by kernel_rfl⟩
theorem Try_C72 : CallOK Try.prog 72 := ⟨_, _, Try.func72, rfl, by kernel_rfl⟩
theorem Try_C73 : CallOK Try.prog 73 := ⟨_, _, Try.func73, rfl, by kernel_rfl⟩
theorem Try_C74 : CallOK Try.prog 74 := ⟨_, _, Try.func74, rfl, by kernel_rfl⟩
theorem Try_C75 : CallOK Try.prog 75 := ⟨_, _, Try.func75, rfl, by kernel_rfl⟩
theorem Try_C77 : CallOK Try.prog 77 := ⟨_, _, Try.func77, rfl, by kernel_rfl⟩
theorem Try_C78 : CallOK Try.prog 78 := ⟨_, _, Try.func78, rfl, by kernel_rfl⟩
theorem Try_C79 : CallOK Try.prog 79 := ⟨_, _, Try.func79, rfl, by kernel_rfl⟩
theorem Try_C80 : CallOK Try.prog 80 := ⟨_, _, Try.func80, rfl, by kernel_rfl⟩
theorem Try_C81 : CallOK Try.prog 81 := ⟨_, _, Try.func81, rfl, by kernel_rfl⟩
theorem Try_C82 : CallOK Try.prog 82 := ⟨_, _, Try.func82, rfl, by kernel_rfl⟩
theorem Try_C83 : CallOK Try.prog 83 := ⟨_, _, Try.func83, rfl, by kernel_rfl⟩
theorem Try_C84 : CallOK Try.prog 84 := ⟨_, _, Try.func84, rfl, by kernel_rfl⟩
theorem Try_C85 : CallOK Try.prog 85 := ⟨_, _, Try.func85, rfl, by kernel_rfl⟩
theorem Try_C86 : CallOK Try.prog 86 := ⟨_, _, Try.func86, rfl, by kernel_rfl⟩
theorem Try_C87 : CallOK Try.prog 87 := ⟨_, _, Try.func87, rfl, by kernel_rfl⟩
theorem Try_C88 : CallOK Try.prog 88 := ⟨_, _, Try.func88, rfl, by kernel_rfl⟩
theorem Try_C89 : CallOK Try.prog 89 := ⟨_, _, Try.func89, rfl, by kernel_rfl⟩
theorem Try_C90 : CallOK Try.prog 90 := ⟨_, _, Try.func90, rfl, by kernel_rfl⟩
theorem Try_C91 : CallOK Try.prog 91 := ⟨_, _, Try.func91, rfl, by kernel_rfl⟩
theorem Try_C92 : CallOK Try.prog 92 := ⟨_, _, Try.func92, rfl, by kernel_rfl⟩
theorem Try_C93 : CallOK Try.prog 93 := ⟨_, _, Try.func93, rfl, by kernel_rfl⟩
theorem Try_C94 : CallOK Try.prog 94 := ⟨_, _, Try.func94, rfl, by kernel_rfl⟩
theorem Try_C95 : CallOK Try.prog 95 := ⟨_, _, Try.func95, rfl, by kernel_rfl⟩
theorem Try_C96 : CallOK Try.prog 96 := ⟨_, _, Try.func96, rfl, by kernel_rfl⟩
theorem Try_C97 : CallOK Try.prog 97 := ⟨_, _, Try.func97, rfl, by kernel_rfl⟩
theorem Try_C98 : CallOK Try.prog 98 := ⟨_, _, Try.func98, rfl, by kernel_rfl⟩
theorem Try_C99 : CallOK Try.prog 99 := ⟨_, _, Try.func99, rfl, by kernel_rfl⟩
theorem Try_C100 : CallOK Try.prog 100 := ⟨_, _, Try.func100, rfl, by kernel_rfl⟩
theorem Try_C101 : CallOK Try.prog 101 := ⟨_, _, Try.func101, rfl, by kernel_rfl⟩
theorem Try_C102 : CallOK Try.prog 102 := ⟨_, _, Try.func102, rfl, by kernel_rfl⟩
theorem Try_C104 : CallOK Try.prog 104 := ⟨_, _, Try.func104, rfl, by kernel_rfl⟩
theorem Try_C105 : CallOK Try.prog 105 := ⟨_, _, Try.func105, rfl, by kernel_rfl⟩
theorem Try_C106 : CallOK Try.prog 106 := ⟨_, _, Try.func106, rfl, by kernel_rfl⟩
theorem Try_C107 : CallOK Try.prog 107 := ⟨_, _, Try.func107, rfl, by kernel_rfl⟩
theorem Try_C108 : CallOK Try.prog 108 := ⟨_, _, Try.func108, rfl, by kernel_rfl⟩
theorem Try_C109 : CallOK Try.prog 109 := ⟨_, _, Try.func109, rfl, by kernel_rfl⟩
theorem Try_C110 : CallOK Try.prog 110 := ⟨_, _, Try.func110, rfl, by kernel_rfl⟩
theorem Try_C111 : CallOK Try.prog 111 := ⟨_, _, Try.func111, rfl, by kernel_rfl⟩
theorem Try_C112 : CallOK Try.prog 112 := ⟨_, _, Try.func112, rfl, by kernel_rfl⟩
theorem Try_C113 : CallOK Try.prog 113 := ⟨_, _, Try.func113, rfl, by kernel_rfl⟩
theorem Try_C114 : CallOK Try.prog 114 := ⟨_, _, Try.func114, rfl, by kernel_rfl⟩
theorem Try_C115 : CallOK Try.prog 115 := ⟨_, _, Try.func115, rfl, by kernel_rfl⟩
theorem Try_C116 : CallOK Try.prog 116 := ⟨_, _, Try.func116, rfl, by kernel_rfl⟩
theorem Try_C117 : CallOK Try.prog 117 := ⟨_, _, Try.func117, rfl, by kernel_rfl⟩
theorem Try_C118 : CallOK Try.prog 118 := ⟨_, _, Try.func118, rfl, by kernel_rfl⟩
theorem Try_C120 : CallOK Try.prog 120 := ⟨_, _, Try.func120, rfl, by kernel_rfl⟩
theorem Try_C121 : CallOK Try.prog 121 := ⟨_, _, Try.func121, rfl, by kernel_rfl⟩
theorem Try_C122 : CallOK Try.prog 122 := ⟨_, _, Try.func122, rfl, by kernel_rfl⟩
theorem Try_C123 : CallOK Try.prog 123 := ⟨_, _, Try.func123, rfl, by kernel_rfl⟩
theorem Try_C124 : CallOK Try.prog 124 := ⟨_, _, Try.func124, rfl, by kernel_rfl⟩
theorem Try_C130 : CallOK Try.prog 130 := ⟨_, _, Try.func130, rfl, by kernel_rfl⟩
theorem Try_C134 : CallOK Try.prog 134 := ⟨_, _, Try.func134, rfl, by kernel_rfl⟩
theorem Try_C136 : CallOK Try.prog 136 := ⟨_, _, Try.func136, rfl, by kernel_rfl⟩
theorem Try_C137 : CallOK Try.prog 137 := ⟨_, _, Try.func137, rfl, by kernel_rfl⟩
theorem Try_C143 : CallOK Try.prog 143 := ⟨_, _, Try.func143, rfl, by kernel_rfl⟩
theorem Try_C145 : CallOK Try.prog 145 := ⟨_, _, Try.func145, rfl, by kernel_rfl⟩
abbrev U2 := @Try.underlying2
abbrev U3 := @Try.underlying3
abbrev U4 := @Try.underlying4
abbrev U5 := @Try.underlying5
abbrev U9 := @Try.underlying9
abbrev U22 := @Try.underlying22
abbrev U25 := @Try.underlying25
abbrev U29 := @Try.underlying29
abbrev U47 := @Try.underlying47
abbrev U68 := @Try.underlying68
abbrev U71 := @Try.underlying71
abbrev U90 := @Try.underlying90
abbrev U95 := @Try.underlying95
abbrev U97 := @Try.underlying97
abbrev U99 := @Try.underlying99
abbrev U101 := @Try.underlying101
abbrev U103 := @Try.underlying103
abbrev U108 := @Try.underlying108
abbrev U128 := @Try.underlying128

theorem M.spec_l01In_ok (w0 : World) (a0 : Int) (a1 : Int) (a2 : Int) {r : Bool} (hm : M.spec_l01In a0 a1 a2 = some r) :
    Calls Try.prog 88 #[(.int .i64 a0), (.int .i64 a1), (.int .i64 a2)] w0 fun e w' => e = .returned (.bool r) ∧ Fresh w0 w' [] := by
 unfold M.spec_l01In at hm
 refine calls_CW (args := [(.int .i64 a0), (.int .i64 a1), (.int .i64 a2)]) Try.func88 rfl rfl rfl ?_
 have hL := Hp.start w0
 refine CSR <| OV (.bool false) rfl (x_assign) <| OW.nil ?_
 refine CW.seqJ (fun (s_j1 : Bool) (F : Fr) (w : World) => F 6 = (.bool s_j1) ∧ Hp w0 [Ent.snap w0 w0.heap.size] w) (fun s_j1 => M.spec_l01In_j1 s_j1 = some r) ?_ ?_
 · refine CW.regionL <| OV (.int .i64 a0) rfl (x_move) <| OV (.int .i64 a1) rfl (x_move) <| OV (.bool (decide (a1 ≤ a0))) rfl (x_geq rfl rfl) <| OV (.bool (decide (a1 ≤ a0))) rfl (x_move) ?_
   refine ifB_elim hm (fun hb5 hm => ?_) (fun hb5 hm => ?_)
   · refine OW.cons (OP.yes' rfl rfl hb5 (OP.val (v := (.int .i64 a0)) rfl (x_move) ?_))
     refine OW.cons (OP.yes' rfl rfl hb5 (OP.val (v := (.int .i64 a2)) rfl (x_move) ?_))
     refine OW.cons (OP.yes' rfl rfl hb5 (OP.val (v := (.bool (decide (a0 ≤ a2)))) rfl (x_leq rfl rfl) ?_))
     refine OV (.bool (decide (a0 ≤ a2))) rfl (x_pickT' rfl hb5 rfl) <| OV (.bool (decide (a0 ≤ a2))) rfl (x_assign) <| OW.nil ?_
     exact ⟨decide (a0 ≤ a2), hm, ⟨rfl, hL⟩⟩
   refine OW.cons (OP.no' rfl rfl hb5 rfl ?_)
   refine OW.cons (OP.no' rfl rfl hb5 rfl ?_)
   refine OW.cons (OP.no' rfl rfl hb5 rfl ?_)
   refine OV (.bool false) rfl (x_pickF' rfl hb5 rfl) <| OV (.bool false) rfl (x_assign) <| OW.nil ?_
   exact ⟨false, hm, ⟨rfl, hL⟩⟩
 intro s_j1 F2 wd3 hJ hm
 unfold M.spec_l01In_j1 at hm
 obtain ⟨f4, hL⟩ := hJ
 refine CW.ret ?_
 obtain rfl := Option.some.inj hm
 exact RR1 rfl f4 ⟨rfl, hL.fresh 0 rfl [] (by decide) (by decide) rfl⟩

theorem M.spec_l26Code_ok (w0 : World) (a0 : Int) {r : Bool} (hm : M.spec_l26Code a0 = some r) :
    Calls Try.prog 109 #[(.int .i64 a0)] w0 fun e w' => e = .returned (.bool r) ∧ Fresh w0 w' [] := by
 unfold M.spec_l26Code at hm
 refine calls_CW (args := [(.int .i64 a0)]) Try.func109 rfl rfl rfl ?_
 have hL := Hp.start w0
 refine CSR <| OV (.bool false) rfl (x_assign) <| ONR <| OV (.int .i64 a0) rfl (x_move) ?_
 obtain ⟨x1, hx2, hm⟩ := bndE hm
 refine OW.cons (OP.call rfl (x_call (vs := [(.int .i64 a0), (.int .i64 0), (.int .i64 9)]) Try_C88 ⟨rfl, rfl, rfl, trivial⟩) (M.spec_l01In_ok _ a0 0 9 hx2) ?_)
 rintro e3 wd4 ⟨rfl, hF5⟩
 refine ⟨_, rfl, ?_⟩
 have hL := hL.pushAll hF5
 simp only [lA, lB, lC, lD] at hL
 refine OV (.bool x1) rfl (x_assign) <| OW.nil <| CW.ret ?_
 obtain rfl := Option.some.inj hm
 exact RR1 rfl rfl ⟨rfl, hL.fresh 0 rfl [] (by decide) (by decide) rfl⟩

theorem M.spec_IsTable_ok (w0 : World) (a0 : Table) {v1 : Value} {v3 : Value} (h2 : rdL (· < w0.heap.size) w0 v1 a0.Points) (h4 : rdL (· < w0.heap.size) w0 v3 a0.Codes) {r : Bool} (hm : M.spec_IsTable a0 = some r) :
    Calls Try.prog 94 #[(.agg #[(.int .i64 a0.Boats), v1, v3])] w0 fun e w' => e = .returned (.bool r) ∧ Fresh w0 w' [] := by
 unfold M.spec_IsTable at hm
 refine calls_CW (args := [(.agg #[(.int .i64 a0.Boats), v1, v3])]) Try.func94 rfl rfl rfl ?_
 have hL := Hp.start w0
 refine CSR ?_
 refine OW.cons (S_box (cs := #[(.int .i64 a0.Boats), v1, v3]) hL rfl rfl rfl ?_)
 intro wd5 b6 hL
 refine OV (.bool false) rfl (x_assign) <| ONS ?_
 refine CW.seqJ (fun (s_j1 : Bool) (F : Fr) (w : World) => F 1 = (.pointer (some ⟨b6, 0, none⟩)) ∧ F 23 = (.bool s_j1) ∧ Hp w0 [Ent.blk b6 29 #[(.int .i64 a0.Boats), v1, v3], Ent.snap w0 w0.heap.size] w) (fun s_j1 => M.spec_IsTable_j1 a0 s_j1 = some r) ?_ ?_
 · refine CW.regionL <| OV (.pointer (some ⟨b6, 0, none⟩)) rfl (x_fieldAddr (fsz := 1) 0 0 0 U29 rfl Try_T2 rfl rfl rfl) <| OV (.int .i64 a0.Boats) rfl (x_load1 U2 rfl rfl (hL.cellB 0 rfl rfl)) ?_
   obtain ⟨x1162, hx1163, hm⟩ := bndE hm
   refine OW.cons (OP.call rfl (x_call (vs := [(.int .i64 a0.Boats), (.int .i64 1), (.int .i64 16)]) Try_C88 ⟨rfl, rfl, rfl, trivial⟩) (M.spec_l01In_ok _ a0.Boats 1 16 hx1163) ?_)
   rintro e1164 wd1165 ⟨rfl, hF1166⟩
   refine ⟨_, rfl, ?_⟩
   have hL := hL.pushAll hF1166
   simp only [lA, lB, lC, lD] at hL
   refine OV (.bool (!x1162)) rfl (x_not rfl) <| OV (.bool (!x1162)) rfl (x_move) ?_
   refine ifB_elim hm (fun hb1167 hm => ?_) (fun hb1167 hm => ?_)
   · refine OW.cons (OP.no' rfl rfl hb1167 rfl ?_)
     refine OW.cons (OP.no' rfl rfl hb1167 rfl ?_)
     refine OW.cons (OP.no' rfl rfl hb1167 rfl ?_)
     refine OW.cons (OP.no' rfl rfl hb1167 rfl ?_)
     refine OV (.bool true) rfl (x_pickT' rfl hb1167 rfl) <| OV (.bool true) rfl (x_move) ?_
     refine OW.cons (OP.no' rfl rfl rfl rfl ?_)
     refine OW.cons (OP.no' rfl rfl rfl rfl ?_)
     refine OW.cons (OP.no' rfl rfl rfl rfl ?_)
     refine OW.cons (OP.no' rfl rfl rfl rfl ?_)
     refine OW.cons (OP.no' rfl rfl rfl rfl ?_)
     refine OW.cons (OP.no' rfl rfl rfl rfl ?_)
     refine OW.cons (OP.no' rfl rfl rfl rfl ?_)
     refine OV (.bool true) rfl (x_pickT' rfl rfl rfl) <| OW.nil ?_
     exact ⟨true, hm, ⟨rfl, rfl, hL⟩⟩
   refine OW.cons (OP.yes' rfl rfl hb1167 (OP.val (v := (.pointer (some ⟨b6, 1, none⟩))) rfl (x_fieldAddr (fsz := 1) 0 1 1 U29 rfl Try_T22 rfl rfl rfl) ?_))
   refine OW.cons (OP.yes' rfl rfl hb1167 (OP.val (v := v1) rfl (x_load1 U22 rfl rfl (hL.cellB 0 rfl rfl)) ?_))
   refine OW.cons (OP.yes' rfl rfl hb1167 (OP.val (v := (.int .i64 (a0.Points.length : Int))) rfl (x_lenR U22 rfl (hL.rdS 1 rfl h2)) ?_))
   refine OW.cons (OP.yes' rfl rfl hb1167 (OP.val (v := (.bool (decide (12 < (a0.Points.length : Int))))) rfl (x_gtr rfl rfl) ?_))
   refine OV (.bool (decide (12 < (a0.Points.length : Int)))) rfl (x_pickF' rfl hb1167 rfl) <| OV (.bool (decide (12 < (a0.Points.length : Int)))) rfl (x_move) ?_
   refine ifB_elim hm (fun hb1168 hm => ?_) (fun hb1168 hm => ?_)
   · refine OW.cons (OP.no' rfl rfl hb1168 rfl ?_)
     refine OW.cons (OP.no' rfl rfl hb1168 rfl ?_)
     refine OW.cons (OP.no' rfl rfl hb1168 rfl ?_)
     refine OW.cons (OP.no' rfl rfl hb1168 rfl ?_)
     refine OW.cons (OP.no' rfl rfl hb1168 rfl ?_)
     refine OW.cons (OP.no' rfl rfl hb1168 rfl ?_)
     refine OW.cons (OP.no' rfl rfl hb1168 rfl ?_)
     refine OV (.bool true) rfl (x_pickT' rfl hb1168 rfl) <| OW.nil ?_
     exact ⟨true, hm, ⟨rfl, rfl, hL⟩⟩
   refine OW.cons (OP.yes' rfl rfl hb1168 (OP.val (v := (.pointer (some ⟨b6, 2, none⟩))) rfl (x_fieldAddr (fsz := 1) 0 2 2 U29 rfl Try_T22 rfl rfl rfl) ?_))
   refine OW.cons (OP.yes' rfl rfl hb1168 (OP.val (v := v3) rfl (x_load1 U22 rfl rfl (hL.cellB 0 rfl rfl)) ?_))
   refine OW.cons (OP.yes' rfl rfl hb1168 (OP.val (v := (.int .i64 (a0.Codes.length : Int))) rfl (x_lenR U22 rfl (hL.rdS 1 rfl h4)) ?_))
   refine OW.cons (OP.yes' rfl rfl hb1168 (OP.val (v := (.pointer (some ⟨b6, 1, none⟩))) rfl (x_fieldAddr (fsz := 1) 0 1 1 U29 rfl Try_T22 rfl rfl rfl) ?_))
   refine OW.cons (OP.yes' rfl rfl hb1168 (OP.val (v := v1) rfl (x_load1 U22 rfl rfl (hL.cellB 0 rfl rfl)) ?_))
   refine OW.cons (OP.yes' rfl rfl hb1168 (OP.val (v := (.int .i64 (a0.Points.length : Int))) rfl (x_lenR U22 rfl (hL.rdS 1 rfl h2)) ?_))
   refine OW.cons (OP.yes' rfl rfl hb1168 (OP.val (v := (.bool ((a0.Codes.length : Int) != (a0.Points.length : Int)))) rfl (x_neq rfl rfl) ?_))
   refine OV (.bool ((a0.Codes.length : Int) != (a0.Points.length : Int))) rfl (x_pickF' rfl hb1168 rfl) <| OW.nil ?_
   exact ⟨(a0.Codes.length : Int) != (a0.Points.length : Int), hm, ⟨rfl, rfl, hL⟩⟩
 intro s_j1 F14 wd15 hJ hm
 unfold M.spec_IsTable_j1 at hm
 obtain ⟨f16, f17, hL⟩ := hJ
 refine CW.condM (t := s_j1) f17 hm (fun hb18 hm => ?_) (fun hb18 hm => ?_)
 · refine CSR <| OV (.bool false) rfl (x_assign) <| OW.nil <| CW.ret ?_
   obtain rfl := Option.some.inj hm
   exact RR1 rfl rfl ⟨rfl, hL.fresh 1 rfl [] (by decide) (by decide) rfl⟩
 refine CW.skip <| CW.seq <| CSR <| OV (.int .i64 0) rfl (x_assign) <| OW.nil ?_
 obtain ⟨o775, ho776, hm⟩ := bndE hm
 refine CW.loopB (fun (s_l1 : Int) (F : Fr) (w : World) => F 1 = (.pointer (some ⟨b6, 0, none⟩)) ∧ F 3 = (.int .i64 s_l1) ∧ Hp w0 [Ent.blk b6 29 #[(.int .i64 a0.Boats), v1, v3], Ent.snap w0 w0.heap.size] w) (fun o => outc o (fun x => some x) (fun s => M.spec_IsTable_a1 s) = some r) ho776 hm ⟨f16, rfl, hL⟩ ?_ ?_
 · intro s_l1 F777 wd778 hJ hm
   have hm := outcE hm
   have hm : M.spec_IsTable_a1 s_l1 = some r := hm
   unfold M.spec_IsTable_a1 at hm
   obtain ⟨f779, f780, hL⟩ := hJ
   refine CSR <| OV (.bool true) rfl (x_assign) <| OW.nil <| CW.ret ?_
   obtain rfl := Option.some.inj hm
   exact RR1 rfl rfl ⟨rfl, hL.fresh 1 rfl [] (by decide) (by decide) rfl⟩
 intro s_l1 F781 wd782 t773 hJ hm hr774
 unfold M.spec_IsTable_l1 at hm
 obtain ⟨f783, f784, hL⟩ := hJ
 refine CW.seq <| CSR <| OV (.int .i64 s_l1) rfl (x_mv f784) <| OV (.pointer (some ⟨b6, 1, none⟩)) rfl (x_fieldAddr (fsz := 1) 0 1 1 U29 rfl Try_T22 rfl f783 rfl) <| OV v1 rfl (x_load1 U22 rfl rfl (hL.cellB 0 rfl rfl)) <| OV (.int .i64 (a0.Points.length : Int)) rfl (x_lenR U22 rfl (hL.rdS 1 rfl h2)) <| OV (.bool (decide (s_l1 < (a0.Points.length : Int)))) rfl (x_lss rfl rfl) <| OW.nil ?_
 refine CW.condM (t := decide (s_l1 < (a0.Points.length : Int))) rfl hm (fun hb785 hm => ?_) (fun hb785 hm => ?_)
 · refine CW.skip <| CW.seq <| CW.block <| CW.seq ?_
   refine CW.seqJ (fun (s_j2 : Bool) (F : Fr) (w : World) => F 1 = (.pointer (some ⟨b6, 0, none⟩)) ∧ F 3 = (.int .i64 s_l1) ∧ F 50 = (.bool s_j2) ∧ Hp w0 [Ent.blk b6 29 #[(.int .i64 a0.Boats), v1, v3], Ent.snap w0 w0.heap.size] w) (fun s_j2 => M.spec_IsTable_j2 a0 s_l1 s_j2 = some t773) ?_ ?_
   · refine CW.draw Try_mixed ?_
     have hL := hL.call (Mod.drew _)
     refine DW.pre (fuel := 0) (fin := bma 20 1048575) (C := fun w' => Mod None_ _ w') [0, 1, 2, 3, 4, 5, 6, 7, 8, 9, 10, 11, 12, 13, 14, 15, 16, 17, 18, 19] (Mod.refl _ _) (by kernel_rfl) (by kernel_rfl) ?_
     refine QV (.pointer (some ⟨b6, 1, none⟩)) rfl rfl (fun w' hm' => x_fieldAddr (fsz := 1) 0 1 1 U29 rfl Try_T22 rfl f783 rfl) <| QV v1 rfl rfl (fun w' hm' => x_load1 U22 rfl rfl ((hL.call hm').cellB 0 rfl rfl)) <| QV (.int .i64 s_l1) rfl rfl (fun w' hm' => x_mv f784) ?_
     obtain ⟨x1137, ha1138, hm⟩ := bndE hm
     obtain ⟨hz1139, ha1147⟩ := idxE ha1138
     obtain ⟨b1140, q1141, v1142, hix1143, hs1144, hc1145, hr1146⟩ := rdN_at h2 hz1139 ha1147
     refine QV (.pointer (some ⟨b1140, q1141, none⟩)) rfl rfl (fun w' hm' => x_ix U22 Try_T25 rfl rfl hix1143) <| QV v1142 rfl rfl (fun w' hm' => x_load1 U25 rfl rfl ((hL.call hm').cellS 1 rfl hs1144 hc1145)) <| QV (.int .i64 (x1137.length : Int)) rfl rfl (fun w' hm' => x_lenR U25 rfl ((hL.call hm').rdS 1 rfl hr1146)) <| QV (.pointer (some ⟨b6, 0, none⟩)) rfl rfl (fun w' hm' => x_fieldAddr (fsz := 1) 0 0 0 U29 rfl Try_T2 rfl f783 rfl) <| QV (.int .i64 a0.Boats) rfl rfl (fun w' hm' => x_load1 U2 rfl rfl ((hL.call hm').cellB 0 rfl rfl)) <| QV (.bool ((x1137.length : Int) != a0.Boats)) rfl rfl (fun w' hm' => x_neq rfl rfl) <| QV (.bool ((x1137.length : Int) != a0.Boats)) rfl rfl (fun w' hm' => x_move) ?_
     refine ifB_elim hm (fun hb1148 hm => ?_) (fun hb1148 hm => ?_)
     · refine QW.cons rfl (QP.no' rfl rfl hb1148 rfl ?_)
       refine QW.cons rfl (QP.no' rfl rfl hb1148 rfl ?_)
       refine QW.cons rfl (QP.no' rfl rfl hb1148 rfl ?_)
       refine QW.cons rfl (QP.no' rfl rfl hb1148 rfl ?_)
       refine QW.cons rfl (QP.no' rfl rfl hb1148 rfl ?_)
       refine QW.cons rfl (QP.no' rfl rfl hb1148 rfl ?_)
       refine QW.cons rfl (QP.no' rfl rfl hb1148 rfl ?_)
       refine QW.cons rfl (QP.no' rfl rfl hb1148 rfl ?_)
       refine QW.cons rfl (QP.no' rfl rfl hb1148 rfl ?_)
       refine QV (.bool true) rfl rfl (fun w' hm' => x_pickT' rfl hb1148 rfl) ?_
       refine QW.nil ?_
       intro wd1149 hmod
       have hL := hL.call hmod
       refine DW.done (by kernel_rfl) ?_
       exact ⟨true, hm, ⟨f783, f784, rfl, hL⟩⟩
     refine QW.cons rfl (QP.yes' rfl rfl hb1148 (QP.val (v := (.pointer (some ⟨b6, 2, none⟩))) rfl (fun w' hm' => x_fieldAddr (fsz := 1) 0 2 2 U29 rfl Try_T22 rfl f783 rfl) ?_))
     refine QW.cons rfl (QP.yes' rfl rfl hb1148 (QP.val (v := v3) rfl (fun w' hm' => x_load1 U22 rfl rfl ((hL.call hm').cellB 0 rfl rfl)) ?_))
     refine QW.cons rfl (QP.yes' rfl rfl hb1148 (QP.val (v := (.int .i64 s_l1)) rfl (fun w' hm' => x_mv f784) ?_))
     obtain ⟨x1150, ha1151, hm⟩ := bndE hm
     obtain ⟨hz1152, ha1160⟩ := idxE ha1151
     obtain ⟨b1153, q1154, v1155, hix1156, hs1157, hc1158, hr1159⟩ := rdN_at h4 hz1152 ha1160
     refine QW.cons rfl (QP.yes' rfl rfl hb1148 (QP.val (v := (.pointer (some ⟨b1153, q1154, none⟩))) rfl (fun w' hm' => x_ix U22 Try_T25 rfl rfl hix1156) ?_))
     refine QW.cons rfl (QP.yes' rfl rfl hb1148 (QP.val (v := v1155) rfl (fun w' hm' => x_load1 U25 rfl rfl ((hL.call hm').cellS 1 rfl hs1157 hc1158)) ?_))
     refine QW.cons rfl (QP.yes' rfl rfl hb1148 (QP.val (v := (.int .i64 (x1150.length : Int))) rfl (fun w' hm' => x_lenR U25 rfl ((hL.call hm').rdS 1 rfl hr1159)) ?_))
     refine QW.cons rfl (QP.yes' rfl rfl hb1148 (QP.val (v := (.pointer (some ⟨b6, 0, none⟩))) rfl (fun w' hm' => x_fieldAddr (fsz := 1) 0 0 0 U29 rfl Try_T2 rfl f783 rfl) ?_))
     refine QW.cons rfl (QP.yes' rfl rfl hb1148 (QP.val (v := (.int .i64 a0.Boats)) rfl (fun w' hm' => x_load1 U2 rfl rfl ((hL.call hm').cellB 0 rfl rfl)) ?_))
     refine QW.cons rfl (QP.yes' rfl rfl hb1148 (QP.val (v := (.bool ((x1150.length : Int) != a0.Boats))) rfl (fun w' hm' => x_neq rfl rfl) ?_))
     refine QV (.bool ((x1150.length : Int) != a0.Boats)) rfl rfl (fun w' hm' => x_pickF' rfl hb1148 rfl) ?_
     refine QW.nil ?_
     intro wd1161 hmod
     have hL := hL.call hmod
     refine DW.done (by kernel_rfl) ?_
     exact ⟨(x1150.length : Int) != a0.Boats, hm, ⟨f783, f784, rfl, hL⟩⟩
   intro s_j2 F811 wd812 hJ hm
   unfold M.spec_IsTable_j2 at hm
   obtain ⟨f813, f814, f815, hL⟩ := hJ
   refine CW.condM (t := s_j2) f815 hm (fun hb816 hm => ?_) (fun hb816 hm => ?_)
   · refine CSR <| OV (.bool false) rfl (x_assign) <| OW.nil <| CW.ret ?_
     obtain rfl := Option.some.inj hm
     have hm := hr774 _ rfl
     obtain rfl := Option.some.inj hm
     exact RR1 rfl rfl ⟨rfl, hL.fresh 1 rfl [] (by decide) (by decide) rfl⟩
   refine CW.skip <| CSR <| OV (.int .i64 0) rfl (x_assign) <| OW.nil ?_
   obtain ⟨o1023, ho1024, hm⟩ := bndE hm
   refine CW.loopB (fun (s_l2 : Int) (F : Fr) (w : World) => F 1 = (.pointer (some ⟨b6, 0, none⟩)) ∧ F 3 = (.int .i64 s_l1) ∧ F 4 = (.int .i64 s_l2) ∧ Hp w0 [Ent.blk b6 29 #[(.int .i64 a0.Boats), v1, v3], Ent.snap w0 w0.heap.size] w) (fun o => outc o (fun x => some (.ret x)) (fun s => M.spec_IsTable_a2 s_l1 s) = some t773) ho1024 hm ⟨f813, f814, rfl, hL⟩ ?_ ?_
   · intro s_l2 F1025 wd1026 hJ hm
     have hm := outcE hm
     have hm : M.spec_IsTable_a2 s_l1 s_l2 = some t773 := hm
     unfold M.spec_IsTable_a2 at hm
     obtain ⟨f1027, f1028, f1029, hL⟩ := hJ
     refine CW.regionL <| OV (.int .i64 s_l1) rfl (x_mv f1028) <| OV (.int .i64 (w64 (s_l1 + 1))) rfl (x_add rfl rfl) <| OV (.int .i64 (w64 (s_l1 + 1))) rfl (x_assign) <| OW.nil ?_
     obtain rfl := Option.some.inj hm
     exact ⟨_, rfl, ⟨f1027, rfl, hL⟩⟩
   intro s_l2 F1030 wd1031 t1021 hJ hm hr1022
   unfold M.spec_IsTable_l2 at hm
   obtain ⟨f1032, f1033, f1034, hL⟩ := hJ
   refine CW.seq <| CSR <| OV (.int .i64 s_l2) rfl (x_mv f1034) <| OV (.pointer (some ⟨b6, 0, none⟩)) rfl (x_fieldAddr (fsz := 1) 0 0 0 U29 rfl Try_T2 rfl f1032 rfl) <| OV (.int .i64 a0.Boats) rfl (x_load1 U2 rfl rfl (hL.cellB 0 rfl rfl)) <| OV (.bool (decide (s_l2 < a0.Boats))) rfl (x_lss rfl rfl) <| OW.nil ?_
   refine CW.condM (t := decide (s_l2 < a0.Boats)) rfl hm (fun hb1035 hm => ?_) (fun hb1035 hm => ?_)
   · refine CW.skip <| CW.seq <| CW.block ?_
     refine CW.seqJ (fun (s_j3 : Bool) (F : Fr) (w : World) => F 1 = (.pointer (some ⟨b6, 0, none⟩)) ∧ F 3 = (.int .i64 s_l1) ∧ F 4 = (.int .i64 s_l2) ∧ F 78 = (.bool s_j3) ∧ Hp w0 [Ent.blk b6 29 #[(.int .i64 a0.Boats), v1, v3], Ent.snap w0 w0.heap.size] w) (fun s_j3 => M.spec_IsTable_j3 s_l2 s_j3 = some t1021) ?_ ?_
     · refine CW.regionL <| OV (.pointer (some ⟨b6, 1, none⟩)) rfl (x_fieldAddr (fsz := 1) 0 1 1 U29 rfl Try_T22 rfl f1032 rfl) <| OV v1 rfl (x_load1 U22 rfl rfl (hL.cellB 0 rfl rfl)) <| OV (.int .i64 s_l1) rfl (x_mv f1033) ?_
       obtain ⟨x1090, ha1091, hm⟩ := bndE hm
       obtain ⟨hz1092, ha1100⟩ := idxE ha1091
       obtain ⟨b1093, q1094, v1095, hix1096, hs1097, hc1098, hr1099⟩ := rdN_at h2 hz1092 ha1100
       refine OV (.pointer (some ⟨b1093, q1094, none⟩)) rfl (x_ix U22 Try_T25 rfl rfl hix1096) <| OV v1095 rfl (x_load1 U25 rfl rfl (hL.cellS 1 rfl hs1097 hc1098)) <| OV (.int .i64 s_l2) rfl (x_mv f1034) ?_
       obtain ⟨x1101, ha1102, hm⟩ := bndE hm
       obtain ⟨hz1103, ha1107⟩ := idxE ha1102
       obtain ⟨b1104, q1105, hix1106⟩ := rdL_ix (hL.rdS 1 rfl hr1099) hz1103 ha1107
       refine OV (.pointer (some ⟨b1104, q1105, none⟩)) rfl (x_ix U25 Try_T2 rfl rfl hix1106) <| OV (.int .i64 x1101) rfl (x_load1 U2 rfl rfl (rdF_cells (hL.rdS 1 rfl hr1099) hix1106 ha1107 0 _ rfl)) ?_
       obtain ⟨x1108, hx1109, hm⟩ := bndE hm
       refine OW.cons (OP.call rfl (x_call (vs := [(.int .i64 x1101), (.int .i64 0), (.int .i64 10000)]) Try_C88 ⟨rfl, rfl, rfl, trivial⟩) (M.spec_l01In_ok _ x1101 0 10000 hx1109) ?_)
       rintro e1110 wd1111 ⟨rfl, hF1112⟩
       refine ⟨_, rfl, ?_⟩
       have hL := hL.pushAll hF1112
       simp only [lA, lB, lC, lD] at hL
       refine OV (.bool (!x1108)) rfl (x_not rfl) <| OV (.bool (!x1108)) rfl (x_move) ?_
       refine ifB_elim hm (fun hb1113 hm => ?_) (fun hb1113 hm => ?_)
       · refine OW.cons (OP.no' rfl rfl hb1113 rfl ?_)
         refine OW.cons (OP.no' rfl rfl hb1113 rfl ?_)
         refine OW.cons (OP.no' rfl rfl hb1113 rfl ?_)
         refine OW.cons (OP.no' rfl rfl hb1113 rfl ?_)
         refine OW.cons (OP.no' rfl rfl hb1113 rfl ?_)
         refine OW.cons (OP.no' rfl rfl hb1113 rfl ?_)
         refine OW.cons (OP.no' rfl rfl hb1113 rfl ?_)
         refine OW.cons (OP.no' rfl rfl hb1113 rfl ?_)
         refine OW.cons (OP.no' rfl rfl hb1113 rfl ?_)
         refine OW.cons (OP.no' rfl rfl hb1113 rfl ?_)
         refine OV (.bool true) rfl (x_pickT' rfl hb1113 rfl) <| OW.nil ?_
         exact ⟨true, hm, ⟨f1032, f1033, f1034, rfl, hL⟩⟩
       refine OW.cons (OP.yes' rfl rfl hb1113 (OP.val (v := (.pointer (some ⟨b6, 2, none⟩))) rfl (x_fieldAddr (fsz := 1) 0 2 2 U29 rfl Try_T22 rfl f1032 rfl) ?_))
       refine OW.cons (OP.yes' rfl rfl hb1113 (OP.val (v := v3) rfl (x_load1 U22 rfl rfl (hL.cellB 0 rfl rfl)) ?_))
       refine OW.cons (OP.yes' rfl rfl hb1113 (OP.val (v := (.int .i64 s_l1)) rfl (x_mv f1033) ?_))
       obtain ⟨x1114, ha1115, hm⟩ := bndE hm
       obtain ⟨hz1116, ha1124⟩ := idxE ha1115
       obtain ⟨b1117, q1118, v1119, hix1120, hs1121, hc1122, hr1123⟩ := rdN_at h4 hz1116 ha1124
       refine OW.cons (OP.yes' rfl rfl hb1113 (OP.val (v := (.pointer (some ⟨b1117, q1118, none⟩))) rfl (x_ix U22 Try_T25 rfl rfl hix1120) ?_))
       refine OW.cons (OP.yes' rfl rfl hb1113 (OP.val (v := v1119) rfl (x_load1 U25 rfl rfl (hL.cellS 1 rfl hs1121 hc1122)) ?_))
       refine OW.cons (OP.yes' rfl rfl hb1113 (OP.val (v := (.int .i64 s_l2)) rfl (x_mv f1034) ?_))
       obtain ⟨x1125, ha1126, hm⟩ := bndE hm
       obtain ⟨hz1127, ha1131⟩ := idxE ha1126
       obtain ⟨b1128, q1129, hix1130⟩ := rdL_ix (hL.rdS 1 rfl hr1123) hz1127 ha1131
       refine OW.cons (OP.yes' rfl rfl hb1113 (OP.val (v := (.pointer (some ⟨b1128, q1129, none⟩))) rfl (x_ix U25 Try_T2 rfl rfl hix1130) ?_))
       refine OW.cons (OP.yes' rfl rfl hb1113 (OP.val (v := (.int .i64 x1125)) rfl (x_load1 U2 rfl rfl (rdF_cells (hL.rdS 1 rfl hr1123) hix1130 ha1131 0 _ rfl)) ?_))
       obtain ⟨x1132, hx1133, hm⟩ := bndE hm
       refine OW.cons (OP.yes' rfl rfl hb1113 (OP.call rfl (x_call (vs := [(.int .i64 x1125)]) Try_C109 ⟨rfl, trivial⟩) (M.spec_l26Code_ok _ x1125 hx1133) ?_))
       rintro e1134 wd1135 ⟨rfl, hF1136⟩
       refine ⟨_, rfl, ?_⟩
       have hL := hL.pushAll hF1136
       simp only [lA, lB, lC, lD] at hL
       refine OW.cons (OP.yes' rfl rfl hb1113 (OP.val (v := (.bool (!x1132))) rfl (x_not rfl) ?_))
       refine OV (.bool (!x1132)) rfl (x_pickF' rfl hb1113 rfl) <| OW.nil ?_
       exact ⟨!x1132, hm, ⟨f1032, f1033, f1034, rfl, hL⟩⟩
     intro s_j3 F1083 wd1084 hJ hm
     unfold M.spec_IsTable_j3 at hm
     obtain ⟨f1085, f1086, f1087, f1088, hL⟩ := hJ
     refine CW.condM (t := s_j3) f1088 hm (fun hb1089 hm => ?_) (fun hb1089 hm => ?_)
     · refine CSR <| OV (.bool false) rfl (x_assign) <| OW.nil <| CW.ret ?_
       obtain rfl := Option.some.inj hm
       have hm := hr1022 _ rfl
       obtain rfl := Option.some.inj hm
       have hm := hr774 _ rfl
       obtain rfl := Option.some.inj hm
       exact RR1 rfl rfl ⟨rfl, hL.fresh 1 rfl [] (by decide) (by decide) rfl⟩
     refine CW.skip <| CW.regionL <| OV (.int .i64 s_l2) rfl (x_mv f1087) <| OV (.int .i64 (w64 (s_l2 + 1))) rfl (x_add rfl rfl) <| OV (.int .i64 (w64 (s_l2 + 1))) rfl (x_assign) <| OW.nil ?_
     obtain rfl := Option.some.inj hm
     exact ⟨_, rfl, ⟨f1085, f1086, rfl, hL⟩⟩
   refine CW.exit ?_
   refine XJ.hit ?_
   obtain rfl := Option.some.inj hm
   exact ⟨_, rfl, ⟨f1032, f1033, f1034, hL⟩⟩
 refine CW.exit ?_
 refine XJ.hit ?_
 obtain rfl := Option.some.inj hm
 exact ⟨_, rfl, ⟨f783, f784, hL⟩⟩

theorem M.spec_IsDiscardRule_ok (w0 : World) (a0 : List Int) {v1 : Value} (h2 : rdL (· < w0.heap.size) w0 v1 a0) {r : Bool} (hm : M.spec_IsDiscardRule a0 = some r) :
    Calls Try.prog 87 #[v1] w0 fun e w' => e = .returned (.bool r) ∧ Fresh w0 w' [] := by
 unfold M.spec_IsDiscardRule at hm
 refine calls_CW (args := [v1]) Try.func87 rfl rfl rfl ?_
 have hL := Hp.start w0
 refine CSR <| OV (.bool false) rfl (x_assign) <| ONS <| CSR <| OV v1 rfl (x_move) <| OV (.int .i64 (a0.length : Int)) rfl (x_lenR U25 rfl (hL.rdS 0 rfl h2)) <| OV (.bool (decide (3 < (a0.length : Int)))) rfl (x_gtr rfl rfl) <| OW.nil ?_
 refine CW.condM (t := decide (3 < (a0.length : Int))) rfl hm (fun hb3 hm => ?_) (fun hb3 hm => ?_)
 · refine CSR <| OV (.bool false) rfl (x_assign) <| OW.nil <| CW.ret ?_
   obtain rfl := Option.some.inj hm
   exact RR1 rfl rfl ⟨rfl, hL.fresh 0 rfl [] (by decide) (by decide) rfl⟩
 refine CW.skip <| CW.seq <| CSR <| OV (.int .i64 0) rfl (x_assign) <| OW.nil ?_
 obtain ⟨o132, ho133, hm⟩ := bndE hm
 refine CW.loopB (fun (s_l1 : Int) (F : Fr) (w : World) => F 0 = v1 ∧ F 3 = (.int .i64 s_l1) ∧ Hp w0 [Ent.snap w0 w0.heap.size] w) (fun o => outc o (fun x => some x) (fun s => M.spec_IsDiscardRule_a1 s) = some r) ho133 hm ⟨rfl, rfl, hL⟩ ?_ ?_
 · intro s_l1 F134 wd135 hJ hm
   have hm := outcE hm
   have hm : M.spec_IsDiscardRule_a1 s_l1 = some r := hm
   unfold M.spec_IsDiscardRule_a1 at hm
   obtain ⟨f136, f137, hL⟩ := hJ
   refine CSR <| OV (.bool true) rfl (x_assign) <| OW.nil <| CW.ret ?_
   obtain rfl := Option.some.inj hm
   exact RR1 rfl rfl ⟨rfl, hL.fresh 0 rfl [] (by decide) (by decide) rfl⟩
 intro s_l1 F138 wd139 t130 hJ hm hr131
 unfold M.spec_IsDiscardRule_l1 at hm
 obtain ⟨f140, f141, hL⟩ := hJ
 refine CW.seq <| CSR <| OV (.int .i64 s_l1) rfl (x_mv f141) <| OV v1 rfl (x_mv f140) <| OV (.int .i64 (a0.length : Int)) rfl (x_lenR U25 rfl (hL.rdS 0 rfl h2)) <| OV (.bool (decide (s_l1 < (a0.length : Int)))) rfl (x_lss rfl rfl) <| OW.nil ?_
 refine CW.condM (t := decide (s_l1 < (a0.length : Int))) rfl hm (fun hb142 hm => ?_) (fun hb142 hm => ?_)
 · refine CW.skip <| CW.seq <| CW.block ?_
   refine CW.seqJ (fun (s_j1 : Bool) (F : Fr) (w : World) => F 0 = v1 ∧ F 3 = (.int .i64 s_l1) ∧ F 34 = (.bool s_j1) ∧ Hp w0 [Ent.snap w0 w0.heap.size] w) (fun s_j1 => M.spec_IsDiscardRule_j1 s_l1 s_j1 = some t130) ?_ ?_
   · refine CW.draw Try_mixed ?_
     have hL := hL.call (Mod.drew _)
     refine DW.pre (fuel := 0) (fin := bma 22 4194303) (C := fun w' => Mod None_ _ w') [0, 1, 2, 3, 4, 5, 6, 7, 8, 9, 10, 11, 12, 13, 14, 15, 16, 17, 18, 19, 20, 21] (Mod.refl _ _) (by kernel_rfl) (by kernel_rfl) ?_
     refine QV v1 rfl rfl (fun w' hm' => x_mv f140) <| QV (.int .i64 s_l1) rfl rfl (fun w' hm' => x_mv f141) ?_
     obtain ⟨x177, ha178, hm⟩ := bndE hm
     obtain ⟨hz179, ha183⟩ := idxE ha178
     obtain ⟨b180, q181, hix182⟩ := rdL_ix (hL.rdS 0 rfl h2) hz179 ha183
     refine QV (.pointer (some ⟨b180, q181, none⟩)) rfl rfl (fun w' hm' => x_ix U25 Try_T2 rfl rfl hix182) <| QV (.int .i64 x177) rfl rfl (fun w' hm' => x_load1 U2 rfl rfl (rdF_cells ((hL.call hm').rdS 0 rfl h2) hix182 ha183 0 _ rfl)) ?_
     obtain ⟨x184, hx185, hm⟩ := bndE hm
     refine QW.cons rfl (QP.call (v := (.bool x184)) rfl (fun w' hm' => x_call (vs := [(.int .i64 x177), (.int .i64 1), (.int .i64 12)]) Try_C88 ⟨rfl, rfl, rfl, trivial⟩) (fun w' hm' => (M.spec_l01In_ok w' x177 1 12 hx185).mono (fun e w'' h => ⟨h.1, hm'.trans h.2.mod⟩)) ?_)
     refine QV (.bool (!x184)) rfl rfl (fun w' hm' => x_not rfl) <| QV (.bool (!x184)) rfl rfl (fun w' hm' => x_move) ?_
     refine ifB_elim hm (fun hb186 hm => ?_) (fun hb186 hm => ?_)
     · refine QW.cons rfl (QP.no' rfl rfl hb186 rfl ?_)
       refine QW.cons rfl (QP.no' rfl rfl hb186 rfl ?_)
       refine QW.cons rfl (QP.no' rfl rfl hb186 rfl ?_)
       refine QW.cons rfl (QP.noU rfl rfl rfl ?_)
       refine QW.cons rfl (QP.noU rfl rfl rfl ?_)
       refine QW.cons rfl (QP.noU rfl rfl rfl ?_)
       refine QW.cons rfl (QP.noU rfl rfl rfl ?_)
       refine QW.cons rfl (QP.noU rfl rfl rfl ?_)
       refine QW.cons rfl (QP.noU rfl rfl rfl ?_)
       refine QW.cons rfl (QP.noU rfl rfl rfl ?_)
       refine QW.cons rfl (QP.noU rfl rfl rfl ?_)
       refine QW.cons rfl (QP.noU rfl rfl rfl ?_)
       refine QW.cons rfl (QP.noU rfl rfl rfl ?_)
       refine QW.cons rfl (QP.no' rfl rfl hb186 rfl ?_)
       refine QV (.bool true) rfl rfl (fun w' hm' => x_pickT' rfl hb186 rfl) ?_
       refine QW.nil ?_
       intro wd187 hmod
       have hL := hL.call hmod
       refine DW.done (by kernel_rfl) ?_
       exact ⟨true, hm, ⟨f140, f141, rfl, hL⟩⟩
     refine QW.cons rfl (QP.yes' rfl rfl hb186 (QP.val (v := (.int .i64 s_l1)) rfl (fun w' hm' => x_mv f141) ?_))
     refine QW.cons rfl (QP.yes' rfl rfl hb186 (QP.val (v := (.bool (decide (0 < s_l1)))) rfl (fun w' hm' => x_gtr rfl rfl) ?_))
     refine QW.cons rfl (QP.yes' rfl rfl hb186 (QP.val (v := (.bool (decide (0 < s_l1)))) rfl (fun w' hm' => x_move) ?_))
     refine ifB_elim hm (fun hb188 hm => ?_) (fun hb188 hm => ?_)
     · refine QW.cons rfl (QP.yes' rfl rfl hb188 (QP.val (v := v1) rfl (fun w' hm' => x_mv f140) ?_))
       refine QW.cons rfl (QP.yes' rfl rfl hb188 (QP.val (v := (.int .i64 s_l1)) rfl (fun w' hm' => x_mv f141) ?_))
       refine QW.cons rfl (QP.yes' rfl rfl hb188 (QP.val (v := (.int .i64 (w64 (s_l1 - 1)))) rfl (fun w' hm' => x_sub rfl rfl) ?_))
       obtain ⟨x189, ha190, hm⟩ := bndE hm
       obtain ⟨hz191, ha195⟩ := idxE ha190
       obtain ⟨b192, q193, hix194⟩ := rdL_ix (hL.rdS 0 rfl h2) hz191 ha195
       refine QW.cons rfl (QP.yes' rfl rfl hb188 (QP.val (v := (.pointer (some ⟨b192, q193, none⟩))) rfl (fun w' hm' => x_ix U25 Try_T2 rfl rfl hix194) ?_))
       refine QW.cons rfl (QP.yes' rfl rfl hb188 (QP.val (v := (.int .i64 x189)) rfl (fun w' hm' => x_load1 U2 rfl rfl (rdF_cells ((hL.call hm').rdS 0 rfl h2) hix194 ha195 0 _ rfl)) ?_))
       refine QW.cons rfl (QP.yes' rfl rfl hb188 (QP.val (v := v1) rfl (fun w' hm' => x_mv f140) ?_))
       refine QW.cons rfl (QP.yes' rfl rfl hb188 (QP.val (v := (.int .i64 s_l1)) rfl (fun w' hm' => x_mv f141) ?_))
       obtain ⟨x196, ha197, hm⟩ := bndE hm
       obtain ⟨hz198, ha202⟩ := idxE ha197
       obtain ⟨b199, q200, hix201⟩ := rdL_ix (hL.rdS 0 rfl h2) hz198 ha202
       refine QW.cons rfl (QP.yes' rfl rfl hb188 (QP.val (v := (.pointer (some ⟨b199, q200, none⟩))) rfl (fun w' hm' => x_ix U25 Try_T2 rfl rfl hix201) ?_))
       refine QW.cons rfl (QP.yes' rfl rfl hb188 (QP.val (v := (.int .i64 x196)) rfl (fun w' hm' => x_load1 U2 rfl rfl (rdF_cells ((hL.call hm').rdS 0 rfl h2) hix201 ha202 0 _ rfl)) ?_))
       refine QW.cons rfl (QP.yes' rfl rfl hb188 (QP.val (v := (.bool (decide (x196 ≤ x189)))) rfl (fun w' hm' => x_geq rfl rfl) ?_))
       refine QW.cons rfl (QP.yes' rfl rfl hb186 (QP.val (v := (.bool (decide (x196 ≤ x189)))) rfl (fun w' hm' => x_pickT' rfl hb188 rfl) ?_))
       refine QV (.bool (decide (x196 ≤ x189))) rfl rfl (fun w' hm' => x_pickF' rfl hb186 rfl) ?_
       refine QW.nil ?_
       intro wd203 hmod
       have hL := hL.call hmod
       refine DW.done (by kernel_rfl) ?_
       exact ⟨decide (x196 ≤ x189), hm, ⟨f140, f141, rfl, hL⟩⟩
     refine QW.cons rfl (QP.no' rfl rfl hb188 rfl ?_)
     refine QW.cons rfl (QP.no' rfl rfl hb188 rfl ?_)
     refine QW.cons rfl (QP.no' rfl rfl hb188 rfl ?_)
     refine QW.cons rfl (QP.no' rfl rfl hb188 rfl ?_)
     refine QW.cons rfl (QP.no' rfl rfl hb188 rfl ?_)
     refine QW.cons rfl (QP.no' rfl rfl hb188 rfl ?_)
     refine QW.cons rfl (QP.no' rfl rfl hb188 rfl ?_)
     refine QW.cons rfl (QP.no' rfl rfl hb188 rfl ?_)
     refine QW.cons rfl (QP.no' rfl rfl hb188 rfl ?_)
     refine QW.cons rfl (QP.no' rfl rfl hb188 rfl ?_)
     refine QW.cons rfl (QP.yes' rfl rfl hb186 (QP.val (v := (.bool false)) rfl (fun w' hm' => x_pickF' rfl hb188 rfl) ?_))
     refine QV (.bool false) rfl rfl (fun w' hm' => x_pickF' rfl hb186 rfl) ?_
     refine QW.nil ?_
     intro wd204 hmod
     have hL := hL.call hmod
     refine DW.done (by kernel_rfl) ?_
     exact ⟨false, hm, ⟨f140, f141, rfl, hL⟩⟩
   intro s_j1 F171 wd172 hJ hm
   unfold M.spec_IsDiscardRule_j1 at hm
   obtain ⟨f173, f174, f175, hL⟩ := hJ
   refine CW.condM (t := s_j1) f175 hm (fun hb176 hm => ?_) (fun hb176 hm => ?_)
   · refine CSR <| OV (.bool false) rfl (x_assign) <| OW.nil <| CW.ret ?_
     obtain rfl := Option.some.inj hm
     have hm := hr131 _ rfl
     obtain rfl := Option.some.inj hm
     exact RR1 rfl rfl ⟨rfl, hL.fresh 0 rfl [] (by decide) (by decide) rfl⟩
   refine CW.skip <| CW.regionL <| OV (.int .i64 s_l1) rfl (x_mv f174) <| OV (.int .i64 (w64 (s_l1 + 1))) rfl (x_add rfl rfl) <| OV (.int .i64 (w64 (s_l1 + 1))) rfl (x_assign) <| OW.nil ?_
   obtain rfl := Option.some.inj hm
   exact ⟨_, rfl, ⟨f173, rfl, hL⟩⟩
 refine CW.exit ?_
 refine XJ.hit ?_
 obtain rfl := Option.some.inj hm
 exact ⟨_, rfl, ⟨f140, f141, hL⟩⟩

theorem M.spec_l27Code_ok (w0 : World) (a0 : Table) {v1 : Value} {v3 : Value} (h2 : rdL (· < w0.heap.size) w0 v1 a0.Points) (h4 : rdL (· < w0.heap.size) w0 v3 a0.Codes) (a1 : List Int) {v5 : Value} (h6 : rdL (· < w0.heap.size) w0 v5 a1) (a2 : Int) {r : Int} (hm : M.spec_l27Code a0 a1 a2 = some r) :
    Calls Try.prog 63 #[(.agg #[(.int .i64 a0.Boats), v1, v3]), v5, (.int .i64 a2)] w0 fun e w' => e = .returned (.int .i64 r) ∧ Fresh w0 w' [] := by
 unfold M.spec_l27Code at hm
 refine calls_CW (args := [(.agg #[(.int .i64 a0.Boats), v1, v3]), v5, (.int .i64 a2)]) Try.func63 rfl rfl rfl ?_
 have hL := Hp.start w0
 refine CSR ?_
 refine OW.cons (S_box (cs := #[(.int .i64 a0.Boats), v1, v3]) hL rfl rfl rfl ?_)
 intro wd7 b8 hL
 refine OV (.int .i64 0) rfl (x_assign) <| ONS <| CSR <| OV (.agg #[(.int .i64 a0.Boats), v1, v3]) rfl (x_loadN (cs := [(.int .i64 a0.Boats), v1, v3]) U29 Try_T29 rfl rfl (hL.cellsB 0 rfl (o := 0) (l := [(.int .i64 a0.Boats), v1, v3]) (by intro j u hj; exact (by simpa using hj)))) ?_
 obtain ⟨x9, hx10, hm⟩ := bndE hm
 refine OW.cons (OP.call rfl (x_call (vs := [(.agg #[(.int .i64 a0.Boats), v1, v3])]) Try_C94 ⟨rfl, trivial⟩) (M.spec_IsTable_ok _ a0 (hL.rdS 1 rfl h2) (hL.rdS 1 rfl h4) hx10) ?_)
 rintro e11 wd12 ⟨rfl, hF13⟩
 refine ⟨_, rfl, ?_⟩
 have hL := hL.pushAll hF13
 simp only [lA, lB, lC, lD] at hL
 refine OV (.bool (!x9)) rfl (x_not rfl) <| OW.nil ?_
 refine CW.condM (t := !x9) rfl hm (fun hb14 hm => ?_) (fun hb14 hm => ?_)
 · refine CSR <| OV (.int .i64 1) rfl (x_assign) <| OW.nil <| CW.ret ?_
   obtain rfl := Option.some.inj hm
   exact RR1 rfl rfl ⟨rfl, hL.fresh 1 rfl [] (by decide) (by decide) rfl⟩
 refine CW.skip <| CW.seq ?_
 refine CW.seqJ (fun (s_j1 : Bool) (F : Fr) (w : World) => F 20 = (.bool s_j1) ∧ Hp w0 [Ent.blk b8 29 #[(.int .i64 a0.Boats), v1, v3], Ent.snap w0 w0.heap.size] w) (fun s_j1 => M.spec_l27Code_j1 s_j1 = some r) ?_ ?_
 · refine CW.regionL <| OV v5 rfl (x_move) ?_
   obtain ⟨x30, hx31, hm⟩ := bndE hm
   refine OW.cons (OP.call rfl (x_call (vs := [v5]) Try_C87 ⟨rfl, trivial⟩) (M.spec_IsDiscardRule_ok _ a1 (hL.rdS 1 rfl h6) hx31) ?_)
   rintro e32 wd33 ⟨rfl, hF34⟩
   refine ⟨_, rfl, ?_⟩
   have hL := hL.pushAll hF34
   simp only [lA, lB, lC, lD] at hL
   refine OV (.bool (!x30)) rfl (x_not rfl) <| OV (.bool (!x30)) rfl (x_move) ?_
   refine ifB_elim hm (fun hb35 hm => ?_) (fun hb35 hm => ?_)
   · refine OW.cons (OP.no' rfl rfl hb35 rfl ?_)
     refine OW.cons (OP.no' rfl rfl hb35 rfl ?_)
     refine OW.cons (OP.no' rfl rfl hb35 rfl ?_)
     refine OW.cons (OP.no' rfl rfl hb35 rfl ?_)
     refine OW.cons (OP.no' rfl rfl hb35 rfl ?_)
     refine OW.cons (OP.no' rfl rfl hb35 rfl ?_)
     refine OV (.bool true) rfl (x_pickT' rfl hb35 rfl) <| OW.nil ?_
     exact ⟨true, hm, ⟨rfl, hL⟩⟩
   refine OW.cons (OP.yes' rfl rfl hb35 (OP.val (v := (.int .i64 a2)) rfl (x_move) ?_))
   refine OW.cons (OP.yes' rfl rfl hb35 (OP.val (v := (.pointer (some ⟨b8, 0, none⟩))) rfl (x_fieldAddr (fsz := 1) 0 0 0 U29 rfl Try_T2 rfl rfl rfl) ?_))
   refine OW.cons (OP.yes' rfl rfl hb35 (OP.val (v := (.int .i64 a0.Boats)) rfl (x_load1 U2 rfl rfl (hL.cellB 0 rfl rfl)) ?_))
   refine OW.cons (OP.yes' rfl rfl hb35 (OP.val (v := (.int .i64 (w64 (a0.Boats - 1)))) rfl (x_sub rfl rfl) ?_))
   obtain ⟨x36, hx37, hm⟩ := bndE hm
   refine OW.cons (OP.yes' rfl rfl hb35 (OP.call rfl (x_call (vs := [(.int .i64 a2), (.int .i64 0), (.int .i64 (w64 (a0.Boats - 1)))]) Try_C88 ⟨rfl, rfl, rfl, trivial⟩) (M.spec_l01In_ok _ a2 0 (w64 (a0.Boats - 1)) hx37) ?_))
   rintro e38 wd39 ⟨rfl, hF40⟩
   refine ⟨_, rfl, ?_⟩
   have hL := hL.pushAll hF40
   simp only [lA, lB, lC, lD] at hL
   refine OW.cons (OP.yes' rfl rfl hb35 (OP.val (v := (.bool (!x36))) rfl (x_not rfl) ?_))
   refine OV (.bool (!x36)) rfl (x_pickF' rfl hb35 rfl) <| OW.nil ?_
   exact ⟨!x36, hm, ⟨rfl, hL⟩⟩
 intro s_j1 F26 wd27 hJ hm
 unfold M.spec_l27Code_j1 at hm
 obtain ⟨f28, hL⟩ := hJ
 refine CW.condM (t := s_j1) f28 hm (fun hb29 hm => ?_) (fun hb29 hm => ?_)
 · refine CSR <| OV (.int .i64 2) rfl (x_assign) <| OW.nil <| CW.ret ?_
   obtain rfl := Option.some.inj hm
   exact RR1 rfl rfl ⟨rfl, hL.fresh 1 rfl [] (by decide) (by decide) rfl⟩
 refine CW.skip <| CSR <| OV (.int .i64 0) rfl (x_assign) <| OW.nil <| CW.ret ?_
 obtain rfl := Option.some.inj hm
 exact RR1 rfl rfl ⟨rfl, hL.fresh 1 rfl [] (by decide) (by decide) rfl⟩

theorem M.spec_l28Code_ok (w0 : World) (a0 : Table) {v1 : Value} {v3 : Value} (h2 : rdL (· < w0.heap.size) w0 v1 a0.Points) (h4 : rdL (· < w0.heap.size) w0 v3 a0.Codes) (a1 : List Int) {v5 : Value} (h6 : rdL (· < w0.heap.size) w0 v5 a1) (a2 : Int) (a3 : Int) {r : Int} (hm : M.spec_l28Code a0 a1 a2 a3 = some r) :
    Calls Try.prog 58 #[(.agg #[(.int .i64 a0.Boats), v1, v3]), v5, (.int .i64 a2), (.int .i64 a3)] w0 fun e w' => e = .returned (.int .i64 r) ∧ Fresh w0 w' [] := by
 unfold M.spec_l28Code at hm
 refine calls_CW (args := [(.agg #[(.int .i64 a0.Boats), v1, v3]), v5, (.int .i64 a2), (.int .i64 a3)]) Try.func58 rfl rfl rfl ?_
 have hL := Hp.start w0
 refine CSR ?_
 refine OW.cons (S_box (cs := #[(.int .i64 a0.Boats), v1, v3]) hL rfl rfl rfl ?_)
 intro wd7 b8 hL
 refine OV (.int .i64 0) rfl (x_assign) <| ONR <| OV (.agg #[(.int .i64 a0.Boats), v1, v3]) rfl (x_loadN (cs := [(.int .i64 a0.Boats), v1, v3]) U29 Try_T29 rfl rfl (hL.cellsB 0 rfl (o := 0) (l := [(.int .i64 a0.Boats), v1, v3]) (by intro j u hj; exact (by simpa using hj)))) <| OV v5 rfl (x_move) <| OV (.int .i64 a2) rfl (x_move) ?_
 obtain ⟨x9, hx10, hm⟩ := bndE hm
 refine OW.cons (OP.call rfl (x_call (vs := [(.agg #[(.int .i64 a0.Boats), v1, v3]), v5, (.int .i64 a2)]) Try_C63 ⟨rfl, rfl, rfl, trivial⟩) (M.spec_l27Code_ok _ a0 (hL.rdS 1 rfl h2) (hL.rdS 1 rfl h4) a1 (hL.rdS 1 rfl h6) a2 hx10) ?_)
 rintro e11 wd12 ⟨rfl, hF13⟩
 refine ⟨_, rfl, ?_⟩
 have hL := hL.pushAll hF13
 simp only [lA, lB, lC, lD] at hL
 refine OV (.int .i64 x9) rfl (x_assign) <| ONS <| CSR <| OV (.int .i64 x9) rfl (x_move) <| OV (.bool (x9 != 0)) rfl (x_neq rfl rfl) <| OW.nil ?_
 refine CW.condM (t := x9 != 0) rfl hm (fun hb14 hm => ?_) (fun hb14 hm => ?_)
 · refine CSR <| OV (.int .i64 x9) rfl (x_move) <| OV (.int .i64 x9) rfl (x_assign) <| OW.nil <| CW.ret ?_
   obtain rfl := Option.some.inj hm
   exact RR1 rfl rfl ⟨rfl, hL.fresh 1 rfl [] (by decide) (by decide) rfl⟩
 refine CW.skip <| CSR <| OV (.agg #[(.int .i64 a0.Boats), v1, v3]) rfl (x_loadN (cs := [(.int .i64 a0.Boats), v1, v3]) U29 Try_T29 rfl rfl (hL.cellsB 0 rfl (o := 0) (l := [(.int .i64 a0.Boats), v1, v3]) (by intro j u hj; exact (by simpa using hj)))) <| OV v5 rfl (x_move) <| OV (.int .i64 a3) rfl (x_move) ?_
 obtain ⟨x15, hx16, hm⟩ := bndE hm
 refine OW.cons (OP.call rfl (x_call (vs := [(.agg #[(.int .i64 a0.Boats), v1, v3]), v5, (.int .i64 a3)]) Try_C63 ⟨rfl, rfl, rfl, trivial⟩) (M.spec_l27Code_ok _ a0 (hL.rdS 1 rfl h2) (hL.rdS 1 rfl h4) a1 (hL.rdS 1 rfl h6) a3 hx16) ?_)
 rintro e17 wd18 ⟨rfl, hF19⟩
 refine ⟨_, rfl, ?_⟩
 have hL := hL.pushAll hF19
 simp only [lA, lB, lC, lD] at hL
 refine OV (.int .i64 x15) rfl (x_assign) <| OW.nil <| CW.ret ?_
 obtain rfl := Option.some.inj hm
 exact RR1 rfl rfl ⟨rfl, hL.fresh 1 rfl [] (by decide) (by decide) rfl⟩

theorem M.spec_l27Count_ok (w0 : World) (a0 : List Int) {v1 : Value} (h2 : rdL (· < w0.heap.size) w0 v1 a0) (a1 : Int) {r : Int} (hm : M.spec_l27Count a0 a1 = some r) :
    Calls Try.prog 89 #[v1, (.int .i64 a1)] w0 fun e w' => e = .returned (.int .i64 r) ∧ Fresh w0 w' [] := by
 unfold M.spec_l27Count at hm
 refine calls_CW (args := [v1, (.int .i64 a1)]) Try.func89 rfl rfl rfl ?_
 have hL := Hp.start w0
 refine CSR <| OV (.int .i64 0) rfl (x_assign) <| ONR <| OV (.int .i64 0) rfl (x_assign) <| ONS <| CSR <| OV (.int .i64 0) rfl (x_assign) <| OW.nil ?_
 obtain ⟨o107, ho108, hm⟩ := bndE hm
 refine CW.loopB (fun (s_l1 : Int × Int) (F : Fr) (w : World) => F 0 = v1 ∧ F 1 = (.int .i64 a1) ∧ F 5 = (.int .i64 s_l1.1) ∧ F 6 = (.int .i64 s_l1.2) ∧ Hp w0 [Ent.snap w0 w0.heap.size] w) (fun o => outc o (fun x => some x) (fun s => M.spec_l27Count_a1 s) = some r) ho108 hm ⟨rfl, rfl, rfl, rfl, hL⟩ ?_ ?_
 · intro s_l1 F109 wd110 hJ hm
   have hm := outcE hm
   have hm : M.spec_l27Count_a1 s_l1 = some r := hm
   unfold M.spec_l27Count_a1 at hm
   obtain ⟨f111, f112, f113, f114, hL⟩ := hJ
   refine CSR <| OV (.int .i64 s_l1.1) rfl (x_mv f113) <| OV (.int .i64 s_l1.1) rfl (x_assign) <| OW.nil <| CW.ret ?_
   obtain rfl := Option.some.inj hm
   exact RR1 rfl rfl ⟨rfl, hL.fresh 0 rfl [] (by decide) (by decide) rfl⟩
 intro s_l1 F115 wd116 t105 hJ hm hr106
 unfold M.spec_l27Count_l1 at hm
 obtain ⟨f117, f118, f119, f120, hL⟩ := hJ
 refine CW.seq <| CSR <| OV (.int .i64 s_l1.2) rfl (x_mv f120) <| OV v1 rfl (x_mv f117) <| OV (.int .i64 (a0.length : Int)) rfl (x_lenR U25 rfl (hL.rdS 0 rfl h2)) <| OV (.bool (decide (s_l1.2 < (a0.length : Int)))) rfl (x_lss rfl rfl) <| OW.nil ?_
 refine CW.condM (t := decide (s_l1.2 < (a0.length : Int))) rfl hm (fun hb121 hm => ?_) (fun hb121 hm => ?_)
 · refine CW.skip ?_
   refine CW.seqJ (fun (s_j1 : Int) (F : Fr) (w : World) => F 0 = v1 ∧ F 1 = (.int .i64 a1) ∧ F 5 = (.int .i64 s_j1) ∧ F 6 = (.int .i64 s_l1.2) ∧ Hp w0 [Ent.snap w0 w0.heap.size] w) (fun s_j1 => M.spec_l27Count_j1 s_l1 s_j1 = some t105) ?_ ?_
   · refine CW.blockJ (fun (s_j2 : Int) (F : Fr) (w : World) => F 0 = v1 ∧ F 1 = (.int .i64 a1) ∧ F 5 = (.int .i64 s_j2) ∧ F 6 = (.int .i64 s_l1.2) ∧ Hp w0 [Ent.snap w0 w0.heap.size] w) (fun s_j2 => M.spec_l27Count_j2 s_l1 s_j2 = some t105) ?_ ?_
     · refine CSR <| OV v1 rfl (x_mv f117) <| OV (.int .i64 s_l1.2) rfl (x_mv f120) ?_
       obtain ⟨x164, ha165, hm⟩ := bndE hm
       obtain ⟨hz166, ha170⟩ := idxE ha165
       obtain ⟨b167, q168, hix169⟩ := rdL_ix (hL.rdS 0 rfl h2) hz166 ha170
       refine OV (.pointer (some ⟨b167, q168, none⟩)) rfl (x_ix U25 Try_T2 rfl rfl hix169) <| OV (.int .i64 x164) rfl (x_load1 U2 rfl rfl (rdF_cells (hL.rdS 0 rfl h2) hix169 ha170 0 _ rfl)) <| OV (.int .i64 a1) rfl (x_mv f118) <| OV (.bool (decide (x164 ≤ a1))) rfl (x_leq rfl rfl) <| OW.nil ?_
       refine CW.condM (t := decide (x164 ≤ a1)) rfl hm (fun hb171 hm => ?_) (fun hb171 hm => ?_)
       · refine CW.regionL <| OV (.int .i64 s_l1.1) rfl (x_mv f119) <| OV (.int .i64 (w64 (s_l1.1 + 1))) rfl (x_add rfl rfl) <| OV (.int .i64 (w64 (s_l1.1 + 1))) rfl (x_assign) <| OW.nil ?_
         exact ⟨w64 (s_l1.1 + 1), hm, ⟨f117, f118, rfl, f120, hL⟩⟩
       refine CW.skip ?_
       exact ⟨s_l1.1, hm, ⟨f117, f118, f119, f120, hL⟩⟩
     intro s_j2 F158 wd159 hJ hm
     unfold M.spec_l27Count_j2 at hm
     obtain ⟨f160, f161, f162, f163, hL⟩ := hJ
     exact ⟨s_j2, hm, ⟨f160, f161, f162, f163, hL⟩⟩
   intro s_j1 F144 wd145 hJ hm
   unfold M.spec_l27Count_j1 at hm
   obtain ⟨f146, f147, f148, f149, hL⟩ := hJ
   refine CW.regionL <| OV (.int .i64 s_l1.2) rfl (x_mv f149) <| OV (.int .i64 (w64 (s_l1.2 + 1))) rfl (x_add rfl rfl) <| OV (.int .i64 (w64 (s_l1.2 + 1))) rfl (x_assign) <| OW.nil ?_
   obtain rfl := Option.some.inj hm
   exact ⟨_, rfl, ⟨f146, f147, f148, rfl, hL⟩⟩
 refine CW.exit ?_
 refine XJ.hit ?_
 obtain rfl := Option.some.inj hm
 exact ⟨_, rfl, ⟨f117, f118, f119, f120, hL⟩⟩

theorem M.spec_l27Out_ok (w0 : World) (a0 : Table) {v1 : Value} {v3 : Value} (h2 : rdL (· < w0.heap.size) w0 v1 a0.Points) (h4 : rdL (· < w0.heap.size) w0 v3 a0.Codes) (a1 : List Int) {v5 : Value} (h6 : rdL (· < w0.heap.size) w0 v5 a1) (a2 : Int) {r : (List Bool)} (hm : M.spec_l27Out a0 a1 a2 = some r) :
    Calls Try.prog 79 #[(.agg #[(.int .i64 a0.Boats), v1, v3]), v5, (.int .i64 a2)] w0 fun e w' => ∃ (rv0 : Value) (rS0 : Nat → Prop), e = .returned rv0 ∧ Fresh w0 w' [Ent.own 4 rS0 rv0 r] := by
 unfold M.spec_l27Out at hm
 refine calls_CW (args := [(.agg #[(.int .i64 a0.Boats), v1, v3]), v5, (.int .i64 a2)]) Try.func79 rfl rfl rfl ?_
 have hL := Hp.start w0
 refine CSR ?_
 refine OW.cons (S_box (cs := #[(.int .i64 a0.Boats), v1, v3]) hL rfl rfl rfl ?_)
 intro wd7 b8 hL
 refine OV (.slice none 0 0) rfl (x_assign) <| ONR <| OV (.pointer (some ⟨b8, 1, none⟩)) rfl (x_fieldAddr (fsz := 1) 0 1 1 U29 rfl Try_T22 rfl rfl rfl) <| OV v1 rfl (x_load1 U22 rfl rfl (hL.cellB 0 rfl rfl)) <| OV (.int .i64 (a0.Points.length : Int)) rfl (x_lenR U22 rfl (hL.rdS 1 rfl h2)) ?_
 obtain ⟨hc12, hm⟩ := chkE hm
 refine OW.cons (S_make (α := Bool) false hL U71 Try_T4 rfl rfl rfl hc12 (by decide) rfl ?_)
 intro wd9 v10 S11 hL
 refine OV v10 rfl (x_assign) <| ONS <| CSR <| OV v5 rfl (x_move) <| OV (.pointer (some ⟨b8, 1, none⟩)) rfl (x_fieldAddr (fsz := 1) 0 1 1 U29 rfl Try_T22 rfl rfl rfl) <| OV v1 rfl (x_load1 U22 rfl rfl (hL.cellB 1 rfl rfl)) <| OV (.int .i64 (a0.Points.length : Int)) rfl (x_lenR U22 rfl (hL.rdS 2 rfl h2)) ?_
 obtain ⟨x13, hx14, hm⟩ := bndE hm
 refine OW.cons (OP.call rfl (x_call (vs := [v5, (.int .i64 (a0.Points.length : Int))]) Try_C89 ⟨rfl, rfl, trivial⟩) (M.spec_l27Count_ok _ a1 (hL.rdS 2 rfl h6) (a0.Points.length : Int) hx14) ?_)
 rintro e15 wd16 ⟨rfl, hF17⟩
 refine ⟨_, rfl, ?_⟩
 have hL := hL.pushAll hF17
 simp only [lA, lB, lC, lD] at hL
 refine OV (.int .i64 x13) rfl (x_assign) <| OW.nil ?_
 obtain ⟨o14914, ho14915, hm⟩ := bndE hm
 refine CW.loopB (fun (s_l1 : (List Bool) × Int) (F : Fr) (w : World) => ∃ (S14911 : Nat → Prop), F 2 = (.int .i64 a2) ∧ F 3 = (.pointer (some ⟨b8, 0, none⟩)) ∧ F 7 = v10 ∧ F 8 = (.int .i64 s_l1.2) ∧ Hp w0 [Ent.own 4 S14911 v10 s_l1.1, Ent.blk b8 29 #[(.int .i64 a0.Boats), v1, v3], Ent.snap w0 w0.heap.size] w) (fun o => outc o (fun x => some x) (fun s => M.spec_l27Out_a1 s) = some r) ho14915 hm ⟨S11, rfl, rfl, rfl, rfl, hL⟩ ?_ ?_
 · intro s_l1 F14916 wd14917 hJ hm
   have hm := outcE hm
   have hm : M.spec_l27Out_a1 s_l1 = some r := hm
   unfold M.spec_l27Out_a1 at hm
   obtain ⟨S14911, f14918, f14919, f14920, f14921, hL⟩ := hJ
   refine CSR <| OV v10 rfl (x_mv f14920) <| OV v10 rfl (x_assign) <| OW.nil <| CW.ret ?_
   obtain rfl := Option.some.inj hm
   exact RR1 rfl rfl ⟨v10, S14911, rfl, hL.fresh 2 rfl [0] (by decide) (by decide) rfl⟩
 intro s_l1 F14922 wd14923 t14912 hJ hm hr14913
 unfold M.spec_l27Out_l1 at hm
 obtain ⟨S14911, f14924, f14925, f14926, f14927, hL⟩ := hJ
 refine CW.seq <| CSR <| OV (.int .i64 s_l1.2) rfl (x_mv f14927) <| OV (.bool (decide (0 < s_l1.2))) rfl (x_gtr rfl rfl) <| OW.nil ?_
 refine CW.condM (t := decide (0 < s_l1.2)) rfl hm (fun hb14928 hm => ?_) (fun hb14928 hm => ?_)
 · refine CW.skip ?_
   refine CW.seqJ (fun (s_j1 : (List Bool)) (F : Fr) (w : World) => ∃ (S18648 : Nat → Prop), F 2 = (.int .i64 a2) ∧ F 3 = (.pointer (some ⟨b8, 0, none⟩)) ∧ F 7 = v10 ∧ F 8 = (.int .i64 s_l1.2) ∧ Hp w0 [Ent.own 4 S18648 v10 s_j1, Ent.blk b8 29 #[(.int .i64 a0.Boats), v1, v3], Ent.snap w0 w0.heap.size] w) (fun s_j1 => M.spec_l27Out_j1 s_l1 s_j1 = some t14912) ?_ ?_
   · refine CW.blockJ (fun (s_j2 : (List Bool)) (F : Fr) (w : World) => ∃ (S20511 : Nat → Prop), F 2 = (.int .i64 a2) ∧ F 3 = (.pointer (some ⟨b8, 0, none⟩)) ∧ F 7 = v10 ∧ F 8 = (.int .i64 s_l1.2) ∧ Hp w0 [Ent.own 4 S20511 v10 s_j2, Ent.blk b8 29 #[(.int .i64 a0.Boats), v1, v3], Ent.snap w0 w0.heap.size] w) (fun s_j2 => M.spec_l27Out_j2 s_l1 s_j2 = some t14912) ?_ ?_
     · refine CSR <| OV (.int .i64 (-1)) rfl (x_assign) <| ONS <| CSR <| OV (.int .i64 0) rfl (x_assign) <| OW.nil ?_
       obtain ⟨o21738, ho21739, hm⟩ := bndE hm
       refine CW.loopB (fun (s_l2 : Int × Int) (F : Fr) (w : World) => F 2 = (.int .i64 a2) ∧ F 3 = (.pointer (some ⟨b8, 0, none⟩)) ∧ F 7 = v10 ∧ F 8 = (.int .i64 s_l1.2) ∧ F 9 = (.int .i64 s_l2.1) ∧ F 10 = (.int .i64 s_l2.2) ∧ Hp w0 [Ent.own 4 S14911 v10 s_l1.1, Ent.blk b8 29 #[(.int .i64 a0.Boats), v1, v3], Ent.snap w0 w0.heap.size] w) (fun o => outc o (fun x => some (.ret x)) (fun s => M.spec_l27Out_a2 s_l1 s) = some t14912) ho21739 hm ⟨f14924, f14925, f14926, f14927, rfl, rfl, hL⟩ ?_ ?_
       · intro s_l2 F21740 wd21741 hJ hm
         have hm := outcE hm
         have hm : M.spec_l27Out_a2 s_l1 s_l2 = some t14912 := hm
         unfold M.spec_l27Out_a2 at hm
         obtain ⟨f21742, f21743, f21744, f21745, f21746, f21747, hL⟩ := hJ
         refine CSR <| OV (.int .i64 s_l2.1) rfl (x_mv f21746) <| OV (.bool (decide (0 ≤ s_l2.1))) rfl (x_geq rfl rfl) <| OW.nil ?_
         refine CW.condM (t := decide (0 ≤ s_l2.1)) rfl hm (fun hb21748 hm => ?_) (fun hb21748 hm => ?_)
         · refine CW.regionL <| OV v10 rfl (x_mv f21744) <| OV (.int .i64 s_l2.1) rfl (x_mv f21746) ?_
           obtain ⟨x21749, ha21750, hm⟩ := bndE hm
           obtain ⟨hz21751, ha21755⟩ := idxE ha21750
           obtain ⟨b21752, q21753, hix21754⟩ := rdL_ix (hL.rdO 0 rfl) hz21751 ha21755
           refine OV (.pointer (some ⟨b21752, q21753, none⟩)) rfl (x_ix U71 Try_T4 rfl rfl hix21754) ?_
           refine OW.cons (S_storeX (j := 0) true hL 0 rfl Try_T4 hix21754 ha21755 rfl rfl rfl rfl rfl rfl ?_)
           intro wd21756 hL
           refine OW.nil ?_
           exact ⟨s_l1.1.set (s_l2.1 : Int).toNat true, hm, ⟨S14911, f21742, f21743, f21744, f21745, hL⟩⟩
         refine CW.skip ?_
         exact ⟨s_l1.1, hm, ⟨S14911, f21742, f21743, f21744, f21745, hL⟩⟩
       intro s_l2 F21757 wd21758 t21736 hJ hm hr21737
       unfold M.spec_l27Out_l2 at hm
       obtain ⟨f21759, f21760, f21761, f21762, f21763, f21764, hL⟩ := hJ
       refine CW.seq <| CSR <| OV (.int .i64 s_l2.2) rfl (x_mv f21764) <| OV v10 rfl (x_mv f21761) <| OV (.int .i64 (s_l1.1.length : Int)) rfl (x_lenR U71 rfl (hL.rdO 0 rfl)) <| OV (.bool (decide (s_l2.2 < (s_l1.1.length : Int)))) rfl (x_lss rfl rfl) <| OW.nil ?_
       refine CW.condM (t := decide (s_l2.2 < (s_l1.1.length : Int))) rfl hm (fun hb21765 hm => ?_) (fun hb21765 hm => ?_)
       · refine CW.skip ?_
         refine CW.seqJ (fun (s_j3 : Int) (F : Fr) (w : World) => F 2 = (.int .i64 a2) ∧ F 3 = (.pointer (some ⟨b8, 0, none⟩)) ∧ F 7 = v10 ∧ F 8 = (.int .i64 s_l1.2) ∧ F 9 = (.int .i64 s_j3) ∧ F 10 = (.int .i64 s_l2.2) ∧ Hp w0 [Ent.own 4 S14911 v10 s_l1.1, Ent.blk b8 29 #[(.int .i64 a0.Boats), v1, v3], Ent.snap w0 w0.heap.size] w) (fun s_j3 => M.spec_l27Out_j3 s_l2 s_j3 = some t21736) ?_ ?_
         · refine CW.blockJ (fun (s_j4 : Int) (F : Fr) (w : World) => F 2 = (.int .i64 a2) ∧ F 3 = (.pointer (some ⟨b8, 0, none⟩)) ∧ F 7 = v10 ∧ F 8 = (.int .i64 s_l1.2) ∧ F 9 = (.int .i64 s_j4) ∧ F 10 = (.int .i64 s_l2.2) ∧ Hp w0 [Ent.own 4 S14911 v10 s_l1.1, Ent.blk b8 29 #[(.int .i64 a0.Boats), v1, v3], Ent.snap w0 w0.heap.size] w) (fun s_j4 => M.spec_l27Out_j4 s_l2 s_j4 = some t21736) ?_ ?_
           · refine CW.seqJ (fun (s_j5 : Bool) (F : Fr) (w : World) => F 2 = (.int .i64 a2) ∧ F 3 = (.pointer (some ⟨b8, 0, none⟩)) ∧ F 7 = v10 ∧ F 8 = (.int .i64 s_l1.2) ∧ F 9 = (.int .i64 s_l2.1) ∧ F 10 = (.int .i64 s_l2.2) ∧ F 68 = (.bool s_j5) ∧ Hp w0 [Ent.own 4 S14911 v10 s_l1.1, Ent.blk b8 29 #[(.int .i64 a0.Boats), v1, v3], Ent.snap w0 w0.heap.size] w) (fun s_j5 => M.spec_l27Out_j5 s_l2 s_j5 = some t21736) ?_ ?_
             · refine CW.draw Try_mixed ?_
               have hL := hL.call (Mod.drew _)
               refine DW.pre (fuel := 0) (fin := bma 39 549755813887) (C := fun w' => Mod None_ _ w') [0, 1, 2, 3, 4, 5, 6, 7, 8, 9, 10, 11, 12, 13, 14, 15, 16, 17, 18, 19, 20, 21, 22, 23, 24, 25, 26, 27, 28, 29, 30, 31, 32, 33, 34, 35, 36, 37, 38] (Mod.refl _ _) (by kernel_rfl) (by kernel_rfl) ?_
               refine QV v10 rfl rfl (fun w' hm' => x_mv f21761) <| QV (.int .i64 s_l2.2) rfl rfl (fun w' hm' => x_mv f21764) ?_
               obtain ⟨x22306, ha22307, hm⟩ := bndE hm
               obtain ⟨hz22308, ha22312⟩ := idxE ha22307
               obtain ⟨b22309, q22310, hix22311⟩ := rdL_ix (hL.rdO 0 rfl) hz22308 ha22312
               refine QV (.pointer (some ⟨b22309, q22310, none⟩)) rfl rfl (fun w' hm' => x_ix U71 Try_T4 rfl rfl hix22311) <| QV (.bool x22306) rfl rfl (fun w' hm' => x_load1 U4 rfl rfl (rdF_cells ((hL.call hm').rdO 0 rfl) hix22311 ha22312 0 _ rfl)) <| QV (.bool (!x22306)) rfl rfl (fun w' hm' => x_not rfl) <| QV (.bool (!x22306)) rfl rfl (fun w' hm' => x_move) ?_
               refine ifB_elim hm (fun hb22313 hm => ?_) (fun hb22313 hm => ?_)
               · refine QW.cons rfl (QP.yes' rfl rfl hb22313 (QP.val (v := (.pointer (some ⟨b8, 2, none⟩))) rfl (fun w' hm' => x_fieldAddr (fsz := 1) 0 2 2 U29 rfl Try_T22 rfl f21760 rfl) ?_))
                 refine QW.cons rfl (QP.yes' rfl rfl hb22313 (QP.val (v := v3) rfl (fun w' hm' => x_load1 U22 rfl rfl ((hL.call hm').cellB 1 rfl rfl)) ?_))
                 refine QW.cons rfl (QP.yes' rfl rfl hb22313 (QP.val (v := (.int .i64 s_l2.2)) rfl (fun w' hm' => x_mv f21764) ?_))
                 obtain ⟨x22314, ha22315, hm⟩ := bndE hm
                 obtain ⟨hz22316, ha22324⟩ := idxE ha22315
                 obtain ⟨b22317, q22318, v22319, hix22320, hs22321, hc22322, hr22323⟩ := rdN_at h4 hz22316 ha22324
                 refine QW.cons rfl (QP.yes' rfl rfl hb22313 (QP.val (v := (.pointer (some ⟨b22317, q22318, none⟩))) rfl (fun w' hm' => x_ix U22 Try_T25 rfl rfl hix22320) ?_))
                 refine QW.cons rfl (QP.yes' rfl rfl hb22313 (QP.val (v := v22319) rfl (fun w' hm' => x_load1 U25 rfl rfl ((hL.call hm').cellS 2 rfl hs22321 hc22322)) ?_))
                 refine QW.cons rfl (QP.yes' rfl rfl hb22313 (QP.val (v := (.int .i64 a2)) rfl (fun w' hm' => x_mv f21759) ?_))
                 obtain ⟨x22325, ha22326, hm⟩ := bndE hm
                 obtain ⟨hz22327, ha22331⟩ := idxE ha22326
                 obtain ⟨b22328, q22329, hix22330⟩ := rdL_ix (hL.rdS 2 rfl hr22323) hz22327 ha22331
                 refine QW.cons rfl (QP.yes' rfl rfl hb22313 (QP.val (v := (.pointer (some ⟨b22328, q22329, none⟩))) rfl (fun w' hm' => x_ix U25 Try_T2 rfl rfl hix22330) ?_))
                 refine QW.cons rfl (QP.yes' rfl rfl hb22313 (QP.val (v := (.int .i64 x22325)) rfl (fun w' hm' => x_load1 U2 rfl rfl (rdF_cells ((hL.call hm').rdS 2 rfl hr22323) hix22330 ha22331 0 _ rfl)) ?_))
                 refine QW.cons rfl (QP.yes' rfl rfl hb22313 (QP.val (v := (.bool (x22325 != 7))) rfl (fun w' hm' => x_neq rfl rfl) ?_))
                 refine QV (.bool (x22325 != 7)) rfl rfl (fun w' hm' => x_pickT' rfl hb22313 rfl) <| QV (.bool (x22325 != 7)) rfl rfl (fun w' hm' => x_move) ?_
                 refine ifB_elim hm (fun hb22332 hm => ?_) (fun hb22332 hm => ?_)
                 · refine QW.cons rfl (QP.yes' rfl rfl hb22332 (QP.val (v := (.int .i64 s_l2.1)) rfl (fun w' hm' => x_mv f21763) ?_))
                   refine QW.cons rfl (QP.yes' rfl rfl hb22332 (QP.val (v := (.bool (decide (s_l2.1 < 0)))) rfl (fun w' hm' => x_lss rfl rfl) ?_))
                   refine QW.cons rfl (QP.yes' rfl rfl hb22332 (QP.val (v := (.bool (decide (s_l2.1 < 0)))) rfl (fun w' hm' => x_move) ?_))
                   refine ifB_elim hm (fun hb22333 hm => ?_) (fun hb22333 hm => ?_)
                   · refine QW.cons rfl (QP.no' rfl rfl hb22333 rfl ?_)
                     refine QW.cons rfl (QP.no' rfl rfl hb22333 rfl ?_)
                     refine QW.cons rfl (QP.no' rfl rfl hb22333 rfl ?_)
                     refine QW.cons rfl (QP.no' rfl rfl hb22333 rfl ?_)
                     refine QW.cons rfl (QP.no' rfl rfl hb22333 rfl ?_)
                     refine QW.cons rfl (QP.no' rfl rfl hb22333 rfl ?_)
                     refine QW.cons rfl (QP.no' rfl rfl hb22333 rfl ?_)
                     refine QW.cons rfl (QP.no' rfl rfl hb22333 rfl ?_)
                     refine QW.cons rfl (QP.no' rfl rfl hb22333 rfl ?_)
                     refine QW.cons rfl (QP.no' rfl rfl hb22333 rfl ?_)
                     refine QW.cons rfl (QP.no' rfl rfl hb22333 rfl ?_)
                     refine QW.cons rfl (QP.no' rfl rfl hb22333 rfl ?_)
                     refine QW.cons rfl (QP.no' rfl rfl hb22333 rfl ?_)
                     refine QW.cons rfl (QP.no' rfl rfl hb22333 rfl ?_)
                     refine QW.cons rfl (QP.no' rfl rfl hb22333 rfl ?_)
                     refine QW.cons rfl (QP.no' rfl rfl hb22333 rfl ?_)
                     refine QW.cons rfl (QP.no' rfl rfl hb22333 rfl ?_)
                     refine QW.cons rfl (QP.yes' rfl rfl hb22332 (QP.val (v := (.bool true)) rfl (fun w' hm' => x_pickT' rfl hb22333 rfl) ?_))
                     refine QV (.bool true) rfl rfl (fun w' hm' => x_pickT' rfl hb22332 rfl) ?_
                     refine QW.nil ?_
                     intro wd22334 hmod
                     have hL := hL.call hmod
                     refine DW.done (by kernel_rfl) ?_
                     exact ⟨true, hm, ⟨f21759, f21760, f21761, f21762, f21763, f21764, rfl, hL⟩⟩
                   refine QW.cons rfl (QP.yes' rfl rfl hb22333 (QP.val (v := (.pointer (some ⟨b8, 1, none⟩))) rfl (fun w' hm' => x_fieldAddr (fsz := 1) 0 1 1 U29 rfl Try_T22 rfl f21760 rfl) ?_))
                   refine QW.cons rfl (QP.yes' rfl rfl hb22333 (QP.val (v := v1) rfl (fun w' hm' => x_load1 U22 rfl rfl ((hL.call hm').cellB 1 rfl rfl)) ?_))
                   refine QW.cons rfl (QP.yes' rfl rfl hb22333 (QP.val (v := (.int .i64 s_l2.2)) rfl (fun w' hm' => x_mv f21764) ?_))
                   obtain ⟨x22335, ha22336, hm⟩ := bndE hm
                   obtain ⟨hz22337, ha22345⟩ := idxE ha22336
                   obtain ⟨b22338, q22339, v22340, hix22341, hs22342, hc22343, hr22344⟩ := rdN_at h2 hz22337 ha22345
                   refine QW.cons rfl (QP.yes' rfl rfl hb22333 (QP.val (v := (.pointer (some ⟨b22338, q22339, none⟩))) rfl (fun w' hm' => x_ix U22 Try_T25 rfl rfl hix22341) ?_))
                   refine QW.cons rfl (QP.yes' rfl rfl hb22333 (QP.val (v := v22340) rfl (fun w' hm' => x_load1 U25 rfl rfl ((hL.call hm').cellS 2 rfl hs22342 hc22343)) ?_))
                   refine QW.cons rfl (QP.yes' rfl rfl hb22333 (QP.val (v := (.int .i64 a2)) rfl (fun w' hm' => x_mv f21759) ?_))
                   obtain ⟨x22346, ha22347, hm⟩ := bndE hm
                   obtain ⟨hz22348, ha22352⟩ := idxE ha22347
                   obtain ⟨b22349, q22350, hix22351⟩ := rdL_ix (hL.rdS 2 rfl hr22344) hz22348 ha22352
                   refine QW.cons rfl (QP.yes' rfl rfl hb22333 (QP.val (v := (.pointer (some ⟨b22349, q22350, none⟩))) rfl (fun w' hm' => x_ix U25 Try_T2 rfl rfl hix22351) ?_))
                   refine QW.cons rfl (QP.yes' rfl rfl hb22333 (QP.val (v := (.int .i64 x22346)) rfl (fun w' hm' => x_load1 U2 rfl rfl (rdF_cells ((hL.call hm').rdS 2 rfl hr22344) hix22351 ha22352 0 _ rfl)) ?_))
                   refine QW.cons rfl (QP.yes' rfl rfl hb22333 (QP.val (v := (.pointer (some ⟨b8, 1, none⟩))) rfl (fun w' hm' => x_fieldAddr (fsz := 1) 0 1 1 U29 rfl Try_T22 rfl f21760 rfl) ?_))
                   refine QW.cons rfl (QP.yes' rfl rfl hb22333 (QP.val (v := v1) rfl (fun w' hm' => x_load1 U22 rfl rfl ((hL.call hm').cellB 1 rfl rfl)) ?_))
                   refine QW.cons rfl (QP.yes' rfl rfl hb22333 (QP.val (v := (.int .i64 s_l2.1)) rfl (fun w' hm' => x_mv f21763) ?_))
                   obtain ⟨x22353, ha22354, hm⟩ := bndE hm
                   obtain ⟨hz22355, ha22363⟩ := idxE ha22354
                   obtain ⟨b22356, q22357, v22358, hix22359, hs22360, hc22361, hr22362⟩ := rdN_at h2 hz22355 ha22363
                   refine QW.cons rfl (QP.yes' rfl rfl hb22333 (QP.val (v := (.pointer (some ⟨b22356, q22357, none⟩))) rfl (fun w' hm' => x_ix U22 Try_T25 rfl rfl hix22359) ?_))
                   refine QW.cons rfl (QP.yes' rfl rfl hb22333 (QP.val (v := v22358) rfl (fun w' hm' => x_load1 U25 rfl rfl ((hL.call hm').cellS 2 rfl hs22360 hc22361)) ?_))
                   refine QW.cons rfl (QP.yes' rfl rfl hb22333 (QP.val (v := (.int .i64 a2)) rfl (fun w' hm' => x_mv f21759) ?_))
                   obtain ⟨x22364, ha22365, hm⟩ := bndE hm
                   obtain ⟨hz22366, ha22370⟩ := idxE ha22365
                   obtain ⟨b22367, q22368, hix22369⟩ := rdL_ix (hL.rdS 2 rfl hr22362) hz22366 ha22370
                   refine QW.cons rfl (QP.yes' rfl rfl hb22333 (QP.val (v := (.pointer (some ⟨b22367, q22368, none⟩))) rfl (fun w' hm' => x_ix U25 Try_T2 rfl rfl hix22369) ?_))
                   refine QW.cons rfl (QP.yes' rfl rfl hb22333 (QP.val (v := (.int .i64 x22364)) rfl (fun w' hm' => x_load1 U2 rfl rfl (rdF_cells ((hL.call hm').rdS 2 rfl hr22362) hix22369 ha22370 0 _ rfl)) ?_))
                   refine QW.cons rfl (QP.yes' rfl rfl hb22333 (QP.val (v := (.bool (decide (x22364 < x22346)))) rfl (fun w' hm' => x_gtr rfl rfl) ?_))
                   refine QW.cons rfl (QP.yes' rfl rfl hb22332 (QP.val (v := (.bool (decide (x22364 < x22346)))) rfl (fun w' hm' => x_pickF' rfl hb22333 rfl) ?_))
                   refine QV (.bool (decide (x22364 < x22346))) rfl rfl (fun w' hm' => x_pickT' rfl hb22332 rfl) ?_
                   refine QW.nil ?_
                   intro wd22371 hmod
                   have hL := hL.call hmod
                   refine DW.done (by kernel_rfl) ?_
                   exact ⟨decide (x22364 < x22346), hm, ⟨f21759, f21760, f21761, f21762, f21763, f21764, rfl, hL⟩⟩
                 refine QW.cons rfl (QP.no' rfl rfl hb22332 rfl ?_)
                 refine QW.cons rfl (QP.no' rfl rfl hb22332 rfl ?_)
                 refine QW.cons rfl (QP.no' rfl rfl hb22332 rfl ?_)
                 refine QW.cons rfl (QP.noU rfl rfl rfl ?_)
                 refine QW.cons rfl (QP.noU rfl rfl rfl ?_)
                 refine QW.cons rfl (QP.noU rfl rfl rfl ?_)
                 refine QW.cons rfl (QP.noU rfl rfl rfl ?_)
                 refine QW.cons rfl (QP.noU rfl rfl rfl ?_)
                 refine QW.cons rfl (QP.noU rfl rfl rfl ?_)
                 refine QW.cons rfl (QP.noU rfl rfl rfl ?_)
                 refine QW.cons rfl (QP.noU rfl rfl rfl ?_)
                 refine QW.cons rfl (QP.noU rfl rfl rfl ?_)
                 refine QW.cons rfl (QP.noU rfl rfl rfl ?_)
                 refine QW.cons rfl (QP.noU rfl rfl rfl ?_)
                 refine QW.cons rfl (QP.noU rfl rfl rfl ?_)
                 refine QW.cons rfl (QP.noU rfl rfl rfl ?_)
                 refine QW.cons rfl (QP.noU rfl rfl rfl ?_)
                 refine QW.cons rfl (QP.noU rfl rfl rfl ?_)
                 refine QW.cons rfl (QP.noU rfl rfl rfl ?_)
                 refine QW.cons rfl (QP.noU rfl rfl rfl ?_)
                 refine QW.cons rfl (QP.no' rfl rfl hb22332 rfl ?_)
                 refine QV (.bool false) rfl rfl (fun w' hm' => x_pickF' rfl hb22332 rfl) ?_
                 refine QW.nil ?_
                 intro wd22372 hmod
                 have hL := hL.call hmod
                 refine DW.done (by kernel_rfl) ?_
                 exact ⟨false, hm, ⟨f21759, f21760, f21761, f21762, f21763, f21764, rfl, hL⟩⟩
               refine QW.cons rfl (QP.no' rfl rfl hb22313 rfl ?_)
               refine QW.cons rfl (QP.no' rfl rfl hb22313 rfl ?_)
               refine QW.cons rfl (QP.no' rfl rfl hb22313 rfl ?_)
               refine QW.cons rfl (QP.no' rfl rfl hb22313 rfl ?_)
               refine QW.cons rfl (QP.no' rfl rfl hb22313 rfl ?_)
               refine QW.cons rfl (QP.no' rfl rfl hb22313 rfl ?_)
               refine QW.cons rfl (QP.no' rfl rfl hb22313 rfl ?_)
               refine QW.cons rfl (QP.no' rfl rfl hb22313 rfl ?_)
               refine QW.cons rfl (QP.no' rfl rfl hb22313 rfl ?_)
               refine QV (.bool false) rfl rfl (fun w' hm' => x_pickF' rfl hb22313 rfl) <| QV (.bool false) rfl rfl (fun w' hm' => x_move) ?_
               refine QW.cons rfl (QP.no' rfl rfl rfl rfl ?_)
               refine QW.cons rfl (QP.no' rfl rfl rfl rfl ?_)
               refine QW.cons rfl (QP.no' rfl rfl rfl rfl ?_)
               refine QW.cons rfl (QP.noU rfl rfl rfl ?_)
               refine QW.cons rfl (QP.noU rfl rfl rfl ?_)
               refine QW.cons rfl (QP.noU rfl rfl rfl ?_)
               refine QW.cons rfl (QP.noU rfl rfl rfl ?_)
               refine QW.cons rfl (QP.noU rfl rfl rfl ?_)
               refine QW.cons rfl (QP.noU rfl rfl rfl ?_)
               refine QW.cons rfl (QP.noU rfl rfl rfl ?_)
               refine QW.cons rfl (QP.noU rfl rfl rfl ?_)
               refine QW.cons rfl (QP.noU rfl rfl rfl ?_)
               refine QW.cons rfl (QP.noU rfl rfl rfl ?_)
               refine QW.cons rfl (QP.noU rfl rfl rfl ?_)
               refine QW.cons rfl (QP.noU rfl rfl rfl ?_)
               refine QW.cons rfl (QP.noU rfl rfl rfl ?_)
               refine QW.cons rfl (QP.noU rfl rfl rfl ?_)
               refine QW.cons rfl (QP.noU rfl rfl rfl ?_)
               refine QW.cons rfl (QP.noU rfl rfl rfl ?_)
               refine QW.cons rfl (QP.noU rfl rfl rfl ?_)
               refine QW.cons rfl (QP.no' rfl rfl rfl rfl ?_)
               refine QV (.bool false) rfl rfl (fun w' hm' => x_pickF' rfl rfl rfl) ?_
               refine QW.nil ?_
               intro wd22373 hmod
               have hL := hL.call hmod
               refine DW.done (by kernel_rfl) ?_
               exact ⟨false, hm, ⟨f21759, f21760, f21761, f21762, f21763, f21764, rfl, hL⟩⟩
             intro s_j5 F22296 wd22297 hJ hm
             unfold M.spec_l27Out_j5 at hm
             obtain ⟨f22298, f22299, f22300, f22301, f22302, f22303, f22304, hL⟩ := hJ
             refine CW.condM (t := s_j5) f22304 hm (fun hb22305 hm => ?_) (fun hb22305 hm => ?_)
             · refine CW.regionL <| OV (.int .i64 s_l2.2) rfl (x_mv f22303) <| OV (.int .i64 s_l2.2) rfl (x_assign) <| OW.nil ?_
               exact ⟨s_l2.2, hm, ⟨f22298, f22299, f22300, f22301, rfl, f22303, hL⟩⟩
             refine CW.skip ?_
             exact ⟨s_l2.1, hm, ⟨f22298, f22299, f22300, f22301, f22302, f22303, hL⟩⟩
           intro s_j4 F22220 wd22221 hJ hm
           unfold M.spec_l27Out_j4 at hm
           obtain ⟨f22222, f22223, f22224, f22225, f22226, f22227, hL⟩ := hJ
           exact ⟨s_j4, hm, ⟨f22222, f22223, f22224, f22225, f22226, f22227, hL⟩⟩
         intro s_j3 F22066 wd22067 hJ hm
         unfold M.spec_l27Out_j3 at hm
         obtain ⟨f22068, f22069, f22070, f22071, f22072, f22073, hL⟩ := hJ
         refine CW.regionL <| OV (.int .i64 s_l2.2) rfl (x_mv f22073) <| OV (.int .i64 (w64 (s_l2.2 + 1))) rfl (x_add rfl rfl) <| OV (.int .i64 (w64 (s_l2.2 + 1))) rfl (x_assign) <| OW.nil ?_
         obtain rfl := Option.some.inj hm
         exact ⟨_, rfl, ⟨f22068, f22069, f22070, f22071, f22072, rfl, hL⟩⟩
       refine CW.exit ?_
       refine XJ.hit ?_
       obtain rfl := Option.some.inj hm
       exact ⟨_, rfl, ⟨f21759, f21760, f21761, f21762, f21763, f21764, hL⟩⟩
     intro s_j2 F20512 wd20513 hJ hm
     unfold M.spec_l27Out_j2 at hm
     obtain ⟨S20511, f20514, f20515, f20516, f20517, hL⟩ := hJ
     exact ⟨s_j2, hm, ⟨S20511, f20514, f20515, f20516, f20517, hL⟩⟩
   intro s_j1 F18649 wd18650 hJ hm
   unfold M.spec_l27Out_j1 at hm
   obtain ⟨S18648, f18651, f18652, f18653, f18654, hL⟩ := hJ
   refine CW.regionL <| OV (.int .i64 s_l1.2) rfl (x_mv f18654) <| OV (.int .i64 (w64 (s_l1.2 - 1))) rfl (x_sub rfl rfl) <| OV (.int .i64 (w64 (s_l1.2 - 1))) rfl (x_assign) <| OW.nil ?_
   obtain rfl := Option.some.inj hm
   exact ⟨_, rfl, ⟨S18648, f18651, f18652, f18653, rfl, hL⟩⟩
 refine CW.exit ?_
 refine XJ.hit ?_
 obtain rfl := Option.some.inj hm
 exact ⟨_, rfl, ⟨S14911, f14924, f14925, f14926, f14927, hL⟩⟩

theorem M.spec_l27Counted_ok (w0 : World) (a0 : Table) {v1 : Value} {v3 : Value} (h2 : rdL (· < w0.heap.size) w0 v1 a0.Points) (h4 : rdL (· < w0.heap.size) w0 v3 a0.Codes) (a1 : List Int) {v5 : Value} (h6 : rdL (· < w0.heap.size) w0 v5 a1) (a2 : Int) {r : (List Int)} (hm : M.spec_l27Counted a0 a1 a2 = some r) :
    Calls Try.prog 70 #[(.agg #[(.int .i64 a0.Boats), v1, v3]), v5, (.int .i64 a2)] w0 fun e w' => ∃ (rv0 : Value) (rS0 : Nat → Prop), e = .returned rv0 ∧ Fresh w0 w' [Ent.own 2 rS0 rv0 r] := by
 unfold M.spec_l27Counted at hm
 refine calls_CW (args := [(.agg #[(.int .i64 a0.Boats), v1, v3]), v5, (.int .i64 a2)]) Try.func70 rfl rfl rfl ?_
 have hL := Hp.start w0
 refine CSR ?_
 refine OW.cons (S_box (cs := #[(.int .i64 a0.Boats), v1, v3]) hL rfl rfl rfl ?_)
 intro wd7 b8 hL
 refine OV (.slice none 0 0) rfl (x_assign) <| ONR <| OV (.agg #[(.int .i64 a0.Boats), v1, v3]) rfl (x_loadN (cs := [(.int .i64 a0.Boats), v1, v3]) U29 Try_T29 rfl rfl (hL.cellsB 0 rfl (o := 0) (l := [(.int .i64 a0.Boats), v1, v3]) (by intro j u hj; exact (by simpa using hj)))) <| OV v5 rfl (x_move) <| OV (.int .i64 a2) rfl (x_move) ?_
 obtain ⟨x9, hx10, hm⟩ := bndE hm
 refine OW.cons (OP.call rfl (x_call (vs := [(.agg #[(.int .i64 a0.Boats), v1, v3]), v5, (.int .i64 a2)]) Try_C79 ⟨rfl, rfl, rfl, trivial⟩) (M.spec_l27Out_ok _ a0 (hL.rdS 1 rfl h2) (hL.rdS 1 rfl h4) a1 (hL.rdS 1 rfl h6) a2 hx10) ?_)
 rintro e13 wd14 ⟨v12, S11, rfl, hF15⟩
 refine ⟨_, rfl, ?_⟩
 have hL := hL.pushAll hF15
 simp only [lA, lB, lC, lD] at hL
 refine OV v12 rfl (x_assign) <| ONR ?_
 refine OW.cons (S_lit ([] : List Int) hL U25 Try_T2 rfl (by decide) (by first | (simp [Instr.fill, madeCells, Value.cells, ev, upd, Flat.enc, Flat.sz]; done) | rfl | kernel_rfl) rfl rfl ?_)
 intro wd16 v17 S18 hL
 refine OV v17 rfl (x_assign) <| ONS <| CSR <| OV (.int .i64 0) rfl (x_assign) <| OW.nil ?_
 obtain ⟨o345, ho346, hm⟩ := bndE hm
 refine CW.loopB (fun (s_l1 : (List Int) × Int) (F : Fr) (w : World) => ∃ (v341 : Value) (S342 : Nat → Prop), F 2 = (.int .i64 a2) ∧ F 3 = (.pointer (some ⟨b8, 0, none⟩)) ∧ F 7 = v12 ∧ F 8 = v341 ∧ F 9 = (.int .i64 s_l1.2) ∧ Hp w0 [Ent.own 2 S342 v341 s_l1.1, Ent.own 4 S11 v12 x9, Ent.blk b8 29 #[(.int .i64 a0.Boats), v1, v3], Ent.snap w0 w0.heap.size] w) (fun o => outc o (fun x => some x) (fun s => M.spec_l27Counted_a1 s) = some r) ho346 hm ⟨v17, S18, rfl, rfl, rfl, rfl, rfl, hL⟩ ?_ ?_
 · intro s_l1 F347 wd348 hJ hm
   have hm := outcE hm
   have hm : M.spec_l27Counted_a1 s_l1 = some r := hm
   unfold M.spec_l27Counted_a1 at hm
   obtain ⟨v341, S342, f349, f350, f351, f352, f353, hL⟩ := hJ
   refine CSR <| OV v341 rfl (x_mv f352) <| OV v341 rfl (x_assign) <| OW.nil <| CW.ret ?_
   obtain rfl := Option.some.inj hm
   exact RR1 rfl rfl ⟨v341, S342, rfl, hL.fresh 3 rfl [0] (by decide) (by decide) rfl⟩
 intro s_l1 F354 wd355 t343 hJ hm hr344
 unfold M.spec_l27Counted_l1 at hm
 obtain ⟨v341, S342, f356, f357, f358, f359, f360, hL⟩ := hJ
 refine CW.seq <| CSR <| OV (.int .i64 s_l1.2) rfl (x_mv f360) <| OV v12 rfl (x_mv f358) <| OV (.int .i64 (x9.length : Int)) rfl (x_lenR U71 rfl (hL.rdO 1 rfl)) <| OV (.bool (decide (s_l1.2 < (x9.length : Int)))) rfl (x_lss rfl rfl) <| OW.nil ?_
 refine CW.condM (t := decide (s_l1.2 < (x9.length : Int))) rfl hm (fun hb361 hm => ?_) (fun hb361 hm => ?_)
 · refine CW.skip ?_
   refine CW.seqJ (fun (s_j1 : (List Int)) (F : Fr) (w : World) => ∃ (v437 : Value) (S438 : Nat → Prop), F 2 = (.int .i64 a2) ∧ F 3 = (.pointer (some ⟨b8, 0, none⟩)) ∧ F 7 = v12 ∧ F 8 = v437 ∧ F 9 = (.int .i64 s_l1.2) ∧ Hp w0 [Ent.own 2 S438 v437 s_j1, Ent.own 4 S11 v12 x9, Ent.blk b8 29 #[(.int .i64 a0.Boats), v1, v3], Ent.snap w0 w0.heap.size] w) (fun s_j1 => M.spec_l27Counted_j1 s_l1 s_j1 = some t343) ?_ ?_
   · refine CW.blockJ (fun (s_j2 : (List Int)) (F : Fr) (w : World) => ∃ (v479 : Value) (S480 : Nat → Prop), F 2 = (.int .i64 a2) ∧ F 3 = (.pointer (some ⟨b8, 0, none⟩)) ∧ F 7 = v12 ∧ F 8 = v479 ∧ F 9 = (.int .i64 s_l1.2) ∧ Hp w0 [Ent.own 2 S480 v479 s_j2, Ent.own 4 S11 v12 x9, Ent.blk b8 29 #[(.int .i64 a0.Boats), v1, v3], Ent.snap w0 w0.heap.size] w) (fun s_j2 => M.spec_l27Counted_j2 s_l1 s_j2 = some t343) ?_ ?_
     · refine CSR <| OV v12 rfl (x_mv f358) <| OV (.int .i64 s_l1.2) rfl (x_mv f360) ?_
       obtain ⟨x488, ha489, hm⟩ := bndE hm
       obtain ⟨hz490, ha494⟩ := idxE ha489
       obtain ⟨b491, q492, hix493⟩ := rdL_ix (hL.rdO 1 rfl) hz490 ha494
       refine OV (.pointer (some ⟨b491, q492, none⟩)) rfl (x_ix U71 Try_T4 rfl rfl hix493) <| OV (.bool x488) rfl (x_load1 U4 rfl rfl (rdF_cells (hL.rdO 1 rfl) hix493 ha494 0 _ rfl)) <| OV (.bool (!x488)) rfl (x_not rfl) <| OW.nil ?_
       refine CW.condM (t := !x488) rfl hm (fun hb495 hm => ?_) (fun hb495 hm => ?_)
       · refine CW.regionL <| OV v341 rfl (x_mv f359) <| OV (.pointer (some ⟨b8, 1, none⟩)) rfl (x_fieldAddr (fsz := 1) 0 1 1 U29 rfl Try_T22 rfl f357 rfl) <| OV v1 rfl (x_load1 U22 rfl rfl (hL.cellB 2 rfl rfl)) <| OV (.int .i64 s_l1.2) rfl (x_mv f360) ?_
         obtain ⟨x496, ha497, hm⟩ := bndE hm
         obtain ⟨hz498, ha506⟩ := idxE ha497
         obtain ⟨b499, q500, v501, hix502, hs503, hc504, hr505⟩ := rdN_at h2 hz498 ha506
         refine OV (.pointer (some ⟨b499, q500, none⟩)) rfl (x_ix U22 Try_T25 rfl rfl hix502) <| OV v501 rfl (x_load1 U25 rfl rfl (hL.cellS 3 rfl hs503 hc504)) <| OV (.int .i64 a2) rfl (x_mv f356) ?_
         obtain ⟨x507, ha508, hm⟩ := bndE hm
         obtain ⟨hz509, ha513⟩ := idxE ha508
         obtain ⟨b510, q511, hix512⟩ := rdL_ix (hL.rdS 3 rfl hr505) hz509 ha513
         refine OV (.pointer (some ⟨b510, q511, none⟩)) rfl (x_ix U25 Try_T2 rfl rfl hix512) <| OV (.int .i64 x507) rfl (x_load1 U2 rfl rfl (rdF_cells (hL.rdS 3 rfl hr505) hix512 ha513 0 _ rfl)) ?_
         refine OW.cons (S_lit ([x507] : List Int) hL U25 Try_T2 rfl (by decide) (by first | (simp [Instr.fill, madeCells, Value.cells, ev, upd, Flat.enc, Flat.sz]; done) | rfl | kernel_rfl) rfl rfl ?_)
         intro wd514 v515 S516 hL
         obtain ⟨hc520, hm⟩ := chkE hm
         refine OW.cons (S_append (ys := ([x507] : List Int)) hL 1 rfl U25 Try_T2 rfl rfl rfl (hL.rdO 0 rfl) hc520 (by decide) rfl ?_)
         intro wd517 v518 S519 hL
         refine OV v518 rfl (x_assign) <| OW.nil ?_
         have hL := hL.sel [1, 2, 3, 4] (by decide) rfl
         exact ⟨s_l1.1 ++ ([x507] : List Int), hm, ⟨v518, S519, f356, f357, f358, rfl, f360, hL⟩⟩
       refine CW.skip ?_
       exact ⟨s_l1.1, hm, ⟨v341, S342, f356, f357, f358, f359, f360, hL⟩⟩
     intro s_j2 F481 wd482 hJ hm
     unfold M.spec_l27Counted_j2 at hm
     obtain ⟨v479, S480, f483, f484, f485, f486, f487, hL⟩ := hJ
     exact ⟨s_j2, hm, ⟨v479, S480, f483, f484, f485, f486, f487, hL⟩⟩
   intro s_j1 F439 wd440 hJ hm
   unfold M.spec_l27Counted_j1 at hm
   obtain ⟨v437, S438, f441, f442, f443, f444, f445, hL⟩ := hJ
   refine CW.regionL <| OV (.int .i64 s_l1.2) rfl (x_mv f445) <| OV (.int .i64 (w64 (s_l1.2 + 1))) rfl (x_add rfl rfl) <| OV (.int .i64 (w64 (s_l1.2 + 1))) rfl (x_assign) <| OW.nil ?_
   obtain rfl := Option.some.inj hm
   exact ⟨_, rfl, ⟨v437, S438, f441, f442, f443, f444, rfl, hL⟩⟩
 refine CW.exit ?_
 refine XJ.hit ?_
 obtain rfl := Option.some.inj hm
 exact ⟨_, rfl, ⟨v341, S342, f356, f357, f358, f359, f360, hL⟩⟩

theorem M.spec_l28Sorted_ok (w0 : World) (a0 : List Int) {v1 : Value} (h2 : rdL (· < w0.heap.size) w0 v1 a0) {r : (List Int)} (hm : M.spec_l28Sorted a0 = some r) :
    Calls Try.prog 72 #[v1] w0 fun e w' => ∃ (rv0 : Value) (rS0 : Nat → Prop), e = .returned rv0 ∧ Fresh w0 w' [Ent.own 2 rS0 rv0 r] := by
 unfold M.spec_l28Sorted at hm
 refine calls_CW (args := [v1]) Try.func72 rfl rfl rfl ?_
 have hL := Hp.start w0
 refine CSR <| OV (.slice none 0 0) rfl (x_assign) <| ONR ?_
 refine OW.cons (S_lit ([] : List Int) hL U25 Try_T2 rfl (by decide) (by first | (simp [Instr.fill, madeCells, Value.cells, ev, upd, Flat.enc, Flat.sz]; done) | rfl | kernel_rfl) rfl rfl ?_)
 intro wd3 v4 S5 hL
 refine OV v1 rfl (x_move) ?_
 obtain ⟨hc9, hm⟩ := chkE hm
 refine OW.cons (S_append (ys := a0) hL 0 rfl U25 Try_T2 rfl rfl rfl (hL.rdS 1 rfl h2) hc9 (by decide) rfl ?_)
 intro wd6 v7 S8 hL
 refine OV v7 rfl (x_assign) <| ONS <| CSR <| OV (.int .i64 1) rfl (x_assign) <| OW.nil ?_
 obtain ⟨o474, ho475, hm⟩ := bndE hm
 refine CW.loopB (fun (s_l1 : (List Int) × Int) (F : Fr) (w : World) => ∃ (S471 : Nat → Prop), F 3 = v7 ∧ F 4 = (.int .i64 s_l1.2) ∧ Hp w0 [Ent.own 2 S471 v7 s_l1.1, Ent.snap w0 w0.heap.size] w) (fun o => outc o (fun x => some x) (fun s => M.spec_l28Sorted_a1 s) = some r) ho475 hm ⟨S8, rfl, rfl, hL⟩ ?_ ?_
 · intro s_l1 F476 wd477 hJ hm
   have hm := outcE hm
   have hm : M.spec_l28Sorted_a1 s_l1 = some r := hm
   unfold M.spec_l28Sorted_a1 at hm
   obtain ⟨S471, f478, f479, hL⟩ := hJ
   refine CSR <| OV v7 rfl (x_mv f478) <| OV v7 rfl (x_assign) <| OW.nil <| CW.ret ?_
   obtain rfl := Option.some.inj hm
   exact RR1 rfl rfl ⟨v7, S471, rfl, hL.fresh 1 rfl [0] (by decide) (by decide) rfl⟩
 intro s_l1 F480 wd481 t472 hJ hm hr473
 unfold M.spec_l28Sorted_l1 at hm
 obtain ⟨S471, f482, f483, hL⟩ := hJ
 refine CW.seq <| CSR <| OV (.int .i64 s_l1.2) rfl (x_mv f483) <| OV v7 rfl (x_mv f482) <| OV (.int .i64 (s_l1.1.length : Int)) rfl (x_lenR U25 rfl (hL.rdO 0 rfl)) <| OV (.bool (decide (s_l1.2 < (s_l1.1.length : Int)))) rfl (x_lss rfl rfl) <| OW.nil ?_
 refine CW.condM (t := decide (s_l1.2 < (s_l1.1.length : Int))) rfl hm (fun hb484 hm => ?_) (fun hb484 hm => ?_)
 · refine CW.skip <| CW.seq <| CW.block <| CSR <| OV (.int .i64 s_l1.2) rfl (x_mv f483) <| OV (.int .i64 s_l1.2) rfl (x_assign) <| OW.nil ?_
   obtain ⟨o631, ho632, hm⟩ := bndE hm
   refine CW.loopB (fun (s_l2 : (List Int) × Int) (F : Fr) (w : World) => ∃ (S628 : Nat → Prop), F 3 = v7 ∧ F 4 = (.int .i64 s_l1.2) ∧ F 5 = (.int .i64 s_l2.2) ∧ Hp w0 [Ent.own 2 S628 v7 s_l2.1, Ent.snap w0 w0.heap.size] w) (fun o => outc o (fun x => some (.ret x)) (fun s => M.spec_l28Sorted_a2 s_l1 s) = some t472) ho632 hm ⟨S471, f482, f483, rfl, hL⟩ ?_ ?_
   · intro s_l2 F633 wd634 hJ hm
     have hm := outcE hm
     have hm : M.spec_l28Sorted_a2 s_l1 s_l2 = some t472 := hm
     unfold M.spec_l28Sorted_a2 at hm
     obtain ⟨S628, f635, f636, f637, hL⟩ := hJ
     refine CW.regionL <| OV (.int .i64 s_l1.2) rfl (x_mv f636) <| OV (.int .i64 (w64 (s_l1.2 + 1))) rfl (x_add rfl rfl) <| OV (.int .i64 (w64 (s_l1.2 + 1))) rfl (x_assign) <| OW.nil ?_
     obtain rfl := Option.some.inj hm
     exact ⟨_, rfl, ⟨S628, f635, rfl, hL⟩⟩
   intro s_l2 F638 wd639 t629 hJ hm hr630
   unfold M.spec_l28Sorted_l2 at hm
   obtain ⟨S628, f640, f641, f642, hL⟩ := hJ
   refine CW.seq ?_
   refine CW.seqJ (fun (s_j1 : Bool) (F : Fr) (w : World) => F 3 = v7 ∧ F 4 = (.int .i64 s_l1.2) ∧ F 5 = (.int .i64 s_l2.2) ∧ F 30 = (.bool s_j1) ∧ Hp w0 [Ent.own 2 S628 v7 s_l2.1, Ent.snap w0 w0.heap.size] w) (fun s_j1 => M.spec_l28Sorted_j1 s_l2 s_j1 = some t629) ?_ ?_
   · refine CW.draw Try_mixed ?_
     have hL := hL.call (Mod.drew _)
     refine DW.pre (fuel := 0) (fin := bma 14 16383) (C := fun w' => Mod None_ _ w') [0, 1, 2, 3, 4, 5, 6, 7, 8, 9, 10, 11, 12, 13] (Mod.refl _ _) (by kernel_rfl) (by kernel_rfl) ?_
     refine QV (.int .i64 s_l2.2) rfl rfl (fun w' hm' => x_mv f642) <| QV (.bool (decide (0 < s_l2.2))) rfl rfl (fun w' hm' => x_gtr rfl rfl) <| QV (.bool (decide (0 < s_l2.2))) rfl rfl (fun w' hm' => x_move) ?_
     refine ifB_elim hm (fun hb697 hm => ?_) (fun hb697 hm => ?_)
     · refine QW.cons rfl (QP.yes' rfl rfl hb697 (QP.val (v := v7) rfl (fun w' hm' => x_mv f640) ?_))
       refine QW.cons rfl (QP.yes' rfl rfl hb697 (QP.val (v := (.int .i64 s_l2.2)) rfl (fun w' hm' => x_mv f642) ?_))
       refine QW.cons rfl (QP.yes' rfl rfl hb697 (QP.val (v := (.int .i64 (w64 (s_l2.2 - 1)))) rfl (fun w' hm' => x_sub rfl rfl) ?_))
       obtain ⟨x698, ha699, hm⟩ := bndE hm
       obtain ⟨hz700, ha704⟩ := idxE ha699
       obtain ⟨b701, q702, hix703⟩ := rdL_ix (hL.rdO 0 rfl) hz700 ha704
       refine QW.cons rfl (QP.yes' rfl rfl hb697 (QP.val (v := (.pointer (some ⟨b701, q702, none⟩))) rfl (fun w' hm' => x_ix U25 Try_T2 rfl rfl hix703) ?_))
       refine QW.cons rfl (QP.yes' rfl rfl hb697 (QP.val (v := (.int .i64 x698)) rfl (fun w' hm' => x_load1 U2 rfl rfl (rdF_cells ((hL.call hm').rdO 0 rfl) hix703 ha704 0 _ rfl)) ?_))
       refine QW.cons rfl (QP.yes' rfl rfl hb697 (QP.val (v := v7) rfl (fun w' hm' => x_mv f640) ?_))
       refine QW.cons rfl (QP.yes' rfl rfl hb697 (QP.val (v := (.int .i64 s_l2.2)) rfl (fun w' hm' => x_mv f642) ?_))
       obtain ⟨x705, ha706, hm⟩ := bndE hm
       obtain ⟨hz707, ha711⟩ := idxE ha706
       obtain ⟨b708, q709, hix710⟩ := rdL_ix (hL.rdO 0 rfl) hz707 ha711
       refine QW.cons rfl (QP.yes' rfl rfl hb697 (QP.val (v := (.pointer (some ⟨b708, q709, none⟩))) rfl (fun w' hm' => x_ix U25 Try_T2 rfl rfl hix710) ?_))
       refine QW.cons rfl (QP.yes' rfl rfl hb697 (QP.val (v := (.int .i64 x705)) rfl (fun w' hm' => x_load1 U2 rfl rfl (rdF_cells ((hL.call hm').rdO 0 rfl) hix710 ha711 0 _ rfl)) ?_))
       refine QW.cons rfl (QP.yes' rfl rfl hb697 (QP.val (v := (.bool (decide (x705 < x698)))) rfl (fun w' hm' => x_gtr rfl rfl) ?_))
       refine QV (.bool (decide (x705 < x698))) rfl rfl (fun w' hm' => x_pickT' rfl hb697 rfl) ?_
       refine QW.nil ?_
       intro wd712 hmod
       have hL := hL.call hmod
       refine DW.done (by kernel_rfl) ?_
       exact ⟨decide (x705 < x698), hm, ⟨f640, f641, f642, rfl, hL⟩⟩
     refine QW.cons rfl (QP.no' rfl rfl hb697 rfl ?_)
     refine QW.cons rfl (QP.no' rfl rfl hb697 rfl ?_)
     refine QW.cons rfl (QP.no' rfl rfl hb697 rfl ?_)
     refine QW.cons rfl (QP.no' rfl rfl hb697 rfl ?_)
     refine QW.cons rfl (QP.no' rfl rfl hb697 rfl ?_)
     refine QW.cons rfl (QP.no' rfl rfl hb697 rfl ?_)
     refine QW.cons rfl (QP.no' rfl rfl hb697 rfl ?_)
     refine QW.cons rfl (QP.no' rfl rfl hb697 rfl ?_)
     refine QW.cons rfl (QP.no' rfl rfl hb697 rfl ?_)
     refine QW.cons rfl (QP.no' rfl rfl hb697 rfl ?_)
     refine QV (.bool false) rfl rfl (fun w' hm' => x_pickF' rfl hb697 rfl) ?_
     refine QW.nil ?_
     intro wd713 hmod
     have hL := hL.call hmod
     refine DW.done (by kernel_rfl) ?_
     exact ⟨false, hm, ⟨f640, f641, f642, rfl, hL⟩⟩
   intro s_j1 F660 wd661 hJ hm
   unfold M.spec_l28Sorted_j1 at hm
   obtain ⟨f662, f663, f664, f665, hL⟩ := hJ
   refine CW.condM (t := s_j1) f665 hm (fun hb666 hm => ?_) (fun hb666 hm => ?_)
   · refine CW.skip <| CW.seq <| CW.block <| CSR <| OV v7 rfl (x_mv f662) <| OV (.int .i64 s_l2.2) rfl (x_mv f664) ?_
     obtain ⟨x667, ha668, hm⟩ := bndE hm
     obtain ⟨hz669, ha673⟩ := idxE ha668
     obtain ⟨b670, q671, hix672⟩ := rdL_ix (hL.rdO 0 rfl) hz669 ha673
     refine OV (.pointer (some ⟨b670, q671, none⟩)) rfl (x_ix U25 Try_T2 rfl rfl hix672) <| OV (.int .i64 x667) rfl (x_load1 U2 rfl rfl (rdF_cells (hL.rdO 0 rfl) hix672 ha673 0 _ rfl)) <| OV (.int .i64 x667) rfl (x_assign) <| ONR <| OV v7 rfl (x_mv f662) <| OV (.int .i64 s_l2.2) rfl (x_mv f664) <| OV v7 rfl (x_mv f662) <| OV (.int .i64 s_l2.2) rfl (x_mv f664) <| OV (.int .i64 (w64 (s_l2.2 - 1))) rfl (x_sub rfl rfl) ?_
     obtain ⟨x674, ha675, hm⟩ := bndE hm
     obtain ⟨hz676, ha680⟩ := idxE ha675
     obtain ⟨b677, q678, hix679⟩ := rdL_ix (hL.rdO 0 rfl) hz676 ha680
     refine OV (.pointer (some ⟨b677, q678, none⟩)) rfl (x_ix U25 Try_T2 rfl rfl hix679) <| OV (.int .i64 x674) rfl (x_load1 U2 rfl rfl (rdF_cells (hL.rdO 0 rfl) hix679 ha680 0 _ rfl)) ?_
     obtain ⟨x681, ha682, hm⟩ := bndE hm
     obtain ⟨hz683, ha687⟩ := idxE ha682
     obtain ⟨b684, q685, hix686⟩ := rdL_ix (hL.rdO 0 rfl) hz683 ha687
     refine OV (.pointer (some ⟨b684, q685, none⟩)) rfl (x_ix U25 Try_T2 rfl rfl hix686) ?_
     refine OW.cons (S_storeX (j := 0) x674 hL 0 rfl Try_T2 hix686 ha687 rfl rfl rfl rfl rfl rfl ?_)
     intro wd688 hL
     refine OW.nil <| CW.regionL <| OV v7 rfl (x_mv f662) <| OV (.int .i64 s_l2.2) rfl (x_mv f664) <| OV (.int .i64 (w64 (s_l2.2 - 1))) rfl (x_sub rfl rfl) <| OV (.int .i64 x667) rfl (x_move) ?_
     obtain ⟨x689, ha690, hm⟩ := bndE hm
     obtain ⟨hz691, ha695⟩ := idxE ha690
     obtain ⟨b692, q693, hix694⟩ := rdL_ix (hL.rdO 0 rfl) hz691 ha695
     refine OV (.pointer (some ⟨b692, q693, none⟩)) rfl (x_ix U25 Try_T2 rfl rfl hix694) ?_
     refine OW.cons (S_storeX (j := 0) x667 hL 0 rfl Try_T2 hix694 ha695 rfl rfl rfl rfl rfl rfl ?_)
     intro wd696 hL
     refine OW.nil <| CW.regionL <| OV (.int .i64 s_l2.2) rfl (x_mv f664) <| OV (.int .i64 (w64 (s_l2.2 - 1))) rfl (x_sub rfl rfl) <| OV (.int .i64 (w64 (s_l2.2 - 1))) rfl (x_assign) <| OW.nil ?_
     obtain rfl := Option.some.inj hm
     exact ⟨_, rfl, ⟨S628, f662, f663, rfl, hL⟩⟩
   refine CW.exit ?_
   refine XJ.hit ?_
   obtain rfl := Option.some.inj hm
   exact ⟨_, rfl, ⟨S628, f662, f663, f664, hL⟩⟩
 refine CW.exit ?_
 refine XJ.hit ?_
 obtain rfl := Option.some.inj hm
 exact ⟨_, rfl, ⟨S471, f482, f483, hL⟩⟩

theorem M.spec_l27Sum_ok (w0 : World) (a0 : List Int) {v1 : Value} (h2 : rdL (· < w0.heap.size) w0 v1 a0) {r : Int} (hm : M.spec_l27Sum a0 = some r) :
    Calls Try.prog 69 #[v1] w0 fun e w' => e = .returned (.int .i64 r) ∧ Fresh w0 w' [] := by
 unfold M.spec_l27Sum at hm
 refine calls_CW (args := [v1]) Try.func69 rfl rfl rfl ?_
 have hL := Hp.start w0
 refine CSR <| OV (.int .i64 0) rfl (x_assign) <| ONR <| OV (.int .i64 0) rfl (x_assign) <| ONS <| CSR <| OV (.int .i64 0) rfl (x_assign) <| OW.nil ?_
 obtain ⟨o21, ho22, hm⟩ := bndE hm
 refine CW.loopB (fun (s_l1 : Int × Int) (F : Fr) (w : World) => F 0 = v1 ∧ F 3 = (.int .i64 s_l1.1) ∧ F 4 = (.int .i64 s_l1.2) ∧ Hp w0 [Ent.snap w0 w0.heap.size] w) (fun o => outc o (fun x => some x) (fun s => M.spec_l27Sum_a1 s) = some r) ho22 hm ⟨rfl, rfl, rfl, hL⟩ ?_ ?_
 · intro s_l1 F23 wd24 hJ hm
   have hm := outcE hm
   have hm : M.spec_l27Sum_a1 s_l1 = some r := hm
   unfold M.spec_l27Sum_a1 at hm
   obtain ⟨f25, f26, f27, hL⟩ := hJ
   refine CSR <| OV (.int .i64 s_l1.1) rfl (x_mv f26) <| OV (.int .i64 s_l1.1) rfl (x_assign) <| OW.nil <| CW.ret ?_
   obtain rfl := Option.some.inj hm
   exact RR1 rfl rfl ⟨rfl, hL.fresh 0 rfl [] (by decide) (by decide) rfl⟩
 intro s_l1 F28 wd29 t19 hJ hm hr20
 unfold M.spec_l27Sum_l1 at hm
 obtain ⟨f30, f31, f32, hL⟩ := hJ
 refine CW.seq <| CSR <| OV (.int .i64 s_l1.2) rfl (x_mv f32) <| OV v1 rfl (x_mv f30) <| OV (.int .i64 (a0.length : Int)) rfl (x_lenR U25 rfl (hL.rdS 0 rfl h2)) <| OV (.bool (decide (s_l1.2 < (a0.length : Int)))) rfl (x_lss rfl rfl) <| OW.nil ?_
 refine CW.condM (t := decide (s_l1.2 < (a0.length : Int))) rfl hm (fun hb33 hm => ?_) (fun hb33 hm => ?_)
 · refine CW.skip <| CW.seq <| CW.block <| CW.regionL <| OV (.int .i64 s_l1.1) rfl (x_mv f31) <| OV v1 rfl (x_mv f30) <| OV (.int .i64 s_l1.2) rfl (x_mv f32) ?_
   obtain ⟨x34, ha35, hm⟩ := bndE hm
   obtain ⟨hz36, ha40⟩ := idxE ha35
   obtain ⟨b37, q38, hix39⟩ := rdL_ix (hL.rdS 0 rfl h2) hz36 ha40
   refine OV (.pointer (some ⟨b37, q38, none⟩)) rfl (x_ix U25 Try_T2 rfl rfl hix39) <| OV (.int .i64 x34) rfl (x_load1 U2 rfl rfl (rdF_cells (hL.rdS 0 rfl h2) hix39 ha40 0 _ rfl)) <| OV (.int .i64 (w64 (s_l1.1 + x34))) rfl (x_add rfl rfl) <| OV (.int .i64 (w64 (s_l1.1 + x34))) rfl (x_assign) <| OW.nil <| CW.regionL <| OV (.int .i64 s_l1.2) rfl (x_mv f32) <| OV (.int .i64 (w64 (s_l1.2 + 1))) rfl (x_add rfl rfl) <| OV (.int .i64 (w64 (s_l1.2 + 1))) rfl (x_assign) <| OW.nil ?_
   obtain rfl := Option.some.inj hm
   exact ⟨_, rfl, ⟨f30, rfl, rfl, hL⟩⟩
 refine CW.exit ?_
 refine XJ.hit ?_
 obtain rfl := Option.some.inj hm
 exact ⟨_, rfl, ⟨f30, f31, f32, hL⟩⟩

theorem M.spec_l28Sign_ok (w0 : World) (a0 : Int) (a1 : Int) {r : Int} (hm : M.spec_l28Sign a0 a1 = some r) :
    Calls Try.prog 96 #[(.int .i64 a0), (.int .i64 a1)] w0 fun e w' => e = .returned (.int .i64 r) ∧ Fresh w0 w' [] := by
 unfold M.spec_l28Sign at hm
 refine calls_CW (args := [(.int .i64 a0), (.int .i64 a1)]) Try.func96 rfl rfl rfl ?_
 have hL := Hp.start w0
 refine CSR <| OV (.int .i64 0) rfl (x_assign) <| ONS <| CSR <| OV (.int .i64 a0) rfl (x_move) <| OV (.int .i64 a1) rfl (x_move) <| OV (.bool (decide (a0 < a1))) rfl (x_lss rfl rfl) <| OW.nil ?_
 refine CW.condM (t := decide (a0 < a1)) rfl hm (fun hb1 hm => ?_) (fun hb1 hm => ?_)
 · refine CSR <| OV (.int .i64 (-1)) rfl (x_assign) <| OW.nil <| CW.ret ?_
   obtain rfl := Option.some.inj hm
   exact RR1 rfl rfl ⟨rfl, hL.fresh 0 rfl [] (by decide) (by decide) rfl⟩
 refine CW.skip <| CW.seq <| CSR <| OV (.int .i64 a0) rfl (x_move) <| OV (.int .i64 a1) rfl (x_move) <| OV (.bool (decide (a1 < a0))) rfl (x_gtr rfl rfl) <| OW.nil ?_
 refine CW.condM (t := decide (a1 < a0)) rfl hm (fun hb2 hm => ?_) (fun hb2 hm => ?_)
 · refine CSR <| OV (.int .i64 1) rfl (x_assign) <| OW.nil <| CW.ret ?_
   obtain rfl := Option.some.inj hm
   exact RR1 rfl rfl ⟨rfl, hL.fresh 0 rfl [] (by decide) (by decide) rfl⟩
 refine CW.skip <| CSR <| OV (.int .i64 0) rfl (x_assign) <| OW.nil <| CW.ret ?_
 obtain rfl := Option.some.inj hm
 exact RR1 rfl rfl ⟨rfl, hL.fresh 0 rfl [] (by decide) (by decide) rfl⟩

theorem M.spec_l28Compare_ok (w0 : World) (a0 : Table) {v1 : Value} {v3 : Value} (h2 : rdL (· < w0.heap.size) w0 v1 a0.Points) (h4 : rdL (· < w0.heap.size) w0 v3 a0.Codes) (a1 : List Int) {v5 : Value} (h6 : rdL (· < w0.heap.size) w0 v5 a1) (a2 : Int) (a3 : Int) {r : Int × Int × Int} (hm : M.spec_l28Compare a0 a1 a2 a3 = some r) :
    Calls Try.prog 59 #[(.agg #[(.int .i64 a0.Boats), v1, v3]), v5, (.int .i64 a2), (.int .i64 a3)] w0 fun e w' => e = .returned (.tuple #[(.int .i64 r.1), (.int .i64 r.2.1), (.int .i64 r.2.2)]) ∧ Fresh w0 w' [] := by
 unfold M.spec_l28Compare at hm
 refine calls_CW (args := [(.agg #[(.int .i64 a0.Boats), v1, v3]), v5, (.int .i64 a2), (.int .i64 a3)]) Try.func59 rfl rfl rfl ?_
 have hL := Hp.start w0
 refine CSR ?_
 refine OW.cons (S_box (cs := #[(.int .i64 a0.Boats), v1, v3]) hL rfl rfl rfl ?_)
 intro wd7 b8 hL
 refine OV (.int .i64 0) rfl (x_assign) <| OV (.int .i64 0) rfl (x_assign) <| OV (.int .i64 0) rfl (x_assign) <| ONR <| OV (.agg #[(.int .i64 a0.Boats), v1, v3]) rfl (x_loadN (cs := [(.int .i64 a0.Boats), v1, v3]) U29 Try_T29 rfl rfl (hL.cellsB 0 rfl (o := 0) (l := [(.int .i64 a0.Boats), v1, v3]) (by intro j u hj; exact (by simpa using hj)))) <| OV v5 rfl (x_move) <| OV (.int .i64 a2) rfl (x_move) ?_
 obtain ⟨x9, hx10, hm⟩ := bndE hm
 refine OW.cons (OP.call rfl (x_call (vs := [(.agg #[(.int .i64 a0.Boats), v1, v3]), v5, (.int .i64 a2)]) Try_C70 ⟨rfl, rfl, rfl, trivial⟩) (M.spec_l27Counted_ok _ a0 (hL.rdS 1 rfl h2) (hL.rdS 1 rfl h4) a1 (hL.rdS 1 rfl h6) a2 hx10) ?_)
 rintro e13 wd14 ⟨v12, S11, rfl, hF15⟩
 refine ⟨_, rfl, ?_⟩
 have hL := hL.pushAll hF15
 simp only [lA, lB, lC, lD] at hL
 obtain ⟨x16, hx17, hm⟩ := bndE hm
 refine OW.cons (OP.call rfl (x_call (vs := [v12]) Try_C72 ⟨rfl, trivial⟩) (M.spec_l28Sorted_ok _ x9 (hL.rdO 0 rfl) hx17) ?_)
 rintro e20 wd21 ⟨v19, S18, rfl, hF22⟩
 refine ⟨_, rfl, ?_⟩
 have hL := hL.pushAll hF22
 simp only [lA, lB, lC, lD] at hL
 refine OV v19 rfl (x_assign) <| ONR <| OV (.agg #[(.int .i64 a0.Boats), v1, v3]) rfl (x_loadN (cs := [(.int .i64 a0.Boats), v1, v3]) U29 Try_T29 rfl rfl (hL.cellsB 2 rfl (o := 0) (l := [(.int .i64 a0.Boats), v1, v3]) (by intro j u hj; exact (by simpa using hj)))) <| OV v5 rfl (x_move) <| OV (.int .i64 a3) rfl (x_move) ?_
 obtain ⟨x23, hx24, hm⟩ := bndE hm
 refine OW.cons (OP.call rfl (x_call (vs := [(.agg #[(.int .i64 a0.Boats), v1, v3]), v5, (.int .i64 a3)]) Try_C70 ⟨rfl, rfl, rfl, trivial⟩) (M.spec_l27Counted_ok _ a0 (hL.rdS 3 rfl h2) (hL.rdS 3 rfl h4) a1 (hL.rdS 3 rfl h6) a3 hx24) ?_)
 rintro e27 wd28 ⟨v26, S25, rfl, hF29⟩
 refine ⟨_, rfl, ?_⟩
 have hL := hL.pushAll hF29
 simp only [lA, lB, lC, lD] at hL
 obtain ⟨x30, hx31, hm⟩ := bndE hm
 refine OW.cons (OP.call rfl (x_call (vs := [v26]) Try_C72 ⟨rfl, trivial⟩) (M.spec_l28Sorted_ok _ x23 (hL.rdO 0 rfl) hx31) ?_)
 rintro e34 wd35 ⟨v33, S32, rfl, hF36⟩
 refine ⟨_, rfl, ?_⟩
 have hL := hL.pushAll hF36
 simp only [lA, lB, lC, lD] at hL
 refine OV v33 rfl (x_assign) <| ONS <| CSR <| OV v19 rfl (x_move) ?_
 obtain ⟨x37, hx38, hm⟩ := bndE hm
 refine OW.cons (OP.call rfl (x_call (vs := [v19]) Try_C69 ⟨rfl, trivial⟩) (M.spec_l27Sum_ok _ x16 (hL.rdO 2 rfl) hx38) ?_)
 rintro e39 wd40 ⟨rfl, hF41⟩
 refine ⟨_, rfl, ?_⟩
 have hL := hL.pushAll hF41
 simp only [lA, lB, lC, lD] at hL
 refine OV v33 rfl (x_move) ?_
 obtain ⟨x42, hx43, hm⟩ := bndE hm
 refine OW.cons (OP.call rfl (x_call (vs := [v33]) Try_C69 ⟨rfl, trivial⟩) (M.spec_l27Sum_ok _ x30 (hL.rdO 0 rfl) hx43) ?_)
 rintro e44 wd45 ⟨rfl, hF46⟩
 refine ⟨_, rfl, ?_⟩
 have hL := hL.pushAll hF46
 simp only [lA, lB, lC, lD] at hL
 refine OV (.bool (x37 != x42)) rfl (x_neq rfl rfl) <| OW.nil ?_
 refine CW.condM (t := x37 != x42) rfl hm (fun hb47 hm => ?_) (fun hb47 hm => ?_)
 · refine CSR <| OV v19 rfl (x_move) ?_
   obtain ⟨x48, hx49, hm⟩ := bndE hm
   refine OW.cons (OP.call rfl (x_call (vs := [v19]) Try_C69 ⟨rfl, trivial⟩) (M.spec_l27Sum_ok _ x16 (hL.rdO 2 rfl) hx49) ?_)
   rintro e50 wd51 ⟨rfl, hF52⟩
   refine ⟨_, rfl, ?_⟩
   have hL := hL.pushAll hF52
   simp only [lA, lB, lC, lD] at hL
   refine OV v33 rfl (x_move) ?_
   obtain ⟨x53, hx54, hm⟩ := bndE hm
   refine OW.cons (OP.call rfl (x_call (vs := [v33]) Try_C69 ⟨rfl, trivial⟩) (M.spec_l27Sum_ok _ x30 (hL.rdO 0 rfl) hx54) ?_)
   rintro e55 wd56 ⟨rfl, hF57⟩
   refine ⟨_, rfl, ?_⟩
   have hL := hL.pushAll hF57
   simp only [lA, lB, lC, lD] at hL
   obtain ⟨x58, hx59, hm⟩ := bndE hm
   refine OW.cons (OP.call rfl (x_call (vs := [(.int .i64 x48), (.int .i64 x53)]) Try_C96 ⟨rfl, rfl, trivial⟩) (M.spec_l28Sign_ok _ x48 x53 hx59) ?_)
   rintro e60 wd61 ⟨rfl, hF62⟩
   refine ⟨_, rfl, ?_⟩
   have hL := hL.pushAll hF62
   simp only [lA, lB, lC, lD] at hL
   refine OV (.int .i64 x58) rfl (x_assign) <| OV (.int .i64 1) rfl (x_assign) <| OV (.int .i64 0) rfl (x_assign) <| OW.nil <| CW.ret ?_
   obtain rfl := Option.some.inj hm
   exact RR3 rfl rfl rfl rfl ⟨rfl, hL.fresh 5 rfl [] (by decide) (by decide) rfl⟩
 refine CW.skip <| CW.seq <| CSR <| OV (.int .i64 0) rfl (x_assign) <| OW.nil ?_
 obtain ⟨o155, ho156, hm⟩ := bndE hm
 have hL := hL.sel [0, 2, 4, 5] (by decide) rfl
 refine CW.loopB (fun (s_l1 : Int) (F : Fr) (w : World) => F 2 = (.int .i64 a2) ∧ F 3 = (.int .i64 a3) ∧ F 4 = (.pointer (some ⟨b8, 0, none⟩)) ∧ F 11 = v19 ∧ F 12 = v33 ∧ F 13 = (.int .i64 s_l1) ∧ Hp w0 [Ent.own 2 S32 v33 x30, Ent.own 2 S18 v19 x16, Ent.blk b8 29 #[(.int .i64 a0.Boats), v1, v3], Ent.snap w0 w0.heap.size] w) (fun o => outc o (fun x => some x) (fun s => M.spec_l28Compare_a1 a0 a2 a3 s) = some r) ho156 hm ⟨rfl, rfl, rfl, rfl, rfl, rfl, hL⟩ ?_ ?_
 · intro s_l1 F157 wd158 hJ hm
   have hm := outcE hm
   have hm : M.spec_l28Compare_a1 a0 a2 a3 s_l1 = some r := hm
   unfold M.spec_l28Compare_a1 at hm
   obtain ⟨f159, f160, f161, f162, f163, f164, hL⟩ := hJ
   refine CW.seq <| CSR <| OV (.pointer (some ⟨b8, 1, none⟩)) rfl (x_fieldAddr (fsz := 1) 0 1 1 U29 rfl Try_T22 rfl f161 rfl) <| OV v1 rfl (x_load1 U22 rfl rfl (hL.cellB 2 rfl rfl)) <| OV (.int .i64 (a0.Points.length : Int)) rfl (x_lenR U22 rfl (hL.rdS 3 rfl h2)) <| OV (.int .i64 (w64 ((a0.Points.length : Int) - 1))) rfl (x_sub rfl rfl) <| OV (.int .i64 (w64 ((a0.Points.length : Int) - 1))) rfl (x_assign) <| OW.nil ?_
   obtain ⟨o323, ho324, hm⟩ := bndE hm
   have hL := hL.sel [2, 3] (by decide) rfl
   refine CW.loopB (fun (s_l2 : Int) (F : Fr) (w : World) => F 2 = (.int .i64 a2) ∧ F 3 = (.int .i64 a3) ∧ F 4 = (.pointer (some ⟨b8, 0, none⟩)) ∧ F 14 = (.int .i64 s_l2) ∧ Hp w0 [Ent.blk b8 29 #[(.int .i64 a0.Boats), v1, v3], Ent.snap w0 w0.heap.size] w) (fun o => outc o (fun x => some x) (fun s => M.spec_l28Compare_a2 s) = some r) ho324 hm ⟨f159, f160, f161, rfl, hL⟩ ?_ ?_
   · intro s_l2 F325 wd326 hJ hm
     have hm := outcE hm
     have hm : M.spec_l28Compare_a2 s_l2 = some r := hm
     unfold M.spec_l28Compare_a2 at hm
     obtain ⟨f327, f328, f329, f330, hL⟩ := hJ
     refine CSR <| OV (.int .i64 0) rfl (x_assign) <| OV (.int .i64 0) rfl (x_assign) <| OV (.int .i64 0) rfl (x_assign) <| OW.nil <| CW.ret ?_
     obtain rfl := Option.some.inj hm
     exact RR3 rfl rfl rfl rfl ⟨rfl, hL.fresh 1 rfl [] (by decide) (by decide) rfl⟩
   intro s_l2 F331 wd332 t321 hJ hm hr322
   unfold M.spec_l28Compare_l2 at hm
   obtain ⟨f333, f334, f335, f336, hL⟩ := hJ
   refine CW.seq <| CSR <| OV (.int .i64 s_l2) rfl (x_mv f336) <| OV (.bool (decide (0 ≤ s_l2))) rfl (x_geq rfl rfl) <| OW.nil ?_
   refine CW.condM (t := decide (0 ≤ s_l2)) rfl hm (fun hb337 hm => ?_) (fun hb337 hm => ?_)
   · refine CW.skip <| CW.seq <| CW.block <| CW.seq ?_
     refine CW.draw Try_mixed ?_
     have hL := hL.call (Mod.drew _)
     refine DW.pre (fuel := 0) (fin := bma 17 131071) (C := fun w' => Mod None_ _ w') [0, 1, 2, 3, 4, 5, 6, 7, 8, 9, 10, 11, 12, 13, 14, 15, 16] (Mod.refl _ _) (by kernel_rfl) (by kernel_rfl) ?_
     refine QV (.pointer (some ⟨b8, 1, none⟩)) rfl rfl (fun w' hm' => x_fieldAddr (fsz := 1) 0 1 1 U29 rfl Try_T22 rfl f335 rfl) <| QV v1 rfl rfl (fun w' hm' => x_load1 U22 rfl rfl ((hL.call hm').cellB 0 rfl rfl)) <| QV (.int .i64 s_l2) rfl rfl (fun w' hm' => x_mv f336) ?_
     obtain ⟨x338, ha339, hm⟩ := bndE hm
     obtain ⟨hz340, ha348⟩ := idxE ha339
     obtain ⟨b341, q342, v343, hix344, hs345, hc346, hr347⟩ := rdN_at h2 hz340 ha348
     refine QV (.pointer (some ⟨b341, q342, none⟩)) rfl rfl (fun w' hm' => x_ix U22 Try_T25 rfl rfl hix344) <| QV v343 rfl rfl (fun w' hm' => x_load1 U25 rfl rfl ((hL.call hm').cellS 1 rfl hs345 hc346)) <| QV (.int .i64 a2) rfl rfl (fun w' hm' => x_mv f333) ?_
     obtain ⟨x349, ha350, hm⟩ := bndE hm
     obtain ⟨hz351, ha355⟩ := idxE ha350
     obtain ⟨b352, q353, hix354⟩ := rdL_ix (hL.rdS 1 rfl hr347) hz351 ha355
     refine QV (.pointer (some ⟨b352, q353, none⟩)) rfl rfl (fun w' hm' => x_ix U25 Try_T2 rfl rfl hix354) <| QV (.int .i64 x349) rfl rfl (fun w' hm' => x_load1 U2 rfl rfl (rdF_cells ((hL.call hm').rdS 1 rfl hr347) hix354 ha355 0 _ rfl)) <| QV (.pointer (some ⟨b8, 1, none⟩)) rfl rfl (fun w' hm' => x_fieldAddr (fsz := 1) 0 1 1 U29 rfl Try_T22 rfl f335 rfl) <| QV v1 rfl rfl (fun w' hm' => x_load1 U22 rfl rfl ((hL.call hm').cellB 0 rfl rfl)) <| QV (.int .i64 s_l2) rfl rfl (fun w' hm' => x_mv f336) ?_
     obtain ⟨x356, ha357, hm⟩ := bndE hm
     obtain ⟨hz358, ha366⟩ := idxE ha357
     obtain ⟨b359, q360, v361, hix362, hs363, hc364, hr365⟩ := rdN_at h2 hz358 ha366
     refine QV (.pointer (some ⟨b359, q360, none⟩)) rfl rfl (fun w' hm' => x_ix U22 Try_T25 rfl rfl hix362) <| QV v361 rfl rfl (fun w' hm' => x_load1 U25 rfl rfl ((hL.call hm').cellS 1 rfl hs363 hc364)) <| QV (.int .i64 a3) rfl rfl (fun w' hm' => x_mv f334) ?_
     obtain ⟨x367, ha368, hm⟩ := bndE hm
     obtain ⟨hz369, ha373⟩ := idxE ha368
     obtain ⟨b370, q371, hix372⟩ := rdL_ix (hL.rdS 1 rfl hr365) hz369 ha373
     refine QV (.pointer (some ⟨b370, q371, none⟩)) rfl rfl (fun w' hm' => x_ix U25 Try_T2 rfl rfl hix372) <| QV (.int .i64 x367) rfl rfl (fun w' hm' => x_load1 U2 rfl rfl (rdF_cells ((hL.call hm').rdS 1 rfl hr365) hix372 ha373 0 _ rfl)) <| QV (.bool (x349 != x367)) rfl rfl (fun w' hm' => x_neq rfl rfl) ?_
     refine QW.nil ?_
     intro wd374 hmod
     have hL := hL.call hmod
     refine DW.done (by kernel_rfl) ?_
     refine CW.condM (t := x349 != x367) rfl hm (fun hb375 hm => ?_) (fun hb375 hm => ?_)
     · refine CW.seq ?_
       refine CW.draw Try_mixed ?_
       have hL := hL.call (Mod.drew _)
       refine DW.pre (fuel := 0) (fin := bma 21 2097151) (C := fun w' => Mod None_ _ w') [0, 1, 2, 3, 4, 5, 6, 7, 8, 9, 10, 11, 12, 13, 14, 15, 16, 17, 18, 19, 20] (Mod.refl _ _) (by kernel_rfl) (by kernel_rfl) ?_
       refine QV (.pointer (some ⟨b8, 1, none⟩)) rfl rfl (fun w' hm' => x_fieldAddr (fsz := 1) 0 1 1 U29 rfl Try_T22 rfl f335 rfl) <| QV v1 rfl rfl (fun w' hm' => x_load1 U22 rfl rfl ((hL.call hm').cellB 0 rfl rfl)) <| QV (.int .i64 s_l2) rfl rfl (fun w' hm' => x_mv f336) ?_
       obtain ⟨x376, ha377, hm⟩ := bndE hm
       obtain ⟨hz378, ha386⟩ := idxE ha377
       obtain ⟨b379, q380, v381, hix382, hs383, hc384, hr385⟩ := rdN_at h2 hz378 ha386
       refine QV (.pointer (some ⟨b379, q380, none⟩)) rfl rfl (fun w' hm' => x_ix U22 Try_T25 rfl rfl hix382) <| QV v381 rfl rfl (fun w' hm' => x_load1 U25 rfl rfl ((hL.call hm').cellS 1 rfl hs383 hc384)) <| QV (.int .i64 a2) rfl rfl (fun w' hm' => x_mv f333) ?_
       obtain ⟨x387, ha388, hm⟩ := bndE hm
       obtain ⟨hz389, ha393⟩ := idxE ha388
       obtain ⟨b390, q391, hix392⟩ := rdL_ix (hL.rdS 1 rfl hr385) hz389 ha393
       refine QV (.pointer (some ⟨b390, q391, none⟩)) rfl rfl (fun w' hm' => x_ix U25 Try_T2 rfl rfl hix392) <| QV (.int .i64 x387) rfl rfl (fun w' hm' => x_load1 U2 rfl rfl (rdF_cells ((hL.call hm').rdS 1 rfl hr385) hix392 ha393 0 _ rfl)) <| QV (.pointer (some ⟨b8, 1, none⟩)) rfl rfl (fun w' hm' => x_fieldAddr (fsz := 1) 0 1 1 U29 rfl Try_T22 rfl f335 rfl) <| QV v1 rfl rfl (fun w' hm' => x_load1 U22 rfl rfl ((hL.call hm').cellB 0 rfl rfl)) <| QV (.int .i64 s_l2) rfl rfl (fun w' hm' => x_mv f336) ?_
       obtain ⟨x394, ha395, hm⟩ := bndE hm
       obtain ⟨hz396, ha404⟩ := idxE ha395
       obtain ⟨b397, q398, v399, hix400, hs401, hc402, hr403⟩ := rdN_at h2 hz396 ha404
       refine QV (.pointer (some ⟨b397, q398, none⟩)) rfl rfl (fun w' hm' => x_ix U22 Try_T25 rfl rfl hix400) <| QV v399 rfl rfl (fun w' hm' => x_load1 U25 rfl rfl ((hL.call hm').cellS 1 rfl hs401 hc402)) <| QV (.int .i64 a3) rfl rfl (fun w' hm' => x_mv f334) ?_
       obtain ⟨x405, ha406, hm⟩ := bndE hm
       obtain ⟨hz407, ha411⟩ := idxE ha406
       obtain ⟨b408, q409, hix410⟩ := rdL_ix (hL.rdS 1 rfl hr403) hz407 ha411
       refine QV (.pointer (some ⟨b408, q409, none⟩)) rfl rfl (fun w' hm' => x_ix U25 Try_T2 rfl rfl hix410) <| QV (.int .i64 x405) rfl rfl (fun w' hm' => x_load1 U2 rfl rfl (rdF_cells ((hL.call hm').rdS 1 rfl hr403) hix410 ha411 0 _ rfl)) ?_
       obtain ⟨x412, hx413, hm⟩ := bndE hm
       refine QW.cons rfl (QP.call (v := (.int .i64 x412)) rfl (fun w' hm' => x_call (vs := [(.int .i64 x387), (.int .i64 x405)]) Try_C96 ⟨rfl, rfl, trivial⟩) (fun w' hm' => (M.spec_l28Sign_ok w' x387 x405 hx413).mono (fun e w'' h => ⟨h.1, hm'.trans h.2.mod⟩)) ?_)
       refine QV (.int .i64 s_l2) rfl rfl (fun w' hm' => x_mv f336) <| QV (.int .i64 x412) rfl rfl (fun w' hm' => x_assign) <| QV (.int .i64 3) rfl rfl (fun w' hm' => x_assign) <| QV (.int .i64 s_l2) rfl rfl (fun w' hm' => x_assign) ?_
       refine QW.nil ?_
       intro wd414 hmod
       have hL := hL.call hmod
       refine DW.done (by kernel_rfl) ?_
       refine CW.ret ?_
       obtain rfl := Option.some.inj hm
       have hm := hr322 _ rfl
       obtain rfl := Option.some.inj hm
       exact RR3 rfl rfl rfl rfl ⟨rfl, hL.fresh 1 rfl [] (by decide) (by decide) rfl⟩
     refine CW.skip <| CW.regionL <| OV (.int .i64 s_l2) rfl (x_mv f336) <| OV (.int .i64 (w64 (s_l2 - 1))) rfl (x_sub rfl rfl) <| OV (.int .i64 (w64 (s_l2 - 1))) rfl (x_assign) <| OW.nil ?_
     obtain rfl := Option.some.inj hm
     exact ⟨_, rfl, ⟨f333, f334, f335, rfl, hL⟩⟩
   refine CW.exit ?_
   refine XJ.hit ?_
   obtain rfl := Option.some.inj hm
   exact ⟨_, rfl, ⟨f333, f334, f335, f336, hL⟩⟩
 intro s_l1 F415 wd416 t153 hJ hm hr154
 unfold M.spec_l28Compare_l1 at hm
 obtain ⟨f417, f418, f419, f420, f421, f422, hL⟩ := hJ
 refine CW.seq ?_
 refine CW.seqJ (fun (s_j1 : Bool) (F : Fr) (w : World) => F 2 = (.int .i64 a2) ∧ F 3 = (.int .i64 a3) ∧ F 4 = (.pointer (some ⟨b8, 0, none⟩)) ∧ F 11 = v19 ∧ F 12 = v33 ∧ F 13 = (.int .i64 s_l1) ∧ F 44 = (.bool s_j1) ∧ Hp w0 [Ent.own 2 S32 v33 x30, Ent.own 2 S18 v19 x16, Ent.blk b8 29 #[(.int .i64 a0.Boats), v1, v3], Ent.snap w0 w0.heap.size] w) (fun s_j1 => M.spec_l28Compare_j1 x16 x30 s_l1 s_j1 = some t153) ?_ ?_
 · refine CW.regionL <| OV (.int .i64 s_l1) rfl (x_mv f422) <| OV v19 rfl (x_mv f420) <| OV (.int .i64 (x16.length : Int)) rfl (x_lenR U25 rfl (hL.rdO 1 rfl)) <| OV (.bool (decide (s_l1 < (x16.length : Int)))) rfl (x_lss rfl rfl) <| OV (.bool (decide (s_l1 < (x16.length : Int)))) rfl (x_move) ?_
   refine ifB_elim hm (fun hb467 hm => ?_) (fun hb467 hm => ?_)
   · refine OW.cons (OP.yes' rfl rfl hb467 (OP.val (v := (.int .i64 s_l1)) rfl (x_mv f422) ?_))
     refine OW.cons (OP.yes' rfl rfl hb467 (OP.val (v := v33) rfl (x_mv f421) ?_))
     refine OW.cons (OP.yes' rfl rfl hb467 (OP.val (v := (.int .i64 (x30.length : Int))) rfl (x_lenR U25 rfl (hL.rdO 0 rfl)) ?_))
     refine OW.cons (OP.yes' rfl rfl hb467 (OP.val (v := (.bool (decide (s_l1 < (x30.length : Int))))) rfl (x_lss rfl rfl) ?_))
     refine OV (.bool (decide (s_l1 < (x30.length : Int)))) rfl (x_pickT' rfl hb467 rfl) <| OW.nil ?_
     exact ⟨decide (s_l1 < (x30.length : Int)), hm, ⟨f417, f418, f419, f420, f421, f422, rfl, hL⟩⟩
   refine OW.cons (OP.no' rfl rfl hb467 rfl ?_)
   refine OW.cons (OP.no' rfl rfl hb467 rfl ?_)
   refine OW.cons (OP.no' rfl rfl hb467 rfl ?_)
   refine OW.cons (OP.no' rfl rfl hb467 rfl ?_)
   refine OV (.bool false) rfl (x_pickF' rfl hb467 rfl) <| OW.nil ?_
   exact ⟨false, hm, ⟨f417, f418, f419, f420, f421, f422, rfl, hL⟩⟩
 intro s_j1 F424 wd425 hJ hm
 unfold M.spec_l28Compare_j1 at hm
 obtain ⟨f426, f427, f428, f429, f430, f431, f432, hL⟩ := hJ
 refine CW.condM (t := s_j1) f432 hm (fun hb433 hm => ?_) (fun hb433 hm => ?_)
 · refine CW.skip <| CW.seq <| CW.block <| CW.seq ?_
   refine CW.draw Try_mixed ?_
   have hL := hL.call (Mod.drew _)
   refine DW.pre (fuel := 0) (fin := bma 9 511) (C := fun w' => Mod None_ _ w') [0, 1, 2, 3, 4, 5, 6, 7, 8] (Mod.refl _ _) (by kernel_rfl) (by kernel_rfl) ?_
   refine QV v19 rfl rfl (fun w' hm' => x_mv f429) <| QV (.int .i64 s_l1) rfl rfl (fun w' hm' => x_mv f431) ?_
   obtain ⟨x434, ha435, hm⟩ := bndE hm
   obtain ⟨hz436, ha440⟩ := idxE ha435
   obtain ⟨b437, q438, hix439⟩ := rdL_ix (hL.rdO 1 rfl) hz436 ha440
   refine QV (.pointer (some ⟨b437, q438, none⟩)) rfl rfl (fun w' hm' => x_ix U25 Try_T2 rfl rfl hix439) <| QV (.int .i64 x434) rfl rfl (fun w' hm' => x_load1 U2 rfl rfl (rdF_cells ((hL.call hm').rdO 1 rfl) hix439 ha440 0 _ rfl)) <| QV v33 rfl rfl (fun w' hm' => x_mv f430) <| QV (.int .i64 s_l1) rfl rfl (fun w' hm' => x_mv f431) ?_
   obtain ⟨x441, ha442, hm⟩ := bndE hm
   obtain ⟨hz443, ha447⟩ := idxE ha442
   obtain ⟨b444, q445, hix446⟩ := rdL_ix (hL.rdO 0 rfl) hz443 ha447
   refine QV (.pointer (some ⟨b444, q445, none⟩)) rfl rfl (fun w' hm' => x_ix U25 Try_T2 rfl rfl hix446) <| QV (.int .i64 x441) rfl rfl (fun w' hm' => x_load1 U2 rfl rfl (rdF_cells ((hL.call hm').rdO 0 rfl) hix446 ha447 0 _ rfl)) <| QV (.bool (x434 != x441)) rfl rfl (fun w' hm' => x_neq rfl rfl) ?_
   refine QW.nil ?_
   intro wd448 hmod
   have hL := hL.call hmod
   refine DW.done (by kernel_rfl) ?_
   refine CW.condM (t := x434 != x441) rfl hm (fun hb449 hm => ?_) (fun hb449 hm => ?_)
   · refine CW.seq ?_
     refine CW.draw Try_mixed ?_
     have hL := hL.call (Mod.drew _)
     refine DW.pre (fuel := 0) (fin := bma 12 4095) (C := fun w' => Mod None_ _ w') [0, 1, 2, 3, 4, 5, 6, 7, 8, 9, 10, 11] (Mod.refl _ _) (by kernel_rfl) (by kernel_rfl) ?_
     refine QV v19 rfl rfl (fun w' hm' => x_mv f429) <| QV (.int .i64 s_l1) rfl rfl (fun w' hm' => x_mv f431) ?_
     obtain ⟨x450, ha451, hm⟩ := bndE hm
     obtain ⟨hz452, ha456⟩ := idxE ha451
     obtain ⟨b453, q454, hix455⟩ := rdL_ix (hL.rdO 1 rfl) hz452 ha456
     refine QV (.pointer (some ⟨b453, q454, none⟩)) rfl rfl (fun w' hm' => x_ix U25 Try_T2 rfl rfl hix455) <| QV (.int .i64 x450) rfl rfl (fun w' hm' => x_load1 U2 rfl rfl (rdF_cells ((hL.call hm').rdO 1 rfl) hix455 ha456 0 _ rfl)) <| QV v33 rfl rfl (fun w' hm' => x_mv f430) <| QV (.int .i64 s_l1) rfl rfl (fun w' hm' => x_mv f431) ?_
     obtain ⟨x457, ha458, hm⟩ := bndE hm
     obtain ⟨hz459, ha463⟩ := idxE ha458
     obtain ⟨b460, q461, hix462⟩ := rdL_ix (hL.rdO 0 rfl) hz459 ha463
     refine QV (.pointer (some ⟨b460, q461, none⟩)) rfl rfl (fun w' hm' => x_ix U25 Try_T2 rfl rfl hix462) <| QV (.int .i64 x457) rfl rfl (fun w' hm' => x_load1 U2 rfl rfl (rdF_cells ((hL.call hm').rdO 0 rfl) hix462 ha463 0 _ rfl)) ?_
     obtain ⟨x464, hx465, hm⟩ := bndE hm
     refine QW.cons rfl (QP.call (v := (.int .i64 x464)) rfl (fun w' hm' => x_call (vs := [(.int .i64 x450), (.int .i64 x457)]) Try_C96 ⟨rfl, rfl, trivial⟩) (fun w' hm' => (M.spec_l28Sign_ok w' x450 x457 hx465).mono (fun e w'' h => ⟨h.1, hm'.trans h.2.mod⟩)) ?_)
     refine QV (.int .i64 x464) rfl rfl (fun w' hm' => x_assign) <| QV (.int .i64 2) rfl rfl (fun w' hm' => x_assign) <| QV (.int .i64 0) rfl rfl (fun w' hm' => x_assign) ?_
     refine QW.nil ?_
     intro wd466 hmod
     have hL := hL.call hmod
     refine DW.done (by kernel_rfl) ?_
     refine CW.ret ?_
     obtain rfl := Option.some.inj hm
     have hm := hr154 _ rfl
     obtain rfl := Option.some.inj hm
     exact RR3 rfl rfl rfl rfl ⟨rfl, hL.fresh 3 rfl [] (by decide) (by decide) rfl⟩
   refine CW.skip <| CW.regionL <| OV (.int .i64 s_l1) rfl (x_mv f431) <| OV (.int .i64 (w64 (s_l1 + 1))) rfl (x_add rfl rfl) <| OV (.int .i64 (w64 (s_l1 + 1))) rfl (x_assign) <| OW.nil ?_
   obtain rfl := Option.some.inj hm
   exact ⟨_, rfl, ⟨f426, f427, f428, f429, f430, rfl, hL⟩⟩
 refine CW.exit ?_
 refine XJ.hit ?_
 obtain rfl := Option.some.inj hm
 exact ⟨_, rfl, ⟨f426, f427, f428, f429, f430, f431, hL⟩⟩

theorem M.impl_within_ok (w0 : World) (a0 : Int) (a1 : Int) (a2 : Int) {r : Bool} (hm : M.impl_within a0 a1 a2 = some r) :
    Calls Try.prog 81 #[(.int .i64 a0), (.int .i64 a1), (.int .i64 a2)] w0 fun e w' => e = .returned (.bool r) ∧ Fresh w0 w' [] := by
 unfold M.impl_within at hm
 refine calls_CW (args := [(.int .i64 a0), (.int .i64 a1), (.int .i64 a2)]) Try.func81 rfl rfl rfl ?_
 have hL := Hp.start w0
 refine CSR <| OV (.bool false) rfl (x_assign) <| OW.nil ?_
 refine CW.seqJ (fun (s_j1 : Bool) (F : Fr) (w : World) => F 6 = (.bool s_j1) ∧ Hp w0 [Ent.snap w0 w0.heap.size] w) (fun s_j1 => M.impl_within_j1 s_j1 = some r) ?_ ?_
 · refine CW.regionL <| OV (.int .i64 a0) rfl (x_move) <| OV (.int .i64 a1) rfl (x_move) <| OV (.bool (decide (a1 ≤ a0))) rfl (x_geq rfl rfl) <| OV (.bool (decide (a1 ≤ a0))) rfl (x_move) ?_
   refine ifB_elim hm (fun hb5 hm => ?_) (fun hb5 hm => ?_)
   · refine OW.cons (OP.yes' rfl rfl hb5 (OP.val (v := (.int .i64 a0)) rfl (x_move) ?_))
     refine OW.cons (OP.yes' rfl rfl hb5 (OP.val (v := (.int .i64 a2)) rfl (x_move) ?_))
     refine OW.cons (OP.yes' rfl rfl hb5 (OP.val (v := (.bool (decide (a0 ≤ a2)))) rfl (x_leq rfl rfl) ?_))
     refine OV (.bool (decide (a0 ≤ a2))) rfl (x_pickT' rfl hb5 rfl) <| OV (.bool (decide (a0 ≤ a2))) rfl (x_assign) <| OW.nil ?_
     exact ⟨decide (a0 ≤ a2), hm, ⟨rfl, hL⟩⟩
   refine OW.cons (OP.no' rfl rfl hb5 rfl ?_)
   refine OW.cons (OP.no' rfl rfl hb5 rfl ?_)
   refine OW.cons (OP.no' rfl rfl hb5 rfl ?_)
   refine OV (.bool false) rfl (x_pickF' rfl hb5 rfl) <| OV (.bool false) rfl (x_assign) <| OW.nil ?_
   exact ⟨false, hm, ⟨rfl, hL⟩⟩
 intro s_j1 F2 wd3 hJ hm
 unfold M.impl_within_j1 at hm
 obtain ⟨f4, hL⟩ := hJ
 refine CW.ret ?_
 obtain rfl := Option.some.inj hm
 exact RR1 rfl f4 ⟨rfl, hL.fresh 0 rfl [] (by decide) (by decide) rfl⟩

theorem M.impl_areRow_ok (w0 : World) (a0 : List Int) {v1 : Value} (h2 : rdL (· < w0.heap.size) w0 v1 a0) (a1 : Int) (a2 : Int) {r : Bool} (hm : M.impl_areRow a0 a1 a2 = some r) :
    Calls Try.prog 111 #[v1, (.int .i64 a1), (.int .i64 a2)] w0 fun e w' => e = .returned (.bool r) ∧ Fresh w0 w' [] := by
 unfold M.impl_areRow at hm
 refine calls_CW (args := [v1, (.int .i64 a1), (.int .i64 a2)]) Try.func111 rfl rfl rfl ?_
 have hL := Hp.start w0
 refine CSR <| OV (.bool false) rfl (x_assign) <| ONS <| CSR <| OV v1 rfl (x_move) <| OV (.int .i64 (a0.length : Int)) rfl (x_lenR U25 rfl (hL.rdS 0 rfl h2)) <| OV (.int .i64 0) rfl (x_move) <| OW.nil ?_
 obtain ⟨o33, ho34, hm⟩ := bndE hm
 refine CW.loopB (fun (s_l1 : Int) (F : Fr) (w : World) => F 0 = v1 ∧ F 1 = (.int .i64 a1) ∧ F 2 = (.int .i64 a2) ∧ F 9 = v1 ∧ F 10 = (.int .i64 (a0.length : Int)) ∧ F 11 = (.int .i64 s_l1) ∧ Hp w0 [Ent.snap w0 w0.heap.size] w) (fun o => outc o (fun x => some x) (fun s => M.impl_areRow_a1 a0 a1 s) = some r) ho34 hm ⟨rfl, rfl, rfl, rfl, rfl, rfl, hL⟩ ?_ ?_
 · intro s_l1 F35 wd36 hJ hm
   have hm := outcE hm
   have hm : M.impl_areRow_a1 a0 a1 s_l1 = some r := hm
   unfold M.impl_areRow_a1 at hm
   obtain ⟨f37, f38, f39, f40, f41, f42, hL⟩ := hJ
   refine CSR <| OV v1 rfl (x_mv f37) <| OV (.int .i64 (a0.length : Int)) rfl (x_lenR U25 rfl (hL.rdS 0 rfl h2)) <| OV (.int .i64 a1) rfl (x_mv f38) <| OV (.bool ((a0.length : Int) == a1)) rfl (x_eql rfl rfl) <| OV (.bool ((a0.length : Int) == a1)) rfl (x_assign) <| OW.nil <| CW.ret ?_
   obtain rfl := Option.some.inj hm
   exact RR1 rfl rfl ⟨rfl, hL.fresh 0 rfl [] (by decide) (by decide) rfl⟩
 intro s_l1 F43 wd44 t31 hJ hm hr32
 unfold M.impl_areRow_l1 at hm
 obtain ⟨f45, f46, f47, f48, f49, f50, hL⟩ := hJ
 refine CSR <| OV (.bool (decide (s_l1 < (a0.length : Int)))) rfl (x_lss f50 f49) <| ONS ?_
 refine CW.condM (t := decide (s_l1 < (a0.length : Int))) rfl hm (fun hb51 hm => ?_) (fun hb51 hm => ?_)
 · refine CW.skip <| CW.seq <| CW.block <| CSR ?_
   obtain ⟨x52, ha53, hm⟩ := bndE hm
   obtain ⟨hz54, ha58⟩ := idxE ha53
   obtain ⟨b55, q56, hix57⟩ := rdL_ix (hL.rdS 0 rfl h2) hz54 ha58
   refine OV (.pointer (some ⟨b55, q56, none⟩)) rfl (x_ix U25 Try_T2 f48 f50 hix57) <| OV (.int .i64 x52) rfl (x_load1 U2 rfl rfl (rdF_cells (hL.rdS 0 rfl h2) hix57 ha58 0 _ rfl)) <| OV (.int .i64 x52) rfl (x_assign) <| ONR <| OV (.int .i64 x52) rfl (x_move) <| OV (.int .i64 a2) rfl (x_mv f47) ?_
   obtain ⟨x59, hx60, hm⟩ := bndE hm
   refine OW.cons (OP.call rfl (x_call (vs := [(.int .i64 x52), (.int .i64 0), (.int .i64 a2)]) Try_C81 ⟨rfl, rfl, rfl, trivial⟩) (M.impl_within_ok _ x52 0 a2 hx60) ?_)
   rintro e61 wd62 ⟨rfl, hF63⟩
   refine ⟨_, rfl, ?_⟩
   have hL := hL.pushAll hF63
   simp only [lA, lB, lC, lD] at hL
   refine OV (.bool (!x59)) rfl (x_not rfl) <| OW.nil ?_
   refine CW.condM (t := !x59) rfl hm (fun hb64 hm => ?_) (fun hb64 hm => ?_)
   · refine CSR <| OV (.bool false) rfl (x_assign) <| OW.nil <| CW.ret ?_
     obtain rfl := Option.some.inj hm
     have hm := hr32 _ rfl
     obtain rfl := Option.some.inj hm
     exact RR1 rfl rfl ⟨rfl, hL.fresh 0 rfl [] (by decide) (by decide) rfl⟩
   refine CW.skip <| CW.regionL <| OV (.int .i64 (w64 (s_l1 + 1))) rfl (x_add f50 rfl) <| OV (.int .i64 (w64 (s_l1 + 1))) rfl (x_move) <| OW.nil ?_
   obtain rfl := Option.some.inj hm
   exact ⟨_, rfl, ⟨f45, f46, f47, f48, f49, rfl, hL⟩⟩
 refine CW.exit ?_
 refine XJ.hit ?_
 obtain rfl := Option.some.inj hm
 exact ⟨_, rfl, ⟨f45, f46, f47, f48, f49, f50, hL⟩⟩

theorem M.impl_IsTable_ok (w0 : World) (a0 : Table) {v1 : Value} {v3 : Value} (h2 : rdL (· < w0.heap.size) w0 v1 a0.Points) (h4 : rdL (· < w0.heap.size) w0 v3 a0.Codes) {r : Bool} (hm : M.impl_IsTable a0 = some r) :
    Calls Try.prog 99 #[(.agg #[(.int .i64 a0.Boats), v1, v3])] w0 fun e w' => e = .returned (.bool r) ∧ Fresh w0 w' [] := by
 unfold M.impl_IsTable at hm
 refine calls_CW (args := [(.agg #[(.int .i64 a0.Boats), v1, v3])]) Try.func99 rfl rfl rfl ?_
 have hL := Hp.start w0
 refine CSR ?_
 refine OW.cons (S_box (cs := #[(.int .i64 a0.Boats), v1, v3]) hL rfl rfl rfl ?_)
 intro wd5 b6 hL
 refine OV (.bool false) rfl (x_assign) <| ONS ?_
 refine CW.seqJ (fun (s_j1 : Bool) (F : Fr) (w : World) => F 1 = (.pointer (some ⟨b6, 0, none⟩)) ∧ F 22 = (.bool s_j1) ∧ Hp w0 [Ent.blk b6 29 #[(.int .i64 a0.Boats), v1, v3], Ent.snap w0 w0.heap.size] w) (fun s_j1 => M.impl_IsTable_j1 a0 s_j1 = some r) ?_ ?_
 · refine CW.regionL <| OV (.pointer (some ⟨b6, 0, none⟩)) rfl (x_fieldAddr (fsz := 1) 0 0 0 U29 rfl Try_T2 rfl rfl rfl) <| OV (.int .i64 a0.Boats) rfl (x_load1 U2 rfl rfl (hL.cellB 0 rfl rfl)) ?_
   obtain ⟨x231, hx232, hm⟩ := bndE hm
   refine OW.cons (OP.call rfl (x_call (vs := [(.int .i64 a0.Boats), (.int .i64 1), (.int .i64 16)]) Try_C81 ⟨rfl, rfl, rfl, trivial⟩) (M.impl_within_ok _ a0.Boats 1 16 hx232) ?_)
   rintro e233 wd234 ⟨rfl, hF235⟩
   refine ⟨_, rfl, ?_⟩
   have hL := hL.pushAll hF235
   simp only [lA, lB, lC, lD] at hL
   refine OV (.bool (!x231)) rfl (x_not rfl) <| OV (.bool (!x231)) rfl (x_move) ?_
   refine ifB_elim hm (fun hb236 hm => ?_) (fun hb236 hm => ?_)
   · refine OW.cons (OP.no' rfl rfl hb236 rfl ?_)
     refine OW.cons (OP.no' rfl rfl hb236 rfl ?_)
     refine OW.cons (OP.no' rfl rfl hb236 rfl ?_)
     refine OW.cons (OP.no' rfl rfl hb236 rfl ?_)
     refine OV (.bool true) rfl (x_pickT' rfl hb236 rfl) <| OV (.bool true) rfl (x_move) ?_
     refine OW.cons (OP.no' rfl rfl rfl rfl ?_)
     refine OW.cons (OP.no' rfl rfl rfl rfl ?_)
     refine OW.cons (OP.no' rfl rfl rfl rfl ?_)
     refine OW.cons (OP.no' rfl rfl rfl rfl ?_)
     refine OW.cons (OP.no' rfl rfl rfl rfl ?_)
     refine OW.cons (OP.no' rfl rfl rfl rfl ?_)
     refine OW.cons (OP.no' rfl rfl rfl rfl ?_)
     refine OV (.bool true) rfl (x_pickT' rfl rfl rfl) <| OW.nil ?_
     exact ⟨true, hm, ⟨rfl, rfl, hL⟩⟩
   refine OW.cons (OP.yes' rfl rfl hb236 (OP.val (v := (.pointer (some ⟨b6, 1, none⟩))) rfl (x_fieldAddr (fsz := 1) 0 1 1 U29 rfl Try_T22 rfl rfl rfl) ?_))
   refine OW.cons (OP.yes' rfl rfl hb236 (OP.val (v := v1) rfl (x_load1 U22 rfl rfl (hL.cellB 0 rfl rfl)) ?_))
   refine OW.cons (OP.yes' rfl rfl hb236 (OP.val (v := (.int .i64 (a0.Points.length : Int))) rfl (x_lenR U22 rfl (hL.rdS 1 rfl h2)) ?_))
   refine OW.cons (OP.yes' rfl rfl hb236 (OP.val (v := (.bool (decide (12 < (a0.Points.length : Int))))) rfl (x_gtr rfl rfl) ?_))
   refine OV (.bool (decide (12 < (a0.Points.length : Int)))) rfl (x_pickF' rfl hb236 rfl) <| OV (.bool (decide (12 < (a0.Points.length : Int)))) rfl (x_move) ?_
   refine ifB_elim hm (fun hb237 hm => ?_) (fun hb237 hm => ?_)
   · refine OW.cons (OP.no' rfl rfl hb237 rfl ?_)
     refine OW.cons (OP.no' rfl rfl hb237 rfl ?_)
     refine OW.cons (OP.no' rfl rfl hb237 rfl ?_)
     refine OW.cons (OP.no' rfl rfl hb237 rfl ?_)
     refine OW.cons (OP.no' rfl rfl hb237 rfl ?_)
     refine OW.cons (OP.no' rfl rfl hb237 rfl ?_)
     refine OW.cons (OP.no' rfl rfl hb237 rfl ?_)
     refine OV (.bool true) rfl (x_pickT' rfl hb237 rfl) <| OW.nil ?_
     exact ⟨true, hm, ⟨rfl, rfl, hL⟩⟩
   refine OW.cons (OP.yes' rfl rfl hb237 (OP.val (v := (.pointer (some ⟨b6, 1, none⟩))) rfl (x_fieldAddr (fsz := 1) 0 1 1 U29 rfl Try_T22 rfl rfl rfl) ?_))
   refine OW.cons (OP.yes' rfl rfl hb237 (OP.val (v := v1) rfl (x_load1 U22 rfl rfl (hL.cellB 0 rfl rfl)) ?_))
   refine OW.cons (OP.yes' rfl rfl hb237 (OP.val (v := (.int .i64 (a0.Points.length : Int))) rfl (x_lenR U22 rfl (hL.rdS 1 rfl h2)) ?_))
   refine OW.cons (OP.yes' rfl rfl hb237 (OP.val (v := (.pointer (some ⟨b6, 2, none⟩))) rfl (x_fieldAddr (fsz := 1) 0 2 2 U29 rfl Try_T22 rfl rfl rfl) ?_))
   refine OW.cons (OP.yes' rfl rfl hb237 (OP.val (v := v3) rfl (x_load1 U22 rfl rfl (hL.cellB 0 rfl rfl)) ?_))
   refine OW.cons (OP.yes' rfl rfl hb237 (OP.val (v := (.int .i64 (a0.Codes.length : Int))) rfl (x_lenR U22 rfl (hL.rdS 1 rfl h4)) ?_))
   refine OW.cons (OP.yes' rfl rfl hb237 (OP.val (v := (.bool ((a0.Points.length : Int) != (a0.Codes.length : Int)))) rfl (x_neq rfl rfl) ?_))
   refine OV (.bool ((a0.Points.length : Int) != (a0.Codes.length : Int))) rfl (x_pickF' rfl hb237 rfl) <| OW.nil ?_
   exact ⟨(a0.Points.length : Int) != (a0.Codes.length : Int), hm, ⟨rfl, rfl, hL⟩⟩
 intro s_j1 F14 wd15 hJ hm
 unfold M.impl_IsTable_j1 at hm
 obtain ⟨f16, f17, hL⟩ := hJ
 refine CW.condM (t := s_j1) f17 hm (fun hb18 hm => ?_) (fun hb18 hm => ?_)
 · refine CSR <| OV (.bool false) rfl (x_assign) <| OW.nil <| CW.ret ?_
   obtain rfl := Option.some.inj hm
   exact RR1 rfl rfl ⟨rfl, hL.fresh 1 rfl [] (by decide) (by decide) rfl⟩
 refine CW.skip <| CW.seq <| CSR <| OV (.pointer (some ⟨b6, 1, none⟩)) rfl (x_fieldAddr (fsz := 1) 0 1 1 U29 rfl Try_T22 rfl f16 rfl) <| OV v1 rfl (x_load1 U22 rfl rfl (hL.cellB 0 rfl rfl)) <| OV (.int .i64 (a0.Points.length : Int)) rfl (x_lenR U22 rfl (hL.rdS 1 rfl h2)) <| OV (.int .i64 0) rfl (x_move) <| OW.nil ?_
 obtain ⟨o153, ho154, hm⟩ := bndE hm
 refine CW.loopB (fun (s_l1 : Int) (F : Fr) (w : World) => F 1 = (.pointer (some ⟨b6, 0, none⟩)) ∧ F 25 = (.int .i64 (a0.Points.length : Int)) ∧ F 26 = (.int .i64 s_l1) ∧ Hp w0 [Ent.blk b6 29 #[(.int .i64 a0.Boats), v1, v3], Ent.snap w0 w0.heap.size] w) (fun o => outc o (fun x => some x) (fun s => M.impl_IsTable_a1 s) = some r) ho154 hm ⟨f16, rfl, rfl, hL⟩ ?_ ?_
 · intro s_l1 F155 wd156 hJ hm
   have hm := outcE hm
   have hm : M.impl_IsTable_a1 s_l1 = some r := hm
   unfold M.impl_IsTable_a1 at hm
   obtain ⟨f157, f158, f159, hL⟩ := hJ
   refine CSR <| OV (.bool true) rfl (x_assign) <| OW.nil <| CW.ret ?_
   obtain rfl := Option.some.inj hm
   exact RR1 rfl rfl ⟨rfl, hL.fresh 1 rfl [] (by decide) (by decide) rfl⟩
 intro s_l1 F160 wd161 t151 hJ hm hr152
 unfold M.impl_IsTable_l1 at hm
 obtain ⟨f162, f163, f164, hL⟩ := hJ
 refine CSR <| OV (.bool (decide (s_l1 < (a0.Points.length : Int)))) rfl (x_lss f164 f163) <| ONS ?_
 refine CW.condM (t := decide (s_l1 < (a0.Points.length : Int))) rfl hm (fun hb165 hm => ?_) (fun hb165 hm => ?_)
 · refine CW.skip <| CW.seq <| CW.block <| CSR <| OV (.int .i64 s_l1) rfl (x_mv f164) <| OV (.int .i64 s_l1) rfl (x_assign) <| OW.nil ?_
   refine CW.seqJ (fun (s_j2 : Bool) (F : Fr) (w : World) => F 1 = (.pointer (some ⟨b6, 0, none⟩)) ∧ F 25 = (.int .i64 (a0.Points.length : Int)) ∧ F 26 = (.int .i64 s_l1) ∧ F 48 = (.bool s_j2) ∧ Hp w0 [Ent.blk b6 29 #[(.int .i64 a0.Boats), v1, v3], Ent.snap w0 w0.heap.size] w) (fun s_j2 => M.impl_IsTable_j2 s_l1 s_j2 = some t151) ?_ ?_
   · refine CW.draw Try_mixed ?_
     have hL := hL.call (Mod.drew _)
     refine DW.pre (fuel := 0) (fin := bma 20 1048575) (C := fun w' => Mod None_ _ w') [0, 1, 2, 3, 4, 5, 6, 7, 8, 9, 10, 11, 12, 13, 14, 15, 16, 17, 18, 19] (Mod.refl _ _) (by kernel_rfl) (by kernel_rfl) ?_
     refine QV (.pointer (some ⟨b6, 1, none⟩)) rfl rfl (fun w' hm' => x_fieldAddr (fsz := 1) 0 1 1 U29 rfl Try_T22 rfl f162 rfl) <| QV v1 rfl rfl (fun w' hm' => x_load1 U22 rfl rfl ((hL.call hm').cellB 0 rfl rfl)) <| QV (.int .i64 s_l1) rfl rfl (fun w' hm' => x_move) ?_
     obtain ⟨x202, ha203, hm⟩ := bndE hm
     obtain ⟨hz204, ha212⟩ := idxE ha203
     obtain ⟨b205, q206, v207, hix208, hs209, hc210, hr211⟩ := rdN_at h2 hz204 ha212
     refine QV (.pointer (some ⟨b205, q206, none⟩)) rfl rfl (fun w' hm' => x_ix U22 Try_T25 rfl rfl hix208) <| QV v207 rfl rfl (fun w' hm' => x_load1 U25 rfl rfl ((hL.call hm').cellS 1 rfl hs209 hc210)) <| QV (.pointer (some ⟨b6, 0, none⟩)) rfl rfl (fun w' hm' => x_fieldAddr (fsz := 1) 0 0 0 U29 rfl Try_T2 rfl f162 rfl) <| QV (.int .i64 a0.Boats) rfl rfl (fun w' hm' => x_load1 U2 rfl rfl ((hL.call hm').cellB 0 rfl rfl)) ?_
     obtain ⟨x213, hx214, hm⟩ := bndE hm
     refine QW.cons rfl (QP.call (v := (.bool x213)) rfl (fun w' hm' => x_call (vs := [v207, (.int .i64 a0.Boats), (.int .i64 10000)]) Try_C111 ⟨rfl, rfl, rfl, trivial⟩) (fun w' hm' => (M.impl_areRow_ok w' x202 ((hL.call hm').rdS 1 rfl hr211) a0.Boats 10000 hx214).mono (fun e w'' h => ⟨h.1, hm'.trans h.2.mod⟩)) ?_)
     refine QV (.bool (!x213)) rfl rfl (fun w' hm' => x_not rfl) <| QV (.bool (!x213)) rfl rfl (fun w' hm' => x_move) ?_
     refine ifB_elim hm (fun hb215 hm => ?_) (fun hb215 hm => ?_)
     · refine QW.cons rfl (QP.no' rfl rfl hb215 rfl ?_)
       refine QW.cons rfl (QP.no' rfl rfl hb215 rfl ?_)
       refine QW.cons rfl (QP.no' rfl rfl hb215 rfl ?_)
       refine QW.cons rfl (QP.no' rfl rfl hb215 rfl ?_)
       refine QW.cons rfl (QP.no' rfl rfl hb215 rfl ?_)
       refine QW.cons rfl (QP.no' rfl rfl hb215 rfl ?_)
       refine QW.cons rfl (QP.no' rfl rfl hb215 rfl ?_)
       refine QW.cons rfl (QP.no' rfl rfl hb215 rfl ?_)
       refine QW.cons rfl (QP.no' rfl rfl hb215 rfl ?_)
       refine QV (.bool true) rfl rfl (fun w' hm' => x_pickT' rfl hb215 rfl) ?_
       refine QW.nil ?_
       intro wd216 hmod
       have hL := hL.call hmod
       refine DW.done (by kernel_rfl) ?_
       exact ⟨true, hm, ⟨f162, f163, f164, rfl, hL⟩⟩
     refine QW.cons rfl (QP.yes' rfl rfl hb215 (QP.val (v := (.pointer (some ⟨b6, 2, none⟩))) rfl (fun w' hm' => x_fieldAddr (fsz := 1) 0 2 2 U29 rfl Try_T22 rfl f162 rfl) ?_))
     refine QW.cons rfl (QP.yes' rfl rfl hb215 (QP.val (v := v3) rfl (fun w' hm' => x_load1 U22 rfl rfl ((hL.call hm').cellB 0 rfl rfl)) ?_))
     refine QW.cons rfl (QP.yes' rfl rfl hb215 (QP.val (v := (.int .i64 s_l1)) rfl (fun w' hm' => x_move) ?_))
     obtain ⟨x217, ha218, hm⟩ := bndE hm
     obtain ⟨hz219, ha227⟩ := idxE ha218
     obtain ⟨b220, q221, v222, hix223, hs224, hc225, hr226⟩ := rdN_at h4 hz219 ha227
     refine QW.cons rfl (QP.yes' rfl rfl hb215 (QP.val (v := (.pointer (some ⟨b220, q221, none⟩))) rfl (fun w' hm' => x_ix U22 Try_T25 rfl rfl hix223) ?_))
     refine QW.cons rfl (QP.yes' rfl rfl hb215 (QP.val (v := v222) rfl (fun w' hm' => x_load1 U25 rfl rfl ((hL.call hm').cellS 1 rfl hs224 hc225)) ?_))
     refine QW.cons rfl (QP.yes' rfl rfl hb215 (QP.val (v := (.pointer (some ⟨b6, 0, none⟩))) rfl (fun w' hm' => x_fieldAddr (fsz := 1) 0 0 0 U29 rfl Try_T2 rfl f162 rfl) ?_))
     refine QW.cons rfl (QP.yes' rfl rfl hb215 (QP.val (v := (.int .i64 a0.Boats)) rfl (fun w' hm' => x_load1 U2 rfl rfl ((hL.call hm').cellB 0 rfl rfl)) ?_))
     obtain ⟨x228, hx229, hm⟩ := bndE hm
     refine QW.cons rfl (QP.yes' rfl rfl hb215 (QP.call (v := (.bool x228)) rfl (fun w' hm' => x_call (vs := [v222, (.int .i64 a0.Boats), (.int .i64 9)]) Try_C111 ⟨rfl, rfl, rfl, trivial⟩) (fun w' hm' => (M.impl_areRow_ok w' x217 ((hL.call hm').rdS 1 rfl hr226) a0.Boats 9 hx229).mono (fun e w'' h => ⟨h.1, hm'.trans h.2.mod⟩)) ?_))
     refine QW.cons rfl (QP.yes' rfl rfl hb215 (QP.val (v := (.bool (!x228))) rfl (fun w' hm' => x_not rfl) ?_))
     refine QV (.bool (!x228)) rfl rfl (fun w' hm' => x_pickF' rfl hb215 rfl) ?_
     refine QW.nil ?_
     intro wd230 hmod
     have hL := hL.call hmod
     refine DW.done (by kernel_rfl) ?_
     exact ⟨!x228, hm, ⟨f162, f163, f164, rfl, hL⟩⟩
   intro s_j2 F195 wd196 hJ hm
   unfold M.impl_IsTable_j2 at hm
   obtain ⟨f197, f198, f199, f200, hL⟩ := hJ
   refine CW.condM (t := s_j2) f200 hm (fun hb201 hm => ?_) (fun hb201 hm => ?_)
   · refine CSR <| OV (.bool false) rfl (x_assign) <| OW.nil <| CW.ret ?_
     obtain rfl := Option.some.inj hm
     have hm := hr152 _ rfl
     obtain rfl := Option.some.inj hm
     exact RR1 rfl rfl ⟨rfl, hL.fresh 1 rfl [] (by decide) (by decide) rfl⟩
   refine CW.skip <| CW.regionL <| OV (.int .i64 (w64 (s_l1 + 1))) rfl (x_add f199 rfl) <| OV (.int .i64 (w64 (s_l1 + 1))) rfl (x_move) <| OW.nil ?_
   obtain rfl := Option.some.inj hm
   exact ⟨_, rfl, ⟨f197, f198, rfl, hL⟩⟩
 refine CW.exit ?_
 refine XJ.hit ?_
 obtain rfl := Option.some.inj hm
 exact ⟨_, rfl, ⟨f162, f163, f164, hL⟩⟩

theorem M.impl_IsDiscardRule_ok (w0 : World) (a0 : List Int) {v1 : Value} (h2 : rdL (· < w0.heap.size) w0 v1 a0) {r : Bool} (hm : M.impl_IsDiscardRule a0 = some r) :
    Calls Try.prog 80 #[v1] w0 fun e w' => e = .returned (.bool r) ∧ Fresh w0 w' [] := by
 unfold M.impl_IsDiscardRule at hm
 refine calls_CW (args := [v1]) Try.func80 rfl rfl rfl ?_
 have hL := Hp.start w0
 refine CSR <| OV (.bool false) rfl (x_assign) <| ONS <| CSR <| OV v1 rfl (x_move) <| OV (.int .i64 (a0.length : Int)) rfl (x_lenR U25 rfl (hL.rdS 0 rfl h2)) <| OV (.int .i64 0) rfl (x_move) <| OW.nil ?_
 obtain ⟨o93, ho94, hm⟩ := bndE hm
 refine CW.loopB (fun (s_l1 : Int) (F : Fr) (w : World) => F 0 = v1 ∧ F 5 = v1 ∧ F 6 = (.int .i64 (a0.length : Int)) ∧ F 7 = (.int .i64 s_l1) ∧ Hp w0 [Ent.snap w0 w0.heap.size] w) (fun o => outc o (fun x => some x) (fun s => M.impl_IsDiscardRule_a1 a0 s) = some r) ho94 hm ⟨rfl, rfl, rfl, rfl, hL⟩ ?_ ?_
 · intro s_l1 F95 wd96 hJ hm
   have hm := outcE hm
   have hm : M.impl_IsDiscardRule_a1 a0 s_l1 = some r := hm
   unfold M.impl_IsDiscardRule_a1 at hm
   obtain ⟨f97, f98, f99, f100, hL⟩ := hJ
   refine CSR <| OV v1 rfl (x_mv f97) <| OV (.int .i64 (a0.length : Int)) rfl (x_lenR U25 rfl (hL.rdS 0 rfl h2)) <| OV (.bool (decide ((a0.length : Int) ≤ 3))) rfl (x_leq rfl rfl) <| OV (.bool (decide ((a0.length : Int) ≤ 3))) rfl (x_assign) <| OW.nil <| CW.ret ?_
   obtain rfl := Option.some.inj hm
   exact RR1 rfl rfl ⟨rfl, hL.fresh 0 rfl [] (by decide) (by decide) rfl⟩
 intro s_l1 F101 wd102 t91 hJ hm hr92
 unfold M.impl_IsDiscardRule_l1 at hm
 obtain ⟨f103, f104, f105, f106, hL⟩ := hJ
 refine CSR <| OV (.bool (decide (s_l1 < (a0.length : Int)))) rfl (x_lss f106 f105) <| ONS ?_
 refine CW.condM (t := decide (s_l1 < (a0.length : Int))) rfl hm (fun hb107 hm => ?_) (fun hb107 hm => ?_)
 · refine CW.skip <| CW.seq <| CW.block <| CSR <| OV (.int .i64 s_l1) rfl (x_mv f106) ?_
   obtain ⟨x108, ha109, hm⟩ := bndE hm
   obtain ⟨hz110, ha114⟩ := idxE ha109
   obtain ⟨b111, q112, hix113⟩ := rdL_ix (hL.rdS 0 rfl h2) hz110 ha114
   refine OV (.pointer (some ⟨b111, q112, none⟩)) rfl (x_ix U25 Try_T2 f104 f106 hix113) <| OV (.int .i64 x108) rfl (x_load1 U2 rfl rfl (rdF_cells (hL.rdS 0 rfl h2) hix113 ha114 0 _ rfl)) <| OV (.int .i64 s_l1) rfl (x_assign) <| OV (.int .i64 x108) rfl (x_assign) <| OW.nil ?_
   refine CW.seqJ (fun (s_j1 : Bool) (F : Fr) (w : World) => F 0 = v1 ∧ F 5 = v1 ∧ F 6 = (.int .i64 (a0.length : Int)) ∧ F 7 = (.int .i64 s_l1) ∧ F 27 = (.bool s_j1) ∧ Hp w0 [Ent.snap w0 w0.heap.size] w) (fun s_j1 => M.impl_IsDiscardRule_j1 s_l1 s_j1 = some t91) ?_ ?_
   · refine CW.regionL <| OV (.int .i64 x108) rfl (x_move) ?_
     obtain ⟨x137, hx138, hm⟩ := bndE hm
     refine OW.cons (OP.call rfl (x_call (vs := [(.int .i64 x108), (.int .i64 1), (.int .i64 12)]) Try_C81 ⟨rfl, rfl, rfl, trivial⟩) (M.impl_within_ok _ x108 1 12 hx138) ?_)
     rintro e139 wd140 ⟨rfl, hF141⟩
     refine ⟨_, rfl, ?_⟩
     have hL := hL.pushAll hF141
     simp only [lA, lB, lC, lD] at hL
     refine OV (.bool (!x137)) rfl (x_not rfl) <| OV (.bool (!x137)) rfl (x_move) ?_
     refine ifB_elim hm (fun hb142 hm => ?_) (fun hb142 hm => ?_)
     · refine OW.cons (OP.no' rfl rfl hb142 rfl ?_)
       refine OW.cons (OP.no' rfl rfl hb142 rfl ?_)
       refine OW.cons (OP.no' rfl rfl hb142 rfl ?_)
       refine OW.cons (OP.noU rfl rfl rfl ?_)
       refine OW.cons (OP.noU rfl rfl rfl ?_)
       refine OW.cons (OP.noU rfl rfl rfl ?_)
       refine OW.cons (OP.noU rfl rfl rfl ?_)
       refine OW.cons (OP.noU rfl rfl rfl ?_)
       refine OW.cons (OP.noU rfl rfl rfl ?_)
       refine OW.cons (OP.noU rfl rfl rfl ?_)
       refine OW.cons (OP.no' rfl rfl hb142 rfl ?_)
       refine OV (.bool true) rfl (x_pickT' rfl hb142 rfl) <| OW.nil ?_
       exact ⟨true, hm, ⟨f103, f104, f105, f106, rfl, hL⟩⟩
     refine OW.cons (OP.yes' rfl rfl hb142 (OP.val (v := (.int .i64 s_l1)) rfl (x_move) ?_))
     refine OW.cons (OP.yes' rfl rfl hb142 (OP.val (v := (.bool (decide (0 < s_l1)))) rfl (x_gtr rfl rfl) ?_))
     refine OW.cons (OP.yes' rfl rfl hb142 (OP.val (v := (.bool (decide (0 < s_l1)))) rfl (x_move) ?_))
     refine ifB_elim hm (fun hb143 hm => ?_) (fun hb143 hm => ?_)
     · refine OW.cons (OP.yes' rfl rfl hb143 (OP.val (v := v1) rfl (x_mv f103) ?_))
       refine OW.cons (OP.yes' rfl rfl hb143 (OP.val (v := (.int .i64 s_l1)) rfl (x_move) ?_))
       refine OW.cons (OP.yes' rfl rfl hb143 (OP.val (v := (.int .i64 (w64 (s_l1 - 1)))) rfl (x_sub rfl rfl) ?_))
       obtain ⟨x144, ha145, hm⟩ := bndE hm
       obtain ⟨hz146, ha150⟩ := idxE ha145
       obtain ⟨b147, q148, hix149⟩ := rdL_ix (hL.rdS 0 rfl h2) hz146 ha150
       refine OW.cons (OP.yes' rfl rfl hb143 (OP.val (v := (.pointer (some ⟨b147, q148, none⟩))) rfl (x_ix U25 Try_T2 rfl rfl hix149) ?_))
       refine OW.cons (OP.yes' rfl rfl hb143 (OP.val (v := (.int .i64 x144)) rfl (x_load1 U2 rfl rfl (rdF_cells (hL.rdS 0 rfl h2) hix149 ha150 0 _ rfl)) ?_))
       refine OW.cons (OP.yes' rfl rfl hb143 (OP.val (v := (.int .i64 x108)) rfl (x_move) ?_))
       refine OW.cons (OP.yes' rfl rfl hb143 (OP.val (v := (.bool (decide (x108 ≤ x144)))) rfl (x_geq rfl rfl) ?_))
       refine OW.cons (OP.yes' rfl rfl hb142 (OP.val (v := (.bool (decide (x108 ≤ x144)))) rfl (x_pickT' rfl hb143 rfl) ?_))
       refine OV (.bool (decide (x108 ≤ x144))) rfl (x_pickF' rfl hb142 rfl) <| OW.nil ?_
       exact ⟨decide (x108 ≤ x144), hm, ⟨f103, f104, f105, f106, rfl, hL⟩⟩
     refine OW.cons (OP.no' rfl rfl hb143 rfl ?_)
     refine OW.cons (OP.no' rfl rfl hb143 rfl ?_)
     refine OW.cons (OP.no' rfl rfl hb143 rfl ?_)
     refine OW.cons (OP.no' rfl rfl hb143 rfl ?_)
     refine OW.cons (OP.no' rfl rfl hb143 rfl ?_)
     refine OW.cons (OP.no' rfl rfl hb143 rfl ?_)
     refine OW.cons (OP.no' rfl rfl hb143 rfl ?_)
     refine OW.cons (OP.yes' rfl rfl hb142 (OP.val (v := (.bool false)) rfl (x_pickF' rfl hb143 rfl) ?_))
     refine OV (.bool false) rfl (x_pickF' rfl hb142 rfl) <| OW.nil ?_
     exact ⟨false, hm, ⟨f103, f104, f105, f106, rfl, hL⟩⟩
   intro s_j1 F129 wd130 hJ hm
   unfold M.impl_IsDiscardRule_j1 at hm
   obtain ⟨f131, f132, f133, f134, f135, hL⟩ := hJ
   refine CW.condM (t := s_j1) f135 hm (fun hb136 hm => ?_) (fun hb136 hm => ?_)
   · refine CSR <| OV (.bool false) rfl (x_assign) <| OW.nil <| CW.ret ?_
     obtain rfl := Option.some.inj hm
     have hm := hr92 _ rfl
     obtain rfl := Option.some.inj hm
     exact RR1 rfl rfl ⟨rfl, hL.fresh 0 rfl [] (by decide) (by decide) rfl⟩
   refine CW.skip <| CW.regionL <| OV (.int .i64 (w64 (s_l1 + 1))) rfl (x_add f134 rfl) <| OV (.int .i64 (w64 (s_l1 + 1))) rfl (x_move) <| OW.nil ?_
   obtain rfl := Option.some.inj hm
   exact ⟨_, rfl, ⟨f131, f132, f133, rfl, hL⟩⟩
 refine CW.exit ?_
 refine XJ.hit ?_
 obtain rfl := Option.some.inj hm
 exact ⟨_, rfl, ⟨f103, f104, f105, f106, hL⟩⟩

theorem M.impl_tableCode_ok (w0 : World) (a0 : Table) {v1 : Value} {v3 : Value} (h2 : rdL (· < w0.heap.size) w0 v1 a0.Points) (h4 : rdL (· < w0.heap.size) w0 v3 a0.Codes) (a1 : List Int) {v5 : Value} (h6 : rdL (· < w0.heap.size) w0 v5 a1) (a2 : Int) {r : Int} (hm : M.impl_tableCode a0 a1 a2 = some r) :
    Calls Try.prog 65 #[(.agg #[(.int .i64 a0.Boats), v1, v3]), v5, (.int .i64 a2)] w0 fun e w' => e = .returned (.int .i64 r) ∧ Fresh w0 w' [] := by
 unfold M.impl_tableCode at hm
 refine calls_CW (args := [(.agg #[(.int .i64 a0.Boats), v1, v3]), v5, (.int .i64 a2)]) Try.func65 rfl rfl rfl ?_
 have hL := Hp.start w0
 refine CSR ?_
 refine OW.cons (S_box (cs := #[(.int .i64 a0.Boats), v1, v3]) hL rfl rfl rfl ?_)
 intro wd7 b8 hL
 refine OV (.int .i64 0) rfl (x_assign) <| ONS <| CSR <| OV (.agg #[(.int .i64 a0.Boats), v1, v3]) rfl (x_loadN (cs := [(.int .i64 a0.Boats), v1, v3]) U29 Try_T29 rfl rfl (hL.cellsB 0 rfl (o := 0) (l := [(.int .i64 a0.Boats), v1, v3]) (by intro j u hj; exact (by simpa using hj)))) ?_
 obtain ⟨x9, hx10, hm⟩ := bndE hm
 refine OW.cons (OP.call rfl (x_call (vs := [(.agg #[(.int .i64 a0.Boats), v1, v3])]) Try_C99 ⟨rfl, trivial⟩) (M.impl_IsTable_ok _ a0 (hL.rdS 1 rfl h2) (hL.rdS 1 rfl h4) hx10) ?_)
 rintro e11 wd12 ⟨rfl, hF13⟩
 refine ⟨_, rfl, ?_⟩
 have hL := hL.pushAll hF13
 simp only [lA, lB, lC, lD] at hL
 refine OV (.bool (!x9)) rfl (x_not rfl) <| OW.nil ?_
 refine CW.condM (t := !x9) rfl hm (fun hb14 hm => ?_) (fun hb14 hm => ?_)
 · refine CSR <| OV (.int .i64 1) rfl (x_assign) <| OW.nil <| CW.ret ?_
   obtain rfl := Option.some.inj hm
   exact RR1 rfl rfl ⟨rfl, hL.fresh 1 rfl [] (by decide) (by decide) rfl⟩
 refine CW.skip <| CW.seq ?_
 refine CW.seqJ (fun (s_j1 : Bool) (F : Fr) (w : World) => F 20 = (.bool s_j1) ∧ Hp w0 [Ent.blk b8 29 #[(.int .i64 a0.Boats), v1, v3], Ent.snap w0 w0.heap.size] w) (fun s_j1 => M.impl_tableCode_j1 s_j1 = some r) ?_ ?_
 · refine CW.regionL <| OV v5 rfl (x_move) ?_
   obtain ⟨x30, hx31, hm⟩ := bndE hm
   refine OW.cons (OP.call rfl (x_call (vs := [v5]) Try_C80 ⟨rfl, trivial⟩) (M.impl_IsDiscardRule_ok _ a1 (hL.rdS 1 rfl h6) hx31) ?_)
   rintro e32 wd33 ⟨rfl, hF34⟩
   refine ⟨_, rfl, ?_⟩
   have hL := hL.pushAll hF34
   simp only [lA, lB, lC, lD] at hL
   refine OV (.bool (!x30)) rfl (x_not rfl) <| OV (.bool (!x30)) rfl (x_move) ?_
   refine ifB_elim hm (fun hb35 hm => ?_) (fun hb35 hm => ?_)
   · refine OW.cons (OP.no' rfl rfl hb35 rfl ?_)
     refine OW.cons (OP.no' rfl rfl hb35 rfl ?_)
     refine OW.cons (OP.no' rfl rfl hb35 rfl ?_)
     refine OW.cons (OP.no' rfl rfl hb35 rfl ?_)
     refine OW.cons (OP.no' rfl rfl hb35 rfl ?_)
     refine OW.cons (OP.no' rfl rfl hb35 rfl ?_)
     refine OV (.bool true) rfl (x_pickT' rfl hb35 rfl) <| OW.nil ?_
     exact ⟨true, hm, ⟨rfl, hL⟩⟩
   refine OW.cons (OP.yes' rfl rfl hb35 (OP.val (v := (.int .i64 a2)) rfl (x_move) ?_))
   refine OW.cons (OP.yes' rfl rfl hb35 (OP.val (v := (.pointer (some ⟨b8, 0, none⟩))) rfl (x_fieldAddr (fsz := 1) 0 0 0 U29 rfl Try_T2 rfl rfl rfl) ?_))
   refine OW.cons (OP.yes' rfl rfl hb35 (OP.val (v := (.int .i64 a0.Boats)) rfl (x_load1 U2 rfl rfl (hL.cellB 0 rfl rfl)) ?_))
   refine OW.cons (OP.yes' rfl rfl hb35 (OP.val (v := (.int .i64 (w64 (a0.Boats - 1)))) rfl (x_sub rfl rfl) ?_))
   obtain ⟨x36, hx37, hm⟩ := bndE hm
   refine OW.cons (OP.yes' rfl rfl hb35 (OP.call rfl (x_call (vs := [(.int .i64 a2), (.int .i64 0), (.int .i64 (w64 (a0.Boats - 1)))]) Try_C81 ⟨rfl, rfl, rfl, trivial⟩) (M.impl_within_ok _ a2 0 (w64 (a0.Boats - 1)) hx37) ?_))
   rintro e38 wd39 ⟨rfl, hF40⟩
   refine ⟨_, rfl, ?_⟩
   have hL := hL.pushAll hF40
   simp only [lA, lB, lC, lD] at hL
   refine OW.cons (OP.yes' rfl rfl hb35 (OP.val (v := (.bool (!x36))) rfl (x_not rfl) ?_))
   refine OV (.bool (!x36)) rfl (x_pickF' rfl hb35 rfl) <| OW.nil ?_
   exact ⟨!x36, hm, ⟨rfl, hL⟩⟩
 intro s_j1 F26 wd27 hJ hm
 unfold M.impl_tableCode_j1 at hm
 obtain ⟨f28, hL⟩ := hJ
 refine CW.condM (t := s_j1) f28 hm (fun hb29 hm => ?_) (fun hb29 hm => ?_)
 · refine CSR <| OV (.int .i64 2) rfl (x_assign) <| OW.nil <| CW.ret ?_
   obtain rfl := Option.some.inj hm
   exact RR1 rfl rfl ⟨rfl, hL.fresh 1 rfl [] (by decide) (by decide) rfl⟩
 refine CW.skip <| CSR <| OV (.int .i64 0) rfl (x_assign) <| OW.nil <| CW.ret ?_
 obtain rfl := Option.some.inj hm
 exact RR1 rfl rfl ⟨rfl, hL.fresh 1 rfl [] (by decide) (by decide) rfl⟩

theorem M.impl_boatsCode_ok (w0 : World) (a0 : Table) {v1 : Value} {v3 : Value} (h2 : rdL (· < w0.heap.size) w0 v1 a0.Points) (h4 : rdL (· < w0.heap.size) w0 v3 a0.Codes) (a1 : List Int) {v5 : Value} (h6 : rdL (· < w0.heap.size) w0 v5 a1) (a2 : Int) (a3 : Int) {r : Int} (hm : M.impl_boatsCode a0 a1 a2 a3 = some r) :
    Calls Try.prog 61 #[(.agg #[(.int .i64 a0.Boats), v1, v3]), v5, (.int .i64 a2), (.int .i64 a3)] w0 fun e w' => e = .returned (.int .i64 r) ∧ Fresh w0 w' [] := by
 unfold M.impl_boatsCode at hm
 refine calls_CW (args := [(.agg #[(.int .i64 a0.Boats), v1, v3]), v5, (.int .i64 a2), (.int .i64 a3)]) Try.func61 rfl rfl rfl ?_
 have hL := Hp.start w0
 refine CSR ?_
 refine OW.cons (S_box (cs := #[(.int .i64 a0.Boats), v1, v3]) hL rfl rfl rfl ?_)
 intro wd7 b8 hL
 refine OV (.int .i64 0) rfl (x_assign) <| ONS <| CSR <| OV (.agg #[(.int .i64 a0.Boats), v1, v3]) rfl (x_loadN (cs := [(.int .i64 a0.Boats), v1, v3]) U29 Try_T29 rfl rfl (hL.cellsB 0 rfl (o := 0) (l := [(.int .i64 a0.Boats), v1, v3]) (by intro j u hj; exact (by simpa using hj)))) <| OV v5 rfl (x_move) <| OV (.int .i64 a2) rfl (x_move) ?_
 obtain ⟨x9, hx10, hm⟩ := bndE hm
 refine OW.cons (OP.call rfl (x_call (vs := [(.agg #[(.int .i64 a0.Boats), v1, v3]), v5, (.int .i64 a2)]) Try_C65 ⟨rfl, rfl, rfl, trivial⟩) (M.impl_tableCode_ok _ a0 (hL.rdS 1 rfl h2) (hL.rdS 1 rfl h4) a1 (hL.rdS 1 rfl h6) a2 hx10) ?_)
 rintro e11 wd12 ⟨rfl, hF13⟩
 refine ⟨_, rfl, ?_⟩
 have hL := hL.pushAll hF13
 simp only [lA, lB, lC, lD] at hL
 refine OV (.int .i64 x9) rfl (x_assign) <| ONR <| OV (.int .i64 x9) rfl (x_move) <| OV (.bool (x9 != 0)) rfl (x_neq rfl rfl) <| OW.nil ?_
 refine CW.condM (t := x9 != 0) rfl hm (fun hb14 hm => ?_) (fun hb14 hm => ?_)
 · refine CSR <| OV (.int .i64 x9) rfl (x_move) <| OV (.int .i64 x9) rfl (x_assign) <| OW.nil <| CW.ret ?_
   obtain rfl := Option.some.inj hm
   exact RR1 rfl rfl ⟨rfl, hL.fresh 1 rfl [] (by decide) (by decide) rfl⟩
 refine CW.skip <| CSR <| OV (.agg #[(.int .i64 a0.Boats), v1, v3]) rfl (x_loadN (cs := [(.int .i64 a0.Boats), v1, v3]) U29 Try_T29 rfl rfl (hL.cellsB 0 rfl (o := 0) (l := [(.int .i64 a0.Boats), v1, v3]) (by intro j u hj; exact (by simpa using hj)))) <| OV v5 rfl (x_move) <| OV (.int .i64 a3) rfl (x_move) ?_
 obtain ⟨x15, hx16, hm⟩ := bndE hm
 refine OW.cons (OP.call rfl (x_call (vs := [(.agg #[(.int .i64 a0.Boats), v1, v3]), v5, (.int .i64 a3)]) Try_C65 ⟨rfl, rfl, rfl, trivial⟩) (M.impl_tableCode_ok _ a0 (hL.rdS 1 rfl h2) (hL.rdS 1 rfl h4) a1 (hL.rdS 1 rfl h6) a3 hx16) ?_)
 rintro e17 wd18 ⟨rfl, hF19⟩
 refine ⟨_, rfl, ?_⟩
 have hL := hL.pushAll hF19
 simp only [lA, lB, lC, lD] at hL
 refine OV (.int .i64 x15) rfl (x_assign) <| OW.nil <| CW.ret ?_
 obtain rfl := Option.some.inj hm
 exact RR1 rfl rfl ⟨rfl, hL.fresh 1 rfl [] (by decide) (by decide) rfl⟩

theorem M.impl_discardCount_ok (w0 : World) (a0 : List Int) {v1 : Value} (h2 : rdL (· < w0.heap.size) w0 v1 a0) (a1 : Int) {r : Int} (hm : M.impl_discardCount a0 a1 = some r) :
    Calls Try.prog 82 #[v1, (.int .i64 a1)] w0 fun e w' => e = .returned (.int .i64 r) ∧ Fresh w0 w' [] := by
 unfold M.impl_discardCount at hm
 refine calls_CW (args := [v1, (.int .i64 a1)]) Try.func82 rfl rfl rfl ?_
 have hL := Hp.start w0
 refine CSR <| OV (.int .i64 0) rfl (x_assign) <| ONR <| OV (.int .i64 0) rfl (x_assign) <| ONS <| CSR <| OV v1 rfl (x_move) <| OV (.int .i64 (a0.length : Int)) rfl (x_lenR U25 rfl (hL.rdS 0 rfl h2)) <| OV (.int .i64 0) rfl (x_move) <| OW.nil ?_
 obtain ⟨o113, ho114, hm⟩ := bndE hm
 refine CW.loopB (fun (s_l1 : Int × Int) (F : Fr) (w : World) => F 1 = (.int .i64 a1) ∧ F 5 = (.int .i64 s_l1.1) ∧ F 8 = v1 ∧ F 9 = (.int .i64 (a0.length : Int)) ∧ F 10 = (.int .i64 s_l1.2) ∧ Hp w0 [Ent.snap w0 w0.heap.size] w) (fun o => outc o (fun x => some x) (fun s => M.impl_discardCount_a1 s) = some r) ho114 hm ⟨rfl, rfl, rfl, rfl, rfl, hL⟩ ?_ ?_
 · intro s_l1 F115 wd116 hJ hm
   have hm := outcE hm
   have hm : M.impl_discardCount_a1 s_l1 = some r := hm
   unfold M.impl_discardCount_a1 at hm
   obtain ⟨f117, f118, f119, f120, f121, hL⟩ := hJ
   refine CSR <| OV (.int .i64 s_l1.1) rfl (x_mv f118) <| OV (.int .i64 s_l1.1) rfl (x_assign) <| OW.nil <| CW.ret ?_
   obtain rfl := Option.some.inj hm
   exact RR1 rfl rfl ⟨rfl, hL.fresh 0 rfl [] (by decide) (by decide) rfl⟩
 intro s_l1 F122 wd123 t111 hJ hm hr112
 unfold M.impl_discardCount_l1 at hm
 obtain ⟨f124, f125, f126, f127, f128, hL⟩ := hJ
 refine CSR <| OV (.bool (decide (s_l1.2 < (a0.length : Int)))) rfl (x_lss f128 f127) <| ONS ?_
 refine CW.condM (t := decide (s_l1.2 < (a0.length : Int))) rfl hm (fun hb129 hm => ?_) (fun hb129 hm => ?_)
 · refine CW.skip ?_
   refine CW.seqJ (fun (s_j1 : Int) (F : Fr) (w : World) => F 1 = (.int .i64 a1) ∧ F 5 = (.int .i64 s_j1) ∧ F 8 = v1 ∧ F 9 = (.int .i64 (a0.length : Int)) ∧ F 10 = (.int .i64 s_l1.2) ∧ Hp w0 [Ent.snap w0 w0.heap.size] w) (fun s_j1 => M.impl_discardCount_j1 s_l1 s_j1 = some t111) ?_ ?_
   · refine CW.blockJ (fun (s_j2 : Int) (F : Fr) (w : World) => F 1 = (.int .i64 a1) ∧ F 5 = (.int .i64 s_j2) ∧ F 8 = v1 ∧ F 9 = (.int .i64 (a0.length : Int)) ∧ F 10 = (.int .i64 s_l1.2) ∧ Hp w0 [Ent.snap w0 w0.heap.size] w) (fun s_j2 => M.impl_discardCount_j2 s_l1 s_j2 = some t111) ?_ ?_
     · refine CSR ?_
       obtain ⟨x175, ha176, hm⟩ := bndE hm
       obtain ⟨hz177, ha181⟩ := idxE ha176
       obtain ⟨b178, q179, hix180⟩ := rdL_ix (hL.rdS 0 rfl h2) hz177 ha181
       refine OV (.pointer (some ⟨b178, q179, none⟩)) rfl (x_ix U25 Try_T2 f126 f128 hix180) <| OV (.int .i64 x175) rfl (x_load1 U2 rfl rfl (rdF_cells (hL.rdS 0 rfl h2) hix180 ha181 0 _ rfl)) <| OV (.int .i64 x175) rfl (x_assign) <| ONR <| OV (.int .i64 x175) rfl (x_move) <| OV (.int .i64 a1) rfl (x_mv f124) <| OV (.bool (decide (x175 ≤ a1))) rfl (x_leq rfl rfl) <| OW.nil ?_
       refine CW.condM (t := decide (x175 ≤ a1)) rfl hm (fun hb182 hm => ?_) (fun hb182 hm => ?_)
       · refine CW.regionL <| OV (.int .i64 s_l1.1) rfl (x_mv f125) <| OV (.int .i64 (w64 (s_l1.1 + 1))) rfl (x_add rfl rfl) <| OV (.int .i64 (w64 (s_l1.1 + 1))) rfl (x_assign) <| OW.nil ?_
         exact ⟨w64 (s_l1.1 + 1), hm, ⟨f124, rfl, f126, f127, f128, hL⟩⟩
       refine CW.skip ?_
       exact ⟨s_l1.1, hm, ⟨f124, f125, f126, f127, f128, hL⟩⟩
     intro s_j2 F168 wd169 hJ hm
     unfold M.impl_discardCount_j2 at hm
     obtain ⟨f170, f171, f172, f173, f174, hL⟩ := hJ
     exact ⟨s_j2, hm, ⟨f170, f171, f172, f173, f174, hL⟩⟩
   intro s_j1 F153 wd154 hJ hm
   unfold M.impl_discardCount_j1 at hm
   obtain ⟨f155, f156, f157, f158, f159, hL⟩ := hJ
   refine CW.regionL <| OV (.int .i64 (w64 (s_l1.2 + 1))) rfl (x_add f159 rfl) <| OV (.int .i64 (w64 (s_l1.2 + 1))) rfl (x_move) <| OW.nil ?_
   obtain rfl := Option.some.inj hm
   exact ⟨_, rfl, ⟨f155, f156, f157, f158, rfl, hL⟩⟩
 refine CW.exit ?_
 refine XJ.hit ?_
 obtain rfl := Option.some.inj hm
 exact ⟨_, rfl, ⟨f124, f125, f126, f127, f128, hL⟩⟩

theorem M.impl_discardsOf_1_ok (w0 : World) (a0 : Int) (a1 : Int) (a2 : Table) {v3 : Value} {v5 : Value} {b1 : Nat} (h4 : rdL (· < w0.heap.size) w0 v3 a2.Points) (h6 : rdL (· < w0.heap.size) w0 v5 a2.Codes) (hb2 : bxA (· < w0.heap.size) w0 b1 29 #[(.int .i64 a2.Boats), v3, v5]) (a3 : Int) {b7 : Nat} (hb8 : bxA (· < w0.heap.size) w0 b7 2 #[(.int .i64 a3)]) {r : Int} (hm : M.impl_discardsOf_1 a0 a1 a2 a3 = some r) :
    Calls Try.prog 106 #[(.int .i64 a0), (.int .i64 a1), (.pointer (some ⟨b1, 0, none⟩)), (.pointer (some ⟨b7, 0, none⟩))] w0 fun e w' => e = .returned (.int .i64 r) ∧ Fresh w0 w' [] := by
 unfold M.impl_discardsOf_1 at hm
 refine calls_CW (args := [(.int .i64 a0), (.int .i64 a1), (.pointer (some ⟨b1, 0, none⟩)), (.pointer (some ⟨b7, 0, none⟩))]) Try.func106 rfl rfl rfl ?_
 have hL := Hp.start w0
 refine CSR <| OV (.int .i64 0) rfl (x_assign) <| ONS ?_
 refine CW.draw Try_mixed ?_
 have hL := hL.call (Mod.drew _)
 refine DW.pre (fuel := 0) (fin := bma 18 262143) (C := fun w' => Mod None_ _ w') [0, 1, 2, 3, 4, 5, 6, 7, 8, 9, 10, 11, 12, 13, 14, 15, 16, 17] (Mod.refl _ _) (by kernel_rfl) (by kernel_rfl) ?_
 refine QV (.pointer (some ⟨b1, 1, none⟩)) rfl rfl (fun w' hm' => x_fieldAddr (fsz := 1) 0 1 1 U29 rfl Try_T22 rfl rfl rfl) <| QV v3 rfl rfl (fun w' hm' => x_load1 U22 rfl rfl (((hL.call hm').bxS 0 rfl hb2).cell rfl)) <| QV (.int .i64 a1) rfl rfl (fun w' hm' => x_move) ?_
 obtain ⟨x9, ha10, hm⟩ := bndE hm
 obtain ⟨hz11, ha19⟩ := idxE ha10
 obtain ⟨b12, q13, v14, hix15, hs16, hc17, hr18⟩ := rdN_at h4 hz11 ha19
 refine QV (.pointer (some ⟨b12, q13, none⟩)) rfl rfl (fun w' hm' => x_ix U22 Try_T25 rfl rfl hix15) <| QV v14 rfl rfl (fun w' hm' => x_load1 U25 rfl rfl ((hL.call hm').cellS 0 rfl hs16 hc17)) <| QV (.int .i64 a3) rfl rfl (fun w' hm' => x_load1 U2 rfl rfl (((hL.call hm').bxS 0 rfl hb8).cell rfl)) ?_
 obtain ⟨x20, ha21, hm⟩ := bndE hm
 obtain ⟨hz22, ha26⟩ := idxE ha21
 obtain ⟨b23, q24, hix25⟩ := rdL_ix (hL.rdS 0 rfl hr18) hz22 ha26
 refine QV (.pointer (some ⟨b23, q24, none⟩)) rfl rfl (fun w' hm' => x_ix U25 Try_T2 rfl rfl hix25) <| QV (.int .i64 x20) rfl rfl (fun w' hm' => x_load1 U2 rfl rfl (rdF_cells ((hL.call hm').rdS 0 rfl hr18) hix25 ha26 0 _ rfl)) <| QV (.pointer (some ⟨b1, 1, none⟩)) rfl rfl (fun w' hm' => x_fieldAddr (fsz := 1) 0 1 1 U29 rfl Try_T22 rfl rfl rfl) <| QV v3 rfl rfl (fun w' hm' => x_load1 U22 rfl rfl (((hL.call hm').bxS 0 rfl hb2).cell rfl)) <| QV (.int .i64 a0) rfl rfl (fun w' hm' => x_move) ?_
 obtain ⟨x27, ha28, hm⟩ := bndE hm
 obtain ⟨hz29, ha37⟩ := idxE ha28
 obtain ⟨b30, q31, v32, hix33, hs34, hc35, hr36⟩ := rdN_at h4 hz29 ha37
 refine QV (.pointer (some ⟨b30, q31, none⟩)) rfl rfl (fun w' hm' => x_ix U22 Try_T25 rfl rfl hix33) <| QV v32 rfl rfl (fun w' hm' => x_load1 U25 rfl rfl ((hL.call hm').cellS 0 rfl hs34 hc35)) <| QV (.int .i64 a3) rfl rfl (fun w' hm' => x_load1 U2 rfl rfl (((hL.call hm').bxS 0 rfl hb8).cell rfl)) ?_
 obtain ⟨x38, ha39, hm⟩ := bndE hm
 obtain ⟨hz40, ha44⟩ := idxE ha39
 obtain ⟨b41, q42, hix43⟩ := rdL_ix (hL.rdS 0 rfl hr36) hz40 ha44
 refine QV (.pointer (some ⟨b41, q42, none⟩)) rfl rfl (fun w' hm' => x_ix U25 Try_T2 rfl rfl hix43) <| QV (.int .i64 x38) rfl rfl (fun w' hm' => x_load1 U2 rfl rfl (rdF_cells ((hL.call hm').rdS 0 rfl hr36) hix43 ha44 0 _ rfl)) <| QV (.int .i64 (w64 (x20 - x38))) rfl rfl (fun w' hm' => x_sub rfl rfl) <| QV (.int .i64 (w64 (x20 - x38))) rfl rfl (fun w' hm' => x_assign) ?_
 refine QW.nil ?_
 intro wd45 hmod
 have hL := hL.call hmod
 refine DW.done (by kernel_rfl) ?_
 refine CW.ret ?_
 obtain rfl := Option.some.inj hm
 exact RR1 rfl rfl ⟨rfl, hL.fresh 0 rfl [] (by decide) (by decide) rfl⟩

theorem M.impl_sign_ok (w0 : World) (a0 : Int) {r : Int} (hm : M.impl_sign a0 = some r) :
    Calls Try.prog 97 #[(.int .i64 a0)] w0 fun e w' => e = .returned (.int .i64 r) ∧ Fresh w0 w' [] := by
 unfold M.impl_sign at hm
 refine calls_CW (args := [(.int .i64 a0)]) Try.func97 rfl rfl rfl ?_
 have hL := Hp.start w0
 refine CSR <| OV (.int .i64 0) rfl (x_assign) <| ONR <| OV (.int .i64 a0) rfl (x_move) <| OV (.int .i64 (min 1 a0)) rfl (x_min2 rfl rfl) <| OV (.int .i64 (max (-1) (min 1 a0))) rfl (x_max2 rfl rfl) <| OV (.int .i64 (max (-1) (min 1 a0))) rfl (x_assign) <| OW.nil <| CW.ret ?_
 obtain rfl := Option.some.inj hm
 exact RR1 rfl rfl ⟨rfl, hL.fresh 0 rfl [] (by decide) (by decide) rfl⟩

theorem M.impl_sortedIndices_1_ok (w0 : World) (a0 : Int) (a1 : Int) (a2 : Int → Int → Option Int) {fk3 : FuncId} {cp4 : List Value} {b1 : Nat} (hq5 : FnQ Try.prog fk3 cp4 (· < w0.heap.size) w0 (fun yw yvs yv => ∃ (y0 : Int) (y1 : Int) (yr : Int), yvs = [(.int .i64 y0), (.int .i64 y1)] ∧ a2 y0 y1 = some yr ∧ yv = (.int .i64 yr))) (hb2 : bxA (· < w0.heap.size) w0 b1 68 #[(.func (.func fk3) #[] cp4.toArray)]) {r : Int} (hm : M.impl_sortedIndices_1 a0 a1 a2 = some r) :
    Calls Try.prog 102 #[(.int .i64 a0), (.int .i64 a1), (.pointer (some ⟨b1, 0, none⟩))] w0 fun e w' => e = .returned (.int .i64 r) ∧ Fresh w0 w' [] := by
 unfold M.impl_sortedIndices_1 at hm
 refine calls_CW (args := [(.int .i64 a0), (.int .i64 a1), (.pointer (some ⟨b1, 0, none⟩))]) Try.func102 rfl rfl rfl ?_
 have hL := Hp.start w0
 refine CSR <| OV (.int .i64 0) rfl (x_assign) <| ONR <| OV (.func (.func fk3) #[] cp4.toArray) rfl (x_load1 U68 rfl rfl ((hL.bxS 0 rfl hb2).cell rfl)) <| OV (.int .i64 a0) rfl (x_move) <| OV (.int .i64 a1) rfl (x_move) ?_
 obtain ⟨x6, hx7, hm⟩ := bndE hm
 refine OW.cons (OP.call rfl (x_callV (vs := [(.int .i64 a0), (.int .i64 a1)]) (cap := cp4) hq5.1 rfl ⟨rfl, rfl, trivial⟩) (hq5.2 _ (hL.agS 0 rfl) [(.int .i64 a0), (.int .i64 a1)] _ ⟨a0, a1, x6, rfl, hx7, rfl⟩) ?_)
 rintro e8 wd9 ⟨rfl, hF10⟩
 refine ⟨_, rfl, ?_⟩
 have hL := hL.pushAll hF10
 simp only [lA, lB, lC, lD] at hL
 obtain ⟨x11, hx12, hm⟩ := bndE hm
 refine OW.cons (OP.call rfl (x_call (vs := [(.int .i64 x6)]) Try_C97 ⟨rfl, trivial⟩) (M.impl_sign_ok _ x6 hx12) ?_)
 rintro e13 wd14 ⟨rfl, hF15⟩
 refine ⟨_, rfl, ?_⟩
 have hL := hL.pushAll hF15
 simp only [lA, lB, lC, lD] at hL
 refine OV (.int .i64 x11) rfl (x_assign) <| OW.nil <| CW.ret ?_
 obtain rfl := Option.some.inj hm
 exact RR1 rfl rfl ⟨rfl, hL.fresh 0 rfl [] (by decide) (by decide) rfl⟩

theorem M.slices_insertionSortCmpFunc_int64__ok (w0 : World) {E4 : TypeId} {S2 : Nat → Prop} {v1 : Value} (a0 : List Int) (he3 : (Ent.own E4 S2 v1 a0).H w0) (a1 : Int) (a2 : Int) (a3 : Int → Int → Option Int) {fk5 : FuncId} {cp6 : List Value} (hq7 : FnQ Try.prog fk5 cp6 (fun k => k < w0.heap.size ∧ ¬ (Ent.own E4 S2 v1 a0).S k) w0 (fun yw yvs yv => ∃ (y0 : Int) (y1 : Int) (yr : Int), yvs = [(.int .i64 y0), (.int .i64 y1)] ∧ a3 y0 y1 = some yr ∧ yv = (.int .i64 yr))) {r : (Unit) × (List Int)} (hm : M.slices_insertionSortCmpFunc_int64_ a0 a1 a2 a3 = some r) :
    Calls Try.prog 118 #[v1, (.int .i64 a1), (.int .i64 a2), (.func (.func fk5) #[] cp6.toArray)] w0 fun e w' => ∃ (ioS : Nat → Prop), e = .returned (.tuple #[]) ∧ Mut w0 w' (Ent.own E4 S2 v1 a0).S [Ent.own E4 ioS v1 r.2] := by
 unfold M.slices_insertionSortCmpFunc_int64_ at hm
 refine calls_CW (args := [v1, (.int .i64 a1), (.int .i64 a2), (.func (.func fk5) #[] cp6.toArray)]) Try.func118 rfl rfl rfl ?_
 have hL := Hp.startIO he3
 refine CSR <| OV (.int .i64 a1) rfl (x_move) <| OV (.int .i64 (w64 (a1 + 1))) rfl (x_add rfl rfl) <| OV (.int .i64 (w64 (a1 + 1))) rfl (x_assign) <| OW.nil ?_
 obtain ⟨o814, ho815, hm⟩ := bndE hm
 refine CW.loopB (fun (s_l1 : (List Int) × Int) (F : Fr) (w : World) => ∃ (S811 : Nat → Prop), F 0 = v1 ∧ F 1 = (.int .i64 a1) ∧ F 2 = (.int .i64 a2) ∧ F 3 = (.func (.func fk5) #[] cp6.toArray) ∧ F 8 = (.int .i64 s_l1.2) ∧ Hp w0 [Ent.own E4 S811 v1 s_l1.1, Ent.frz w0 (Ent.own E4 S2 v1 a0).S] w) (fun o => outc o (fun x => some x) (fun s => M.slices_insertionSortCmpFunc_int64__a1 s) = some r) ho815 hm ⟨S2, rfl, rfl, rfl, rfl, rfl, hL⟩ ?_ ?_
 · intro s_l1 F816 wd817 hJ hm
   have hm := outcE hm
   have hm : M.slices_insertionSortCmpFunc_int64__a1 s_l1 = some r := hm
   unfold M.slices_insertionSortCmpFunc_int64__a1 at hm
   obtain ⟨S811, f818, f819, f820, f821, f822, hL⟩ := hJ
   obtain rfl := Option.some.inj hm
   exact RR0 rfl  ⟨S811, rfl, hL.mutOut 1 rfl [0] (by decide) (by decide) rfl⟩
 intro s_l1 F823 wd824 t812 hJ hm hr813
 unfold M.slices_insertionSortCmpFunc_int64__l1 at hm
 obtain ⟨S811, f825, f826, f827, f828, f829, hL⟩ := hJ
 refine CW.seq <| CSR <| OV (.int .i64 s_l1.2) rfl (x_mv f829) <| OV (.int .i64 a2) rfl (x_mv f827) <| OV (.bool (decide (s_l1.2 < a2))) rfl (x_lss rfl rfl) <| OW.nil ?_
 refine CW.condM (t := decide (s_l1.2 < a2)) rfl hm (fun hb830 hm => ?_) (fun hb830 hm => ?_)
 · refine CW.skip <| CW.seq <| CW.block <| CSR <| OV (.int .i64 s_l1.2) rfl (x_mv f829) <| OV (.int .i64 s_l1.2) rfl (x_assign) <| OW.nil ?_
   obtain ⟨o1087, ho1088, hm⟩ := bndE hm
   refine CW.loopB (fun (s_l2 : (List Int) × Int) (F : Fr) (w : World) => ∃ (S1084 : Nat → Prop), F 0 = v1 ∧ F 1 = (.int .i64 a1) ∧ F 2 = (.int .i64 a2) ∧ F 3 = (.func (.func fk5) #[] cp6.toArray) ∧ F 8 = (.int .i64 s_l1.2) ∧ F 9 = (.int .i64 s_l2.2) ∧ Hp w0 [Ent.own E4 S1084 v1 s_l2.1, Ent.frz w0 (Ent.own E4 S2 v1 a0).S] w) (fun o => outc o (fun x => some (.ret x)) (fun s => M.slices_insertionSortCmpFunc_int64__a2 s_l1 s) = some t812) ho1088 hm ⟨S811, f825, f826, f827, f828, f829, rfl, hL⟩ ?_ ?_
   · intro s_l2 F1089 wd1090 hJ hm
     have hm := outcE hm
     have hm : M.slices_insertionSortCmpFunc_int64__a2 s_l1 s_l2 = some t812 := hm
     unfold M.slices_insertionSortCmpFunc_int64__a2 at hm
     obtain ⟨S1084, f1091, f1092, f1093, f1094, f1095, f1096, hL⟩ := hJ
     refine CW.regionL <| OV (.int .i64 s_l1.2) rfl (x_mv f1095) <| OV (.int .i64 (w64 (s_l1.2 + 1))) rfl (x_add rfl rfl) <| OV (.int .i64 (w64 (s_l1.2 + 1))) rfl (x_assign) <| OW.nil ?_
     obtain rfl := Option.some.inj hm
     exact ⟨_, rfl, ⟨S1084, f1091, f1092, f1093, f1094, rfl, hL⟩⟩
   intro s_l2 F1097 wd1098 t1085 hJ hm hr1086
   unfold M.slices_insertionSortCmpFunc_int64__l2 at hm
   obtain ⟨S1084, f1099, f1100, f1101, f1102, f1103, f1104, hL⟩ := hJ
   refine CW.seq ?_
   refine CW.seqJ (fun (s_j1 : Bool) (F : Fr) (w : World) => F 0 = v1 ∧ F 1 = (.int .i64 a1) ∧ F 2 = (.int .i64 a2) ∧ F 3 = (.func (.func fk5) #[] cp6.toArray) ∧ F 8 = (.int .i64 s_l1.2) ∧ F 9 = (.int .i64 s_l2.2) ∧ F 34 = (.bool s_j1) ∧ Hp w0 [Ent.own E4 S1084 v1 s_l2.1, Ent.frz w0 (Ent.own E4 S2 v1 a0).S] w) (fun s_j1 => M.slices_insertionSortCmpFunc_int64__j1 s_l2 s_j1 = some t1085) ?_ ?_
   · refine CW.draw Try_mixed ?_
     have hL := hL.call (Mod.drew _)
     refine DW.pre (fuel := 0) (fin := bma 17 131071) (C := fun w' => Mod None_ _ w') [0, 1, 2, 3, 4, 5, 6, 7, 8, 9, 10, 11, 12, 13, 14, 15, 16] (Mod.refl _ _) (by kernel_rfl) (by kernel_rfl) ?_
     refine QV (.int .i64 s_l2.2) rfl rfl (fun w' hm' => x_mv f1104) <| QV (.int .i64 a1) rfl rfl (fun w' hm' => x_mv f1100) <| QV (.bool (decide (a1 < s_l2.2))) rfl rfl (fun w' hm' => x_gtr rfl rfl) <| QV (.bool (decide (a1 < s_l2.2))) rfl rfl (fun w' hm' => x_move) ?_
     refine ifB_elim hm (fun hb1212 hm => ?_) (fun hb1212 hm => ?_)
     · refine QW.cons rfl (QP.yes' rfl rfl hb1212 (QP.val (v := (.func (.func fk5) #[] cp6.toArray)) rfl (fun w' hm' => x_mv f1102) ?_))
       refine QW.cons rfl (QP.yes' rfl rfl hb1212 (QP.val (v := v1) rfl (fun w' hm' => x_mv f1099) ?_))
       refine QW.cons rfl (QP.yes' rfl rfl hb1212 (QP.val (v := (.int .i64 s_l2.2)) rfl (fun w' hm' => x_mv f1104) ?_))
       obtain ⟨x1213, ha1214, hm⟩ := bndE hm
       obtain ⟨hz1215, ha1219⟩ := idxE ha1214
       obtain ⟨b1216, q1217, hix1218⟩ := rdL_ix (hL.rdO 0 rfl) hz1215 ha1219
       refine QW.cons rfl (QP.yes' rfl rfl hb1212 (QP.val (v := (.pointer (some ⟨b1216, q1217, none⟩))) rfl (fun w' hm' => x_ix U25 Try_T2 rfl rfl hix1218) ?_))
       refine QW.cons rfl (QP.yes' rfl rfl hb1212 (QP.val (v := (.int .i64 x1213)) rfl (fun w' hm' => x_load1 U2 rfl rfl (rdF_cells ((hL.call hm').rdO 0 rfl) hix1218 ha1219 0 _ rfl)) ?_))
       refine QW.cons rfl (QP.yes' rfl rfl hb1212 (QP.val (v := v1) rfl (fun w' hm' => x_mv f1099) ?_))
       refine QW.cons rfl (QP.yes' rfl rfl hb1212 (QP.val (v := (.int .i64 s_l2.2)) rfl (fun w' hm' => x_mv f1104) ?_))
       refine QW.cons rfl (QP.yes' rfl rfl hb1212 (QP.val (v := (.int .i64 (w64 (s_l2.2 - 1)))) rfl (fun w' hm' => x_sub rfl rfl) ?_))
       obtain ⟨x1220, ha1221, hm⟩ := bndE hm
       obtain ⟨hz1222, ha1226⟩ := idxE ha1221
       obtain ⟨b1223, q1224, hix1225⟩ := rdL_ix (hL.rdO 0 rfl) hz1222 ha1226
       refine QW.cons rfl (QP.yes' rfl rfl hb1212 (QP.val (v := (.pointer (some ⟨b1223, q1224, none⟩))) rfl (fun w' hm' => x_ix U25 Try_T2 rfl rfl hix1225) ?_))
       refine QW.cons rfl (QP.yes' rfl rfl hb1212 (QP.val (v := (.int .i64 x1220)) rfl (fun w' hm' => x_load1 U2 rfl rfl (rdF_cells ((hL.call hm').rdO 0 rfl) hix1225 ha1226 0 _ rfl)) ?_))
       obtain ⟨x1227, hx1228, hm⟩ := bndE hm
       refine QW.cons rfl (QP.yes' rfl rfl hb1212 (QP.call (v := (.int .i64 x1227)) rfl (fun w' hm' => x_callV (vs := [(.int .i64 x1213), (.int .i64 x1220)]) (cap := cp6) hq7.1 rfl ⟨rfl, rfl, trivial⟩) (fun w' hm' => (hq7.2 w' ((hL.call hm').agZ 1 rfl) [(.int .i64 x1213), (.int .i64 x1220)] _ ⟨x1213, x1220, x1227, rfl, hx1228, rfl⟩).mono (fun e w'' h => ⟨h.1, hm'.trans h.2.mod⟩)) ?_))
       refine QW.cons rfl (QP.yes' rfl rfl hb1212 (QP.val (v := (.bool (decide (x1227 < 0)))) rfl (fun w' hm' => x_lss rfl rfl) ?_))
       refine QV (.bool (decide (x1227 < 0))) rfl rfl (fun w' hm' => x_pickT' rfl hb1212 rfl) ?_
       refine QW.nil ?_
       intro wd1229 hmod
       have hL := hL.call hmod
       refine DW.done (by kernel_rfl) ?_
       exact ⟨decide (x1227 < 0), hm, ⟨f1099, f1100, f1101, f1102, f1103, f1104, rfl, hL⟩⟩
     refine QW.cons rfl (QP.no' rfl rfl hb1212 rfl ?_)
     refine QW.cons rfl (QP.no' rfl rfl hb1212 rfl ?_)
     refine QW.cons rfl (QP.no' rfl rfl hb1212 rfl ?_)
     refine QW.cons rfl (QP.no' rfl rfl hb1212 rfl ?_)
     refine QW.cons rfl (QP.no' rfl rfl hb1212 rfl ?_)
     refine QW.cons rfl (QP.no' rfl rfl hb1212 rfl ?_)
     refine QW.cons rfl (QP.no' rfl rfl hb1212 rfl ?_)
     refine QW.cons rfl (QP.no' rfl rfl hb1212 rfl ?_)
     refine QW.cons rfl (QP.no' rfl rfl hb1212 rfl ?_)
     refine QW.cons rfl (QP.no' rfl rfl hb1212 rfl ?_)
     refine QW.cons rfl (QP.no' rfl rfl hb1212 rfl ?_)
     refine QW.cons rfl (QP.no' rfl rfl hb1212 rfl ?_)
     refine QV (.bool false) rfl rfl (fun w' hm' => x_pickF' rfl hb1212 rfl) ?_
     refine QW.nil ?_
     intro wd1230 hmod
     have hL := hL.call hmod
     refine DW.done (by kernel_rfl) ?_
     exact ⟨false, hm, ⟨f1099, f1100, f1101, f1102, f1103, f1104, rfl, hL⟩⟩
   intro s_j1 F1124 wd1125 hJ hm
   unfold M.slices_insertionSortCmpFunc_int64__j1 at hm
   obtain ⟨f1126, f1127, f1128, f1129, f1130, f1131, f1132, hL⟩ := hJ
   refine CW.condM (t := s_j1) f1132 hm (fun hb1133 hm => ?_) (fun hb1133 hm => ?_)
   · refine CW.skip <| CW.seq <| CW.block ?_
     refine CW.drawH (fun w' => Hp w0 [Ent.frz w0 (Ent.own E4 S2 v1 a0).S] w') Try_mixed ?_
     have hL := hL.call (Mod.drew _)
     have hS := (hL.sel [1] (by decide) rfl)
     refine DH.take 0 rfl (by kernel_rfl) (by kernel_rfl) (by kernel_rfl) rfl rfl hS (YH.val (v := v1) (fun w' hS' => x_mv f1126)) ?_
     have hS := (hL.sel [1] (by decide) rfl)
     refine DH.take 1 rfl (by kernel_rfl) (by kernel_rfl) (by kernel_rfl) rfl rfl hS (YH.val (v := (.int .i64 s_l2.2)) (fun w' hS' => x_mv f1131)) ?_
     have hS := (hL.sel [1] (by decide) rfl)
     refine DH.take 2 rfl (by kernel_rfl) (by kernel_rfl) (by kernel_rfl) rfl rfl hS (YH.val (v := v1) (fun w' hS' => x_mv f1126)) ?_
     have hS := (hL.sel [1] (by decide) rfl)
     refine DH.take 3 rfl (by kernel_rfl) (by kernel_rfl) (by kernel_rfl) rfl rfl hS (YH.val (v := (.int .i64 s_l2.2)) (fun w' hS' => x_mv f1131)) ?_
     have hS := (hL.sel [1] (by decide) rfl)
     refine DH.take 4 rfl (by kernel_rfl) (by kernel_rfl) (by kernel_rfl) rfl rfl hS (YH.val (v := (.int .i64 (w64 (s_l2.2 - 1)))) (fun w' hS' => x_sub rfl rfl)) ?_
     have hS := (hL.sel [1] (by decide) rfl)
     refine DH.take 5 rfl (by kernel_rfl) (by kernel_rfl) (by kernel_rfl) rfl rfl hS (YH.val (v := v1) (fun w' hS' => x_mv f1126)) ?_
     have hS := (hL.sel [1] (by decide) rfl)
     refine DH.take 6 rfl (by kernel_rfl) (by kernel_rfl) (by kernel_rfl) rfl rfl hS (YH.val (v := (.int .i64 s_l2.2)) (fun w' hS' => x_mv f1131)) ?_
     have hS := (hL.sel [1] (by decide) rfl)
     refine DH.take 7 rfl (by kernel_rfl) (by kernel_rfl) (by kernel_rfl) rfl rfl hS (YH.val (v := (.int .i64 (w64 (s_l2.2 - 1)))) (fun w' hS' => x_sub rfl rfl)) ?_
     have hS := (hL.sel [1] (by decide) rfl)
     obtain ⟨x1164, ha1165, hm⟩ := bndE hm
     obtain ⟨hz1166, ha1170⟩ := idxE ha1165
     obtain ⟨b1167, q1168, hix1169⟩ := rdL_ix (hL.rdO 0 rfl) hz1166 ha1170
     refine DH.take 8 rfl (by kernel_rfl) (by kernel_rfl) (by kernel_rfl) rfl rfl hS (YH.val (v := (.pointer (some ⟨b1167, q1168, none⟩))) (fun w' hS' => x_ix U25 Try_T2 rfl rfl hix1169)) ?_
     have hS := (hL.sel [1] (by decide) rfl)
     refine DH.take 10 rfl (by kernel_rfl) (by kernel_rfl) (by kernel_rfl) rfl rfl hS (YH.val (v := v1) (fun w' hS' => x_mv f1126)) ?_
     have hS := (hL.sel [1] (by decide) rfl)
     refine DH.take 11 rfl (by kernel_rfl) (by kernel_rfl) (by kernel_rfl) rfl rfl hS (YH.val (v := (.int .i64 s_l2.2)) (fun w' hS' => x_mv f1131)) ?_
     have hS := (hL.sel [1] (by decide) rfl)
     obtain ⟨x1171, ha1172, hm⟩ := bndE hm
     obtain ⟨hz1173, ha1177⟩ := idxE ha1172
     obtain ⟨b1174, q1175, hix1176⟩ := rdL_ix (hL.rdO 0 rfl) hz1173 ha1177
     refine DH.take 12 rfl (by kernel_rfl) (by kernel_rfl) (by kernel_rfl) rfl rfl hS (YH.val (v := (.pointer (some ⟨b1174, q1175, none⟩))) (fun w' hS' => x_ix U25 Try_T2 rfl rfl hix1176)) ?_
     refine DH.all (rs := [9, 13]) (by kernel_rfl) (by simp) ?_
     intro i1178 hi1179
     simp only [List.mem_cons, List.not_mem_nil, or_false] at hi1179
     rcases hi1179 with rfl | rfl
     · refine ⟨_, rfl, ?_⟩
       refine OP.val (v := (.int .i64 x1164)) rfl (x_load1 U2 rfl rfl (rdF_cells (hL.rdO 0 rfl) hix1169 ha1170 0 _ rfl)) ?_
       refine ⟨(hL.sel [1] (by decide) rfl), ?_⟩
       refine DH.only 13 rfl (by kernel_rfl) (OP.val (v := (.int .i64 x1171)) rfl (x_load1 U2 rfl rfl (rdF_cells (hL.rdO 0 rfl) hix1176 ha1177 0 _ rfl)) ?_)
       refine ⟨(hL.sel [1] (by decide) rfl), ?_⟩
       have hS := (hL.sel [1] (by decide) rfl)
       obtain ⟨x1180, ha1181, hm⟩ := bndE hm
       obtain ⟨hz1182, ha1186⟩ := idxE ha1181
       obtain ⟨b1183, q1184, hix1185⟩ := rdL_ix (hL.rdO 0 rfl) hz1182 ha1186
       refine DH.take 14 rfl (by kernel_rfl) (by kernel_rfl) (by kernel_rfl) rfl rfl hS (YH.val (v := (.pointer (some ⟨b1183, q1184, none⟩))) (fun w' hS' => x_ix U25 Try_T2 rfl rfl hix1185)) ?_
       refine DH.only 15 rfl (by kernel_rfl) (S_storeX (j := 0) x1164 hL 0 rfl Try_T2 hix1185 ha1186 rfl rfl rfl rfl rfl rfl ?_)
       intro wd1187 hL
       refine ⟨(hL.sel [1] (by decide) rfl), ?_⟩
       have hS := (hL.sel [1] (by decide) rfl)
       obtain ⟨x1188, ha1189, hm⟩ := bndE hm
       obtain ⟨hz1190, ha1194⟩ := idxE ha1189
       obtain ⟨b1191, q1192, hix1193⟩ := rdL_ix (hL.rdO 0 rfl) hz1190 ha1194
       refine DH.take 16 rfl (by kernel_rfl) (by kernel_rfl) (by kernel_rfl) rfl rfl hS (YH.val (v := (.pointer (some ⟨b1191, q1192, none⟩))) (fun w' hS' => x_ix U25 Try_T2 rfl rfl hix1193)) ?_
       refine DH.only 17 rfl (by kernel_rfl) (S_storeX (j := 0) x1171 hL 0 rfl Try_T2 hix1193 ha1194 rfl rfl rfl rfl rfl rfl ?_)
       intro wd1195 hL
       refine ⟨(hL.sel [1] (by decide) rfl), ?_⟩
       refine DH.done (by kernel_rfl) ?_
       refine CW.regionL <| OV (.int .i64 s_l2.2) rfl (x_mv f1131) <| OV (.int .i64 (w64 (s_l2.2 - 1))) rfl (x_sub rfl rfl) <| OV (.int .i64 (w64 (s_l2.2 - 1))) rfl (x_assign) <| OW.nil ?_
       obtain rfl := Option.some.inj hm
       exact ⟨_, rfl, ⟨S1084, f1126, f1127, f1128, f1129, f1130, rfl, hL⟩⟩
     refine ⟨_, rfl, ?_⟩
     refine OP.val (v := (.int .i64 x1171)) rfl (x_load1 U2 rfl rfl (rdF_cells (hL.rdO 0 rfl) hix1176 ha1177 0 _ rfl)) ?_
     refine ⟨(hL.sel [1] (by decide) rfl), ?_⟩
     refine DH.only 9 rfl (by kernel_rfl) (OP.val (v := (.int .i64 x1164)) rfl (x_load1 U2 rfl rfl (rdF_cells (hL.rdO 0 rfl) hix1169 ha1170 0 _ rfl)) ?_)
     refine ⟨(hL.sel [1] (by decide) rfl), ?_⟩
     have hS := (hL.sel [1] (by decide) rfl)
     obtain ⟨x1196, ha1197, hm⟩ := bndE hm
     obtain ⟨hz1198, ha1202⟩ := idxE ha1197
     obtain ⟨b1199, q1200, hix1201⟩ := rdL_ix (hL.rdO 0 rfl) hz1198 ha1202
     refine DH.take 14 rfl (by kernel_rfl) (by kernel_rfl) (by kernel_rfl) rfl rfl hS (YH.val (v := (.pointer (some ⟨b1199, q1200, none⟩))) (fun w' hS' => x_ix U25 Try_T2 rfl rfl hix1201)) ?_
     refine DH.only 15 rfl (by kernel_rfl) (S_storeX (j := 0) x1164 hL 0 rfl Try_T2 hix1201 ha1202 rfl rfl rfl rfl rfl rfl ?_)
     intro wd1203 hL
     refine ⟨(hL.sel [1] (by decide) rfl), ?_⟩
     have hS := (hL.sel [1] (by decide) rfl)
     obtain ⟨x1204, ha1205, hm⟩ := bndE hm
     obtain ⟨hz1206, ha1210⟩ := idxE ha1205
     obtain ⟨b1207, q1208, hix1209⟩ := rdL_ix (hL.rdO 0 rfl) hz1206 ha1210
     refine DH.take 16 rfl (by kernel_rfl) (by kernel_rfl) (by kernel_rfl) rfl rfl hS (YH.val (v := (.pointer (some ⟨b1207, q1208, none⟩))) (fun w' hS' => x_ix U25 Try_T2 rfl rfl hix1209)) ?_
     refine DH.only 17 rfl (by kernel_rfl) (S_storeX (j := 0) x1171 hL 0 rfl Try_T2 hix1209 ha1210 rfl rfl rfl rfl rfl rfl ?_)
     intro wd1211 hL
     refine ⟨(hL.sel [1] (by decide) rfl), ?_⟩
     refine DH.done (by kernel_rfl) ?_
     refine CW.regionL <| OV (.int .i64 s_l2.2) rfl (x_mv f1131) <| OV (.int .i64 (w64 (s_l2.2 - 1))) rfl (x_sub rfl rfl) <| OV (.int .i64 (w64 (s_l2.2 - 1))) rfl (x_assign) <| OW.nil ?_
     obtain rfl := Option.some.inj hm
     exact ⟨_, rfl, ⟨S1084, f1126, f1127, f1128, f1129, f1130, rfl, hL⟩⟩
   refine CW.exit ?_
   refine XJ.hit ?_
   obtain rfl := Option.some.inj hm
   exact ⟨_, rfl, ⟨S1084, f1126, f1127, f1128, f1129, f1130, f1131, hL⟩⟩
 refine CW.exit ?_
 refine XJ.hit ?_
 obtain rfl := Option.some.inj hm
 exact ⟨_, rfl, ⟨S811, f825, f826, f827, f828, f829, hL⟩⟩

theorem M.slices_stableCmpFunc_int64__ok (w0 : World) {E4 : TypeId} {S2 : Nat → Prop} {v1 : Value} (a0 : List Int) (he3 : (Ent.own E4 S2 v1 a0).H w0) (a1 : Int) (a2 : Int → Int → Option Int) {fk5 : FuncId} {cp6 : List Value} (hq7 : FnQ Try.prog fk5 cp6 (fun k => k < w0.heap.size ∧ ¬ (Ent.own E4 S2 v1 a0).S k) w0 (fun yw yvs yv => ∃ (y0 : Int) (y1 : Int) (yr : Int), yvs = [(.int .i64 y0), (.int .i64 y1)] ∧ a2 y0 y1 = some yr ∧ yv = (.int .i64 yr))) {r : (Unit) × (List Int)} (hm : M.slices_stableCmpFunc_int64_ a0 a1 a2 = some r) :
    Calls Try.prog 112 #[v1, (.int .i64 a1), (.func (.func fk5) #[] cp6.toArray)] w0 fun e w' => ∃ (ioS : Nat → Prop), e = .returned (.tuple #[]) ∧ Mut w0 w' (Ent.own E4 S2 v1 a0).S [Ent.own E4 ioS v1 r.2] := by
 unfold M.slices_stableCmpFunc_int64_ at hm
 refine calls_CW (args := [v1, (.int .i64 a1), (.func (.func fk5) #[] cp6.toArray)]) Try.func112 rfl rfl rfl ?_
 have hL := Hp.startIO he3
 refine CSR <| OV (.int .i64 20) rfl (x_assign) <| ONR <| OV (.int .i64 20) rfl (x_move) <| OV (.int .i64 0) rfl (x_assign) <| OV (.int .i64 20) rfl (x_assign) <| ONS ?_
 obtain ⟨o26, ho27, hm⟩ := bndE hm
 refine CW.loopB (fun (s_l1 : (List Int) × Int × Int) (F : Fr) (w : World) => ∃ (S23 : Nat → Prop), F 0 = v1 ∧ F 1 = (.int .i64 a1) ∧ F 2 = (.func (.func fk5) #[] cp6.toArray) ∧ F 6 = (.int .i64 20) ∧ F 7 = (.int .i64 s_l1.2.1) ∧ F 8 = (.int .i64 s_l1.2.2) ∧ Hp w0 [Ent.own E4 S23 v1 s_l1.1, Ent.frz w0 (Ent.own E4 S2 v1 a0).S] w) (fun o => outc o (fun x => some x) (fun s => M.slices_stableCmpFunc_int64__a1 a1 a2 s) = some r) ho27 hm ⟨S2, rfl, rfl, rfl, rfl, rfl, rfl, hL⟩ ?_ ?_
 · intro s_l1 F28 wd29 hJ hm
   have hm := outcE hm
   have hm : M.slices_stableCmpFunc_int64__a1 a1 a2 s_l1 = some r := hm
   unfold M.slices_stableCmpFunc_int64__a1 at hm
   obtain ⟨S23, f30, f31, f32, f33, f34, f35, hL⟩ := hJ
   refine CSR <| OV v1 rfl (x_mv f30) <| OV (.int .i64 s_l1.2.1) rfl (x_mv f34) <| OV (.int .i64 a1) rfl (x_mv f31) <| OV (.func (.func fk5) #[] cp6.toArray) rfl (x_mv f32) ?_
   obtain ⟨x36, hx37, hm⟩ := bndE hm
   refine OW.cons (OP.call rfl (x_call (vs := [v1, (.int .i64 s_l1.2.1), (.int .i64 a1), (.func (.func fk5) #[] cp6.toArray)]) Try_C118 ⟨rfl, rfl, rfl, rfl, trivial⟩) (M.slices_insertionSortCmpFunc_int64__ok _ s_l1.1 (hL.get 0 rfl) s_l1.2.1 a1 a2 (hL.fnZX 1 0 (by decide) rfl rfl hq7) hx37) ?_)
   rintro e38 wd39 ⟨S41, rfl, hF40⟩
   refine ⟨_, rfl, ?_⟩
   have hL := hL.mut 0 rfl hF40
   simp only [lA, lB, lC, lD] at hL
   refine OW.nil ?_
   obtain ⟨o106, ho107, hm⟩ := bndE hm
   refine CW.loopB (fun (s_l2 : Int) (F : Fr) (w : World) => F 0 = v1 ∧ F 1 = (.int .i64 a1) ∧ F 2 = (.func (.func fk5) #[] cp6.toArray) ∧ F 6 = (.int .i64 s_l2) ∧ Hp w0 [Ent.own E4 S41 v1 x36.2, Ent.frz w0 (Ent.own E4 S2 v1 a0).S] w) (fun o => outc o (fun x => some x) (fun s => M.slices_stableCmpFunc_int64__a2 x36 s) = some r) ho107 hm ⟨f30, f31, f32, f33, hL⟩ ?_ ?_
   · intro s_l2 F108 wd109 hJ hm
     have hm := outcE hm
     have hm : M.slices_stableCmpFunc_int64__a2 x36 s_l2 = some r := hm
     unfold M.slices_stableCmpFunc_int64__a2 at hm
     obtain ⟨f110, f111, f112, f113, hL⟩ := hJ
     obtain rfl := Option.some.inj hm
     exact RR0 rfl  ⟨S41, rfl, hL.mutOut 1 rfl [0] (by decide) (by decide) rfl⟩
   intro s_l2 F114 wd115 t104 hJ hm hr105
   unfold M.slices_stableCmpFunc_int64__l2 at hm
   obtain ⟨f116, f117, f118, f119, hL⟩ := hJ
   refine CW.seq <| CSR <| OV (.int .i64 s_l2) rfl (x_mv f119) <| OV (.int .i64 a1) rfl (x_mv f117) <| OV (.bool (decide (s_l2 < a1))) rfl (x_lss rfl rfl) <| OW.nil ?_
   refine CW.condM (t := decide (s_l2 < a1)) rfl hm (fun hb120 hm => ?_) (fun hb120 hm => ?_)
   · refine CW.skip <| CW.block <| CSR <| OV (.int .i64 s_l2) rfl (x_mv f119) <| OV (.int .i64 (w64 (2 * s_l2))) rfl (x_mul rfl rfl) <| OV (.int .i64 0) rfl (x_assign) <| OV (.int .i64 (w64 (2 * s_l2))) rfl (x_assign) <| ONS ?_
     obtain ⟨o124, ho125, hm⟩ := bndE hm
     refine CW.loopB (fun (s_l3 : Unit) (F : Fr) (w : World) => F 0 = v1 ∧ F 1 = (.int .i64 a1) ∧ F 2 = (.func (.func fk5) #[] cp6.toArray) ∧ F 6 = (.int .i64 s_l2) ∧ F 7 = (.int .i64 0) ∧ F 8 = (.int .i64 (w64 (2 * s_l2))) ∧ Hp w0 [Ent.own E4 S41 v1 x36.2, Ent.frz w0 (Ent.own E4 S2 v1 a0).S] w) (fun o => outc o (fun x => some (.ret x)) (fun s => M.slices_stableCmpFunc_int64__a3 a1 s_l2 s) = some t104) ho125 hm ⟨f116, f117, f118, f119, rfl, rfl, hL⟩ ?_ ?_
     · intro s_l3 F126 wd127 hJ hm
       have hm := outcE hm
       have hm : M.slices_stableCmpFunc_int64__a3 a1 s_l2 s_l3 = some t104 := hm
       unfold M.slices_stableCmpFunc_int64__a3 at hm
       obtain ⟨f128, f129, f130, f131, f132, f133, hL⟩ := hJ
       refine CW.seqJ (fun (s_j1 : Unit) (F : Fr) (w : World) => F 0 = v1 ∧ F 1 = (.int .i64 a1) ∧ F 2 = (.func (.func fk5) #[] cp6.toArray) ∧ F 6 = (.int .i64 s_l2) ∧ Hp w0 [Ent.own E4 S41 v1 x36.2, Ent.frz w0 (Ent.own E4 S2 v1 a0).S] w) (fun s_j1 => M.slices_stableCmpFunc_int64__j1 s_l2 s_j1 = some t104) ?_ ?_
       · refine CSR <| OV (.int .i64 0) rfl (x_mv f132) <| OV (.int .i64 s_l2) rfl (x_mv f131) <| OV (.int .i64 (w64 (0 + s_l2))) rfl (x_add rfl rfl) <| OV (.int .i64 (w64 (0 + s_l2))) rfl (x_assign) <| ONR <| OV (.int .i64 (w64 (0 + s_l2))) rfl (x_move) <| OV (.int .i64 a1) rfl (x_mv f129) <| OV (.bool (decide ((w64 (0 + s_l2)) < a1))) rfl (x_lss rfl rfl) <| OW.nil ?_
         refine CW.condM (t := decide ((w64 (0 + s_l2)) < a1)) rfl hm (fun hb141 hm => ?_) (fun hb141 hm => ?_)
         · refine CW.regionL <| OV v1 rfl (x_mv f128) <| OV (.int .i64 0) rfl (x_mv f132) <| OV (.int .i64 (w64 (0 + s_l2))) rfl (x_move) <| OV (.int .i64 a1) rfl (x_mv f129) <| OV (.func (.func fk5) #[] cp6.toArray) rfl (x_mv f130) ?_
           exact nomatch hm
         refine CW.skip ?_
         exact ⟨(), hm, ⟨f128, f129, f130, f131, hL⟩⟩
       intro s_j1 F135 wd136 hJ hm
       unfold M.slices_stableCmpFunc_int64__j1 at hm
       obtain ⟨f137, f138, f139, f140, hL⟩ := hJ
       refine CW.regionL <| OV (.int .i64 s_l2) rfl (x_mv f140) <| OV (.int .i64 (w64 (s_l2 * 2))) rfl (x_mul rfl rfl) <| OV (.int .i64 (w64 (s_l2 * 2))) rfl (x_assign) <| OW.nil ?_
       obtain rfl := Option.some.inj hm
       exact ⟨_, rfl, ⟨f137, f138, f139, rfl, hL⟩⟩
     intro s_l3 F142 wd143 t122 hJ hm hr123
     unfold M.slices_stableCmpFunc_int64__l3 at hm
     obtain ⟨f144, f145, f146, f147, f148, f149, hL⟩ := hJ
     refine CW.seq <| CSR <| OV (.int .i64 (w64 (2 * s_l2))) rfl (x_mv f149) <| OV (.int .i64 a1) rfl (x_mv f145) <| OV (.bool (decide ((w64 (2 * s_l2)) ≤ a1))) rfl (x_leq rfl rfl) <| OW.nil ?_
     refine CW.condM (t := decide ((w64 (2 * s_l2)) ≤ a1)) rfl hm (fun hb150 hm => ?_) (fun hb150 hm => ?_)
     · refine CW.skip <| CW.block <| CSR <| OV v1 rfl (x_mv f144) <| OV (.int .i64 0) rfl (x_mv f148) <| OV (.int .i64 0) rfl (x_mv f148) <| OV (.int .i64 s_l2) rfl (x_mv f147) <| OV (.int .i64 (w64 (0 + s_l2))) rfl (x_add rfl rfl) <| OV (.int .i64 (w64 (2 * s_l2))) rfl (x_mv f149) <| OV (.func (.func fk5) #[] cp6.toArray) rfl (x_mv f146) ?_
       exact nomatch hm
     refine CW.exit ?_
     refine XJ.hit ?_
     obtain rfl := Option.some.inj hm
     exact ⟨_, rfl, ⟨f144, f145, f146, f147, f148, f149, hL⟩⟩
   refine CW.exit ?_
   refine XJ.hit ?_
   obtain rfl := Option.some.inj hm
   exact ⟨_, rfl, ⟨f116, f117, f118, f119, hL⟩⟩
 intro s_l1 F151 wd152 t24 hJ hm hr25
 unfold M.slices_stableCmpFunc_int64__l1 at hm
 obtain ⟨S23, f153, f154, f155, f156, f157, f158, hL⟩ := hJ
 refine CW.seq <| CSR <| OV (.int .i64 s_l1.2.2) rfl (x_mv f158) <| OV (.int .i64 a1) rfl (x_mv f154) <| OV (.bool (decide (s_l1.2.2 ≤ a1))) rfl (x_leq rfl rfl) <| OW.nil ?_
 refine CW.condM (t := decide (s_l1.2.2 ≤ a1)) rfl hm (fun hb159 hm => ?_) (fun hb159 hm => ?_)
 · refine CW.skip <| CW.block <| CSR <| OV v1 rfl (x_mv f153) <| OV (.int .i64 s_l1.2.1) rfl (x_mv f157) <| OV (.int .i64 s_l1.2.2) rfl (x_mv f158) <| OV (.func (.func fk5) #[] cp6.toArray) rfl (x_mv f155) ?_
   obtain ⟨x160, hx161, hm⟩ := bndE hm
   refine OW.cons (OP.call rfl (x_call (vs := [v1, (.int .i64 s_l1.2.1), (.int .i64 s_l1.2.2), (.func (.func fk5) #[] cp6.toArray)]) Try_C118 ⟨rfl, rfl, rfl, rfl, trivial⟩) (M.slices_insertionSortCmpFunc_int64__ok _ s_l1.1 (hL.get 0 rfl) s_l1.2.1 s_l1.2.2 a2 (hL.fnZX 1 0 (by decide) rfl rfl hq7) hx161) ?_)
   rintro e162 wd163 ⟨S165, rfl, hF164⟩
   refine ⟨_, rfl, ?_⟩
   have hL := hL.mut 0 rfl hF164
   simp only [lA, lB, lC, lD] at hL
   refine ONR <| OV (.int .i64 s_l1.2.2) rfl (x_mv f158) <| OV (.int .i64 s_l1.2.2) rfl (x_assign) <| OW.nil <| CW.regionL <| OV (.int .i64 s_l1.2.2) rfl (x_mv f158) <| OV (.int .i64 20) rfl (x_mv f156) <| OV (.int .i64 (w64 (s_l1.2.2 + 20))) rfl (x_add rfl rfl) <| OV (.int .i64 (w64 (s_l1.2.2 + 20))) rfl (x_assign) <| OW.nil ?_
   obtain rfl := Option.some.inj hm
   exact ⟨_, rfl, ⟨S165, f153, f154, f155, f156, rfl, rfl, hL⟩⟩
 refine CW.exit ?_
 refine XJ.hit ?_
 obtain rfl := Option.some.inj hm
 exact ⟨_, rfl, ⟨S23, f153, f154, f155, f156, f157, f158, hL⟩⟩

theorem M.slices_SortStableFunc___int64_int64__ok (w0 : World) {E4 : TypeId} {S2 : Nat → Prop} {v1 : Value} (a0 : List Int) (he3 : (Ent.own E4 S2 v1 a0).H w0) (a1 : Int → Int → Option Int) {fk5 : FuncId} {cp6 : List Value} (hq7 : FnQ Try.prog fk5 cp6 (fun k => k < w0.heap.size ∧ ¬ (Ent.own E4 S2 v1 a0).S k) w0 (fun yw yvs yv => ∃ (y0 : Int) (y1 : Int) (yr : Int), yvs = [(.int .i64 y0), (.int .i64 y1)] ∧ a1 y0 y1 = some yr ∧ yv = (.int .i64 yr))) {r : (Unit) × (List Int)} (hm : M.slices_SortStableFunc___int64_int64_ a0 a1 = some r) :
    Calls Try.prog 101 #[v1, (.func (.func fk5) #[] cp6.toArray)] w0 fun e w' => ∃ (ioS : Nat → Prop), e = .returned (.tuple #[]) ∧ Mut w0 w' (Ent.own E4 S2 v1 a0).S [Ent.own E4 ioS v1 r.2] := by
 unfold M.slices_SortStableFunc___int64_int64_ at hm
 refine calls_CW (args := [v1, (.func (.func fk5) #[] cp6.toArray)]) Try.func101 rfl rfl rfl ?_
 have hL := Hp.startIO he3
 refine CW.regionL <| OV v1 rfl (x_move) <| OV v1 rfl (x_move) <| OV (.int .i64 (a0.length : Int)) rfl (x_lenR U25 rfl (hL.rdO 0 rfl)) <| OV (.func (.func fk5) #[] cp6.toArray) rfl (x_move) ?_
 obtain ⟨x8, hx9, hm⟩ := bndE hm
 refine OW.cons (OP.call rfl (x_call (vs := [v1, (.int .i64 (a0.length : Int)), (.func (.func fk5) #[] cp6.toArray)]) Try_C112 ⟨rfl, rfl, rfl, trivial⟩) (M.slices_stableCmpFunc_int64__ok _ a0 (hL.get 0 rfl) (a0.length : Int) a1 (hL.fnZX 1 0 (by decide) rfl rfl hq7) hx9) ?_)
 rintro e10 wd11 ⟨S13, rfl, hF12⟩
 refine ⟨_, rfl, ?_⟩
 have hL := hL.mut 0 rfl hF12
 simp only [lA, lB, lC, lD] at hL
 refine OW.nil ?_
 obtain rfl := Option.some.inj hm
 exact RR0 rfl  ⟨S13, rfl, hL.mutOut 1 rfl [0] (by decide) (by decide) rfl⟩

theorem M.impl_sortedIndices_ok (w0 : World) (a0 : Int) (a1 : Int → Int → Option Int) {fk1 : FuncId} {cp2 : List Value} (hq3 : FnQ Try.prog fk1 cp2 (· < w0.heap.size) w0 (fun yw yvs yv => ∃ (y0 : Int) (y1 : Int) (yr : Int), yvs = [(.int .i64 y0), (.int .i64 y1)] ∧ a1 y0 y1 = some yr ∧ yv = (.int .i64 yr))) {r : (List Int)} (hm : M.impl_sortedIndices a0 a1 = some r) :
    Calls Try.prog 73 #[(.int .i64 a0), (.func (.func fk1) #[] cp2.toArray)] w0 fun e w' => ∃ (rv0 : Value) (rS0 : Nat → Prop), e = .returned rv0 ∧ Fresh w0 w' [Ent.own 2 rS0 rv0 r] := by
 unfold M.impl_sortedIndices at hm
 refine calls_CW (args := [(.int .i64 a0), (.func (.func fk1) #[] cp2.toArray)]) Try.func73 rfl rfl rfl ?_
 have hL := Hp.start w0
 refine CSR ?_
 refine OW.cons (S_box (cs := #[(.func (.func fk1) #[] cp2.toArray)]) hL rfl rfl rfl ?_)
 intro wd4 b5 hL
 refine OV (.slice none 0 0) rfl (x_assign) <| ONR ?_
 refine OW.cons (S_lit ([] : List Int) hL U25 Try_T2 rfl (by decide) (by first | (simp [Instr.fill, madeCells, Value.cells, ev, upd, Flat.enc, Flat.sz]; done) | rfl | kernel_rfl) rfl rfl ?_)
 intro wd6 v7 S8 hL
 refine OV v7 rfl (x_assign) <| ONS <| CSR <| OV (.int .i64 a0) rfl (x_move) <| OV (.int .i64 0) rfl (x_move) <| OW.nil ?_
 obtain ⟨o31, ho32, hm⟩ := bndE hm
 refine CW.loopB (fun (s_l1 : (List Int) × Int) (F : Fr) (w : World) => ∃ (v27 : Value) (S28 : Nat → Prop), F 3 = (.pointer (some ⟨b5, 0, none⟩)) ∧ F 5 = v27 ∧ F 8 = (.int .i64 a0) ∧ F 9 = (.int .i64 s_l1.2) ∧ Hp w0 [Ent.own 2 S28 v27 s_l1.1, Ent.blk b5 68 #[(.func (.func fk1) #[] cp2.toArray)], Ent.snap w0 w0.heap.size] w) (fun o => outc o (fun x => some x) (fun s => M.impl_sortedIndices_a1 a1 s) = some r) ho32 hm ⟨v7, S8, rfl, rfl, rfl, rfl, hL⟩ ?_ ?_
 · intro s_l1 F33 wd34 hJ hm
   have hm := outcE hm
   have hm : M.impl_sortedIndices_a1 a1 s_l1 = some r := hm
   unfold M.impl_sortedIndices_a1 at hm
   obtain ⟨v27, S28, f35, f36, f37, f38, hL⟩ := hJ
   refine CSR <| OV v27 rfl (x_mv f36) <| OV (.func (.func 102) #[] #[(.pointer (some ⟨b5, 0, none⟩))]) rfl (x_makeFunc (vs := [(.pointer (some ⟨b5, 0, none⟩))]) ⟨f35, trivial⟩) ?_
   obtain ⟨x39, hx40, hm⟩ := bndE hm
   refine OW.cons (OP.call rfl (x_call (vs := [v27, (.func (.func 102) #[] #[(.pointer (some ⟨b5, 0, none⟩))])]) Try_C101 ⟨rfl, rfl, trivial⟩) (M.slices_SortStableFunc___int64_int64__ok _ s_l1.1 (hL.get 0 rfl) (fun y0 y1 => M.impl_sortedIndices_1 y0 y1 a1) ⟨Try_C102, fun yw hag yvs yv hR => by obtain ⟨y0, y1, yr, rfl, hyf, rfl⟩ := hR; exact M.impl_sortedIndices_1_ok yw y0 y1 a1 (hag.fnS (hL.fnSX 2 0 (by decide) rfl rfl hq3)) (hag.bx (hL.bxX 1 0 (by decide) rfl rfl)) hyf⟩ hx40) ?_)
   rintro e41 wd42 ⟨S44, rfl, hF43⟩
   refine ⟨_, rfl, ?_⟩
   have hL := hL.mut 0 rfl hF43
   simp only [lA, lB, lC, lD] at hL
   refine ONR <| OV v27 rfl (x_mv f36) <| OV v27 rfl (x_assign) <| OW.nil <| CW.ret ?_
   obtain rfl := Option.some.inj hm
   exact RR1 rfl rfl ⟨v27, S44, rfl, hL.fresh 2 rfl [0] (by decide) (by decide) rfl⟩
 intro s_l1 F45 wd46 t29 hJ hm hr30
 unfold M.impl_sortedIndices_l1 at hm
 obtain ⟨v27, S28, f47, f48, f49, f50, hL⟩ := hJ
 refine CSR <| OV (.bool (decide (s_l1.2 < a0))) rfl (x_lss f50 f49) <| ONS ?_
 refine CW.condM (t := decide (s_l1.2 < a0)) rfl hm (fun hb51 hm => ?_) (fun hb51 hm => ?_)
 · refine CW.skip <| CW.seq <| CW.block <| CSR <| OV (.int .i64 s_l1.2) rfl (x_mv f50) <| OV (.int .i64 s_l1.2) rfl (x_assign) <| OW.nil <| CW.regionL <| OV v27 rfl (x_mv f48) <| OV (.int .i64 s_l1.2) rfl (x_move) ?_
   refine OW.cons (S_lit ([s_l1.2] : List Int) hL U25 Try_T2 rfl (by decide) (by first | (simp [Instr.fill, madeCells, Value.cells, ev, upd, Flat.enc, Flat.sz]; done) | rfl | kernel_rfl) rfl rfl ?_)
   intro wd52 v53 S54 hL
   obtain ⟨hc58, hm⟩ := chkE hm
   refine OW.cons (S_append (ys := ([s_l1.2] : List Int)) hL 1 rfl U25 Try_T2 rfl rfl rfl (hL.rdO 0 rfl) hc58 (by decide) rfl ?_)
   intro wd55 v56 S57 hL
   refine OV v56 rfl (x_assign) <| OW.nil <| CW.regionL <| OV (.int .i64 (w64 (s_l1.2 + 1))) rfl (x_add f50 rfl) <| OV (.int .i64 (w64 (s_l1.2 + 1))) rfl (x_move) <| OW.nil ?_
   have hL := hL.sel [1, 2, 3] (by decide) rfl
   obtain rfl := Option.some.inj hm
   exact ⟨_, rfl, ⟨v56, S57, f47, rfl, f49, rfl, hL⟩⟩
 refine CW.exit ?_
 refine XJ.hit ?_
 obtain rfl := Option.some.inj hm
 exact ⟨_, rfl, ⟨v27, S28, f47, f48, f49, f50, hL⟩⟩

theorem M.math_bits_Len64_ok (w0 : World) (a0 : Int) {r : Int} (hm : M.math_bits_Len64 a0 = some r) :
    Calls Try.prog 134 #[(.int .u64 a0)] w0 fun e w' => e = .returned (.int .i64 r) ∧ Fresh w0 w' [] := by
 unfold M.math_bits_Len64 at hm
 refine calls_CW (args := [(.int .u64 a0)]) Try.func134 rfl rfl rfl ?_
 have hL := Hp.start w0
 refine CSR <| OV (.int .i64 0) rfl (x_assign) <| OW.nil ?_
 refine CW.seqJ (fun (s_j1 : Unit) (F : Fr) (w : World) => F 0 = (.int .u64 a0) ∧ F 2 = (.int .i64 0) ∧ Hp w0 [Ent.snap w0 w0.heap.size] w) (fun s_j1 => M.math_bits_Len64_j1 a0 s_j1 = some r) ?_ ?_
 · refine CSR <| OV (.int .u64 a0) rfl (x_move) <| OV (.bool (decide (4294967296 ≤ a0))) rfl (x_geq rfl rfl) <| OW.nil ?_
   refine CW.condM (t := decide (4294967296 ≤ a0)) rfl hm (fun hb20 hm => ?_) (fun hb20 hm => ?_)
   · exact nomatch hm
   refine CW.skip ?_
   exact ⟨(), hm, ⟨rfl, rfl, hL⟩⟩
 intro s_j1 F2 wd3 hJ hm
 unfold M.math_bits_Len64_j1 at hm
 obtain ⟨f4, f5, hL⟩ := hJ
 refine CW.seqJ (fun (s_j2 : Unit) (F : Fr) (w : World) => F 0 = (.int .u64 a0) ∧ F 2 = (.int .i64 0) ∧ Hp w0 [Ent.snap w0 w0.heap.size] w) (fun s_j2 => M.math_bits_Len64_j2 a0 s_j2 = some r) ?_ ?_
 · refine CSR <| OV (.int .u64 a0) rfl (x_mv f4) <| OV (.bool (decide (65536 ≤ a0))) rfl (x_geq rfl rfl) <| OW.nil ?_
   refine CW.condM (t := decide (65536 ≤ a0)) rfl hm (fun hb19 hm => ?_) (fun hb19 hm => ?_)
   · exact nomatch hm
   refine CW.skip ?_
   exact ⟨(), hm, ⟨f4, f5, hL⟩⟩
 intro s_j2 F7 wd8 hJ hm
 unfold M.math_bits_Len64_j2 at hm
 obtain ⟨f9, f10, hL⟩ := hJ
 refine CW.seqJ (fun (s_j3 : Unit) (F : Fr) (w : World) => F 0 = (.int .u64 a0) ∧ F 2 = (.int .i64 0) ∧ Hp w0 [Ent.snap w0 w0.heap.size] w) (fun s_j3 => M.math_bits_Len64_j3 a0 s_j3 = some r) ?_ ?_
 · refine CSR <| OV (.int .u64 a0) rfl (x_mv f9) <| OV (.bool (decide (256 ≤ a0))) rfl (x_geq rfl rfl) <| OW.nil ?_
   refine CW.condM (t := decide (256 ≤ a0)) rfl hm (fun hb18 hm => ?_) (fun hb18 hm => ?_)
   · exact nomatch hm
   refine CW.skip ?_
   exact ⟨(), hm, ⟨f9, f10, hL⟩⟩
 intro s_j3 F12 wd13 hJ hm
 unfold M.math_bits_Len64_j3 at hm
 obtain ⟨f14, f15, hL⟩ := hJ
 refine CSR <| OV (.int .i64 0) rfl (x_mv f15) <| OV (.int .u64 a0) rfl (x_mv f14) <| OV (.int .u8 (IntKind.u8.wrap a0)) rfl (x_conv U128 U5 rfl) ?_
 obtain ⟨x16, hx17, hm⟩ := bndE hm
 refine OV (.int .u8 x16) rfl (x_strAt U9 rfl rfl hx17) <| OV (.int .i64 (IntKind.i64.wrap x16)) rfl (x_conv U5 U3 rfl) <| OV (.int .i64 (w64 (0 + (IntKind.i64.wrap x16)))) rfl (x_add rfl rfl) <| OV (.int .i64 (w64 (0 + (IntKind.i64.wrap x16)))) rfl (x_assign) <| OW.nil <| CW.ret ?_
 obtain rfl := Option.some.inj hm
 exact RR1 rfl rfl ⟨rfl, hL.fresh 0 rfl [] (by decide) (by decide) rfl⟩

theorem M.math_bits_Len_ok (w0 : World) (a0 : Int) {r : Int} (hm : M.math_bits_Len a0 = some r) :
    Calls Try.prog 116 #[(.int .u64 a0)] w0 fun e w' => e = .returned (.int .i64 r) ∧ Fresh w0 w' [] := by
 unfold M.math_bits_Len at hm
 refine calls_CW (args := [(.int .u64 a0)]) Try.func116 rfl rfl rfl ?_
 have hL := Hp.start w0
 refine CSR <| OV (.int .i64 0) rfl (x_assign) <| ONS ?_
 refine CW.condF rfl rfl ?_
 refine CW.skip <| CSR <| OV (.int .u64 a0) rfl (x_move) ?_
 obtain ⟨x1, hx2, hm⟩ := bndE hm
 refine OW.cons (OP.call rfl (x_call (vs := [(.int .u64 a0)]) Try_C134 ⟨rfl, trivial⟩) (M.math_bits_Len64_ok _ a0 hx2) ?_)
 rintro e3 wd4 ⟨rfl, hF5⟩
 refine ⟨_, rfl, ?_⟩
 have hL := hL.pushAll hF5
 simp only [lA, lB, lC, lD] at hL
 refine OV (.int .i64 x1) rfl (x_assign) <| OW.nil <| CW.ret ?_
 obtain rfl := Option.some.inj hm
 exact RR1 rfl rfl ⟨rfl, hL.fresh 0 rfl [] (by decide) (by decide) rfl⟩

theorem M.cmp_isNaN_int64__ok (w0 : World) (a0 : Int) {r : Bool} (hm : M.cmp_isNaN_int64_ a0 = some r) :
    Calls Try.prog 143 #[(.int .i64 a0)] w0 fun e w' => e = .returned (.bool r) ∧ Fresh w0 w' [] := by
 unfold M.cmp_isNaN_int64_ at hm
 refine calls_CW (args := [(.int .i64 a0)]) Try.func143 rfl rfl rfl ?_
 have hL := Hp.start w0
 refine CSR <| OV (.bool false) rfl (x_assign) <| ONR <| OV (.int .i64 a0) rfl (x_move) <| OV (.int .i64 a0) rfl (x_move) <| OV (.bool (a0 != a0)) rfl (x_neq rfl rfl) <| OV (.bool (a0 != a0)) rfl (x_assign) <| OW.nil <| CW.ret ?_
 obtain rfl := Option.some.inj hm
 exact RR1 rfl rfl ⟨rfl, hL.fresh 0 rfl [] (by decide) (by decide) rfl⟩

theorem M.cmp_Less_int64__ok (w0 : World) (a0 : Int) (a1 : Int) {r : Bool} (hm : M.cmp_Less_int64_ a0 a1 = some r) :
    Calls Try.prog 130 #[(.int .i64 a0), (.int .i64 a1)] w0 fun e w' => e = .returned (.bool r) ∧ Fresh w0 w' [] := by
 unfold M.cmp_Less_int64_ at hm
 refine calls_CW (args := [(.int .i64 a0), (.int .i64 a1)]) Try.func130 rfl rfl rfl ?_
 have hL := Hp.start w0
 refine CSR <| OV (.bool false) rfl (x_assign) <| OW.nil ?_
 refine CW.seqJ (fun (s_j1 : Bool) (F : Fr) (w : World) => F 4 = (.bool s_j1) ∧ Hp w0 [Ent.snap w0 w0.heap.size] w) (fun s_j1 => M.cmp_Less_int64__j1 s_j1 = some r) ?_ ?_
 · refine CW.regionL <| OV (.int .i64 a0) rfl (x_move) ?_
   obtain ⟨x16, hx17, hm⟩ := bndE hm
   refine OW.cons (OP.call rfl (x_call (vs := [(.int .i64 a0)]) Try_C143 ⟨rfl, trivial⟩) (M.cmp_isNaN_int64__ok _ a0 hx17) ?_)
   rintro e18 wd19 ⟨rfl, hF20⟩
   refine ⟨_, rfl, ?_⟩
   have hL := hL.pushAll hF20
   simp only [lA, lB, lC, lD] at hL
   refine OV (.bool x16) rfl (x_move) ?_
   refine ifB_elim hm (fun hb21 hm => ?_) (fun hb21 hm => ?_)
   · refine OW.cons (OP.yes' rfl rfl hb21 (OP.val (v := (.int .i64 a1)) rfl (x_move) ?_))
     obtain ⟨x22, hx23, hm⟩ := bndE hm
     refine OW.cons (OP.yes' rfl rfl hb21 (OP.call rfl (x_call (vs := [(.int .i64 a1)]) Try_C143 ⟨rfl, trivial⟩) (M.cmp_isNaN_int64__ok _ a1 hx23) ?_))
     rintro e24 wd25 ⟨rfl, hF26⟩
     refine ⟨_, rfl, ?_⟩
     have hL := hL.pushAll hF26
     simp only [lA, lB, lC, lD] at hL
     refine OW.cons (OP.yes' rfl rfl hb21 (OP.val (v := (.bool (!x22))) rfl (x_not rfl) ?_))
     refine OV (.bool (!x22)) rfl (x_pickT' rfl hb21 rfl) <| OV (.bool (!x22)) rfl (x_move) ?_
     refine ifB_elim hm (fun hb27 hm => ?_) (fun hb27 hm => ?_)
     · refine OW.cons (OP.no' rfl rfl hb27 rfl ?_)
       refine OW.cons (OP.no' rfl rfl hb27 rfl ?_)
       refine OW.cons (OP.no' rfl rfl hb27 rfl ?_)
       refine OV (.bool true) rfl (x_pickT' rfl hb27 rfl) <| OV (.bool true) rfl (x_assign) <| OW.nil ?_
       exact ⟨true, hm, ⟨rfl, hL⟩⟩
     refine OW.cons (OP.yes' rfl rfl hb27 (OP.val (v := (.int .i64 a0)) rfl (x_move) ?_))
     refine OW.cons (OP.yes' rfl rfl hb27 (OP.val (v := (.int .i64 a1)) rfl (x_move) ?_))
     refine OW.cons (OP.yes' rfl rfl hb27 (OP.val (v := (.bool (decide (a0 < a1)))) rfl (x_lss rfl rfl) ?_))
     refine OV (.bool (decide (a0 < a1))) rfl (x_pickF' rfl hb27 rfl) <| OV (.bool (decide (a0 < a1))) rfl (x_assign) <| OW.nil ?_
     exact ⟨decide (a0 < a1), hm, ⟨rfl, hL⟩⟩
   refine OW.cons (OP.no' rfl rfl hb21 rfl ?_)
   refine OW.cons (OP.no' rfl rfl hb21 rfl ?_)
   refine OW.cons (OP.no' rfl rfl hb21 rfl ?_)
   refine OV (.bool false) rfl (x_pickF' rfl hb21 rfl) <| OV (.bool false) rfl (x_move) ?_
   refine OW.cons (OP.yes' rfl rfl rfl (OP.val (v := (.int .i64 a0)) rfl (x_move) ?_))
   refine OW.cons (OP.yes' rfl rfl rfl (OP.val (v := (.int .i64 a1)) rfl (x_move) ?_))
   refine OW.cons (OP.yes' rfl rfl rfl (OP.val (v := (.bool (decide (a0 < a1)))) rfl (x_lss rfl rfl) ?_))
   refine OV (.bool (decide (a0 < a1))) rfl (x_pickF' rfl rfl rfl) <| OV (.bool (decide (a0 < a1))) rfl (x_assign) <| OW.nil ?_
   exact ⟨decide (a0 < a1), hm, ⟨rfl, hL⟩⟩
 intro s_j1 F13 wd14 hJ hm
 unfold M.cmp_Less_int64__j1 at hm
 obtain ⟨f15, hL⟩ := hJ
 refine CW.ret ?_
 obtain rfl := Option.some.inj hm
 exact RR1 rfl f15 ⟨rfl, hL.fresh 0 rfl [] (by decide) (by decide) rfl⟩

theorem M.slices_insertionSortOrdered_int64__ok (w0 : World) {E4 : TypeId} {S2 : Nat → Prop} {v1 : Value} (a0 : List Int) (he3 : (Ent.own E4 S2 v1 a0).H w0) (a1 : Int) (a2 : Int) {r : (Unit) × (List Int)} (hm : M.slices_insertionSortOrdered_int64_ a0 a1 a2 = some r) :
    Calls Try.prog 124 #[v1, (.int .i64 a1), (.int .i64 a2)] w0 fun e w' => ∃ (ioS : Nat → Prop), e = .returned (.tuple #[]) ∧ Mut w0 w' (Ent.own E4 S2 v1 a0).S [Ent.own E4 ioS v1 r.2] := by
 unfold M.slices_insertionSortOrdered_int64_ at hm
 refine calls_CW (args := [v1, (.int .i64 a1), (.int .i64 a2)]) Try.func124 rfl rfl rfl ?_
 have hL := Hp.startIO he3
 refine CSR <| OV (.int .i64 a1) rfl (x_move) <| OV (.int .i64 (w64 (a1 + 1))) rfl (x_add rfl rfl) <| OV (.int .i64 (w64 (a1 + 1))) rfl (x_assign) <| OW.nil ?_
 obtain ⟨o801, ho802, hm⟩ := bndE hm
 refine CW.loopB (fun (s_l1 : (List Int) × Int) (F : Fr) (w : World) => ∃ (S798 : Nat → Prop), F 0 = v1 ∧ F 1 = (.int .i64 a1) ∧ F 2 = (.int .i64 a2) ∧ F 6 = (.int .i64 s_l1.2) ∧ Hp w0 [Ent.own E4 S798 v1 s_l1.1, Ent.frz w0 (Ent.own E4 S2 v1 a0).S] w) (fun o => outc o (fun x => some x) (fun s => M.slices_insertionSortOrdered_int64__a1 s) = some r) ho802 hm ⟨S2, rfl, rfl, rfl, rfl, hL⟩ ?_ ?_
 · intro s_l1 F803 wd804 hJ hm
   have hm := outcE hm
   have hm : M.slices_insertionSortOrdered_int64__a1 s_l1 = some r := hm
   unfold M.slices_insertionSortOrdered_int64__a1 at hm
   obtain ⟨S798, f805, f806, f807, f808, hL⟩ := hJ
   obtain rfl := Option.some.inj hm
   exact RR0 rfl  ⟨S798, rfl, hL.mutOut 1 rfl [0] (by decide) (by decide) rfl⟩
 intro s_l1 F809 wd810 t799 hJ hm hr800
 unfold M.slices_insertionSortOrdered_int64__l1 at hm
 obtain ⟨S798, f811, f812, f813, f814, hL⟩ := hJ
 refine CW.seq <| CSR <| OV (.int .i64 s_l1.2) rfl (x_mv f814) <| OV (.int .i64 a2) rfl (x_mv f813) <| OV (.bool (decide (s_l1.2 < a2))) rfl (x_lss rfl rfl) <| OW.nil ?_
 refine CW.condM (t := decide (s_l1.2 < a2)) rfl hm (fun hb815 hm => ?_) (fun hb815 hm => ?_)
 · refine CW.skip <| CW.seq <| CW.block <| CSR <| OV (.int .i64 s_l1.2) rfl (x_mv f814) <| OV (.int .i64 s_l1.2) rfl (x_assign) <| OW.nil ?_
   obtain ⟨o1070, ho1071, hm⟩ := bndE hm
   refine CW.loopB (fun (s_l2 : (List Int) × Int) (F : Fr) (w : World) => ∃ (S1067 : Nat → Prop), F 0 = v1 ∧ F 1 = (.int .i64 a1) ∧ F 2 = (.int .i64 a2) ∧ F 6 = (.int .i64 s_l1.2) ∧ F 7 = (.int .i64 s_l2.2) ∧ Hp w0 [Ent.own E4 S1067 v1 s_l2.1, Ent.frz w0 (Ent.own E4 S2 v1 a0).S] w) (fun o => outc o (fun x => some (.ret x)) (fun s => M.slices_insertionSortOrdered_int64__a2 s_l1 s) = some t799) ho1071 hm ⟨S798, f811, f812, f813, f814, rfl, hL⟩ ?_ ?_
   · intro s_l2 F1072 wd1073 hJ hm
     have hm := outcE hm
     have hm : M.slices_insertionSortOrdered_int64__a2 s_l1 s_l2 = some t799 := hm
     unfold M.slices_insertionSortOrdered_int64__a2 at hm
     obtain ⟨S1067, f1074, f1075, f1076, f1077, f1078, hL⟩ := hJ
     refine CW.regionL <| OV (.int .i64 s_l1.2) rfl (x_mv f1077) <| OV (.int .i64 (w64 (s_l1.2 + 1))) rfl (x_add rfl rfl) <| OV (.int .i64 (w64 (s_l1.2 + 1))) rfl (x_assign) <| OW.nil ?_
     obtain rfl := Option.some.inj hm
     exact ⟨_, rfl, ⟨S1067, f1074, f1075, f1076, rfl, hL⟩⟩
   intro s_l2 F1079 wd1080 t1068 hJ hm hr1069
   unfold M.slices_insertionSortOrdered_int64__l2 at hm
   obtain ⟨S1067, f1081, f1082, f1083, f1084, f1085, hL⟩ := hJ
   refine CW.seq ?_
   refine CW.seqJ (fun (s_j1 : Bool) (F : Fr) (w : World) => F 0 = v1 ∧ F 1 = (.int .i64 a1) ∧ F 2 = (.int .i64 a2) ∧ F 6 = (.int .i64 s_l1.2) ∧ F 7 = (.int .i64 s_l2.2) ∧ F 30 = (.bool s_j1) ∧ Hp w0 [Ent.own E4 S1067 v1 s_l2.1, Ent.frz w0 (Ent.own E4 S2 v1 a0).S] w) (fun s_j1 => M.slices_insertionSortOrdered_int64__j1 s_l2 s_j1 = some t1068) ?_ ?_
   · refine CW.draw Try_mixed ?_
     have hL := hL.call (Mod.drew _)
     refine DW.pre (fuel := 0) (fin := bma 15 32767) (C := fun w' => Mod None_ _ w') [0, 1, 2, 3, 4, 5, 6, 7, 8, 9, 10, 11, 12, 13, 14] (Mod.refl _ _) (by kernel_rfl) (by kernel_rfl) ?_
     refine QV (.int .i64 s_l2.2) rfl rfl (fun w' hm' => x_mv f1085) <| QV (.int .i64 a1) rfl rfl (fun w' hm' => x_mv f1082) <| QV (.bool (decide (a1 < s_l2.2))) rfl rfl (fun w' hm' => x_gtr rfl rfl) <| QV (.bool (decide (a1 < s_l2.2))) rfl rfl (fun w' hm' => x_move) ?_
     refine ifB_elim hm (fun hb1192 hm => ?_) (fun hb1192 hm => ?_)
     · refine QW.cons rfl (QP.yes' rfl rfl hb1192 (QP.val (v := v1) rfl (fun w' hm' => x_mv f1081) ?_))
       refine QW.cons rfl (QP.yes' rfl rfl hb1192 (QP.val (v := (.int .i64 s_l2.2)) rfl (fun w' hm' => x_mv f1085) ?_))
       obtain ⟨x1193, ha1194, hm⟩ := bndE hm
       obtain ⟨hz1195, ha1199⟩ := idxE ha1194
       obtain ⟨b1196, q1197, hix1198⟩ := rdL_ix (hL.rdO 0 rfl) hz1195 ha1199
       refine QW.cons rfl (QP.yes' rfl rfl hb1192 (QP.val (v := (.pointer (some ⟨b1196, q1197, none⟩))) rfl (fun w' hm' => x_ix U25 Try_T2 rfl rfl hix1198) ?_))
       refine QW.cons rfl (QP.yes' rfl rfl hb1192 (QP.val (v := (.int .i64 x1193)) rfl (fun w' hm' => x_load1 U2 rfl rfl (rdF_cells ((hL.call hm').rdO 0 rfl) hix1198 ha1199 0 _ rfl)) ?_))
       refine QW.cons rfl (QP.yes' rfl rfl hb1192 (QP.val (v := v1) rfl (fun w' hm' => x_mv f1081) ?_))
       refine QW.cons rfl (QP.yes' rfl rfl hb1192 (QP.val (v := (.int .i64 s_l2.2)) rfl (fun w' hm' => x_mv f1085) ?_))
       refine QW.cons rfl (QP.yes' rfl rfl hb1192 (QP.val (v := (.int .i64 (w64 (s_l2.2 - 1)))) rfl (fun w' hm' => x_sub rfl rfl) ?_))
       obtain ⟨x1200, ha1201, hm⟩ := bndE hm
       obtain ⟨hz1202, ha1206⟩ := idxE ha1201
       obtain ⟨b1203, q1204, hix1205⟩ := rdL_ix (hL.rdO 0 rfl) hz1202 ha1206
       refine QW.cons rfl (QP.yes' rfl rfl hb1192 (QP.val (v := (.pointer (some ⟨b1203, q1204, none⟩))) rfl (fun w' hm' => x_ix U25 Try_T2 rfl rfl hix1205) ?_))
       refine QW.cons rfl (QP.yes' rfl rfl hb1192 (QP.val (v := (.int .i64 x1200)) rfl (fun w' hm' => x_load1 U2 rfl rfl (rdF_cells ((hL.call hm').rdO 0 rfl) hix1205 ha1206 0 _ rfl)) ?_))
       obtain ⟨x1207, hx1208, hm⟩ := bndE hm
       refine QW.cons rfl (QP.yes' rfl rfl hb1192 (QP.call (v := (.bool x1207)) rfl (fun w' hm' => x_call (vs := [(.int .i64 x1193), (.int .i64 x1200)]) Try_C130 ⟨rfl, rfl, trivial⟩) (fun w' hm' => (M.cmp_Less_int64__ok w' x1193 x1200 hx1208).mono (fun e w'' h => ⟨h.1, hm'.trans h.2.mod⟩)) ?_))
       refine QV (.bool x1207) rfl rfl (fun w' hm' => x_pickT' rfl hb1192 rfl) ?_
       refine QW.nil ?_
       intro wd1209 hmod
       have hL := hL.call hmod
       refine DW.done (by kernel_rfl) ?_
       exact ⟨x1207, hm, ⟨f1081, f1082, f1083, f1084, f1085, rfl, hL⟩⟩
     refine QW.cons rfl (QP.no' rfl rfl hb1192 rfl ?_)
     refine QW.cons rfl (QP.no' rfl rfl hb1192 rfl ?_)
     refine QW.cons rfl (QP.no' rfl rfl hb1192 rfl ?_)
     refine QW.cons rfl (QP.no' rfl rfl hb1192 rfl ?_)
     refine QW.cons rfl (QP.no' rfl rfl hb1192 rfl ?_)
     refine QW.cons rfl (QP.no' rfl rfl hb1192 rfl ?_)
     refine QW.cons rfl (QP.no' rfl rfl hb1192 rfl ?_)
     refine QW.cons rfl (QP.no' rfl rfl hb1192 rfl ?_)
     refine QW.cons rfl (QP.no' rfl rfl hb1192 rfl ?_)
     refine QW.cons rfl (QP.no' rfl rfl hb1192 rfl ?_)
     refine QV (.bool false) rfl rfl (fun w' hm' => x_pickF' rfl hb1192 rfl) ?_
     refine QW.nil ?_
     intro wd1210 hmod
     have hL := hL.call hmod
     refine DW.done (by kernel_rfl) ?_
     exact ⟨false, hm, ⟨f1081, f1082, f1083, f1084, f1085, rfl, hL⟩⟩
   intro s_j1 F1105 wd1106 hJ hm
   unfold M.slices_insertionSortOrdered_int64__j1 at hm
   obtain ⟨f1107, f1108, f1109, f1110, f1111, f1112, hL⟩ := hJ
   refine CW.condM (t := s_j1) f1112 hm (fun hb1113 hm => ?_) (fun hb1113 hm => ?_)
   · refine CW.skip <| CW.seq <| CW.block ?_
     refine CW.drawH (fun w' => Hp w0 [Ent.frz w0 (Ent.own E4 S2 v1 a0).S] w') Try_mixed ?_
     have hL := hL.call (Mod.drew _)
     have hS := (hL.sel [1] (by decide) rfl)
     refine DH.take 0 rfl (by kernel_rfl) (by kernel_rfl) (by kernel_rfl) rfl rfl hS (YH.val (v := v1) (fun w' hS' => x_mv f1107)) ?_
     have hS := (hL.sel [1] (by decide) rfl)
     refine DH.take 1 rfl (by kernel_rfl) (by kernel_rfl) (by kernel_rfl) rfl rfl hS (YH.val (v := (.int .i64 s_l2.2)) (fun w' hS' => x_mv f1111)) ?_
     have hS := (hL.sel [1] (by decide) rfl)
     refine DH.take 2 rfl (by kernel_rfl) (by kernel_rfl) (by kernel_rfl) rfl rfl hS (YH.val (v := v1) (fun w' hS' => x_mv f1107)) ?_
     have hS := (hL.sel [1] (by decide) rfl)
     refine DH.take 3 rfl (by kernel_rfl) (by kernel_rfl) (by kernel_rfl) rfl rfl hS (YH.val (v := (.int .i64 s_l2.2)) (fun w' hS' => x_mv f1111)) ?_
     have hS := (hL.sel [1] (by decide) rfl)
     refine DH.take 4 rfl (by kernel_rfl) (by kernel_rfl) (by kernel_rfl) rfl rfl hS (YH.val (v := (.int .i64 (w64 (s_l2.2 - 1)))) (fun w' hS' => x_sub rfl rfl)) ?_
     have hS := (hL.sel [1] (by decide) rfl)
     refine DH.take 5 rfl (by kernel_rfl) (by kernel_rfl) (by kernel_rfl) rfl rfl hS (YH.val (v := v1) (fun w' hS' => x_mv f1107)) ?_
     have hS := (hL.sel [1] (by decide) rfl)
     refine DH.take 6 rfl (by kernel_rfl) (by kernel_rfl) (by kernel_rfl) rfl rfl hS (YH.val (v := (.int .i64 s_l2.2)) (fun w' hS' => x_mv f1111)) ?_
     have hS := (hL.sel [1] (by decide) rfl)
     refine DH.take 7 rfl (by kernel_rfl) (by kernel_rfl) (by kernel_rfl) rfl rfl hS (YH.val (v := (.int .i64 (w64 (s_l2.2 - 1)))) (fun w' hS' => x_sub rfl rfl)) ?_
     have hS := (hL.sel [1] (by decide) rfl)
     obtain ⟨x1144, ha1145, hm⟩ := bndE hm
     obtain ⟨hz1146, ha1150⟩ := idxE ha1145
     obtain ⟨b1147, q1148, hix1149⟩ := rdL_ix (hL.rdO 0 rfl) hz1146 ha1150
     refine DH.take 8 rfl (by kernel_rfl) (by kernel_rfl) (by kernel_rfl) rfl rfl hS (YH.val (v := (.pointer (some ⟨b1147, q1148, none⟩))) (fun w' hS' => x_ix U25 Try_T2 rfl rfl hix1149)) ?_
     have hS := (hL.sel [1] (by decide) rfl)
     refine DH.take 10 rfl (by kernel_rfl) (by kernel_rfl) (by kernel_rfl) rfl rfl hS (YH.val (v := v1) (fun w' hS' => x_mv f1107)) ?_
     have hS := (hL.sel [1] (by decide) rfl)
     refine DH.take 11 rfl (by kernel_rfl) (by kernel_rfl) (by kernel_rfl) rfl rfl hS (YH.val (v := (.int .i64 s_l2.2)) (fun w' hS' => x_mv f1111)) ?_
     have hS := (hL.sel [1] (by decide) rfl)
     obtain ⟨x1151, ha1152, hm⟩ := bndE hm
     obtain ⟨hz1153, ha1157⟩ := idxE ha1152
     obtain ⟨b1154, q1155, hix1156⟩ := rdL_ix (hL.rdO 0 rfl) hz1153 ha1157
     refine DH.take 12 rfl (by kernel_rfl) (by kernel_rfl) (by kernel_rfl) rfl rfl hS (YH.val (v := (.pointer (some ⟨b1154, q1155, none⟩))) (fun w' hS' => x_ix U25 Try_T2 rfl rfl hix1156)) ?_
     refine DH.all (rs := [9, 13]) (by kernel_rfl) (by simp) ?_
     intro i1158 hi1159
     simp only [List.mem_cons, List.not_mem_nil, or_false] at hi1159
     rcases hi1159 with rfl | rfl
     · refine ⟨_, rfl, ?_⟩
       refine OP.val (v := (.int .i64 x1144)) rfl (x_load1 U2 rfl rfl (rdF_cells (hL.rdO 0 rfl) hix1149 ha1150 0 _ rfl)) ?_
       refine ⟨(hL.sel [1] (by decide) rfl), ?_⟩
       refine DH.only 13 rfl (by kernel_rfl) (OP.val (v := (.int .i64 x1151)) rfl (x_load1 U2 rfl rfl (rdF_cells (hL.rdO 0 rfl) hix1156 ha1157 0 _ rfl)) ?_)
       refine ⟨(hL.sel [1] (by decide) rfl), ?_⟩
       have hS := (hL.sel [1] (by decide) rfl)
       obtain ⟨x1160, ha1161, hm⟩ := bndE hm
       obtain ⟨hz1162, ha1166⟩ := idxE ha1161
       obtain ⟨b1163, q1164, hix1165⟩ := rdL_ix (hL.rdO 0 rfl) hz1162 ha1166
       refine DH.take 14 rfl (by kernel_rfl) (by kernel_rfl) (by kernel_rfl) rfl rfl hS (YH.val (v := (.pointer (some ⟨b1163, q1164, none⟩))) (fun w' hS' => x_ix U25 Try_T2 rfl rfl hix1165)) ?_
       refine DH.only 15 rfl (by kernel_rfl) (S_storeX (j := 0) x1144 hL 0 rfl Try_T2 hix1165 ha1166 rfl rfl rfl rfl rfl rfl ?_)
       intro wd1167 hL
       refine ⟨(hL.sel [1] (by decide) rfl), ?_⟩
       have hS := (hL.sel [1] (by decide) rfl)
       obtain ⟨x1168, ha1169, hm⟩ := bndE hm
       obtain ⟨hz1170, ha1174⟩ := idxE ha1169
       obtain ⟨b1171, q1172, hix1173⟩ := rdL_ix (hL.rdO 0 rfl) hz1170 ha1174
       refine DH.take 16 rfl (by kernel_rfl) (by kernel_rfl) (by kernel_rfl) rfl rfl hS (YH.val (v := (.pointer (some ⟨b1171, q1172, none⟩))) (fun w' hS' => x_ix U25 Try_T2 rfl rfl hix1173)) ?_
       refine DH.only 17 rfl (by kernel_rfl) (S_storeX (j := 0) x1151 hL 0 rfl Try_T2 hix1173 ha1174 rfl rfl rfl rfl rfl rfl ?_)
       intro wd1175 hL
       refine ⟨(hL.sel [1] (by decide) rfl), ?_⟩
       refine DH.done (by kernel_rfl) ?_
       refine CW.regionL <| OV (.int .i64 s_l2.2) rfl (x_mv f1111) <| OV (.int .i64 (w64 (s_l2.2 - 1))) rfl (x_sub rfl rfl) <| OV (.int .i64 (w64 (s_l2.2 - 1))) rfl (x_assign) <| OW.nil ?_
       obtain rfl := Option.some.inj hm
       exact ⟨_, rfl, ⟨S1067, f1107, f1108, f1109, f1110, rfl, hL⟩⟩
     refine ⟨_, rfl, ?_⟩
     refine OP.val (v := (.int .i64 x1151)) rfl (x_load1 U2 rfl rfl (rdF_cells (hL.rdO 0 rfl) hix1156 ha1157 0 _ rfl)) ?_
     refine ⟨(hL.sel [1] (by decide) rfl), ?_⟩
     refine DH.only 9 rfl (by kernel_rfl) (OP.val (v := (.int .i64 x1144)) rfl (x_load1 U2 rfl rfl (rdF_cells (hL.rdO 0 rfl) hix1149 ha1150 0 _ rfl)) ?_)
     refine ⟨(hL.sel [1] (by decide) rfl), ?_⟩
     have hS := (hL.sel [1] (by decide) rfl)
     obtain ⟨x1176, ha1177, hm⟩ := bndE hm
     obtain ⟨hz1178, ha1182⟩ := idxE ha1177
     obtain ⟨b1179, q1180, hix1181⟩ := rdL_ix (hL.rdO 0 rfl) hz1178 ha1182
     refine DH.take 14 rfl (by kernel_rfl) (by kernel_rfl) (by kernel_rfl) rfl rfl hS (YH.val (v := (.pointer (some ⟨b1179, q1180, none⟩))) (fun w' hS' => x_ix U25 Try_T2 rfl rfl hix1181)) ?_
     refine DH.only 15 rfl (by kernel_rfl) (S_storeX (j := 0) x1144 hL 0 rfl Try_T2 hix1181 ha1182 rfl rfl rfl rfl rfl rfl ?_)
     intro wd1183 hL
     refine ⟨(hL.sel [1] (by decide) rfl), ?_⟩
     have hS := (hL.sel [1] (by decide) rfl)
     obtain ⟨x1184, ha1185, hm⟩ := bndE hm
     obtain ⟨hz1186, ha1190⟩ := idxE ha1185
     obtain ⟨b1187, q1188, hix1189⟩ := rdL_ix (hL.rdO 0 rfl) hz1186 ha1190
     refine DH.take 16 rfl (by kernel_rfl) (by kernel_rfl) (by kernel_rfl) rfl rfl hS (YH.val (v := (.pointer (some ⟨b1187, q1188, none⟩))) (fun w' hS' => x_ix U25 Try_T2 rfl rfl hix1189)) ?_
     refine DH.only 17 rfl (by kernel_rfl) (S_storeX (j := 0) x1151 hL 0 rfl Try_T2 hix1189 ha1190 rfl rfl rfl rfl rfl rfl ?_)
     intro wd1191 hL
     refine ⟨(hL.sel [1] (by decide) rfl), ?_⟩
     refine DH.done (by kernel_rfl) ?_
     refine CW.regionL <| OV (.int .i64 s_l2.2) rfl (x_mv f1111) <| OV (.int .i64 (w64 (s_l2.2 - 1))) rfl (x_sub rfl rfl) <| OV (.int .i64 (w64 (s_l2.2 - 1))) rfl (x_assign) <| OW.nil ?_
     obtain rfl := Option.some.inj hm
     exact ⟨_, rfl, ⟨S1067, f1107, f1108, f1109, f1110, rfl, hL⟩⟩
   refine CW.exit ?_
   refine XJ.hit ?_
   obtain rfl := Option.some.inj hm
   exact ⟨_, rfl, ⟨S1067, f1107, f1108, f1109, f1110, f1111, hL⟩⟩
 refine CW.exit ?_
 refine XJ.hit ?_
 obtain rfl := Option.some.inj hm
 exact ⟨_, rfl, ⟨S798, f811, f812, f813, f814, hL⟩⟩

theorem M.slices_pdqsortOrdered_int64__ok (w0 : World) {E4 : TypeId} {S2 : Nat → Prop} {v1 : Value} (a0 : List Int) (he3 : (Ent.own E4 S2 v1 a0).H w0) (a1 : Int) (a2 : Int) (a3 : Int) {r : (Unit) × (List Int)} (hm : M.slices_pdqsortOrdered_int64_ a0 a1 a2 a3 = some r) :
    Calls Try.prog 115 #[v1, (.int .i64 a1), (.int .i64 a2), (.int .i64 a3)] w0 fun e w' => ∃ (ioS : Nat → Prop), e = .returned (.tuple #[]) ∧ Mut w0 w' (Ent.own E4 S2 v1 a0).S [Ent.own E4 ioS v1 r.2] := by
 unfold M.slices_pdqsortOrdered_int64_ at hm
 refine calls_CW (args := [v1, (.int .i64 a1), (.int .i64 a2), (.int .i64 a3)]) Try.func115 rfl rfl rfl ?_
 have hL := Hp.startIO he3
 refine CSR <| OV (.bool true) rfl (x_assign) <| ONR <| OV (.bool true) rfl (x_assign) <| OW.nil ?_
 obtain ⟨o41, ho42, hm⟩ := bndE hm
 refine CW.loopB (fun (s_l1 : Unit) (F : Fr) (w : World) => F 0 = v1 ∧ F 1 = (.int .i64 a1) ∧ F 2 = (.int .i64 a2) ∧ F 3 = (.int .i64 a3) ∧ F 8 = (.bool true) ∧ F 9 = (.bool true) ∧ Hp w0 [Ent.own E4 S2 v1 a0, Ent.frz w0 (Ent.own E4 S2 v1 a0).S] w) (fun o => outc o (fun x => some x) (fun s => M.slices_pdqsortOrdered_int64__a1 a0 s) = some r) ho42 hm ⟨rfl, rfl, rfl, rfl, rfl, rfl, hL⟩ ?_ ?_
 · intro s_l1 F43 wd44 hJ hm
   have hm := outcE hm
   have hm : M.slices_pdqsortOrdered_int64__a1 a0 s_l1 = some r := hm
   unfold M.slices_pdqsortOrdered_int64__a1 at hm
   obtain ⟨f45, f46, f47, f48, f49, f50, hL⟩ := hJ
   obtain rfl := Option.some.inj hm
   exact RR0 rfl  ⟨S2, rfl, hL.mutOut 1 rfl [0] (by decide) (by decide) rfl⟩
 intro s_l1 F51 wd52 t39 hJ hm hr40
 unfold M.slices_pdqsortOrdered_int64__l1 at hm
 obtain ⟨f53, f54, f55, f56, f57, f58, hL⟩ := hJ
 refine CW.block <| CSR <| OV (.int .i64 a2) rfl (x_mv f55) <| OV (.int .i64 a1) rfl (x_mv f54) <| OV (.int .i64 (w64 (a2 - a1))) rfl (x_sub rfl rfl) <| OV (.int .i64 (w64 (a2 - a1))) rfl (x_assign) <| ONS <| CSR <| OV (.int .i64 (w64 (a2 - a1))) rfl (x_move) <| OV (.bool (decide ((w64 (a2 - a1)) ≤ 12))) rfl (x_leq rfl rfl) <| OW.nil ?_
 refine CW.condM (t := decide ((w64 (a2 - a1)) ≤ 12)) rfl hm (fun hb76 hm => ?_) (fun hb76 hm => ?_)
 · refine CSR <| OV v1 rfl (x_mv f53) <| OV (.int .i64 a1) rfl (x_mv f54) <| OV (.int .i64 a2) rfl (x_mv f55) ?_
   obtain ⟨x77, hx78, hm⟩ := bndE hm
   refine OW.cons (OP.call rfl (x_call (vs := [v1, (.int .i64 a1), (.int .i64 a2)]) Try_C124 ⟨rfl, rfl, rfl, trivial⟩) (M.slices_insertionSortOrdered_int64__ok _ a0 (hL.get 0 rfl) a1 a2 hx78) ?_)
   rintro e79 wd80 ⟨S82, rfl, hF81⟩
   refine ⟨_, rfl, ?_⟩
   have hL := hL.mut 0 rfl hF81
   simp only [lA, lB, lC, lD] at hL
   refine OW.nil <| CW.ret ?_
   obtain rfl := Option.some.inj hm
   have hm := hr40 _ rfl
   obtain rfl := Option.some.inj hm
   exact RR0 rfl  ⟨S82, rfl, hL.mutOut 1 rfl [0] (by decide) (by decide) rfl⟩
 refine CW.skip <| CW.seq <| CSR <| OV (.int .i64 a3) rfl (x_mv f56) <| OV (.bool (a3 == 0)) rfl (x_eql rfl rfl) <| OW.nil ?_
 refine CW.condM (t := a3 == 0) rfl hm (fun hb83 hm => ?_) (fun hb83 hm => ?_)
 · refine CSR <| OV v1 rfl (x_mv f53) <| OV (.int .i64 a1) rfl (x_mv f54) <| OV (.int .i64 a2) rfl (x_mv f55) ?_
   exact nomatch hm
 refine CW.skip ?_
 refine CW.seqJ (fun (s_j1 : Unit) (F : Fr) (w : World) => F 0 = v1 ∧ F 1 = (.int .i64 a1) ∧ F 2 = (.int .i64 a2) ∧ F 3 = (.int .i64 a3) ∧ F 8 = (.bool true) ∧ F 9 = (.bool true) ∧ F 10 = (.int .i64 (w64 (a2 - a1))) ∧ Hp w0 [Ent.own E4 S2 v1 a0, Ent.frz w0 (Ent.own E4 S2 v1 a0).S] w) (fun s_j1 => M.slices_pdqsortOrdered_int64__j1 s_j1 = some t39) ?_ ?_
 · refine CSR <| OV (.bool true) rfl (x_mv f57) <| OV (.bool false) rfl (x_not (b := true) rfl) <| OW.nil ?_
   refine CW.condF rfl rfl ?_
   refine CW.skip ?_
   exact ⟨(), hm, ⟨f53, f54, f55, f56, f57, f58, rfl, hL⟩⟩
 intro s_j1 F84 wd85 hJ hm
 unfold M.slices_pdqsortOrdered_int64__j1 at hm
 obtain ⟨f86, f87, f88, f89, f90, f91, f92, hL⟩ := hJ
 refine CSR <| OV v1 rfl (x_mv f86) <| OV (.int .i64 a1) rfl (x_mv f87) <| OV (.int .i64 a2) rfl (x_mv f88) ?_
 exact nomatch hm

theorem M.slices_Sort___int64_int64__ok (w0 : World) {E4 : TypeId} {S2 : Nat → Prop} {v1 : Value} (a0 : List Int) (he3 : (Ent.own E4 S2 v1 a0).H w0) {r : (Unit) × (List Int)} (hm : M.slices_Sort___int64_int64_ a0 = some r) :
    Calls Try.prog 107 #[v1] w0 fun e w' => ∃ (ioS : Nat → Prop), e = .returned (.tuple #[]) ∧ Mut w0 w' (Ent.own E4 S2 v1 a0).S [Ent.own E4 ioS v1 r.2] := by
 unfold M.slices_Sort___int64_int64_ at hm
 refine calls_CW (args := [v1]) Try.func107 rfl rfl rfl ?_
 have hL := Hp.startIO he3
 refine CSR <| OV v1 rfl (x_move) <| OV (.int .i64 (a0.length : Int)) rfl (x_lenR U25 rfl (hL.rdO 0 rfl)) <| OV (.int .i64 (a0.length : Int)) rfl (x_assign) <| OW.nil <| CW.regionL <| OV v1 rfl (x_move) <| OV (.int .i64 (a0.length : Int)) rfl (x_move) <| OV (.int .i64 (a0.length : Int)) rfl (x_move) <| OV (.int .u64 (IntKind.u64.wrap (a0.length : Int))) rfl (x_conv U3 U108 rfl) ?_
 obtain ⟨x5, hx6, hm⟩ := bndE hm
 refine OW.cons (OP.call rfl (x_call (vs := [(.int .u64 (IntKind.u64.wrap (a0.length : Int)))]) Try_C116 ⟨rfl, trivial⟩) (M.math_bits_Len_ok _ (IntKind.u64.wrap (a0.length : Int)) hx6) ?_)
 rintro e7 wd8 ⟨rfl, hF9⟩
 refine ⟨_, rfl, ?_⟩
 have hL := hL.pushAll hF9
 simp only [lA, lB, lC, lD] at hL
 obtain ⟨x10, hx11, hm⟩ := bndE hm
 refine OW.cons (OP.call rfl (x_call (vs := [v1, (.int .i64 0), (.int .i64 (a0.length : Int)), (.int .i64 x5)]) Try_C115 ⟨rfl, rfl, rfl, rfl, trivial⟩) (M.slices_pdqsortOrdered_int64__ok _ a0 (hL.get 0 rfl) 0 (a0.length : Int) x5 hx11) ?_)
 rintro e12 wd13 ⟨S15, rfl, hF14⟩
 refine ⟨_, rfl, ?_⟩
 have hL := hL.mut 0 rfl hF14
 simp only [lA, lB, lC, lD] at hL
 refine OW.nil ?_
 obtain rfl := Option.some.inj hm
 exact RR0 rfl  ⟨S15, rfl, hL.mutOut 1 rfl [0] (by decide) (by decide) rfl⟩

theorem M.impl_discardsOf_ok (w0 : World) (a0 : Table) {v1 : Value} {v3 : Value} (h2 : rdL (· < w0.heap.size) w0 v1 a0.Points) (h4 : rdL (· < w0.heap.size) w0 v3 a0.Codes) (a1 : List Int) {v5 : Value} (h6 : rdL (· < w0.heap.size) w0 v5 a1) (a2 : Int) {r : (List Int)} (hm : M.impl_discardsOf a0 a1 a2 = some r) :
    Calls Try.prog 78 #[(.agg #[(.int .i64 a0.Boats), v1, v3]), v5, (.int .i64 a2)] w0 fun e w' => ∃ (rv0 : Value) (rS0 : Nat → Prop), e = .returned rv0 ∧ Fresh w0 w' [Ent.own 2 rS0 rv0 r] := by
 unfold M.impl_discardsOf at hm
 refine calls_CW (args := [(.agg #[(.int .i64 a0.Boats), v1, v3]), v5, (.int .i64 a2)]) Try.func78 rfl rfl rfl ?_
 have hL := Hp.start w0
 refine CSR ?_
 refine OW.cons (S_box (cs := #[(.int .i64 a0.Boats), v1, v3]) hL rfl rfl rfl ?_)
 intro wd7 b8 hL
 refine OW.cons (S_box (cs := #[(.int .i64 a2)]) hL rfl rfl rfl ?_)
 intro wd9 b10 hL
 refine OV (.slice none 0 0) rfl (x_assign) <| ONR ?_
 refine OW.cons (S_lit ([] : List Int) hL U25 Try_T2 rfl (by decide) (by first | (simp [Instr.fill, madeCells, Value.cells, ev, upd, Flat.enc, Flat.sz]; done) | rfl | kernel_rfl) rfl rfl ?_)
 intro wd11 v12 S13 hL
 refine OV v5 rfl (x_move) <| OV (.pointer (some ⟨b8, 1, none⟩)) rfl (x_fieldAddr (fsz := 1) 0 1 1 U29 rfl Try_T22 rfl rfl rfl) <| OV v1 rfl (x_load1 U22 rfl rfl (hL.cellB 2 rfl rfl)) <| OV (.int .i64 (a0.Points.length : Int)) rfl (x_lenR U22 rfl (hL.rdS 3 rfl h2)) ?_
 obtain ⟨x14, hx15, hm⟩ := bndE hm
 refine OW.cons (OP.call rfl (x_call (vs := [v5, (.int .i64 (a0.Points.length : Int))]) Try_C82 ⟨rfl, rfl, trivial⟩) (M.impl_discardCount_ok _ a1 (hL.rdS 3 rfl h6) (a0.Points.length : Int) hx15) ?_)
 rintro e16 wd17 ⟨rfl, hF18⟩
 refine ⟨_, rfl, ?_⟩
 have hL := hL.pushAll hF18
 simp only [lA, lB, lC, lD] at hL
 refine OV v12 rfl (x_assign) <| OV (.int .i64 x14) rfl (x_assign) <| ONS <| CSR <| OV (.pointer (some ⟨b8, 1, none⟩)) rfl (x_fieldAddr (fsz := 1) 0 1 1 U29 rfl Try_T22 rfl rfl rfl) <| OV v1 rfl (x_load1 U22 rfl rfl (hL.cellB 2 rfl rfl)) <| OV (.int .i64 (a0.Points.length : Int)) rfl (x_lenR U22 rfl (hL.rdS 3 rfl h2)) <| OV (.func (.func 106) #[] #[(.pointer (some ⟨b8, 0, none⟩)), (.pointer (some ⟨b10, 0, none⟩))]) rfl (x_makeFunc (vs := [(.pointer (some ⟨b8, 0, none⟩)), (.pointer (some ⟨b10, 0, none⟩))]) ⟨rfl, rfl, trivial⟩) ?_
 obtain ⟨x19, hx20, hm⟩ := bndE hm
 refine OW.cons (OP.call rfl (x_call (vs := [(.int .i64 (a0.Points.length : Int)), (.func (.func 106) #[] #[(.pointer (some ⟨b8, 0, none⟩)), (.pointer (some ⟨b10, 0, none⟩))])]) Try_C73 ⟨rfl, rfl, trivial⟩) (M.impl_sortedIndices_ok _ (a0.Points.length : Int) (fun y0 y1 => M.impl_discardsOf_1 y0 y1 a0 a2) ⟨Try_C106, fun yw hag yvs yv hR => by obtain ⟨y0, y1, yr, rfl, hyf, rfl⟩ := hR; exact M.impl_discardsOf_1_ok yw y0 y1 a0 (hag.rdL (hL.rdS 3 rfl h2)) (hag.rdL (hL.rdS 3 rfl h4)) (hag.bx (hL.bxB 2 rfl)) a2 (hag.bx (hL.bxB 1 rfl)) hyf⟩ hx20) ?_)
 rintro e23 wd24 ⟨v22, S21, rfl, hF25⟩
 refine ⟨_, rfl, ?_⟩
 have hL := hL.pushAll hF25
 simp only [lA, lB, lC, lD] at hL
 refine OV (.int .i64 (x19.length : Int)) rfl (x_lenR U25 rfl (hL.rdO 0 rfl)) <| OV (.int .i64 0) rfl (x_move) <| OW.nil ?_
 obtain ⟨o644, ho645, hm⟩ := bndE hm
 have hL := hL.sel [1, 0, 2, 3, 4] (by decide) rfl
 refine CW.loopB (fun (s_l1 : (List Int) × Int × Int) (F : Fr) (w : World) => ∃ (v640 : Value) (S641 : Nat → Prop), F 3 = (.pointer (some ⟨b8, 0, none⟩)) ∧ F 5 = (.pointer (some ⟨b10, 0, none⟩)) ∧ F 7 = v640 ∧ F 8 = (.int .i64 s_l1.2.1) ∧ F 21 = v22 ∧ F 22 = (.int .i64 (x19.length : Int)) ∧ F 23 = (.int .i64 s_l1.2.2) ∧ Hp w0 [Ent.own 2 S641 v640 s_l1.1, Ent.own 2 S21 v22 x19, Ent.blk b10 2 #[(.int .i64 a2)], Ent.blk b8 29 #[(.int .i64 a0.Boats), v1, v3], Ent.snap w0 w0.heap.size] w) (fun o => outc o (fun x => some x) (fun s => M.impl_discardsOf_a1 s) = some r) ho645 hm ⟨v12, S13, rfl, rfl, rfl, rfl, rfl, rfl, rfl, hL⟩ ?_ ?_
 · intro s_l1 F646 wd647 hJ hm
   have hm := outcE hm
   have hm : M.impl_discardsOf_a1 s_l1 = some r := hm
   unfold M.impl_discardsOf_a1 at hm
   obtain ⟨v640, S641, f648, f649, f650, f651, f652, f653, f654, hL⟩ := hJ
   refine CSR <| OV v640 rfl (x_mv f650) ?_
   obtain ⟨x655, hx656, hm⟩ := bndE hm
   refine OW.cons (OP.call rfl (x_call (vs := [v640]) Try_C107 ⟨rfl, trivial⟩) (M.slices_Sort___int64_int64__ok _ s_l1.1 (hL.get 0 rfl) hx656) ?_)
   rintro e657 wd658 ⟨S660, rfl, hF659⟩
   refine ⟨_, rfl, ?_⟩
   have hL := hL.mut 0 rfl hF659
   simp only [lA, lB, lC, lD] at hL
   refine ONR <| OV v640 rfl (x_mv f650) <| OV v640 rfl (x_assign) <| OW.nil <| CW.ret ?_
   obtain rfl := Option.some.inj hm
   exact RR1 rfl rfl ⟨v640, S660, rfl, hL.fresh 4 rfl [0] (by decide) (by decide) rfl⟩
 intro s_l1 F661 wd662 t642 hJ hm hr643
 unfold M.impl_discardsOf_l1 at hm
 obtain ⟨v640, S641, f663, f664, f665, f666, f667, f668, f669, hL⟩ := hJ
 refine CSR <| OV (.bool (decide (s_l1.2.2 < (x19.length : Int)))) rfl (x_lss f669 f668) <| ONS ?_
 refine CW.condM (t := decide (s_l1.2.2 < (x19.length : Int))) rfl hm (fun hb670 hm => ?_) (fun hb670 hm => ?_)
 · refine CW.skip ?_
   refine CW.seqJ (fun (s_j1 : (List Int) × Int) (F : Fr) (w : World) => ∃ (v818 : Value) (S819 : Nat → Prop), F 3 = (.pointer (some ⟨b8, 0, none⟩)) ∧ F 5 = (.pointer (some ⟨b10, 0, none⟩)) ∧ F 7 = v818 ∧ F 8 = (.int .i64 s_j1.2) ∧ F 21 = v22 ∧ F 22 = (.int .i64 (x19.length : Int)) ∧ F 23 = (.int .i64 s_l1.2.2) ∧ Hp w0 [Ent.own 2 S819 v818 s_j1.1, Ent.own 2 S21 v22 x19, Ent.blk b10 2 #[(.int .i64 a2)], Ent.blk b8 29 #[(.int .i64 a0.Boats), v1, v3], Ent.snap w0 w0.heap.size] w) (fun s_j1 => M.impl_discardsOf_j1 s_l1 s_j1 = some t642) ?_ ?_
   · refine CW.blockJ (fun (s_j2 : (List Int) × Int) (F : Fr) (w : World) => ∃ (v897 : Value) (S898 : Nat → Prop), F 3 = (.pointer (some ⟨b8, 0, none⟩)) ∧ F 5 = (.pointer (some ⟨b10, 0, none⟩)) ∧ F 7 = v897 ∧ F 8 = (.int .i64 s_j2.2) ∧ F 21 = v22 ∧ F 22 = (.int .i64 (x19.length : Int)) ∧ F 23 = (.int .i64 s_l1.2.2) ∧ Hp w0 [Ent.own 2 S898 v897 s_j2.1, Ent.own 2 S21 v22 x19, Ent.blk b10 2 #[(.int .i64 a2)], Ent.blk b8 29 #[(.int .i64 a0.Boats), v1, v3], Ent.snap w0 w0.heap.size] w) (fun s_j2 => M.impl_discardsOf_j2 s_l1 s_j2 = some t642) ?_ ?_
     · refine CSR ?_
       obtain ⟨x908, ha909, hm⟩ := bndE hm
       obtain ⟨hz910, ha914⟩ := idxE ha909
       obtain ⟨b911, q912, hix913⟩ := rdL_ix (hL.rdO 1 rfl) hz910 ha914
       refine OV (.pointer (some ⟨b911, q912, none⟩)) rfl (x_ix U25 Try_T2 f667 f669 hix913) <| OV (.int .i64 x908) rfl (x_load1 U2 rfl rfl (rdF_cells (hL.rdO 1 rfl) hix913 ha914 0 _ rfl)) <| OV (.int .i64 x908) rfl (x_assign) <| OW.nil ?_
       refine CW.seqJ (fun (s_j3 : Bool) (F : Fr) (w : World) => F 3 = (.pointer (some ⟨b8, 0, none⟩)) ∧ F 5 = (.pointer (some ⟨b10, 0, none⟩)) ∧ F 7 = v640 ∧ F 8 = (.int .i64 s_l1.2.1) ∧ F 10 = (.int .i64 x908) ∧ F 21 = v22 ∧ F 22 = (.int .i64 (x19.length : Int)) ∧ F 23 = (.int .i64 s_l1.2.2) ∧ F 39 = (.bool s_j3) ∧ Hp w0 [Ent.own 2 S641 v640 s_l1.1, Ent.own 2 S21 v22 x19, Ent.blk b10 2 #[(.int .i64 a2)], Ent.blk b8 29 #[(.int .i64 a0.Boats), v1, v3], Ent.snap w0 w0.heap.size] w) (fun s_j3 => M.impl_discardsOf_j3 s_l1 x908 s_j3 = some t642) ?_ ?_
       · refine CW.draw Try_mixed ?_
         have hL := hL.call (Mod.drew _)
         refine DW.pre (fuel := 0) (fin := bma 13 8191) (C := fun w' => Mod None_ _ w') [0, 1, 2, 3, 4, 5, 6, 7, 8, 9, 10, 11, 12] (Mod.refl _ _) (by kernel_rfl) (by kernel_rfl) ?_
         refine QV (.int .i64 s_l1.2.1) rfl rfl (fun w' hm' => x_mv f666) <| QV (.bool (decide (0 < s_l1.2.1))) rfl rfl (fun w' hm' => x_gtr rfl rfl) <| QV (.bool (decide (0 < s_l1.2.1))) rfl rfl (fun w' hm' => x_move) ?_
         refine ifB_elim hm (fun hb955 hm => ?_) (fun hb955 hm => ?_)
         · refine QW.cons rfl (QP.yes' rfl rfl hb955 (QP.val (v := (.pointer (some ⟨b8, 2, none⟩))) rfl (fun w' hm' => x_fieldAddr (fsz := 1) 0 2 2 U29 rfl Try_T22 rfl f663 rfl) ?_))
           refine QW.cons rfl (QP.yes' rfl rfl hb955 (QP.val (v := v3) rfl (fun w' hm' => x_load1 U22 rfl rfl ((hL.call hm').cellB 3 rfl rfl)) ?_))
           refine QW.cons rfl (QP.yes' rfl rfl hb955 (QP.val (v := (.int .i64 x908)) rfl (fun w' hm' => x_move) ?_))
           obtain ⟨x956, ha957, hm⟩ := bndE hm
           obtain ⟨hz958, ha966⟩ := idxE ha957
           obtain ⟨b959, q960, v961, hix962, hs963, hc964, hr965⟩ := rdN_at h4 hz958 ha966
           refine QW.cons rfl (QP.yes' rfl rfl hb955 (QP.val (v := (.pointer (some ⟨b959, q960, none⟩))) rfl (fun w' hm' => x_ix U22 Try_T25 rfl rfl hix962) ?_))
           refine QW.cons rfl (QP.yes' rfl rfl hb955 (QP.val (v := v961) rfl (fun w' hm' => x_load1 U25 rfl rfl ((hL.call hm').cellS 4 rfl hs963 hc964)) ?_))
           refine QW.cons rfl (QP.yes' rfl rfl hb955 (QP.val (v := (.int .i64 a2)) rfl (fun w' hm' => x_load1 U2 rfl f664 ((hL.call hm').cellB 2 rfl rfl)) ?_))
           obtain ⟨x967, ha968, hm⟩ := bndE hm
           obtain ⟨hz969, ha973⟩ := idxE ha968
           obtain ⟨b970, q971, hix972⟩ := rdL_ix (hL.rdS 4 rfl hr965) hz969 ha973
           refine QW.cons rfl (QP.yes' rfl rfl hb955 (QP.val (v := (.pointer (some ⟨b970, q971, none⟩))) rfl (fun w' hm' => x_ix U25 Try_T2 rfl rfl hix972) ?_))
           refine QW.cons rfl (QP.yes' rfl rfl hb955 (QP.val (v := (.int .i64 x967)) rfl (fun w' hm' => x_load1 U2 rfl rfl (rdF_cells ((hL.call hm').rdS 4 rfl hr965) hix972 ha973 0 _ rfl)) ?_))
           refine QW.cons rfl (QP.yes' rfl rfl hb955 (QP.val (v := (.bool (x967 != 7))) rfl (fun w' hm' => x_neq rfl rfl) ?_))
           refine QV (.bool (x967 != 7)) rfl rfl (fun w' hm' => x_pickT' rfl hb955 rfl) ?_
           refine QW.nil ?_
           intro wd974 hmod
           have hL := hL.call hmod
           refine DW.done (by kernel_rfl) ?_
           exact ⟨x967 != 7, hm, ⟨f663, f664, f665, f666, rfl, f667, f668, f669, rfl, hL⟩⟩
         refine QW.cons rfl (QP.no' rfl rfl hb955 rfl ?_)
         refine QW.cons rfl (QP.no' rfl rfl hb955 rfl ?_)
         refine QW.cons rfl (QP.no' rfl rfl hb955 rfl ?_)
         refine QW.cons rfl (QP.no' rfl rfl hb955 rfl ?_)
         refine QW.cons rfl (QP.no' rfl rfl hb955 rfl ?_)
         refine QW.cons rfl (QP.no' rfl rfl hb955 rfl ?_)
         refine QW.cons rfl (QP.no' rfl rfl hb955 rfl ?_)
         refine QW.cons rfl (QP.no' rfl rfl hb955 rfl ?_)
         refine QW.cons rfl (QP.no' rfl rfl hb955 rfl ?_)
         refine QV (.bool false) rfl rfl (fun w' hm' => x_pickF' rfl hb955 rfl) ?_
         refine QW.nil ?_
         intro wd975 hmod
         have hL := hL.call hmod
         refine DW.done (by kernel_rfl) ?_
         exact ⟨false, hm, ⟨f663, f664, f665, f666, rfl, f667, f668, f669, rfl, hL⟩⟩
       intro s_j3 F936 wd937 hJ hm
       unfold M.impl_discardsOf_j3 at hm
       obtain ⟨f938, f939, f940, f941, f942, f943, f944, f945, f946, hL⟩ := hJ
       refine CW.condM (t := s_j3) f946 hm (fun hb947 hm => ?_) (fun hb947 hm => ?_)
       · refine CSR <| OV v640 rfl (x_mv f940) <| OV (.int .i64 x908) rfl (x_mv f942) ?_
         refine OW.cons (S_lit ([x908] : List Int) hL U25 Try_T2 rfl (by decide) (by first | (simp [Instr.fill, madeCells, Value.cells, ev, upd, Flat.enc, Flat.sz]; done) | rfl | kernel_rfl) rfl rfl ?_)
         intro wd948 v949 S950 hL
         obtain ⟨hc954, hm⟩ := chkE hm
         refine OW.cons (S_append (ys := ([x908] : List Int)) hL 1 rfl U25 Try_T2 rfl rfl rfl (hL.rdO 0 rfl) hc954 (by decide) rfl ?_)
         intro wd951 v952 S953 hL
         refine OV v952 rfl (x_assign) <| OW.nil <| CW.regionL <| OV (.int .i64 s_l1.2.1) rfl (x_mv f941) <| OV (.int .i64 (w64 (s_l1.2.1 - 1))) rfl (x_sub rfl rfl) <| OV (.int .i64 (w64 (s_l1.2.1 - 1))) rfl (x_assign) <| OW.nil ?_
         have hL := hL.sel [1, 2, 3, 4, 5] (by decide) rfl
         exact ⟨(s_l1.1 ++ ([x908] : List Int), w64 (s_l1.2.1 - 1)), hm, ⟨v952, S953, f938, f939, rfl, rfl, f943, f944, f945, hL⟩⟩
       refine CW.skip ?_
       exact ⟨(s_l1.1, s_l1.2.1), hm, ⟨v640, S641, f938, f939, f940, f941, f943, f944, f945, hL⟩⟩
     intro s_j2 F899 wd900 hJ hm
     unfold M.impl_discardsOf_j2 at hm
     obtain ⟨v897, S898, f901, f902, f903, f904, f905, f906, f907, hL⟩ := hJ
     exact ⟨(s_j2.1, s_j2.2), hm, ⟨v897, S898, f901, f902, f903, f904, f905, f906, f907, hL⟩⟩
   intro s_j1 F820 wd821 hJ hm
   unfold M.impl_discardsOf_j1 at hm
   obtain ⟨v818, S819, f822, f823, f824, f825, f826, f827, f828, hL⟩ := hJ
   refine CW.regionL <| OV (.int .i64 (w64 (s_l1.2.2 + 1))) rfl (x_add f828 rfl) <| OV (.int .i64 (w64 (s_l1.2.2 + 1))) rfl (x_move) <| OW.nil ?_
   obtain rfl := Option.some.inj hm
   exact ⟨_, rfl, ⟨v818, S819, f822, f823, f824, f825, f826, f827, rfl, hL⟩⟩
 refine CW.exit ?_
 refine XJ.hit ?_
 obtain rfl := Option.some.inj hm
 exact ⟨_, rfl, ⟨v640, S641, f663, f664, f665, f666, f667, f668, f669, hL⟩⟩

end Go.Proofs.Ytpobaajdhfoomaa
