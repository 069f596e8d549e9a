/- Links: each Go function returns what its model computes and leaves what was there. Printed by my generator. -/
import Derived.Test.YtgelmamcinlahaaGreatMod2
import Derived.Test.YtgelmamcinlahaaGreatBase8
import Derived.Test.YtgelmamcinlahaaGreatProg
import Derived.KernelRfl
namespace Go.Proofs.YtgelmamcinlahaaGreat
set_option maxRecDepth 10000
open Go Go.RowKit Go.ChangeShapes Go.WideShapes
set_option linter.unusedVariables false
set_option linter.unusedSimpArgs false

theorem Tryz_mixed : Tryz.prog.follows .mixedOrders = true := by kernel_rfl
theorem Tryz_T2 : TyI Tryz.prog 2 1 8 (.int .i64 0) := by unfold TyI; kernel_rfl
theorem Tryz_T4 : TyI Tryz.prog 4 1 1 (.bool false) := by unfold TyI; kernel_rfl
theorem Tryz_T22 : TyI Tryz.prog 22 1 24 (.slice none 0 0) := by unfold TyI; kernel_rfl
theorem Tryz_T24 : TyI Tryz.prog 24 3 40 (.agg #[.int .i64 0, .int .i64 0, .slice none 0 0]) := by unfold TyI; kernel_rfl
theorem Tryz_T26 : TyI Tryz.prog 26 1 24 (.slice none 0 0) := by unfold TyI; kernel_rfl
theorem Tryz_T31 : TyI Tryz.prog 31 1 24 (.slice none 0 0) := by unfold TyI; kernel_rfl
theorem Tryz_T33 : TyI Tryz.prog 33 3 40 (.agg #[.int .i64 0, .int .i64 0, .slice none 0 0]) := by unfold TyI; kernel_rfl
theorem Tryz_T47 : TyI Tryz.prog 47 1 24 (.slice none 0 0) := by unfold TyI; kernel_rfl
theorem Tryz_T49 : TyI Tryz.prog 49 3 56 (.agg #[.int .i64 0, .slice none 0 0, .slice none 0 0]) := by unfold TyI; kernel_rfl
theorem Tryz_T53 : TyI Tryz.prog 53 4 32 (.agg #[.int .i64 0, .int .i64 0, .int .i64 0, .int .i64 0]) := by unfold TyI; kernel_rfl
theorem Tryz_T55 : TyI Tryz.prog 55 4 32 (.agg #[.int .i64 0, .int .i64 0, .int .i64 0, .int .i64 0]) := by unfold TyI; kernel_rfl
theorem Tryz_T61 : TyI Tryz.prog 61 1 24 (.slice none 0 0) := by unfold TyI; kernel_rfl
theorem Tryz_T63 : TyI Tryz.prog 63 1 24 (.agg #[.slice none 0 0]) := by unfold TyI; kernel_rfl
theorem Tryz_T73 : TyI Tryz.prog 73 1 24 (.slice none 0 0) := by unfold TyI; kernel_rfl
theorem Tryz_T75 : TyI Tryz.prog 75 1 24 (.agg #[.slice none 0 0]) := by unfold TyI; kernel_rfl
theorem Tryz_T79 : TyI Tryz.prog 79 3 24 (.agg #[.int .i64 0, .int .i64 0, .int .i64 0]) := by unfold TyI; kernel_rfl
theorem Tryz_T104 : TyI Tryz.prog 104 3 24 (.agg #[.int .i64 0, .int .i64 0, .int .i64 0]) := by unfold TyI; kernel_rfl
theorem Tryz_B33 : BuildI Tryz.prog 33 [(0, 1), (1, 1), (2, 1)] #[.int .i64 0, .int .i64 0, .slice none 0 0] := by unfold BuildI; kernel_rfl
theorem Tryz_B49 : BuildI Tryz.prog 49 [(0, 1), (1, 1), (2, 1)] #[.int .i64 0, .slice none 0 0, .slice none 0 0] := by unfold BuildI; kernel_rfl
theorem Tryz_B75 : BuildI Tryz.prog 75 [(0, 1)] #[.slice none 0 0] := by unfold BuildI; kernel_rfl
theorem Tryz_B79 : BuildI Tryz.prog 79 [(0, 1), (1, 1), (2, 1)] #[.int .i64 0, .int .i64 0, .int .i64 0] := by unfold BuildI; kernel_rfl
theorem Tryz_C4 : CallOK Tryz.prog 4 := ⟨_, _, Tryz.func4, rfl, by kernel_rfl⟩
theorem Tryz_C5 : CallOK Tryz.prog 5 := ⟨_, _, Tryz.func5, rfl, by kernel_rfl⟩
theorem Tryz_C6 : CallOK Tryz.prog 6 := ⟨_, _, Tryz.func6, rfl, by kernel_rfl⟩
theorem Tryz_C7 : CallOK Tryz.prog 7 := ⟨_, _, Tryz.func7, rfl, by kernel_rfl⟩
theorem Tryz_C8 : CallOK Tryz.prog 8 := ⟨_, _, Tryz.func8, rfl, by kernel_rfl⟩
theorem Tryz_C9 : CallOK Tryz.prog 9 := ⟨_, _, Tryz.func9, rfl, by kernel_rfl⟩
theorem Tryz_C10 : CallOK Tryz.prog 10 := ⟨_, _, Tryz.func10, rfl, by kernel_rfl⟩
theorem Tryz_C11 : CallOK Tryz.prog 11 := ⟨_, _, Tryz.func11, rfl, by kernel_rfl⟩
theorem Tryz_C12 : CallOK Tryz.prog 12 := ⟨_, _, Tryz.func12, rfl, by kernel_rfl⟩
theorem Tryz_C13 : CallOK Tryz.prog 13 := ⟨_, _, Tryz.func13, rfl, by kernel_rfl⟩
theorem Tryz_C14 : CallOK Tryz.prog 14 := ⟨_, _, Tryz.func14, rfl, by kernel_rfl⟩
theorem Tryz_C15 : CallOK Tryz.prog 15 := ⟨_, _, Tryz.func15, rfl, by kernel_rfl⟩
theorem Tryz_C16 : CallOK Tryz.prog 16 := ⟨_, _, Tryz.func16, rfl, by kernel_rfl⟩
theorem Tryz_C17 : CallOK Tryz.prog 17 := ⟨_, _, Tryz.func17, rfl, by kernel_rfl⟩
theorem Tryz_C18 : CallOK Tryz.prog 18 := ⟨_, _, Tryz.func18, rfl, by kernel_rfl⟩
theorem Tryz_C19 : CallOK Tryz.prog 19 := ⟨_, _, Tryz.func19, rfl, by kernel_rfl⟩
theorem Tryz_C20 : CallOK Tryz.prog 20 := ⟨_, _, Tryz.func20, rfl, by kernel_rfl⟩
theorem Tryz_C21 : CallOK Tryz.prog 21 := ⟨_, _, Tryz.func21, rfl, by kernel_rfl⟩
theorem Tryz_C22 : CallOK Tryz.prog 22 := ⟨_, _, Tryz.func22, rfl, by kernel_rfl⟩
theorem Tryz_C23 : CallOK Tryz.prog 23 := ⟨_, _, Tryz.func23, rfl, by kernel_rfl⟩
theorem Tryz_C24 : CallOK Tryz.prog 24 := ⟨_, _, Tryz.func24, rfl, by kernel_rfl⟩
theorem Tryz_C25 : CallOK Tryz.prog 25 := ⟨_, _, Tryz.func25, rfl, by kernel_rfl⟩
theorem Tryz_C26 : CallOK Tryz.prog 26 := ⟨_, _, Tryz.func26, rfl, by kernel_rfl⟩
theorem Tryz_C27 : CallOK Tryz.prog 27 := ⟨_, _, Tryz.func27, rfl, by kernel_rfl⟩
theorem Tryz_C28 : CallOK Tryz.prog 28 := ⟨_, _, Tryz.func28, rfl, by kernel_rfl⟩
theorem Tryz_C29 : CallOK Tryz.prog 29 := ⟨_, _, Tryz.func29, rfl, by kernel_rfl⟩
theorem Tryz_C30 : CallOK Tryz.prog 30 := ⟨_, _, Tryz.func30, rfl, by kernel_rfl⟩
theorem Tryz_C31 : CallOK Tryz.prog 31 := ⟨_, _, Tryz.func31, rfl, by kernel_rfl⟩
theorem Tryz_C32 : CallOK Tryz.prog 32 := ⟨_, _, Tryz.func32, rfl, by kernel_rfl⟩
theorem Tryz_C33 : CallOK Tryz.prog 33 := ⟨_, _, Tryz.func33, rfl, by kernel_rfl⟩
theorem Tryz_C34 : CallOK Tryz.prog 34 := ⟨_, _, Tryz.func34, rfl, by kernel_rfl⟩
theorem Tryz_C35 : CallOK Tryz.prog 35 := ⟨_, _, Tryz.func35, rfl, by kernel_rfl⟩
theorem Tryz_C36 : CallOK Tryz.prog 36 := ⟨_, _, Tryz.func36, rfl, by kernel_rfl⟩
theorem Tryz_C37 : CallOK Tryz.prog 37 := ⟨_, _, Tryz.func37, rfl, by kernel_rfl⟩
theorem Tryz_C38 : CallOK Tryz.prog 38 := ⟨_, _, Tryz.func38, rfl, by kernel_rfl⟩
theorem Tryz_C39 : CallOK Tryz.prog 39 := ⟨_, _, Tryz.func39, rfl, by kernel_rfl⟩
theorem Tryz_C40 : CallOK Tryz.prog 40 := ⟨_, _, Tryz.func40, rfl, by kernel_rfl⟩
theorem Tryz_C41 : CallOK Tryz.prog 41 := ⟨_, _, Tryz.func41, rfl, by kernel_rfl⟩
theorem Tryz_C42 : CallOK Tryz.prog 42 := ⟨_, _, Tryz.func42, rfl, by kernel_rfl⟩
theorem Tryz_C43 : CallOK Tryz.prog 43 := ⟨_, _, Tryz.func43, rfl, by kernel_rfl⟩
theorem Tryz_C44 : CallOK Tryz.prog 44 := ⟨_, _, Tryz.func44, rfl, by kernel_rfl⟩
theorem Tryz_C45 : CallOK Tryz.prog 45 := ⟨_, _, Tryz.func45, rfl, by kernel_rfl⟩
theorem Tryz_C46 : CallOK Tryz.prog 46 := ⟨_, _, Tryz.func46, rfl, by kernel_rfl⟩
theorem Tryz_C47 : CallOK Tryz.prog 47 := ⟨_, _, Tryz.func47, rfl, by kernel_rfl⟩
theorem Tryz_C48 : CallOK Tryz.prog 48 := ⟨_, _, Tryz.func48, rfl, by kernel_rfl⟩
theorem Tryz_C49 : CallOK Tryz.prog 49 := ⟨_, _, Tryz.func49, rfl, by kernel_rfl⟩
theorem Tryz_C50 : CallOK Tryz.prog 50 := ⟨_, _, Tryz.func50, rfl, by kernel_rfl⟩
theorem Tryz_C51 : CallOK Tryz.prog 51 := ⟨_, _, Tryz.func51, rfl, by kernel_rfl⟩
theorem Tryz_C52 : CallOK Tryz.prog 52 := ⟨_, _, Tryz.func52, rfl, by kernel_rfl⟩
theorem Tryz_C53 : CallOK Tryz.prog 53 := ⟨_, _, Tryz.func53, rfl, by kernel_rfl⟩
theorem Tryz_C54 : CallOK Tryz.prog 54 := ⟨_, _, Tryz.func54, rfl, by kernel_rfl⟩
theorem Tryz_C55 : CallOK Tryz.prog 55 := ⟨_, _, Tryz.func55, rfl, by kernel_rfl⟩
theorem Tryz_C56 : CallOK Tryz.prog 56 := ⟨_, _, Tryz.func56, rfl, by kernel_rfl⟩
theorem Tryz_C57 : CallOK Tryz.prog 57 := ⟨_, _, Tryz.func57, rfl, by kernel_rfl⟩
theorem Tryz_C58 : CallOK Tryz.prog 58 := ⟨_, _, Tryz.func58, rfl, by kernel_rfl⟩
theorem Tryz_C59 : CallOK Tryz.prog 59 := ⟨_, _, Tryz.func59, rfl, by kernel_rfl⟩
theorem Tryz_C60 : CallOK Tryz.prog 60 := ⟨_, _, Tryz.func60, rfl, by kernel_rfl⟩
theorem Tryz_C61 : CallOK Tryz.prog 61 := ⟨_, _, Tryz.func61, rfl, by kernel_rfl⟩
theorem Tryz_C62 : CallOK Tryz.prog 62 := ⟨_, _, Tryz.func62, rfl, by kernel_rfl⟩
theorem Tryz_C63 : CallOK Tryz.prog 63 := ⟨_, _, Tryz.func63, rfl, by kernel_rfl⟩
theorem Tryz_C64 : CallOK Tryz.prog 64 := ⟨_, _, Tryz.func64, rfl, by kernel_rfl⟩
theorem Tryz_C65 : CallOK Tryz.prog 65 := ⟨_, _, Tryz.func65, rfl, by kernel_rfl⟩
theorem Tryz_C66 : CallOK Tryz.prog 66 := ⟨_, _, Tryz.func66, rfl, by kernel_rfl⟩
theorem Tryz_C67 : CallOK Tryz.prog 67 := ⟨_, _, Tryz.func67, rfl, by kernel_rfl⟩
theorem Tryz_C68 : CallOK Tryz.prog 68 := ⟨_, _, Tryz.func68, rfl, by kernel_rfl⟩
theorem Tryz_C69 : CallOK Tryz.prog 69 := ⟨_, _, Tryz.func69, rfl, by kernel_rfl⟩
theorem Tryz_C70 : CallOK Tryz.prog 70 := ⟨_, _, Tryz.func70, rfl, by kernel_rfl⟩
theorem Tryz_C71 : CallOK Tryz.prog 71 := ⟨_, _, Tryz.func71, rfl, by kernel_rfl⟩
theorem Tryz_C72 : CallOK Tryz.prog 72 := ⟨_, _, Tryz.func72, rfl, by kernel_rfl⟩
theorem Tryz_C73 : CallOK Tryz.prog 73 := ⟨_, _, Tryz.func73, rfl, by kernel_rfl⟩
theorem Tryz_C74 : CallOK Tryz.prog 74 := ⟨_, _, Tryz.func74, rfl, by kernel_rfl⟩
theorem Tryz_C75 : CallOK Tryz.prog 75 := ⟨_, _, Tryz.func75, rfl, by kernel_rfl⟩
theorem Tryz_C76 : CallOK Tryz.prog 76 := ⟨_, _, Tryz.func76, rfl, by kernel_rfl⟩
theorem Tryz_C77 : CallOK Tryz.prog 77 := ⟨_, _, Tryz.func77, rfl, by kernel_rfl⟩
theorem Tryz_C78 : CallOK Tryz.prog 78 := ⟨_, _, Tryz.func78, rfl, by kernel_rfl⟩
theorem Tryz_C79 : CallOK Tryz.prog 79 := ⟨_, _, Tryz.func79, rfl, by kernel_rfl⟩
theorem Tryz_C80 : CallOK Tryz.prog 80 := ⟨_, _, Tryz.func80, rfl, by kernel_rfl⟩
theorem Tryz_C81 : CallOK Tryz.prog 81 := ⟨_, _, Tryz.func81, rfl, by kernel_rfl⟩
theorem Tryz_C82 : CallOK Tryz.prog 82 := ⟨_, _, Tryz.func82, rfl, by kernel_rfl⟩
theorem Tryz_C83 : CallOK Tryz.prog 83 := ⟨_, _, Tryz.func83, rfl, by kernel_rfl⟩
theorem Tryz_C84 : CallOK Tryz.prog 84 := ⟨_, _, Tryz.func84, rfl, by kernel_rfl⟩
theorem Tryz_C85 : CallOK Tryz.prog 85 := ⟨_, _, Tryz.func85, rfl, by kernel_rfl⟩
theorem Tryz_C86 : CallOK Tryz.prog 86 := ⟨_, _, Tryz.func86, rfl, by kernel_rfl⟩
theorem Tryz_C87 : CallOK Tryz.prog 87 := ⟨_, _, Tryz.func87, rfl, by kernel_rfl⟩
theorem Tryz_C88 : CallOK Tryz.prog 88 := ⟨_, _, Tryz.func88, rfl, by kernel_rfl⟩
theorem Tryz_C89 : CallOK Tryz.prog 89 := ⟨_, _, Tryz.func89, rfl, by kernel_rfl⟩
theorem Tryz_C95 : CallOK Tryz.prog 95 := ⟨_, _, Tryz.func95, rfl, by kernel_rfl⟩
theorem Tryz_C99 : CallOK Tryz.prog 99 := ⟨_, _, Tryz.func99, rfl, by kernel_rfl⟩
theorem Tryz_C100 : CallOK Tryz.prog 100 := ⟨_, _, Tryz.func100, rfl, by kernel_rfl⟩
theorem Tryz_C101 : CallOK Tryz.prog 101 := ⟨_, _, Tryz.func101, rfl, by kernel_rfl⟩
theorem Tryz_C107 : CallOK Tryz.prog 107 := ⟨_, _, Tryz.func107, rfl, by kernel_rfl⟩
theorem Tryz_C108 : CallOK Tryz.prog 108 := ⟨_, _, Tryz.func108, rfl, by kernel_rfl⟩
theorem Tryz_C110 : CallOK Tryz.prog 110 := ⟨_, _, Tryz.func110, rfl, by kernel_rfl⟩
abbrev U2 := @Tryz.underlying2
abbrev U3 := @Tryz.underlying3
abbrev U4 := @Tryz.underlying4
abbrev U5 := @Tryz.underlying5
abbrev U9 := @Tryz.underlying9
abbrev U22 := @Tryz.underlying22
abbrev U24 := @Tryz.underlying24
abbrev U25 := @Tryz.underlying25
abbrev U26 := @Tryz.underlying26
abbrev U31 := @Tryz.underlying31
abbrev U33 := @Tryz.underlying33
abbrev U35 := @Tryz.underlying35
abbrev U47 := @Tryz.underlying47
abbrev U49 := @Tryz.underlying49
abbrev U53 := @Tryz.underlying53
abbrev U55 := @Tryz.underlying55
abbrev U61 := @Tryz.underlying61
abbrev U63 := @Tryz.underlying63
abbrev U71 := @Tryz.underlying71
abbrev U73 := @Tryz.underlying73
abbrev U75 := @Tryz.underlying75
abbrev U79 := @Tryz.underlying79
abbrev U100 := @Tryz.underlying100
abbrev U104 := @Tryz.underlying104
abbrev U113 := @Tryz.underlying113
abbrev U127 := @Tryz.underlying127

theorem M.laws_szFinishS_ok (w0 : World) (a0 : List Finish) {v1 : Value} (h2 : rdL (· < w0.heap.size) w0 v1 a0) (a1 : Int) {r : Int} (hm : M.laws_szFinishS a0 a1 = some r) :
    Calls Tryz.prog 47 #[v1, (.int .i64 a1)] w0 fun e w' => e = .returned (.int .i64 r) ∧ Fresh w0 w' [] := by
 unfold M.laws_szFinishS at hm
 refine calls_CW (args := [v1, (.int .i64 a1)]) Tryz.func47 rfl rfl rfl ?_
 have hL := Hp.start w0
 refine CSR ?_
 refine OV (.int .i64 0) rfl (x_assign) ?_
 refine ONR ?_
 refine OV (.int .i64 a1) rfl (x_move) ?_
 refine OV v1 rfl (x_move) ?_
 refine OV (.int .i64 (a0.length : Int)) rfl (x_lenR U61 rfl (hL.rdS 0 rfl h2)) ?_
 refine OV (.int .i64 (w64 (a1 - (a0.length : Int)))) rfl (x_sub rfl rfl) ?_
 refine OV (.int .i64 (w64 (a1 - (a0.length : Int)))) rfl (x_assign) ?_
 refine ONS ?_
 refine CSR ?_
 refine OV (.int .i64 (w64 (a1 - (a0.length : Int)))) rfl (x_move) ?_
 refine OV (.bool (decide ((w64 (a1 - (a0.length : Int))) < 0))) rfl (x_lss rfl rfl) ?_
 refine OW.nil ?_
 refine CW.condM (t := decide ((w64 (a1 - (a0.length : Int))) < 0)) rfl hm (fun hb3 hm => ?_) (fun hb3 hm => ?_)
 · refine CSR ?_
   refine OV (.int .i64 (-1)) rfl (x_assign) ?_
   refine OW.nil ?_
   refine CW.ret ?_
   obtain rfl := Option.some.inj hm
   exact RR1 rfl rfl ⟨rfl, hL.fresh 0 rfl [] (by decide) (by decide) rfl⟩
 refine CW.skip ?_
 refine CSR ?_
 refine OV (.int .i64 (w64 (a1 - (a0.length : Int)))) rfl (x_move) ?_
 refine OV (.int .i64 (w64 (a1 - (a0.length : Int)))) rfl (x_assign) ?_
 refine OW.nil ?_
 refine CW.ret ?_
 obtain rfl := Option.some.inj hm
 exact RR1 rfl rfl ⟨rfl, hL.fresh 0 rfl [] (by decide) (by decide) rfl⟩

theorem M.laws_szRace_ok (w0 : World) (a0 : Race) {v1 : Value} (h2 : rdL (· < w0.heap.size) w0 v1 a0.Finishes) (a1 : Int) {r : Int} (hm : M.laws_szRace a0 a1 = some r) :
    Calls Tryz.prog 30 #[(.agg #[v1]), (.int .i64 a1)] w0 fun e w' => e = .returned (.int .i64 r) ∧ Fresh w0 w' [] := by
 unfold M.laws_szRace at hm
 refine calls_CW (args := [(.agg #[v1]), (.int .i64 a1)]) Tryz.func30 rfl rfl rfl ?_
 have hL := Hp.start w0
 refine CSR ?_
 refine OW.cons (S_box (cs := #[v1]) hL rfl rfl rfl ?_)
 intro wd3 b4 hL
 refine OV (.int .i64 0) rfl (x_assign) ?_
 refine ONR ?_
 refine OV (.pointer (some ⟨b4, 0, none⟩)) rfl (x_fieldAddr (fsz := 1) 0 0 0 U63 rfl Tryz_T61 rfl rfl rfl) ?_
 refine OV v1 rfl (x_load1 U61 rfl rfl (hL.cellB 0 rfl rfl)) ?_
 refine OV (.int .i64 a1) rfl (x_move) ?_
 obtain ⟨x5, hx6, hm⟩ := bndE hm
 refine OW.cons (OP.call rfl (x_call (vs := [v1, (.int .i64 a1)]) Tryz_C47 ⟨rfl, rfl, trivial⟩) (M.laws_szFinishS_ok _ a0.Finishes (hL.rdS 1 rfl h2) a1 hx6) ?_)
 rintro e7 wd8 ⟨rfl, hF9⟩
 refine ⟨_, rfl, ?_⟩
 have hL := hL.pushAll hF9
 simp only [lA, lB, lC, lD] at hL
 refine OV (.int .i64 x5) rfl (x_assign) ?_
 refine ONS ?_
 refine CSR ?_
 refine OV (.int .i64 x5) rfl (x_move) ?_
 refine OV (.bool (decide (x5 < 0))) rfl (x_lss rfl rfl) ?_
 refine OW.nil ?_
 refine CW.condM (t := decide (x5 < 0)) rfl hm (fun hb10 hm => ?_) (fun hb10 hm => ?_)
 · refine CSR ?_
   refine OV (.int .i64 (-1)) rfl (x_assign) ?_
   refine OW.nil ?_
   refine CW.ret ?_
   obtain rfl := Option.some.inj hm
   exact RR1 rfl rfl ⟨rfl, hL.fresh 1 rfl [] (by decide) (by decide) rfl⟩
 refine CW.skip ?_
 refine CSR ?_
 refine OV (.int .i64 x5) rfl (x_move) ?_
 refine OV (.int .i64 x5) rfl (x_assign) ?_
 refine OW.nil ?_
 refine CW.ret ?_
 obtain rfl := Option.some.inj hm
 exact RR1 rfl rfl ⟨rfl, hL.fresh 1 rfl [] (by decide) (by decide) rfl⟩

theorem M.laws_szRaceS_ok (w0 : World) (a0 : List Race) {v1 : Value} (h2 : rdL (· < w0.heap.size) w0 v1 a0) (a1 : Int) {r : Int} (hm : M.laws_szRaceS a0 a1 = some r) :
    Calls Tryz.prog 14 #[v1, (.int .i64 a1)] w0 fun e w' => e = .returned (.int .i64 r) ∧ Fresh w0 w' [] := by
 unfold M.laws_szRaceS at hm
 refine calls_CW (args := [v1, (.int .i64 a1)]) Tryz.func14 rfl rfl rfl ?_
 have hL := Hp.start w0
 refine CSR ?_
 refine OV (.int .i64 0) rfl (x_assign) ?_
 refine ONR ?_
 refine OV (.int .i64 a1) rfl (x_move) ?_
 refine OV v1 rfl (x_move) ?_
 refine OV (.int .i64 (a0.length : Int)) rfl (x_lenR U22 rfl (hL.rdS 0 rfl h2)) ?_
 refine OV (.int .i64 (w64 (a1 - (a0.length : Int)))) rfl (x_sub rfl rfl) ?_
 refine OV (.int .i64 (w64 (a1 - (a0.length : Int)))) rfl (x_assign) ?_
 refine ONS ?_
 refine CSR ?_
 refine OV (.int .i64 (w64 (a1 - (a0.length : Int)))) rfl (x_move) ?_
 refine OV (.bool (decide ((w64 (a1 - (a0.length : Int))) < 0))) rfl (x_lss rfl rfl) ?_
 refine OW.nil ?_
 refine CW.condM (t := decide ((w64 (a1 - (a0.length : Int))) < 0)) rfl hm (fun hb3 hm => ?_) (fun hb3 hm => ?_)
 · refine CSR ?_
   refine OV (.int .i64 (-1)) rfl (x_assign) ?_
   refine OW.nil ?_
   refine CW.ret ?_
   obtain rfl := Option.some.inj hm
   exact RR1 rfl rfl ⟨rfl, hL.fresh 0 rfl [] (by decide) (by decide) rfl⟩
 refine CW.skip ?_
 refine CW.seq ?_
 refine CSR ?_
 refine OV (.int .i64 0) rfl (x_assign) ?_
 refine OW.nil ?_
 obtain ⟨o42, ho43, hm⟩ := bndE hm
 refine CW.loopB (fun (s_l1 : Int × Int) (F : Fr) (w : World) => F 0 = v1 ∧ F 1 = (.int .i64 s_l1.1) ∧ F 5 = (.int .i64 s_l1.2) ∧ Hp w0 [Ent.snap w0 w0.heap.size] w) (fun o => outc o (fun x => some x) (fun s => M.laws_szRaceS_a1 s) = some r) ho43 hm ⟨rfl, rfl, rfl, hL⟩ ?_ ?_
 · intro s_l1 F44 wd45 hJ hm
   have hm := outcE hm
   have hm : M.laws_szRaceS_a1 s_l1 = some r := hm
   unfold M.laws_szRaceS_a1 at hm
   obtain ⟨f46, f47, f48, hL⟩ := hJ
   refine CSR ?_
   refine OV (.int .i64 s_l1.1) rfl (x_mv f47) ?_
   refine OV (.int .i64 s_l1.1) rfl (x_assign) ?_
   refine OW.nil ?_
   refine CW.ret ?_
   obtain rfl := Option.some.inj hm
   exact RR1 rfl rfl ⟨rfl, hL.fresh 0 rfl [] (by decide) (by decide) rfl⟩
 intro s_l1 F49 wd50 t40 hJ hm hr41
 unfold M.laws_szRaceS_l1 at hm
 obtain ⟨f51, f52, f53, hL⟩ := hJ
 refine CW.seq ?_
 refine CSR ?_
 refine OV (.int .i64 s_l1.2) rfl (x_mv f53) ?_
 refine OV v1 rfl (x_mv f51) ?_
 refine OV (.int .i64 (a0.length : Int)) rfl (x_lenR U22 rfl (hL.rdS 0 rfl h2)) ?_
 refine OV (.bool (decide (s_l1.2 < (a0.length : Int)))) rfl (x_lss rfl rfl) ?_
 refine OW.nil ?_
 refine CW.condM (t := decide (s_l1.2 < (a0.length : Int))) rfl hm (fun hb54 hm => ?_) (fun hb54 hm => ?_)
 · refine CW.skip ?_
   refine CW.seq ?_
   refine CW.block ?_
   refine CSR ?_
   refine OV v1 rfl (x_mv f51) ?_
   refine OV (.int .i64 s_l1.2) rfl (x_mv f53) ?_
   obtain ⟨x55, ha56, hm⟩ := bndE hm
   obtain ⟨hz57, ha65⟩ := idxE ha56
   obtain ⟨b58, q59, v60, hix61, hs62, hc63, hr64⟩ := rdN_at h2 hz57 ha65
   refine OV (.pointer (some ⟨b58, q59, none⟩)) rfl (x_ix U22 Tryz_T63 rfl rfl hix61) ?_
   refine OV (.agg #[v60]) rfl (x_loadN (cs := [v60]) U63 Tryz_T63 rfl rfl (by intro j u hj; match j, hj with | 0, hj => (simp at hj; subst hj; exact (hL.cellS 0 rfl hs62 hc63)))) ?_
   refine OV (.int .i64 s_l1.1) rfl (x_mv f52) ?_
   obtain ⟨x66, hx67, hm⟩ := bndE hm
   refine OW.cons (OP.call rfl (x_call (vs := [(.agg #[v60]), (.int .i64 s_l1.1)]) Tryz_C30 ⟨rfl, rfl, trivial⟩) (M.laws_szRace_ok _ x55 (hL.rdS 0 rfl hr64) s_l1.1 hx67) ?_)
   rintro e68 wd69 ⟨rfl, hF70⟩
   refine ⟨_, rfl, ?_⟩
   have hL := hL.pushAll hF70
   simp only [lA, lB, lC, lD] at hL
   refine OV (.int .i64 x66) rfl (x_assign) ?_
   refine ONR ?_
   refine OV (.int .i64 x66) rfl (x_move) ?_
   refine OV (.bool (decide (x66 < 0))) rfl (x_lss rfl rfl) ?_
   refine OW.nil ?_
   refine CW.condM (t := decide (x66 < 0)) rfl hm (fun hb71 hm => ?_) (fun hb71 hm => ?_)
   · refine CSR ?_
     refine OV (.int .i64 (-1)) rfl (x_assign) ?_
     refine OW.nil ?_
     refine CW.ret ?_
     obtain rfl := Option.some.inj hm
     have hm := hr41 _ rfl
     obtain rfl := Option.some.inj hm
     exact RR1 rfl rfl ⟨rfl, hL.fresh 0 rfl [] (by decide) (by decide) rfl⟩
   refine CW.skip ?_
   refine CW.regionL ?_
   refine OV (.int .i64 s_l1.2) rfl (x_mv f53) ?_
   refine OV (.int .i64 (w64 (s_l1.2 + 1))) rfl (x_add rfl rfl) ?_
   refine OV (.int .i64 (w64 (s_l1.2 + 1))) rfl (x_assign) ?_
   refine OW.nil ?_
   obtain rfl := Option.some.inj hm
   exact ⟨_, rfl, ⟨f51, rfl, rfl, hL⟩⟩
 refine CW.exit ?_
 refine XJ.hit ?_
 obtain rfl := Option.some.inj hm
 exact ⟨_, rfl, ⟨f51, f52, f53, hL⟩⟩

theorem M.laws_szSeries_ok (w0 : World) (a0 : Series) {v1 : Value} (h2 : rdL (· < w0.heap.size) w0 v1 a0.Races) (a1 : Int) {r : Int} (hm : M.laws_szSeries a0 a1 = some r) :
    Calls Tryz.prog 4 #[(.agg #[(.int .i64 a0.Boats), (.int .i64 a0.Scheme), v1]), (.int .i64 a1)] w0 fun e w' => e = .returned (.int .i64 r) ∧ Fresh w0 w' [] := by
 unfold M.laws_szSeries at hm
 refine calls_CW (args := [(.agg #[(.int .i64 a0.Boats), (.int .i64 a0.Scheme), v1]), (.int .i64 a1)]) Tryz.func4 rfl rfl rfl ?_
 have hL := Hp.start w0
 refine CSR ?_
 refine OW.cons (S_box (cs := #[(.int .i64 a0.Boats), (.int .i64 a0.Scheme), v1]) hL rfl rfl rfl ?_)
 intro wd3 b4 hL
 refine OV (.int .i64 0) rfl (x_assign) ?_
 refine ONR ?_
 refine OV (.pointer (some ⟨b4, 2, none⟩)) rfl (x_fieldAddr (fsz := 1) 0 2 2 U24 rfl Tryz_T22 rfl rfl rfl) ?_
 refine OV v1 rfl (x_load1 U22 rfl rfl (hL.cellB 0 rfl rfl)) ?_
 refine OV (.int .i64 a1) rfl (x_move) ?_
 obtain ⟨x5, hx6, hm⟩ := bndE hm
 refine OW.cons (OP.call rfl (x_call (vs := [v1, (.int .i64 a1)]) Tryz_C14 ⟨rfl, rfl, trivial⟩) (M.laws_szRaceS_ok _ a0.Races (hL.rdS 1 rfl h2) a1 hx6) ?_)
 rintro e7 wd8 ⟨rfl, hF9⟩
 refine ⟨_, rfl, ?_⟩
 have hL := hL.pushAll hF9
 simp only [lA, lB, lC, lD] at hL
 refine OV (.int .i64 x5) rfl (x_assign) ?_
 refine ONS ?_
 refine CSR ?_
 refine OV (.int .i64 x5) rfl (x_move) ?_
 refine OV (.bool (decide (x5 < 0))) rfl (x_lss rfl rfl) ?_
 refine OW.nil ?_
 refine CW.condM (t := decide (x5 < 0)) rfl hm (fun hb10 hm => ?_) (fun hb10 hm => ?_)
 · refine CSR ?_
   refine OV (.int .i64 (-1)) rfl (x_assign) ?_
   refine OW.nil ?_
   refine CW.ret ?_
   obtain rfl := Option.some.inj hm
   exact RR1 rfl rfl ⟨rfl, hL.fresh 1 rfl [] (by decide) (by decide) rfl⟩
 refine CW.skip ?_
 refine CSR ?_
 refine OV (.int .i64 x5) rfl (x_move) ?_
 refine OV (.int .i64 x5) rfl (x_assign) ?_
 refine OW.nil ?_
 refine CW.ret ?_
 obtain rfl := Option.some.inj hm
 exact RR1 rfl rfl ⟨rfl, hL.fresh 1 rfl [] (by decide) (by decide) rfl⟩

theorem M.laws_szPenaltyS_ok (w0 : World) (a0 : List Penalty) {v1 : Value} (h2 : rdL (· < w0.heap.size) w0 v1 a0) (a1 : Int) {r : Int} (hm : M.laws_szPenaltyS a0 a1 = some r) :
    Calls Tryz.prog 5 #[v1, (.int .i64 a1)] w0 fun e w' => e = .returned (.int .i64 r) ∧ Fresh w0 w' [] := by
 unfold M.laws_szPenaltyS at hm
 refine calls_CW (args := [v1, (.int .i64 a1)]) Tryz.func5 rfl rfl rfl ?_
 have hL := Hp.start w0
 refine CSR ?_
 refine OV (.int .i64 0) rfl (x_assign) ?_
 refine ONR ?_
 refine OV (.int .i64 a1) rfl (x_move) ?_
 refine OV v1 rfl (x_move) ?_
 refine OV (.int .i64 (a0.length : Int)) rfl (x_lenR U25 rfl (hL.rdS 0 rfl h2)) ?_
 refine OV (.int .i64 (w64 (a1 - (a0.length : Int)))) rfl (x_sub rfl rfl) ?_
 refine OV (.int .i64 (w64 (a1 - (a0.length : Int)))) rfl (x_assign) ?_
 refine ONS ?_
 refine CSR ?_
 refine OV (.int .i64 (w64 (a1 - (a0.length : Int)))) rfl (x_move) ?_
 refine OV (.bool (decide ((w64 (a1 - (a0.length : Int))) < 0))) rfl (x_lss rfl rfl) ?_
 refine OW.nil ?_
 refine CW.condM (t := decide ((w64 (a1 - (a0.length : Int))) < 0)) rfl hm (fun hb3 hm => ?_) (fun hb3 hm => ?_)
 · refine CSR ?_
   refine OV (.int .i64 (-1)) rfl (x_assign) ?_
   refine OW.nil ?_
   refine CW.ret ?_
   obtain rfl := Option.some.inj hm
   exact RR1 rfl rfl ⟨rfl, hL.fresh 0 rfl [] (by decide) (by decide) rfl⟩
 refine CW.skip ?_
 refine CSR ?_
 refine OV (.int .i64 (w64 (a1 - (a0.length : Int)))) rfl (x_move) ?_
 refine OV (.int .i64 (w64 (a1 - (a0.length : Int)))) rfl (x_assign) ?_
 refine OW.nil ?_
 refine CW.ret ?_
 obtain rfl := Option.some.inj hm
 exact RR1 rfl rfl ⟨rfl, hL.fresh 0 rfl [] (by decide) (by decide) rfl⟩

theorem M.laws_toFinish_ok (w0 : World) (a0 : Finish) {r : Finish} (hm : M.laws_toFinish a0 = some r) :
    Calls Tryz.prog 70 #[(.agg #[(.int .i64 a0.Boat), (.int .i64 a0.Code), (.int .i64 a0.Time)])] w0 fun e w' => e = .returned (.agg #[(.int .i64 r.Boat), (.int .i64 r.Code), (.int .i64 r.Time)]) ∧ Fresh w0 w' [] := by
 unfold M.laws_toFinish at hm
 refine calls_CW (args := [(.agg #[(.int .i64 a0.Boat), (.int .i64 a0.Code), (.int .i64 a0.Time)])]) Tryz.func70 rfl rfl rfl ?_
 have hL := Hp.start w0
 refine CSR ?_
 refine OW.cons (S_box (cs := #[(.int .i64 a0.Boat), (.int .i64 a0.Code), (.int .i64 a0.Time)]) hL rfl rfl rfl ?_)
 intro wd1 b2 hL
 refine OW.cons (S_alloc (cs := #[(.int .i64 0), (.int .i64 0), (.int .i64 0)]) hL Tryz_T79 rfl rfl ?_)
 intro wd3 b4 hL
 refine ONR ?_
 refine OW.cons (S_alloc (cs := #[(.int .i64 0), (.int .i64 0), (.int .i64 0)]) hL Tryz_T79 rfl rfl ?_)
 intro wd5 b6 hL
 refine ONR ?_
 refine OV (.pointer (some ⟨b2, 0, none⟩)) rfl (x_fieldAddr (fsz := 1) 0 0 0 U104 rfl Tryz_T2 rfl rfl rfl) ?_
 refine OV (.int .i64 a0.Boat) rfl (x_load1 U2 rfl rfl (hL.cellB 2 rfl rfl)) ?_
 refine OV (.pointer (some ⟨b6, 0, none⟩)) rfl (x_fieldAddr (fsz := 1) 0 0 0 U79 rfl Tryz_T2 rfl rfl rfl) ?_
 refine OW.cons (S_store (cs' := #[(.int .i64 a0.Boat), (.int .i64 0), (.int .i64 0)]) hL 0 rfl Tryz_T2 rfl rfl rfl rfl rfl ?_)
 intro wd7 hL
 refine ONR ?_
 refine OV (.pointer (some ⟨b2, 1, none⟩)) rfl (x_fieldAddr (fsz := 1) 0 1 1 U104 rfl Tryz_T2 rfl rfl rfl) ?_
 refine OV (.int .i64 a0.Code) rfl (x_load1 U2 rfl rfl (hL.cellB 2 rfl rfl)) ?_
 refine OV (.pointer (some ⟨b6, 1, none⟩)) rfl (x_fieldAddr (fsz := 1) 0 1 1 U79 rfl Tryz_T2 rfl rfl rfl) ?_
 refine OW.cons (S_store (cs' := #[(.int .i64 a0.Boat), (.int .i64 a0.Code), (.int .i64 0)]) hL 0 rfl Tryz_T2 rfl rfl rfl rfl rfl ?_)
 intro wd8 hL
 refine ONR ?_
 refine OV (.pointer (some ⟨b2, 2, none⟩)) rfl (x_fieldAddr (fsz := 1) 0 2 2 U104 rfl Tryz_T2 rfl rfl rfl) ?_
 refine OV (.int .i64 a0.Time) rfl (x_load1 U2 rfl rfl (hL.cellB 2 rfl rfl)) ?_
 refine OV (.pointer (some ⟨b6, 2, none⟩)) rfl (x_fieldAddr (fsz := 1) 0 2 2 U79 rfl Tryz_T2 rfl rfl rfl) ?_
 refine OW.cons (S_store (cs' := #[(.int .i64 a0.Boat), (.int .i64 a0.Code), (.int .i64 a0.Time)]) hL 0 rfl Tryz_T2 rfl rfl rfl rfl rfl ?_)
 intro wd9 hL
 refine ONR ?_
 refine OV (.agg #[(.int .i64 a0.Boat), (.int .i64 a0.Code), (.int .i64 a0.Time)]) rfl (x_loadN (cs := [(.int .i64 a0.Boat), (.int .i64 a0.Code), (.int .i64 a0.Time)]) U79 Tryz_T79 rfl rfl (hL.cellsB 0 rfl (o := 0) (l := [(.int .i64 a0.Boat), (.int .i64 a0.Code), (.int .i64 a0.Time)]) (by intro j u hj; exact (by simpa using hj)))) ?_
 refine OW.cons (S_storeN (l := [(.int .i64 a0.Boat), (.int .i64 a0.Code), (.int .i64 a0.Time)]) (cs' := #[(.int .i64 a0.Boat), (.int .i64 a0.Code), (.int .i64 a0.Time)]) hL 1 rfl Tryz_T79 rfl rfl (List.forall_mem_cons.2 ⟨rfl, (List.forall_mem_cons.2 ⟨rfl, (List.forall_mem_cons.2 ⟨rfl, (fun _ h => by cases h)⟩)⟩)⟩) rfl (Nat.le_of_ble_eq_true rfl) rfl ?_)
 intro wd10 hL
 refine OW.nil ?_
 refine CW.ret ?_
 obtain rfl := Option.some.inj hm
 exact RRc rfl rfl (run_loadBlk U79 Tryz_T79 (hL.get 1 rfl) rfl) ⟨rfl, hL.fresh 3 rfl [] (by decide) (by decide) rfl⟩

theorem M.laws_toFinishS_ok (w0 : World) (a0 : List Finish) {v1 : Value} (h2 : rdL (· < w0.heap.size) w0 v1 a0) {r : (List Finish)} (hm : M.laws_toFinishS a0 = some r) :
    Calls Tryz.prog 56 #[v1] w0 fun e w' => ∃ (rv0 : Value) (rS0 : Nat → Prop), e = .returned rv0 ∧ Fresh w0 w' [Ent.own 79 rS0 rv0 r] := by
 unfold M.laws_toFinishS at hm
 refine calls_CW (args := [v1]) Tryz.func56 rfl rfl rfl ?_
 have hL := Hp.start w0
 refine CSR ?_
 refine OV (.slice none 0 0) rfl (x_assign) ?_
 refine ONR ?_
 refine OV v1 rfl (x_move) ?_
 refine OV (.int .i64 (a0.length : Int)) rfl (x_lenR U61 rfl (hL.rdS 0 rfl h2)) ?_
 obtain ⟨hc6, hm⟩ := chkE hm
 refine OW.cons (S_make (α := Finish) (Finish.mk 0 0 0) hL U73 Tryz_T79 rfl rfl rfl hc6 (by decide) rfl ?_)
 intro wd3 v4 S5 hL
 refine OV v4 rfl (x_assign) ?_
 refine ONS ?_
 refine CSR ?_
 refine OV (.int .i64 0) rfl (x_assign) ?_
 refine OW.nil ?_
 obtain ⟨o53, ho54, hm⟩ := bndE hm
 refine CW.loopB (fun (s_l1 : (List Finish) × Int) (F : Fr) (w : World) => ∃ (S50 : Nat → Prop), F 0 = v1 ∧ F 3 = v4 ∧ F 4 = (.int .i64 s_l1.2) ∧ Hp w0 [Ent.own 79 S50 v4 s_l1.1, Ent.snap w0 w0.heap.size] w) (fun o => outc o (fun x => some x) (fun s => M.laws_toFinishS_a1 s) = some r) ho54 hm ⟨S5, rfl, rfl, rfl, hL⟩ ?_ ?_
 · intro s_l1 F55 wd56 hJ hm
   have hm := outcE hm
   have hm : M.laws_toFinishS_a1 s_l1 = some r := hm
   unfold M.laws_toFinishS_a1 at hm
   obtain ⟨S50, f57, f58, f59, hL⟩ := hJ
   refine CSR ?_
   refine OV v4 rfl (x_mv f58) ?_
   refine OV v4 rfl (x_assign) ?_
   refine OW.nil ?_
   refine CW.ret ?_
   obtain rfl := Option.some.inj hm
   exact RR1 rfl rfl ⟨v4, S50, rfl, hL.fresh 1 rfl [0] (by decide) (by decide) rfl⟩
 intro s_l1 F60 wd61 t51 hJ hm hr52
 unfold M.laws_toFinishS_l1 at hm
 obtain ⟨S50, f62, f63, f64, hL⟩ := hJ
 refine CW.seq ?_
 refine CSR ?_
 refine OV (.int .i64 s_l1.2) rfl (x_mv f64) ?_
 refine OV v1 rfl (x_mv f62) ?_
 refine OV (.int .i64 (a0.length : Int)) rfl (x_lenR U61 rfl (hL.rdS 1 rfl h2)) ?_
 refine OV (.bool (decide (s_l1.2 < (a0.length : Int)))) rfl (x_lss rfl rfl) ?_
 refine OW.nil ?_
 refine CW.condM (t := decide (s_l1.2 < (a0.length : Int))) rfl hm (fun hb65 hm => ?_) (fun hb65 hm => ?_)
 · refine CW.skip ?_
   refine CW.seq ?_
   refine CW.block ?_
   refine CW.regionL ?_
   refine OV v4 rfl (x_mv f63) ?_
   refine OV (.int .i64 s_l1.2) rfl (x_mv f64) ?_
   refine OV v1 rfl (x_mv f62) ?_
   refine OV (.int .i64 s_l1.2) rfl (x_mv f64) ?_
   obtain ⟨x66, ha67, hm⟩ := bndE hm
   obtain ⟨hz68, ha72⟩ := idxE ha67
   obtain ⟨b69, q70, hix71⟩ := rdL_ix (hL.rdS 1 rfl h2) hz68 ha72
   refine OV (.pointer (some ⟨b69, q70, none⟩)) rfl (x_ix U61 Tryz_T104 rfl rfl hix71) ?_
   refine OV (.agg #[(.int .i64 x66.Boat), (.int .i64 x66.Code), (.int .i64 x66.Time)]) rfl (x_loadN (cs := [(.int .i64 x66.Boat), (.int .i64 x66.Code), (.int .i64 x66.Time)]) U104 Tryz_T104 rfl rfl (rdF_cells (hL.rdS 1 rfl h2) hix71 ha72)) ?_
   obtain ⟨x73, hx74, hm⟩ := bndE hm
   refine OW.cons (OP.call rfl (x_call (vs := [(.agg #[(.int .i64 x66.Boat), (.int .i64 x66.Code), (.int .i64 x66.Time)])]) Tryz_C70 ⟨rfl, trivial⟩) (M.laws_toFinish_ok _ x66 hx74) ?_)
   rintro e75 wd76 ⟨rfl, hF77⟩
   refine ⟨_, rfl, ?_⟩
   have hL := hL.pushAll hF77
   simp only [lA, lB, lC, lD] at hL
   obtain ⟨x78, ha79, hm⟩ := bndE hm
   obtain ⟨hz80, ha84⟩ := idxE ha79
   obtain ⟨b81, q82, hix83⟩ := rdL_ix (hL.rdO 0 rfl) hz80 ha84
   refine OV (.pointer (some ⟨b81, q82, none⟩)) rfl (x_ix U73 Tryz_T79 rfl rfl hix83) ?_
   refine OW.cons (S_storeXN (l := [(.int .i64 x73.Boat), (.int .i64 x73.Code), (.int .i64 x73.Time)]) x73 hL 0 rfl Tryz_T79 hix83 ha84 rfl rfl rfl ?_)
   intro wd85 hL
   refine OW.nil ?_
   refine CW.regionL ?_
   refine OV (.int .i64 s_l1.2) rfl (x_mv f64) ?_
   refine OV (.int .i64 (w64 (s_l1.2 + 1))) rfl (x_add rfl rfl) ?_
   refine OV (.int .i64 (w64 (s_l1.2 + 1))) rfl (x_assign) ?_
   refine OW.nil ?_
   obtain rfl := Option.some.inj hm
   exact ⟨_, rfl, ⟨S50, f62, f63, rfl, hL⟩⟩
 refine CW.exit ?_
 refine XJ.hit ?_
 obtain rfl := Option.some.inj hm
 exact ⟨_, rfl, ⟨S50, f62, f63, f64, hL⟩⟩

theorem M.laws_toRace_ok (w0 : World) (a0 : Race) {v1 : Value} (h2 : rdL (· < w0.heap.size) w0 v1 a0.Finishes) {r : Race} (hm : M.laws_toRace a0 = some r) :
    Calls Tryz.prog 38 #[(.agg #[v1])] w0 fun e w' => ∃ (rv0 : Value) (rS0 : Nat → Prop), e = .returned (.agg #[rv0]) ∧ Fresh w0 w' [Ent.own 79 rS0 rv0 r.Finishes] := by
 unfold M.laws_toRace at hm
 refine calls_CW (args := [(.agg #[v1])]) Tryz.func38 rfl rfl rfl ?_
 have hL := Hp.start w0
 refine CSR ?_
 refine OW.cons (S_box (cs := #[v1]) hL rfl rfl rfl ?_)
 intro wd3 b4 hL
 refine OW.cons (S_alloc (cs := #[(.slice none 0 0)]) hL Tryz_T75 rfl rfl ?_)
 intro wd5 b6 hL
 refine ONR ?_
 refine OW.cons (S_alloc (cs := #[(.slice none 0 0)]) hL Tryz_T75 rfl rfl ?_)
 intro wd7 b8 hL
 refine ONR ?_
 refine OV (.pointer (some ⟨b4, 0, none⟩)) rfl (x_fieldAddr (fsz := 1) 0 0 0 U63 rfl Tryz_T61 rfl rfl rfl) ?_
 refine OV v1 rfl (x_load1 U61 rfl rfl (hL.cellB 2 rfl rfl)) ?_
 obtain ⟨x9, hx10, hm⟩ := bndE hm
 refine OW.cons (OP.call rfl (x_call (vs := [v1]) Tryz_C56 ⟨rfl, trivial⟩) (M.laws_toFinishS_ok _ a0.Finishes (hL.rdS 3 rfl h2) hx10) ?_)
 rintro e13 wd14 ⟨v12, S11, rfl, hF15⟩
 refine ⟨_, rfl, ?_⟩
 have hL := hL.pushAll hF15
 simp only [lA, lB, lC, lD] at hL
 refine OV (.pointer (some ⟨b8, 0, none⟩)) rfl (x_fieldAddr (fsz := 1) 0 0 0 U75 rfl Tryz_T73 rfl rfl rfl) ?_
 refine OW.cons (S_store (cs' := #[v12]) hL 1 rfl Tryz_T73 rfl (rdL_one (hL.rdO 0 rfl)) rfl rfl rfl ?_)
 intro wd16 hL
 refine ONR ?_
 refine OV (.agg #[v12]) rfl (x_loadN (cs := [v12]) U75 Tryz_T75 rfl rfl (hL.cellsB 1 rfl (o := 0) (l := [v12]) (by intro j u hj; exact (by simpa using hj)))) ?_
 refine OW.cons (S_storeN (l := [v12]) (cs' := #[v12]) hL 2 rfl Tryz_T75 rfl rfl (List.forall_mem_cons.2 ⟨rdL_one (hL.rdO 0 rfl), (fun _ h => by cases h)⟩) rfl (Nat.le_of_ble_eq_true rfl) rfl ?_)
 intro wd17 hL
 refine OW.nil ?_
 refine CW.ret ?_
 obtain rfl := Option.some.inj hm
 exact RRc rfl rfl (run_loadBlk U75 Tryz_T75 (hL.get 2 rfl) rfl) ⟨v12, S11, rfl, hL.fresh 4 rfl [0] (by decide) (by decide) rfl⟩

theorem M.laws_toRaceS_ok (w0 : World) (a0 : List Race) {v1 : Value} (h2 : rdL (· < w0.heap.size) w0 v1 a0) {r : (List Race)} (hm : M.laws_toRaceS a0 = some r) :
    Calls Tryz.prog 20 #[v1] w0 fun e w' => ∃ (rv0 : Value) (rS0 : Nat → Prop), e = .returned rv0 ∧ Fresh w0 w' [Ent.own 75 rS0 rv0 r] := by
 unfold M.laws_toRaceS at hm
 refine calls_CW (args := [v1]) Tryz.func20 rfl rfl rfl ?_
 have hL := Hp.start w0
 refine CSR ?_
 refine OV (.slice none 0 0) rfl (x_assign) ?_
 refine ONR ?_
 refine OV v1 rfl (x_move) ?_
 refine OV (.int .i64 (a0.length : Int)) rfl (x_lenR U22 rfl (hL.rdS 0 rfl h2)) ?_
 obtain ⟨hc6, hm⟩ := chkE hm
 refine OW.cons (S_makeN (α := Finish) (β := Race) (Race.mk ([] : List Finish)) rfl hL U31 Tryz_T75 rfl rfl rfl hc6 (by decide) rfl ?_)
 intro wd3 v4 S5 hL
 refine OV v4 rfl (x_assign) ?_
 refine ONS ?_
 refine CSR ?_
 refine OV (.int .i64 0) rfl (x_assign) ?_
 refine OW.nil ?_
 obtain ⟨o79, ho80, hm⟩ := bndE hm
 refine CW.loopB (fun (s_l1 : (List Race) × Int) (F : Fr) (w : World) => ∃ (S76 : Nat → Prop), F 0 = v1 ∧ F 3 = v4 ∧ F 4 = (.int .i64 s_l1.2) ∧ Hp w0 [Ent.own 75 S76 v4 s_l1.1, Ent.snap w0 w0.heap.size] w) (fun o => outc o (fun x => some x) (fun s => M.laws_toRaceS_a1 s) = some r) ho80 hm ⟨S5, rfl, rfl, rfl, hL⟩ ?_ ?_
 · intro s_l1 F81 wd82 hJ hm
   have hm := outcE hm
   have hm : M.laws_toRaceS_a1 s_l1 = some r := hm
   unfold M.laws_toRaceS_a1 at hm
   obtain ⟨S76, f83, f84, f85, hL⟩ := hJ
   refine CSR ?_
   refine OV v4 rfl (x_mv f84) ?_
   refine OV v4 rfl (x_assign) ?_
   refine OW.nil ?_
   refine CW.ret ?_
   obtain rfl := Option.some.inj hm
   exact RR1 rfl rfl ⟨v4, S76, rfl, hL.fresh 1 rfl [0] (by decide) (by decide) rfl⟩
 intro s_l1 F86 wd87 t77 hJ hm hr78
 unfold M.laws_toRaceS_l1 at hm
 obtain ⟨S76, f88, f89, f90, hL⟩ := hJ
 refine CW.seq ?_
 refine CSR ?_
 refine OV (.int .i64 s_l1.2) rfl (x_mv f90) ?_
 refine OV v1 rfl (x_mv f88) ?_
 refine OV (.int .i64 (a0.length : Int)) rfl (x_lenR U22 rfl (hL.rdS 1 rfl h2)) ?_
 refine OV (.bool (decide (s_l1.2 < (a0.length : Int)))) rfl (x_lss rfl rfl) ?_
 refine OW.nil ?_
 refine CW.condM (t := decide (s_l1.2 < (a0.length : Int))) rfl hm (fun hb91 hm => ?_) (fun hb91 hm => ?_)
 · refine CW.skip ?_
   refine CW.seq ?_
   refine CW.block ?_
   refine CW.regionL ?_
   refine OV v4 rfl (x_mv f89) ?_
   refine OV (.int .i64 s_l1.2) rfl (x_mv f90) ?_
   refine OV v1 rfl (x_mv f88) ?_
   refine OV (.int .i64 s_l1.2) rfl (x_mv f90) ?_
   obtain ⟨x92, ha93, hm⟩ := bndE hm
   obtain ⟨hz94, ha102⟩ := idxE ha93
   obtain ⟨b95, q96, v97, hix98, hs99, hc100, hr101⟩ := rdN_at h2 hz94 ha102
   refine OV (.pointer (some ⟨b95, q96, none⟩)) rfl (x_ix U22 Tryz_T63 rfl rfl hix98) ?_
   refine OV (.agg #[v97]) rfl (x_loadN (cs := [v97]) U63 Tryz_T63 rfl rfl (by intro j u hj; match j, hj with | 0, hj => (simp at hj; subst hj; exact (hL.cellS 1 rfl hs99 hc100)))) ?_
   obtain ⟨x103, hx104, hm⟩ := bndE hm
   refine OW.cons (OP.call rfl (x_call (vs := [(.agg #[v97])]) Tryz_C38 ⟨rfl, trivial⟩) (M.laws_toRace_ok _ x92 (hL.rdS 1 rfl hr101) hx104) ?_)
   rintro e107 wd108 ⟨v106, S105, rfl, hF109⟩
   refine ⟨_, rfl, ?_⟩
   have hL := hL.pushAll hF109
   simp only [lA, lB, lC, lD] at hL
   obtain ⟨wz110, hL, ho111⟩ := hL.freeze 1 rfl
   simp only [lC, lD] at hL
   obtain ⟨x112, ha113, hm⟩ := bndE hm
   obtain ⟨hz114, ha122⟩ := idxE ha113
   obtain ⟨b115, q116, v117, hix118, hs119, hc120, hr121⟩ := rdN_at ho111.1.rdL hz114 ha122
   refine OV (.pointer (some ⟨b115, q116, none⟩)) rfl (x_ix U31 Tryz_T75 rfl rfl hix118) ?_
   have hL := hL.thaw 1 rfl ho111
   have hL := hL.sel [1, 0, 2] (by decide) rfl
   refine OW.cons (S_storeRS (Race.mk x103.Finishes) rfl hL Tryz_T75 hix118 ha122 rfl rfl ?_)
   intro wd123 S124 hL
   refine OW.nil ?_
   refine CW.regionL ?_
   refine OV (.int .i64 s_l1.2) rfl (x_mv f90) ?_
   refine OV (.int .i64 (w64 (s_l1.2 + 1))) rfl (x_add rfl rfl) ?_
   refine OV (.int .i64 (w64 (s_l1.2 + 1))) rfl (x_assign) ?_
   refine OW.nil ?_
   obtain rfl := Option.some.inj hm
   exact ⟨_, rfl, ⟨S124, f88, f89, rfl, hL⟩⟩
 refine CW.exit ?_
 refine XJ.hit ?_
 obtain rfl := Option.some.inj hm
 exact ⟨_, rfl, ⟨S76, f88, f89, f90, hL⟩⟩

theorem M.laws_toSeries_ok (w0 : World) (a0 : Series) {v1 : Value} (h2 : rdL (· < w0.heap.size) w0 v1 a0.Races) {r : Series} (hm : M.laws_toSeries a0 = some r) :
    Calls Tryz.prog 7 #[(.agg #[(.int .i64 a0.Boats), (.int .i64 a0.Scheme), v1])] w0 fun e w' => ∃ (rv0 : Value) (rS0 : Nat → Prop), e = .returned (.agg #[(.int .i64 r.Boats), (.int .i64 r.Scheme), rv0]) ∧ Fresh w0 w' [Ent.own 75 rS0 rv0 r.Races] := by
 unfold M.laws_toSeries at hm
 refine calls_CW (args := [(.agg #[(.int .i64 a0.Boats), (.int .i64 a0.Scheme), v1])]) Tryz.func7 rfl rfl rfl ?_
 have hL := Hp.start w0
 refine CSR ?_
 refine OW.cons (S_box (cs := #[(.int .i64 a0.Boats), (.int .i64 a0.Scheme), v1]) hL rfl rfl rfl ?_)
 intro wd3 b4 hL
 refine OW.cons (S_alloc (cs := #[(.int .i64 0), (.int .i64 0), (.slice none 0 0)]) hL Tryz_T33 rfl rfl ?_)
 intro wd5 b6 hL
 refine ONR ?_
 refine OW.cons (S_alloc (cs := #[(.int .i64 0), (.int .i64 0), (.slice none 0 0)]) hL Tryz_T33 rfl rfl ?_)
 intro wd7 b8 hL
 refine ONR ?_
 refine OV (.pointer (some ⟨b4, 0, none⟩)) rfl (x_fieldAddr (fsz := 1) 0 0 0 U24 rfl Tryz_T2 rfl rfl rfl) ?_
 refine OV (.int .i64 a0.Boats) rfl (x_load1 U2 rfl rfl (hL.cellB 2 rfl rfl)) ?_
 refine OV (.pointer (some ⟨b8, 0, none⟩)) rfl (x_fieldAddr (fsz := 1) 0 0 0 U33 rfl Tryz_T2 rfl rfl rfl) ?_
 refine OW.cons (S_store (cs' := #[(.int .i64 a0.Boats), (.int .i64 0), (.slice none 0 0)]) hL 0 rfl Tryz_T2 rfl rfl rfl rfl rfl ?_)
 intro wd9 hL
 refine ONR ?_
 refine OV (.pointer (some ⟨b4, 1, none⟩)) rfl (x_fieldAddr (fsz := 1) 0 1 1 U24 rfl Tryz_T2 rfl rfl rfl) ?_
 refine OV (.int .i64 a0.Scheme) rfl (x_load1 U2 rfl rfl (hL.cellB 2 rfl rfl)) ?_
 refine OV (.pointer (some ⟨b8, 1, none⟩)) rfl (x_fieldAddr (fsz := 1) 0 1 1 U33 rfl Tryz_T2 rfl rfl rfl) ?_
 refine OW.cons (S_store (cs' := #[(.int .i64 a0.Boats), (.int .i64 a0.Scheme), (.slice none 0 0)]) hL 0 rfl Tryz_T2 rfl rfl rfl rfl rfl ?_)
 intro wd10 hL
 refine ONR ?_
 refine OV (.pointer (some ⟨b4, 2, none⟩)) rfl (x_fieldAddr (fsz := 1) 0 2 2 U24 rfl Tryz_T22 rfl rfl rfl) ?_
 refine OV v1 rfl (x_load1 U22 rfl rfl (hL.cellB 2 rfl rfl)) ?_
 obtain ⟨x11, hx12, hm⟩ := bndE hm
 refine OW.cons (OP.call rfl (x_call (vs := [v1]) Tryz_C20 ⟨rfl, trivial⟩) (M.laws_toRaceS_ok _ a0.Races (hL.rdS 3 rfl h2) hx12) ?_)
 rintro e15 wd16 ⟨v14, S13, rfl, hF17⟩
 refine ⟨_, rfl, ?_⟩
 have hL := hL.pushAll hF17
 simp only [lA, lB, lC, lD] at hL
 refine OV (.pointer (some ⟨b8, 2, none⟩)) rfl (x_fieldAddr (fsz := 1) 0 2 2 U33 rfl Tryz_T31 rfl rfl rfl) ?_
 refine OW.cons (S_store (cs' := #[(.int .i64 a0.Boats), (.int .i64 a0.Scheme), v14]) hL 1 rfl Tryz_T31 rfl (rdL_one (hL.rdO 0 rfl)) rfl rfl rfl ?_)
 intro wd18 hL
 refine ONR ?_
 refine OV (.agg #[(.int .i64 a0.Boats), (.int .i64 a0.Scheme), v14]) rfl (x_loadN (cs := [(.int .i64 a0.Boats), (.int .i64 a0.Scheme), v14]) U33 Tryz_T33 rfl rfl (hL.cellsB 1 rfl (o := 0) (l := [(.int .i64 a0.Boats), (.int .i64 a0.Scheme), v14]) (by intro j u hj; exact (by simpa using hj)))) ?_
 refine OW.cons (S_storeN (l := [(.int .i64 a0.Boats), (.int .i64 a0.Scheme), v14]) (cs' := #[(.int .i64 a0.Boats), (.int .i64 a0.Scheme), v14]) hL 2 rfl Tryz_T33 rfl rfl (List.forall_mem_cons.2 ⟨rfl, (List.forall_mem_cons.2 ⟨rfl, (List.forall_mem_cons.2 ⟨rdL_one (hL.rdO 0 rfl), (fun _ h => by cases h)⟩)⟩)⟩) rfl (Nat.le_of_ble_eq_true rfl) rfl ?_)
 intro wd19 hL
 refine OW.nil ?_
 refine CW.ret ?_
 obtain rfl := Option.some.inj hm
 exact RRc rfl rfl (run_loadBlk U33 Tryz_T33 (hL.get 2 rfl) rfl) ⟨v14, S13, rfl, hL.fresh 4 rfl [0] (by decide) (by decide) rfl⟩

theorem M.laws_toPenalty_ok (w0 : World) (a0 : Penalty) {r : Penalty} (hm : M.laws_toPenalty a0 = some r) :
    Calls Tryz.prog 21 #[(.agg #[(.int .i64 a0.Race), (.int .i64 a0.Boat), (.int .i64 a0.Kind), (.int .i64 a0.Value)])] w0 fun e w' => e = .returned (.agg #[(.int .i64 r.Race), (.int .i64 r.Boat), (.int .i64 r.Kind), (.int .i64 r.Value)]) ∧ Fresh w0 w' [] := by
 unfold M.laws_toPenalty at hm
 refine calls_CW (args := [(.agg #[(.int .i64 a0.Race), (.int .i64 a0.Boat), (.int .i64 a0.Kind), (.int .i64 a0.Value)])]) Tryz.func21 rfl rfl rfl ?_
 have hL := Hp.start w0
 refine CSR ?_
 refine OW.cons (S_box (cs := #[(.int .i64 a0.Race), (.int .i64 a0.Boat), (.int .i64 a0.Kind), (.int .i64 a0.Value)]) hL rfl rfl rfl ?_)
 intro wd1 b2 hL
 refine OW.cons (S_alloc (cs := #[(.int .i64 0), (.int .i64 0), (.int .i64 0), (.int .i64 0)]) hL Tryz_T53 rfl rfl ?_)
 intro wd3 b4 hL
 refine ONR ?_
 refine OW.cons (S_alloc (cs := #[(.int .i64 0), (.int .i64 0), (.int .i64 0), (.int .i64 0)]) hL Tryz_T53 rfl rfl ?_)
 intro wd5 b6 hL
 refine ONR ?_
 refine OV (.pointer (some ⟨b2, 0, none⟩)) rfl (x_fieldAddr (fsz := 1) 0 0 0 U55 rfl Tryz_T2 rfl rfl rfl) ?_
 refine OV (.int .i64 a0.Race) rfl (x_load1 U2 rfl rfl (hL.cellB 2 rfl rfl)) ?_
 refine OV (.pointer (some ⟨b6, 0, none⟩)) rfl (x_fieldAddr (fsz := 1) 0 0 0 U53 rfl Tryz_T2 rfl rfl rfl) ?_
 refine OW.cons (S_store (cs' := #[(.int .i64 a0.Race), (.int .i64 0), (.int .i64 0), (.int .i64 0)]) hL 0 rfl Tryz_T2 rfl rfl rfl rfl rfl ?_)
 intro wd7 hL
 refine ONR ?_
 refine OV (.pointer (some ⟨b2, 1, none⟩)) rfl (x_fieldAddr (fsz := 1) 0 1 1 U55 rfl Tryz_T2 rfl rfl rfl) ?_
 refine OV (.int .i64 a0.Boat) rfl (x_load1 U2 rfl rfl (hL.cellB 2 rfl rfl)) ?_
 refine OV (.pointer (some ⟨b6, 1, none⟩)) rfl (x_fieldAddr (fsz := 1) 0 1 1 U53 rfl Tryz_T2 rfl rfl rfl) ?_
 refine OW.cons (S_store (cs' := #[(.int .i64 a0.Race), (.int .i64 a0.Boat), (.int .i64 0), (.int .i64 0)]) hL 0 rfl Tryz_T2 rfl rfl rfl rfl rfl ?_)
 intro wd8 hL
 refine ONR ?_
 refine OV (.pointer (some ⟨b2, 2, none⟩)) rfl (x_fieldAddr (fsz := 1) 0 2 2 U55 rfl Tryz_T2 rfl rfl rfl) ?_
 refine OV (.int .i64 a0.Kind) rfl (x_load1 U2 rfl rfl (hL.cellB 2 rfl rfl)) ?_
 refine OV (.pointer (some ⟨b6, 2, none⟩)) rfl (x_fieldAddr (fsz := 1) 0 2 2 U53 rfl Tryz_T2 rfl rfl rfl) ?_
 refine OW.cons (S_store (cs' := #[(.int .i64 a0.Race), (.int .i64 a0.Boat), (.int .i64 a0.Kind), (.int .i64 0)]) hL 0 rfl Tryz_T2 rfl rfl rfl rfl rfl ?_)
 intro wd9 hL
 refine ONR ?_
 refine OV (.pointer (some ⟨b2, 3, none⟩)) rfl (x_fieldAddr (fsz := 1) 0 3 3 U55 rfl Tryz_T2 rfl rfl rfl) ?_
 refine OV (.int .i64 a0.Value) rfl (x_load1 U2 rfl rfl (hL.cellB 2 rfl rfl)) ?_
 refine OV (.pointer (some ⟨b6, 3, none⟩)) rfl (x_fieldAddr (fsz := 1) 0 3 3 U53 rfl Tryz_T2 rfl rfl rfl) ?_
 refine OW.cons (S_store (cs' := #[(.int .i64 a0.Race), (.int .i64 a0.Boat), (.int .i64 a0.Kind), (.int .i64 a0.Value)]) hL 0 rfl Tryz_T2 rfl rfl rfl rfl rfl ?_)
 intro wd10 hL
 refine ONR ?_
 refine OV (.agg #[(.int .i64 a0.Race), (.int .i64 a0.Boat), (.int .i64 a0.Kind), (.int .i64 a0.Value)]) rfl (x_loadN (cs := [(.int .i64 a0.Race), (.int .i64 a0.Boat), (.int .i64 a0.Kind), (.int .i64 a0.Value)]) U53 Tryz_T53 rfl rfl (hL.cellsB 0 rfl (o := 0) (l := [(.int .i64 a0.Race), (.int .i64 a0.Boat), (.int .i64 a0.Kind), (.int .i64 a0.Value)]) (by intro j u hj; exact (by simpa using hj)))) ?_
 refine OW.cons (S_storeN (l := [(.int .i64 a0.Race), (.int .i64 a0.Boat), (.int .i64 a0.Kind), (.int .i64 a0.Value)]) (cs' := #[(.int .i64 a0.Race), (.int .i64 a0.Boat), (.int .i64 a0.Kind), (.int .i64 a0.Value)]) hL 1 rfl Tryz_T53 rfl rfl (List.forall_mem_cons.2 ⟨rfl, (List.forall_mem_cons.2 ⟨rfl, (List.forall_mem_cons.2 ⟨rfl, (List.forall_mem_cons.2 ⟨rfl, (fun _ h => by cases h)⟩)⟩)⟩)⟩) rfl (Nat.le_of_ble_eq_true rfl) rfl ?_)
 intro wd11 hL
 refine OW.nil ?_
 refine CW.ret ?_
 obtain rfl := Option.some.inj hm
 exact RRc rfl rfl (run_loadBlk U53 Tryz_T53 (hL.get 1 rfl) rfl) ⟨rfl, hL.fresh 3 rfl [] (by decide) (by decide) rfl⟩

theorem M.laws_toPenaltyS_ok (w0 : World) (a0 : List Penalty) {v1 : Value} (h2 : rdL (· < w0.heap.size) w0 v1 a0) {r : (List Penalty)} (hm : M.laws_toPenaltyS a0 = some r) :
    Calls Tryz.prog 8 #[v1] w0 fun e w' => ∃ (rv0 : Value) (rS0 : Nat → Prop), e = .returned rv0 ∧ Fresh w0 w' [Ent.own 53 rS0 rv0 r] := by
 unfold M.laws_toPenaltyS at hm
 refine calls_CW (args := [v1]) Tryz.func8 rfl rfl rfl ?_
 have hL := Hp.start w0
 refine CSR ?_
 refine OV (.slice none 0 0) rfl (x_assign) ?_
 refine ONR ?_
 refine OV v1 rfl (x_move) ?_
 refine OV (.int .i64 (a0.length : Int)) rfl (x_lenR U25 rfl (hL.rdS 0 rfl h2)) ?_
 obtain ⟨hc6, hm⟩ := chkE hm
 refine OW.cons (S_make (α := Penalty) (Penalty.mk 0 0 0 0) hL U35 Tryz_T53 rfl rfl rfl hc6 (by decide) rfl ?_)
 intro wd3 v4 S5 hL
 refine OV v4 rfl (x_assign) ?_
 refine ONS ?_
 refine CSR ?_
 refine OV (.int .i64 0) rfl (x_assign) ?_
 refine OW.nil ?_
 obtain ⟨o53, ho54, hm⟩ := bndE hm
 refine CW.loopB (fun (s_l1 : (List Penalty) × Int) (F : Fr) (w : World) => ∃ (S50 : Nat → Prop), F 0 = v1 ∧ F 3 = v4 ∧ F 4 = (.int .i64 s_l1.2) ∧ Hp w0 [Ent.own 53 S50 v4 s_l1.1, Ent.snap w0 w0.heap.size] w) (fun o => outc o (fun x => some x) (fun s => M.laws_toPenaltyS_a1 s) = some r) ho54 hm ⟨S5, rfl, rfl, rfl, hL⟩ ?_ ?_
 · intro s_l1 F55 wd56 hJ hm
   have hm := outcE hm
   have hm : M.laws_toPenaltyS_a1 s_l1 = some r := hm
   unfold M.laws_toPenaltyS_a1 at hm
   obtain ⟨S50, f57, f58, f59, hL⟩ := hJ
   refine CSR ?_
   refine OV v4 rfl (x_mv f58) ?_
   refine OV v4 rfl (x_assign) ?_
   refine OW.nil ?_
   refine CW.ret ?_
   obtain rfl := Option.some.inj hm
   exact RR1 rfl rfl ⟨v4, S50, rfl, hL.fresh 1 rfl [0] (by decide) (by decide) rfl⟩
 intro s_l1 F60 wd61 t51 hJ hm hr52
 unfold M.laws_toPenaltyS_l1 at hm
 obtain ⟨S50, f62, f63, f64, hL⟩ := hJ
 refine CW.seq ?_
 refine CSR ?_
 refine OV (.int .i64 s_l1.2) rfl (x_mv f64) ?_
 refine OV v1 rfl (x_mv f62) ?_
 refine OV (.int .i64 (a0.length : Int)) rfl (x_lenR U25 rfl (hL.rdS 1 rfl h2)) ?_
 refine OV (.bool (decide (s_l1.2 < (a0.length : Int)))) rfl (x_lss rfl rfl) ?_
 refine OW.nil ?_
 refine CW.condM (t := decide (s_l1.2 < (a0.length : Int))) rfl hm (fun hb65 hm => ?_) (fun hb65 hm => ?_)
 · refine CW.skip ?_
   refine CW.seq ?_
   refine CW.block ?_
   refine CW.regionL ?_
   refine OV v4 rfl (x_mv f63) ?_
   refine OV (.int .i64 s_l1.2) rfl (x_mv f64) ?_
   refine OV v1 rfl (x_mv f62) ?_
   refine OV (.int .i64 s_l1.2) rfl (x_mv f64) ?_
   obtain ⟨x66, ha67, hm⟩ := bndE hm
   obtain ⟨hz68, ha72⟩ := idxE ha67
   obtain ⟨b69, q70, hix71⟩ := rdL_ix (hL.rdS 1 rfl h2) hz68 ha72
   refine OV (.pointer (some ⟨b69, q70, none⟩)) rfl (x_ix U25 Tryz_T55 rfl rfl hix71) ?_
   refine OV (.agg #[(.int .i64 x66.Race), (.int .i64 x66.Boat), (.int .i64 x66.Kind), (.int .i64 x66.Value)]) rfl (x_loadN (cs := [(.int .i64 x66.Race), (.int .i64 x66.Boat), (.int .i64 x66.Kind), (.int .i64 x66.Value)]) U55 Tryz_T55 rfl rfl (rdF_cells (hL.rdS 1 rfl h2) hix71 ha72)) ?_
   obtain ⟨x73, hx74, hm⟩ := bndE hm
   refine OW.cons (OP.call rfl (x_call (vs := [(.agg #[(.int .i64 x66.Race), (.int .i64 x66.Boat), (.int .i64 x66.Kind), (.int .i64 x66.Value)])]) Tryz_C21 ⟨rfl, trivial⟩) (M.laws_toPenalty_ok _ x66 hx74) ?_)
   rintro e75 wd76 ⟨rfl, hF77⟩
   refine ⟨_, rfl, ?_⟩
   have hL := hL.pushAll hF77
   simp only [lA, lB, lC, lD] at hL
   obtain ⟨x78, ha79, hm⟩ := bndE hm
   obtain ⟨hz80, ha84⟩ := idxE ha79
   obtain ⟨b81, q82, hix83⟩ := rdL_ix (hL.rdO 0 rfl) hz80 ha84
   refine OV (.pointer (some ⟨b81, q82, none⟩)) rfl (x_ix U35 Tryz_T53 rfl rfl hix83) ?_
   refine OW.cons (S_storeXN (l := [(.int .i64 x73.Race), (.int .i64 x73.Boat), (.int .i64 x73.Kind), (.int .i64 x73.Value)]) x73 hL 0 rfl Tryz_T53 hix83 ha84 rfl rfl rfl ?_)
   intro wd85 hL
   refine OW.nil ?_
   refine CW.regionL ?_
   refine OV (.int .i64 s_l1.2) rfl (x_mv f64) ?_
   refine OV (.int .i64 (w64 (s_l1.2 + 1))) rfl (x_add rfl rfl) ?_
   refine OV (.int .i64 (w64 (s_l1.2 + 1))) rfl (x_assign) ?_
   refine OW.nil ?_
   obtain rfl := Option.some.inj hm
   exact ⟨_, rfl, ⟨S50, f62, f63, rfl, hL⟩⟩
 refine CW.exit ?_
 refine XJ.hit ?_
 obtain rfl := Option.some.inj hm
 exact ⟨_, rfl, ⟨S50, f62, f63, f64, hL⟩⟩

theorem M.laws_toInt64S_ok (w0 : World) (a0 : List Int) {v1 : Value} (h2 : rdL (· < w0.heap.size) w0 v1 a0) {r : (List Int)} (hm : M.laws_toInt64S a0 = some r) :
    Calls Tryz.prog 9 #[v1] w0 fun e w' => ∃ (rv0 : Value) (rS0 : Nat → Prop), e = .returned rv0 ∧ Fresh w0 w' [Ent.own 2 rS0 rv0 r] := by
 unfold M.laws_toInt64S at hm
 refine calls_CW (args := [v1]) Tryz.func9 rfl rfl rfl ?_
 have hL := Hp.start w0
 refine CSR ?_
 refine OV (.slice none 0 0) rfl (x_assign) ?_
 refine ONR ?_
 refine OV v1 rfl (x_move) ?_
 refine OV (.int .i64 (a0.length : Int)) rfl (x_lenR U26 rfl (hL.rdS 0 rfl h2)) ?_
 obtain ⟨hc6, hm⟩ := chkE hm
 refine OW.cons (S_make (α := Int) 0 hL U26 Tryz_T2 rfl rfl rfl hc6 (by decide) rfl ?_)
 intro wd3 v4 S5 hL
 refine OV v4 rfl (x_assign) ?_
 refine ONS ?_
 refine CSR ?_
 refine OV (.int .i64 0) rfl (x_assign) ?_
 refine OW.nil ?_
 obtain ⟨o43, ho44, hm⟩ := bndE hm
 refine CW.loopB (fun (s_l1 : (List Int) × Int) (F : Fr) (w : World) => ∃ (S40 : Nat → Prop), F 0 = v1 ∧ F 3 = v4 ∧ F 4 = (.int .i64 s_l1.2) ∧ Hp w0 [Ent.own 2 S40 v4 s_l1.1, Ent.snap w0 w0.heap.size] w) (fun o => outc o (fun x => some x) (fun s => M.laws_toInt64S_a1 s) = some r) ho44 hm ⟨S5, rfl, rfl, rfl, hL⟩ ?_ ?_
 · intro s_l1 F45 wd46 hJ hm
   have hm := outcE hm
   have hm : M.laws_toInt64S_a1 s_l1 = some r := hm
   unfold M.laws_toInt64S_a1 at hm
   obtain ⟨S40, f47, f48, f49, hL⟩ := hJ
   refine CSR ?_
   refine OV v4 rfl (x_mv f48) ?_
   refine OV v4 rfl (x_assign) ?_
   refine OW.nil ?_
   refine CW.ret ?_
   obtain rfl := Option.some.inj hm
   exact RR1 rfl rfl ⟨v4, S40, rfl, hL.fresh 1 rfl [0] (by decide) (by decide) rfl⟩
 intro s_l1 F50 wd51 t41 hJ hm hr42
 unfold M.laws_toInt64S_l1 at hm
 obtain ⟨S40, f52, f53, f54, hL⟩ := hJ
 refine CW.seq ?_
 refine CSR ?_
 refine OV (.int .i64 s_l1.2) rfl (x_mv f54) ?_
 refine OV v1 rfl (x_mv f52) ?_
 refine OV (.int .i64 (a0.length : Int)) rfl (x_lenR U26 rfl (hL.rdS 1 rfl h2)) ?_
 refine OV (.bool (decide (s_l1.2 < (a0.length : Int)))) rfl (x_lss rfl rfl) ?_
 refine OW.nil ?_
 refine CW.condM (t := decide (s_l1.2 < (a0.length : Int))) rfl hm (fun hb55 hm => ?_) (fun hb55 hm => ?_)
 · refine CW.skip ?_
   refine CW.seq ?_
   refine CW.block ?_
   refine CW.regionL ?_
   refine OV v4 rfl (x_mv f53) ?_
   refine OV (.int .i64 s_l1.2) rfl (x_mv f54) ?_
   refine OV v1 rfl (x_mv f52) ?_
   refine OV (.int .i64 s_l1.2) rfl (x_mv f54) ?_
   obtain ⟨x56, ha57, hm⟩ := bndE hm
   obtain ⟨hz58, ha62⟩ := idxE ha57
   obtain ⟨b59, q60, hix61⟩ := rdL_ix (hL.rdS 1 rfl h2) hz58 ha62
   refine OV (.pointer (some ⟨b59, q60, none⟩)) rfl (x_ix U26 Tryz_T2 rfl rfl hix61) ?_
   refine OV (.int .i64 x56) rfl (x_load1 U2 rfl rfl (rdF_cells (hL.rdS 1 rfl h2) hix61 ha62 0 _ rfl)) ?_
   obtain ⟨x63, ha64, hm⟩ := bndE hm
   obtain ⟨hz65, ha69⟩ := idxE ha64
   obtain ⟨b66, q67, hix68⟩ := rdL_ix (hL.rdO 0 rfl) hz65 ha69
   refine OV (.pointer (some ⟨b66, q67, none⟩)) rfl (x_ix U26 Tryz_T2 rfl rfl hix68) ?_
   refine OW.cons (S_storeX (j := 0) x56 hL 0 rfl Tryz_T2 hix68 ha69 rfl rfl rfl rfl rfl rfl ?_)
   intro wd70 hL
   refine OW.nil ?_
   refine CW.regionL ?_
   refine OV (.int .i64 s_l1.2) rfl (x_mv f54) ?_
   refine OV (.int .i64 (w64 (s_l1.2 + 1))) rfl (x_add rfl rfl) ?_
   refine OV (.int .i64 (w64 (s_l1.2 + 1))) rfl (x_assign) ?_
   refine OW.nil ?_
   obtain rfl := Option.some.inj hm
   exact ⟨_, rfl, ⟨S40, f52, f53, rfl, hL⟩⟩
 refine CW.exit ?_
 refine XJ.hit ?_
 obtain rfl := Option.some.inj hm
 exact ⟨_, rfl, ⟨S40, f52, f53, f54, hL⟩⟩

theorem M.spec_l01In_ok (w0 : World) (a0 : Int) (a1 : Int) (a2 : Int) {r : Bool} (hm : M.spec_l01In a0 a1 a2 = some r) :
    Calls Tryz.prog 17 #[(.int .i64 a0), (.int .i64 a1), (.int .i64 a2)] w0 fun e w' => e = .returned (.bool r) ∧ Fresh w0 w' [] := by
 unfold M.spec_l01In at hm
 refine calls_CW (args := [(.int .i64 a0), (.int .i64 a1), (.int .i64 a2)]) Tryz.func17 rfl rfl rfl ?_
 have hL := Hp.start w0
 refine CSR ?_
 refine OV (.bool false) rfl (x_assign) ?_
 refine OW.nil ?_
 refine CW.seqJ (fun (s_j1 : Bool) (F : Fr) (w : World) => F 6 = (.bool s_j1) ∧ Hp w0 [Ent.snap w0 w0.heap.size] w) (fun s_j1 => M.spec_l01In_j1 s_j1 = some r) ?_ ?_
 · refine CW.regionL ?_
   refine OV (.int .i64 a0) rfl (x_move) ?_
   refine OV (.int .i64 a1) rfl (x_move) ?_
   refine OV (.bool (decide (a1 ≤ a0))) rfl (x_geq rfl rfl) ?_
   refine OV (.bool (decide (a1 ≤ a0))) rfl (x_move) ?_
   refine ifB_elim hm (fun hb5 hm => ?_) (fun hb5 hm => ?_)
   · refine OW.cons (OP.yes' rfl rfl hb5 (OP.val (v := (.int .i64 a0)) rfl (x_move) ?_))
     refine OW.cons (OP.yes' rfl rfl hb5 (OP.val (v := (.int .i64 a2)) rfl (x_move) ?_))
     refine OW.cons (OP.yes' rfl rfl hb5 (OP.val (v := (.bool (decide (a0 ≤ a2)))) rfl (x_leq rfl rfl) ?_))
     refine OV (.bool (decide (a0 ≤ a2))) rfl (x_pickT' rfl hb5 rfl) ?_
     refine OV (.bool (decide (a0 ≤ a2))) rfl (x_assign) ?_
     refine OW.nil ?_
     exact ⟨decide (a0 ≤ a2), hm, ⟨rfl, hL⟩⟩
   refine OW.cons (OP.no' rfl rfl hb5 rfl ?_)
   refine OW.cons (OP.no' rfl rfl hb5 rfl ?_)
   refine OW.cons (OP.no' rfl rfl hb5 rfl ?_)
   refine OV (.bool false) rfl (x_pickF' rfl hb5 rfl) ?_
   refine OV (.bool false) rfl (x_assign) ?_
   refine OW.nil ?_
   exact ⟨false, hm, ⟨rfl, hL⟩⟩
 intro s_j1 F2 wd3 hJ hm
 unfold M.spec_l01In_j1 at hm
 obtain ⟨f4, hL⟩ := hJ
 refine CW.ret ?_
 obtain rfl := Option.some.inj hm
 exact RR1 rfl f4 ⟨rfl, hL.fresh 0 rfl [] (by decide) (by decide) rfl⟩

theorem M.spec_l26Code_ok (w0 : World) (a0 : Int) {r : Bool} (hm : M.spec_l26Code a0 = some r) :
    Calls Tryz.prog 66 #[(.int .i64 a0)] w0 fun e w' => e = .returned (.bool r) ∧ Fresh w0 w' [] := by
 unfold M.spec_l26Code at hm
 refine calls_CW (args := [(.int .i64 a0)]) Tryz.func66 rfl rfl rfl ?_
 have hL := Hp.start w0
 refine CSR ?_
 refine OV (.bool false) rfl (x_assign) ?_
 refine ONR ?_
 refine OV (.int .i64 a0) rfl (x_move) ?_
 obtain ⟨x1, hx2, hm⟩ := bndE hm
 refine OW.cons (OP.call rfl (x_call (vs := [(.int .i64 a0), (.int .i64 0), (.int .i64 9)]) Tryz_C17 ⟨rfl, rfl, rfl, trivial⟩) (M.spec_l01In_ok _ a0 0 9 hx2) ?_)
 rintro e3 wd4 ⟨rfl, hF5⟩
 refine ⟨_, rfl, ?_⟩
 have hL := hL.pushAll hF5
 simp only [lA, lB, lC, lD] at hL
 refine OV (.bool x1) rfl (x_assign) ?_
 refine OW.nil ?_
 refine CW.ret ?_
 obtain rfl := Option.some.inj hm
 exact RR1 rfl rfl ⟨rfl, hL.fresh 0 rfl [] (by decide) (by decide) rfl⟩

theorem M.spec_l26Race_ok (w0 : World) (a0 : Int) (a1 : Race) {v1 : Value} (h2 : rdL (· < w0.heap.size) w0 v1 a1.Finishes) {r : Bool} (hm : M.spec_l26Race a0 a1 = some r) :
    Calls Tryz.prog 48 #[(.int .i64 a0), (.agg #[v1])] w0 fun e w' => e = .returned (.bool r) ∧ Fresh w0 w' [] := by
 unfold M.spec_l26Race at hm
 refine calls_CW (args := [(.int .i64 a0), (.agg #[v1])]) Tryz.func48 rfl rfl rfl ?_
 have hL := Hp.start w0
 refine CSR ?_
 refine OW.cons (S_box (cs := #[v1]) hL rfl rfl rfl ?_)
 intro wd3 b4 hL
 refine OV (.bool false) rfl (x_assign) ?_
 refine ONS ?_
 refine CSR ?_
 refine OV (.pointer (some ⟨b4, 0, none⟩)) rfl (x_fieldAddr (fsz := 1) 0 0 0 U75 rfl Tryz_T73 rfl rfl rfl) ?_
 refine OV v1 rfl (x_load1 U73 rfl rfl (hL.cellB 0 rfl rfl)) ?_
 refine OV (.int .i64 (a1.Finishes.length : Int)) rfl (x_lenR U73 rfl (hL.rdS 1 rfl h2)) ?_
 refine OV (.int .i64 a0) rfl (x_move) ?_
 refine OV (.bool ((a1.Finishes.length : Int) != a0)) rfl (x_neq rfl rfl) ?_
 refine OW.nil ?_
 refine CW.condM (t := (a1.Finishes.length : Int) != a0) rfl hm (fun hb5 hm => ?_) (fun hb5 hm => ?_)
 · refine CSR ?_
   refine OV (.bool false) rfl (x_assign) ?_
   refine OW.nil ?_
   refine CW.ret ?_
   obtain rfl := Option.some.inj hm
   exact RR1 rfl rfl ⟨rfl, hL.fresh 1 rfl [] (by decide) (by decide) rfl⟩
 refine CW.skip ?_
 refine CW.seq ?_
 refine CSR ?_
 refine OV (.int .i64 0) rfl (x_assign) ?_
 refine OW.nil ?_
 obtain ⟨o116, ho117, hm⟩ := bndE hm
 refine CW.loopB (fun (s_l1 : Int) (F : Fr) (w : World) => F 3 = (.pointer (some ⟨b4, 0, none⟩)) ∧ F 5 = (.int .i64 s_l1) ∧ Hp w0 [Ent.blk b4 75 #[v1], Ent.snap w0 w0.heap.size] w) (fun o => outc o (fun x => some x) (fun s => M.spec_l26Race_a1 s) = some r) ho117 hm ⟨rfl, rfl, hL⟩ ?_ ?_
 · intro s_l1 F118 wd119 hJ hm
   have hm := outcE hm
   have hm : M.spec_l26Race_a1 s_l1 = some r := hm
   unfold M.spec_l26Race_a1 at hm
   obtain ⟨f120, f121, hL⟩ := hJ
   refine CSR ?_
   refine OV (.bool true) rfl (x_assign) ?_
   refine OW.nil ?_
   refine CW.ret ?_
   obtain rfl := Option.some.inj hm
   exact RR1 rfl rfl ⟨rfl, hL.fresh 1 rfl [] (by decide) (by decide) rfl⟩
 intro s_l1 F122 wd123 t114 hJ hm hr115
 unfold M.spec_l26Race_l1 at hm
 obtain ⟨f124, f125, hL⟩ := hJ
 refine CW.seq ?_
 refine CSR ?_
 refine OV (.int .i64 s_l1) rfl (x_mv f125) ?_
 refine OV (.pointer (some ⟨b4, 0, none⟩)) rfl (x_fieldAddr (fsz := 1) 0 0 0 U75 rfl Tryz_T73 rfl f124 rfl) ?_
 refine OV v1 rfl (x_load1 U73 rfl rfl (hL.cellB 0 rfl rfl)) ?_
 refine OV (.int .i64 (a1.Finishes.length : Int)) rfl (x_lenR U73 rfl (hL.rdS 1 rfl h2)) ?_
 refine OV (.bool (decide (s_l1 < (a1.Finishes.length : Int)))) rfl (x_lss rfl rfl) ?_
 refine OW.nil ?_
 refine CW.condM (t := decide (s_l1 < (a1.Finishes.length : Int))) rfl hm (fun hb126 hm => ?_) (fun hb126 hm => ?_)
 · refine CW.skip ?_
   refine CW.seq ?_
   refine CW.block ?_
   refine CSR ?_
   refine OV (.pointer (some ⟨b4, 0, none⟩)) rfl (x_fieldAddr (fsz := 1) 0 0 0 U75 rfl Tryz_T73 rfl f124 rfl) ?_
   refine OV v1 rfl (x_load1 U73 rfl rfl (hL.cellB 0 rfl rfl)) ?_
   refine OV (.int .i64 s_l1) rfl (x_mv f125) ?_
   obtain ⟨x127, ha128, hm⟩ := bndE hm
   obtain ⟨hz129, ha133⟩ := idxE ha128
   obtain ⟨b130, q131, hix132⟩ := rdL_ix (hL.rdS 1 rfl h2) hz129 ha133
   refine OV (.pointer (some ⟨b130, q131, none⟩)) rfl (x_ix U73 Tryz_T79 rfl rfl hix132) ?_
   refine OV (.agg #[(.int .i64 x127.Boat), (.int .i64 x127.Code), (.int .i64 x127.Time)]) rfl (x_loadN (cs := [(.int .i64 x127.Boat), (.int .i64 x127.Code), (.int .i64 x127.Time)]) U79 Tryz_T79 rfl rfl (rdF_cells (hL.rdS 1 rfl h2) hix132 ha133)) ?_
   refine OW.cons (S_alloc (cs := #[(.int .i64 0), (.int .i64 0), (.int .i64 0)]) hL Tryz_T79 rfl rfl ?_)
   intro wd134 b135 hL
   refine OW.cons (S_storeN (l := [(.int .i64 x127.Boat), (.int .i64 x127.Code), (.int .i64 x127.Time)]) (cs' := #[(.int .i64 x127.Boat), (.int .i64 x127.Code), (.int .i64 x127.Time)]) hL 0 rfl Tryz_T79 rfl rfl (List.forall_mem_cons.2 ⟨rfl, (List.forall_mem_cons.2 ⟨rfl, (List.forall_mem_cons.2 ⟨rfl, (fun _ h => by cases h)⟩)⟩)⟩) rfl (Nat.le_of_ble_eq_true rfl) rfl ?_)
   intro wd136 hL
   refine ONS ?_
   refine CW.seqJ (fun (s_j1 : Bool) (F : Fr) (w : World) => F 3 = (.pointer (some ⟨b4, 0, none⟩)) ∧ F 5 = (.int .i64 s_l1) ∧ F 6 = (.pointer (some ⟨b135, 0, none⟩)) ∧ F 33 = (.bool s_j1) ∧ Hp w0 [Ent.blk b135 79 #[(.int .i64 x127.Boat), (.int .i64 x127.Code), (.int .i64 x127.Time)], Ent.blk b4 75 #[v1], Ent.snap w0 w0.heap.size] w) (fun s_j1 => M.spec_l26Race_j1 s_l1 x127 s_j1 = some t114) ?_ ?_
   · refine CW.regionL ?_
     refine OV (.pointer (some ⟨b135, 0, none⟩)) rfl (x_fieldAddr (fsz := 1) 0 0 0 U79 rfl Tryz_T2 rfl rfl rfl) ?_
     refine OV (.int .i64 x127.Boat) rfl (x_load1 U2 rfl rfl (hL.cellB 0 rfl rfl)) ?_
     refine OV (.int .i64 s_l1) rfl (x_mv f125) ?_
     refine OV (.bool (x127.Boat != s_l1)) rfl (x_neq rfl rfl) ?_
     refine OV (.bool (x127.Boat != s_l1)) rfl (x_move) ?_
     refine ifB_elim hm (fun hb174 hm => ?_) (fun hb174 hm => ?_)
     · refine OW.cons (OP.no' rfl rfl hb174 rfl ?_)
       refine OW.cons (OP.no' rfl rfl hb174 rfl ?_)
       refine OW.cons (OP.no' rfl rfl hb174 rfl ?_)
       refine OW.cons (OP.no' rfl rfl hb174 rfl ?_)
       refine OV (.bool true) rfl (x_pickT' rfl hb174 rfl) ?_
       refine OW.nil ?_
       exact ⟨true, hm, ⟨f124, f125, rfl, rfl, hL⟩⟩
     refine OW.cons (OP.yes' rfl rfl hb174 (OP.val (v := (.pointer (some ⟨b135, 1, none⟩))) rfl (x_fieldAddr (fsz := 1) 0 1 1 U79 rfl Tryz_T2 rfl rfl rfl) ?_))
     refine OW.cons (OP.yes' rfl rfl hb174 (OP.val (v := (.int .i64 x127.Code)) rfl (x_load1 U2 rfl rfl (hL.cellB 0 rfl rfl)) ?_))
     obtain ⟨x175, hx176, hm⟩ := bndE hm
     refine OW.cons (OP.yes' rfl rfl hb174 (OP.call rfl (x_call (vs := [(.int .i64 x127.Code)]) Tryz_C66 ⟨rfl, trivial⟩) (M.spec_l26Code_ok _ x127.Code hx176) ?_))
     rintro e177 wd178 ⟨rfl, hF179⟩
     refine ⟨_, rfl, ?_⟩
     have hL := hL.pushAll hF179
     simp only [lA, lB, lC, lD] at hL
     refine OW.cons (OP.yes' rfl rfl hb174 (OP.val (v := (.bool (!x175))) rfl (x_not rfl) ?_))
     refine OV (.bool (!x175)) rfl (x_pickF' rfl hb174 rfl) ?_
     refine OW.nil ?_
     exact ⟨!x175, hm, ⟨f124, f125, rfl, rfl, hL⟩⟩
   intro s_j1 F143 wd144 hJ hm
   unfold M.spec_l26Race_j1 at hm
   obtain ⟨f145, f146, f147, f148, hL⟩ := hJ
   refine CW.condM (t := s_j1) f148 hm (fun hb149 hm => ?_) (fun hb149 hm => ?_)
   · refine CSR ?_
     refine OV (.bool false) rfl (x_assign) ?_
     refine OW.nil ?_
     refine CW.ret ?_
     obtain rfl := Option.some.inj hm
     have hm := hr115 _ rfl
     obtain rfl := Option.some.inj hm
     exact RR1 rfl rfl ⟨rfl, hL.fresh 2 rfl [] (by decide) (by decide) rfl⟩
   refine CW.skip ?_
   refine CW.seqJ (fun (s_j2 : Bool) (F : Fr) (w : World) => F 3 = (.pointer (some ⟨b4, 0, none⟩)) ∧ F 5 = (.int .i64 s_l1) ∧ F 52 = (.bool s_j2) ∧ Hp w0 [Ent.blk b135 79 #[(.int .i64 x127.Boat), (.int .i64 x127.Code), (.int .i64 x127.Time)], Ent.blk b4 75 #[v1], Ent.snap w0 w0.heap.size] w) (fun s_j2 => M.spec_l26Race_j2 s_l1 s_j2 = some t114) ?_ ?_
   · refine CW.regionL ?_
     refine OV (.pointer (some ⟨b135, 1, none⟩)) rfl (x_fieldAddr (fsz := 1) 0 1 1 U79 rfl Tryz_T2 rfl f147 rfl) ?_
     refine OV (.int .i64 x127.Code) rfl (x_load1 U2 rfl rfl (hL.cellB 0 rfl rfl)) ?_
     refine OV (.bool (x127.Code == 0)) rfl (x_eql rfl rfl) ?_
     refine OV (.bool (x127.Code == 0)) rfl (x_move) ?_
     refine ifB_elim hm (fun hb165 hm => ?_) (fun hb165 hm => ?_)
     · refine OW.cons (OP.yes' rfl rfl hb165 (OP.val (v := (.pointer (some ⟨b135, 2, none⟩))) rfl (x_fieldAddr (fsz := 1) 0 2 2 U79 rfl Tryz_T2 rfl f147 rfl) ?_))
       refine OW.cons (OP.yes' rfl rfl hb165 (OP.val (v := (.int .i64 x127.Time)) rfl (x_load1 U2 rfl rfl (hL.cellB 0 rfl rfl)) ?_))
       obtain ⟨x166, hx167, hm⟩ := bndE hm
       refine OW.cons (OP.yes' rfl rfl hb165 (OP.call rfl (x_call (vs := [(.int .i64 x127.Time), (.int .i64 1), (.int .i64 1000000000)]) Tryz_C17 ⟨rfl, rfl, rfl, trivial⟩) (M.spec_l01In_ok _ x127.Time 1 1000000000 hx167) ?_))
       rintro e168 wd169 ⟨rfl, hF170⟩
       refine ⟨_, rfl, ?_⟩
       have hL := hL.pushAll hF170
       simp only [lA, lB, lC, lD] at hL
       refine OW.cons (OP.yes' rfl rfl hb165 (OP.val (v := (.bool (!x166))) rfl (x_not rfl) ?_))
       refine OV (.bool (!x166)) rfl (x_pickT' rfl hb165 rfl) ?_
       refine OV (.bool (!x166)) rfl (x_move) ?_
       refine ifB_elim hm (fun hb171 hm => ?_) (fun hb171 hm => ?_)
       · refine OW.cons (OP.no' rfl rfl hb171 rfl ?_)
         refine OW.cons (OP.no' rfl rfl hb171 rfl ?_)
         refine OW.cons (OP.no' rfl rfl hb171 rfl ?_)
         refine OW.cons (OP.no' rfl rfl hb171 rfl ?_)
         refine OW.cons (OP.noU rfl rfl rfl ?_)
         refine OW.cons (OP.noU rfl rfl rfl ?_)
         refine OW.cons (OP.noU rfl rfl rfl ?_)
         refine OW.cons (OP.no' rfl rfl hb171 rfl ?_)
         refine OV (.bool true) rfl (x_pickT' rfl hb171 rfl) ?_
         refine OW.nil ?_
         exact ⟨true, hm, ⟨f145, f146, rfl, hL⟩⟩
       refine OW.cons (OP.yes' rfl rfl hb171 (OP.val (v := (.pointer (some ⟨b135, 1, none⟩))) rfl (x_fieldAddr (fsz := 1) 0 1 1 U79 rfl Tryz_T2 rfl f147 rfl) ?_))
       refine OW.cons (OP.yes' rfl rfl hb171 (OP.val (v := (.int .i64 x127.Code)) rfl (x_load1 U2 rfl rfl (hL.cellB 0 rfl rfl)) ?_))
       refine OW.cons (OP.yes' rfl rfl hb171 (OP.val (v := (.bool (x127.Code != 0))) rfl (x_neq rfl rfl) ?_))
       refine OW.cons (OP.yes' rfl rfl hb171 (OP.val (v := (.bool (x127.Code != 0))) rfl (x_move) ?_))
       refine ifB_elim hm (fun hb172 hm => ?_) (fun hb172 hm => ?_)
       · refine OW.cons (OP.yes' rfl rfl hb172 (OP.val (v := (.pointer (some ⟨b135, 2, none⟩))) rfl (x_fieldAddr (fsz := 1) 0 2 2 U79 rfl Tryz_T2 rfl f147 rfl) ?_))
         refine OW.cons (OP.yes' rfl rfl hb172 (OP.val (v := (.int .i64 x127.Time)) rfl (x_load1 U2 rfl rfl (hL.cellB 0 rfl rfl)) ?_))
         refine OW.cons (OP.yes' rfl rfl hb172 (OP.val (v := (.bool (x127.Time != 0))) rfl (x_neq rfl rfl) ?_))
         refine OW.cons (OP.yes' rfl rfl hb171 (OP.val (v := (.bool (x127.Time != 0))) rfl (x_pickT' rfl hb172 rfl) ?_))
         refine OV (.bool (x127.Time != 0)) rfl (x_pickF' rfl hb171 rfl) ?_
         refine OW.nil ?_
         exact ⟨x127.Time != 0, hm, ⟨f145, f146, rfl, hL⟩⟩
       refine OW.cons (OP.no' rfl rfl hb172 rfl ?_)
       refine OW.cons (OP.no' rfl rfl hb172 rfl ?_)
       refine OW.cons (OP.no' rfl rfl hb172 rfl ?_)
       refine OW.cons (OP.yes' rfl rfl hb171 (OP.val (v := (.bool false)) rfl (x_pickF' rfl hb172 rfl) ?_))
       refine OV (.bool false) rfl (x_pickF' rfl hb171 rfl) ?_
       refine OW.nil ?_
       exact ⟨false, hm, ⟨f145, f146, rfl, hL⟩⟩
     refine OW.cons (OP.no' rfl rfl hb165 rfl ?_)
     refine OW.cons (OP.no' rfl rfl hb165 rfl ?_)
     refine OW.cons (OP.no' rfl rfl hb165 rfl ?_)
     refine OW.cons (OP.no' rfl rfl hb165 rfl ?_)
     refine OV (.bool false) rfl (x_pickF' rfl hb165 rfl) ?_
     refine OV (.bool false) rfl (x_move) ?_
     refine OW.cons (OP.yes' rfl rfl rfl (OP.val (v := (.pointer (some ⟨b135, 1, none⟩))) rfl (x_fieldAddr (fsz := 1) 0 1 1 U79 rfl Tryz_T2 rfl f147 rfl) ?_))
     refine OW.cons (OP.yes' rfl rfl rfl (OP.val (v := (.int .i64 x127.Code)) rfl (x_load1 U2 rfl rfl (hL.cellB 0 rfl rfl)) ?_))
     refine OW.cons (OP.yes' rfl rfl rfl (OP.val (v := (.bool (x127.Code != 0))) rfl (x_neq rfl rfl) ?_))
     refine OW.cons (OP.yes' rfl rfl rfl (OP.val (v := (.bool (x127.Code != 0))) rfl (x_move) ?_))
     refine ifB_elim hm (fun hb173 hm => ?_) (fun hb173 hm => ?_)
     · refine OW.cons (OP.yes' rfl rfl hb173 (OP.val (v := (.pointer (some ⟨b135, 2, none⟩))) rfl (x_fieldAddr (fsz := 1) 0 2 2 U79 rfl Tryz_T2 rfl f147 rfl) ?_))
       refine OW.cons (OP.yes' rfl rfl hb173 (OP.val (v := (.int .i64 x127.Time)) rfl (x_load1 U2 rfl rfl (hL.cellB 0 rfl rfl)) ?_))
       refine OW.cons (OP.yes' rfl rfl hb173 (OP.val (v := (.bool (x127.Time != 0))) rfl (x_neq rfl rfl) ?_))
       refine OW.cons (OP.yes' rfl rfl rfl (OP.val (v := (.bool (x127.Time != 0))) rfl (x_pickT' rfl hb173 rfl) ?_))
       refine OV (.bool (x127.Time != 0)) rfl (x_pickF' rfl rfl rfl) ?_
       refine OW.nil ?_
       exact ⟨x127.Time != 0, hm, ⟨f145, f146, rfl, hL⟩⟩
     refine OW.cons (OP.no' rfl rfl hb173 rfl ?_)
     refine OW.cons (OP.no' rfl rfl hb173 rfl ?_)
     refine OW.cons (OP.no' rfl rfl hb173 rfl ?_)
     refine OW.cons (OP.yes' rfl rfl rfl (OP.val (v := (.bool false)) rfl (x_pickF' rfl hb173 rfl) ?_))
     refine OV (.bool false) rfl (x_pickF' rfl rfl rfl) ?_
     refine OW.nil ?_
     exact ⟨false, hm, ⟨f145, f146, rfl, hL⟩⟩
   intro s_j2 F159 wd160 hJ hm
   unfold M.spec_l26Race_j2 at hm
   obtain ⟨f161, f162, f163, hL⟩ := hJ
   refine CW.condM (t := s_j2) f163 hm (fun hb164 hm => ?_) (fun hb164 hm => ?_)
   · refine CSR ?_
     refine OV (.bool false) rfl (x_assign) ?_
     refine OW.nil ?_
     refine CW.ret ?_
     obtain rfl := Option.some.inj hm
     have hm := hr115 _ rfl
     obtain rfl := Option.some.inj hm
     exact RR1 rfl rfl ⟨rfl, hL.fresh 2 rfl [] (by decide) (by decide) rfl⟩
   refine CW.skip ?_
   refine CW.regionL ?_
   refine OV (.int .i64 s_l1) rfl (x_mv f162) ?_
   refine OV (.int .i64 (w64 (s_l1 + 1))) rfl (x_add rfl rfl) ?_
   refine OV (.int .i64 (w64 (s_l1 + 1))) rfl (x_assign) ?_
   refine OW.nil ?_
   have hL := hL.sel [1, 2] (by decide) rfl
   obtain rfl := Option.some.inj hm
   exact ⟨_, rfl, ⟨f161, rfl, hL⟩⟩
 refine CW.exit ?_
 refine XJ.hit ?_
 obtain rfl := Option.some.inj hm
 exact ⟨_, rfl, ⟨f124, f125, hL⟩⟩

theorem M.spec_IsSeries_ok (w0 : World) (a0 : Series) {v1 : Value} (h2 : rdL (· < w0.heap.size) w0 v1 a0.Races) {r : Bool} (hm : M.spec_IsSeries a0 = some r) :
    Calls Tryz.prog 31 #[(.agg #[(.int .i64 a0.Boats), (.int .i64 a0.Scheme), v1])] w0 fun e w' => e = .returned (.bool r) ∧ Fresh w0 w' [] := by
 unfold M.spec_IsSeries at hm
 refine calls_CW (args := [(.agg #[(.int .i64 a0.Boats), (.int .i64 a0.Scheme), v1])]) Tryz.func31 rfl rfl rfl ?_
 have hL := Hp.start w0
 refine CSR ?_
 refine OW.cons (S_box (cs := #[(.int .i64 a0.Boats), (.int .i64 a0.Scheme), v1]) hL rfl rfl rfl ?_)
 intro wd3 b4 hL
 refine OV (.bool false) rfl (x_assign) ?_
 refine ONS ?_
 refine CW.seqJ (fun (s_j1 : Bool) (F : Fr) (w : World) => F 1 = (.pointer (some ⟨b4, 0, none⟩)) ∧ F 19 = (.bool s_j1) ∧ Hp w0 [Ent.blk b4 33 #[(.int .i64 a0.Boats), (.int .i64 a0.Scheme), v1], Ent.snap w0 w0.heap.size] w) (fun s_j1 => M.spec_IsSeries_j1 a0 s_j1 = some r) ?_ ?_
 · refine CW.regionL ?_
   refine OV (.pointer (some ⟨b4, 0, none⟩)) rfl (x_fieldAddr (fsz := 1) 0 0 0 U33 rfl Tryz_T2 rfl rfl rfl) ?_
   refine OV (.int .i64 a0.Boats) rfl (x_load1 U2 rfl rfl (hL.cellB 0 rfl rfl)) ?_
   obtain ⟨x82, hx83, hm⟩ := bndE hm
   refine OW.cons (OP.call rfl (x_call (vs := [(.int .i64 a0.Boats), (.int .i64 1), (.int .i64 16)]) Tryz_C17 ⟨rfl, rfl, rfl, trivial⟩) (M.spec_l01In_ok _ a0.Boats 1 16 hx83) ?_)
   rintro e84 wd85 ⟨rfl, hF86⟩
   refine ⟨_, rfl, ?_⟩
   have hL := hL.pushAll hF86
   simp only [lA, lB, lC, lD] at hL
   refine OV (.bool (!x82)) rfl (x_not rfl) ?_
   refine OV (.bool (!x82)) rfl (x_move) ?_
   refine ifB_elim hm (fun hb87 hm => ?_) (fun hb87 hm => ?_)
   · refine OW.cons (OP.no' rfl rfl hb87 rfl ?_)
     refine OW.cons (OP.no' rfl rfl hb87 rfl ?_)
     refine OW.cons (OP.no' rfl rfl hb87 rfl ?_)
     refine OW.cons (OP.no' rfl rfl hb87 rfl ?_)
     refine OV (.bool true) rfl (x_pickT' rfl hb87 rfl) ?_
     refine OV (.bool true) rfl (x_move) ?_
     refine OW.cons (OP.no' rfl rfl rfl rfl ?_)
     refine OW.cons (OP.no' rfl rfl rfl rfl ?_)
     refine OW.cons (OP.no' rfl rfl rfl rfl ?_)
     refine OW.cons (OP.no' rfl rfl rfl rfl ?_)
     refine OV (.bool true) rfl (x_pickT' rfl rfl rfl) ?_
     refine OW.nil ?_
     exact ⟨true, hm, ⟨rfl, rfl, hL⟩⟩
   refine OW.cons (OP.yes' rfl rfl hb87 (OP.val (v := (.pointer (some ⟨b4, 1, none⟩))) rfl (x_fieldAddr (fsz := 1) 0 1 1 U33 rfl Tryz_T2 rfl rfl rfl) ?_))
   refine OW.cons (OP.yes' rfl rfl hb87 (OP.val (v := (.int .i64 a0.Scheme)) rfl (x_load1 U2 rfl rfl (hL.cellB 0 rfl rfl)) ?_))
   obtain ⟨x88, hx89, hm⟩ := bndE hm
   refine OW.cons (OP.yes' rfl rfl hb87 (OP.call rfl (x_call (vs := [(.int .i64 a0.Scheme), (.int .i64 0), (.int .i64 1)]) Tryz_C17 ⟨rfl, rfl, rfl, trivial⟩) (M.spec_l01In_ok _ a0.Scheme 0 1 hx89) ?_))
   rintro e90 wd91 ⟨rfl, hF92⟩
   refine ⟨_, rfl, ?_⟩
   have hL := hL.pushAll hF92
   simp only [lA, lB, lC, lD] at hL
   refine OW.cons (OP.yes' rfl rfl hb87 (OP.val (v := (.bool (!x88))) rfl (x_not rfl) ?_))
   refine OV (.bool (!x88)) rfl (x_pickF' rfl hb87 rfl) ?_
   refine OV (.bool (!x88)) rfl (x_move) ?_
   refine ifB_elim hm (fun hb93 hm => ?_) (fun hb93 hm => ?_)
   · refine OW.cons (OP.no' rfl rfl hb93 rfl ?_)
     refine OW.cons (OP.no' rfl rfl hb93 rfl ?_)
     refine OW.cons (OP.no' rfl rfl hb93 rfl ?_)
     refine OW.cons (OP.no' rfl rfl hb93 rfl ?_)
     refine OV (.bool true) rfl (x_pickT' rfl hb93 rfl) ?_
     refine OW.nil ?_
     exact ⟨true, hm, ⟨rfl, rfl, hL⟩⟩
   refine OW.cons (OP.yes' rfl rfl hb93 (OP.val (v := (.pointer (some ⟨b4, 2, none⟩))) rfl (x_fieldAddr (fsz := 1) 0 2 2 U33 rfl Tryz_T31 rfl rfl rfl) ?_))
   refine OW.cons (OP.yes' rfl rfl hb93 (OP.val (v := v1) rfl (x_load1 U31 rfl rfl (hL.cellB 0 rfl rfl)) ?_))
   refine OW.cons (OP.yes' rfl rfl hb93 (OP.val (v := (.int .i64 (a0.Races.length : Int))) rfl (x_lenR U31 rfl (hL.rdS 1 rfl h2)) ?_))
   refine OW.cons (OP.yes' rfl rfl hb93 (OP.val (v := (.bool (decide (12 < (a0.Races.length : Int))))) rfl (x_gtr rfl rfl) ?_))
   refine OV (.bool (decide (12 < (a0.Races.length : Int)))) rfl (x_pickF' rfl hb93 rfl) ?_
   refine OW.nil ?_
   exact ⟨decide (12 < (a0.Races.length : Int)), hm, ⟨rfl, rfl, hL⟩⟩
 intro s_j1 F17 wd18 hJ hm
 unfold M.spec_IsSeries_j1 at hm
 obtain ⟨f19, f20, hL⟩ := hJ
 refine CW.condM (t := s_j1) f20 hm (fun hb21 hm => ?_) (fun hb21 hm => ?_)
 · refine CSR ?_
   refine OV (.bool false) rfl (x_assign) ?_
   refine OW.nil ?_
   refine CW.ret ?_
   obtain rfl := Option.some.inj hm
   exact RR1 rfl rfl ⟨rfl, hL.fresh 1 rfl [] (by decide) (by decide) rfl⟩
 refine CW.skip ?_
 refine CW.seq ?_
 refine CSR ?_
 refine OV (.int .i64 0) rfl (x_assign) ?_
 refine OW.nil ?_
 obtain ⟨o56, ho57, hm⟩ := bndE hm
 refine CW.loopB (fun (s_l1 : Int) (F : Fr) (w : World) => F 1 = (.pointer (some ⟨b4, 0, none⟩)) ∧ F 3 = (.int .i64 s_l1) ∧ Hp w0 [Ent.blk b4 33 #[(.int .i64 a0.Boats), (.int .i64 a0.Scheme), v1], Ent.snap w0 w0.heap.size] w) (fun o => outc o (fun x => some x) (fun s => M.spec_IsSeries_a1 s) = some r) ho57 hm ⟨f19, rfl, hL⟩ ?_ ?_
 · intro s_l1 F58 wd59 hJ hm
   have hm := outcE hm
   have hm : M.spec_IsSeries_a1 s_l1 = some r := hm
   unfold M.spec_IsSeries_a1 at hm
   obtain ⟨f60, f61, hL⟩ := hJ
   refine CSR ?_
   refine OV (.bool true) rfl (x_assign) ?_
   refine OW.nil ?_
   refine CW.ret ?_
   obtain rfl := Option.some.inj hm
   exact RR1 rfl rfl ⟨rfl, hL.fresh 1 rfl [] (by decide) (by decide) rfl⟩
 intro s_l1 F62 wd63 t54 hJ hm hr55
 unfold M.spec_IsSeries_l1 at hm
 obtain ⟨f64, f65, hL⟩ := hJ
 refine CW.seq ?_
 refine CSR ?_
 refine OV (.int .i64 s_l1) rfl (x_mv f65) ?_
 refine OV (.pointer (some ⟨b4, 2, none⟩)) rfl (x_fieldAddr (fsz := 1) 0 2 2 U33 rfl Tryz_T31 rfl f64 rfl) ?_
 refine OV v1 rfl (x_load1 U31 rfl rfl (hL.cellB 0 rfl rfl)) ?_
 refine OV (.int .i64 (a0.Races.length : Int)) rfl (x_lenR U31 rfl (hL.rdS 1 rfl h2)) ?_
 refine OV (.bool (decide (s_l1 < (a0.Races.length : Int)))) rfl (x_lss rfl rfl) ?_
 refine OW.nil ?_
 refine CW.condM (t := decide (s_l1 < (a0.Races.length : Int))) rfl hm (fun hb66 hm => ?_) (fun hb66 hm => ?_)
 · refine CW.skip ?_
   refine CW.seq ?_
   refine CW.block ?_
   refine CW.seq ?_
   refine CW.draw Tryz_mixed ?_
   have hL := hL.call (Mod.drew _)
   refine DW.pre (fuel := 0) (fin := bma 9 511) (C := fun w' => Mod None_ _ w') [0, 1, 2, 3, 4, 5, 6, 7, 8] (Mod.refl _ _) (by kernel_rfl) (by kernel_rfl) ?_
   refine QW.cons rfl (QP.val (v := (.pointer (some ⟨b4, 0, none⟩))) rfl (fun w' hm' => x_fieldAddr (fsz := 1) 0 0 0 U33 rfl Tryz_T2 rfl f64 rfl) ?_)
   refine QW.cons rfl (QP.val (v := (.int .i64 a0.Boats)) rfl (fun w' hm' => x_load1 U2 rfl rfl ((hL.call hm').cellB 0 rfl rfl)) ?_)
   refine QW.cons rfl (QP.val (v := (.pointer (some ⟨b4, 2, none⟩))) rfl (fun w' hm' => x_fieldAddr (fsz := 1) 0 2 2 U33 rfl Tryz_T31 rfl f64 rfl) ?_)
   refine QW.cons rfl (QP.val (v := v1) rfl (fun w' hm' => x_load1 U31 rfl rfl ((hL.call hm').cellB 0 rfl rfl)) ?_)
   refine QW.cons rfl (QP.val (v := (.int .i64 s_l1)) rfl (fun w' hm' => x_mv f65) ?_)
   obtain ⟨x67, ha68, hm⟩ := bndE hm
   obtain ⟨hz69, ha77⟩ := idxE ha68
   obtain ⟨b70, q71, v72, hix73, hs74, hc75, hr76⟩ := rdN_at h2 hz69 ha77
   refine QW.cons rfl (QP.val (v := (.pointer (some ⟨b70, q71, none⟩))) rfl (fun w' hm' => x_ix U31 Tryz_T75 rfl rfl hix73) ?_)
   refine QW.cons rfl (QP.val (v := (.agg #[v72])) rfl (fun w' hm' => x_loadN (cs := [v72]) U75 Tryz_T75 rfl rfl (by intro j u hj; match j, hj with | 0, hj => (simp at hj; subst hj; exact ((hL.call hm').cellS 1 rfl hs74 hc75)))) ?_)
   obtain ⟨x78, hx79, hm⟩ := bndE hm
   refine QW.cons rfl (QP.call (v := (.bool x78)) rfl (fun w' hm' => x_call (vs := [(.int .i64 a0.Boats), (.agg #[v72])]) Tryz_C48 ⟨rfl, rfl, trivial⟩) (fun w' hm' => (M.spec_l26Race_ok w' a0.Boats x67 ((hL.call hm').rdS 1 rfl hr76) hx79).mono (fun e w'' h => ⟨h.1, hm'.trans h.2.mod⟩)) ?_)
   refine QW.cons rfl (QP.val (v := (.bool (!x78))) rfl (fun w' hm' => x_not rfl) ?_)
   refine QW.nil ?_
   intro wd80 hmod
   have hL := hL.call hmod
   refine DW.done (by kernel_rfl) ?_
   refine CW.condM (t := !x78) rfl hm (fun hb81 hm => ?_) (fun hb81 hm => ?_)
   · refine CSR ?_
     refine OV (.bool false) rfl (x_assign) ?_
     refine OW.nil ?_
     refine CW.ret ?_
     obtain rfl := Option.some.inj hm
     have hm := hr55 _ rfl
     obtain rfl := Option.some.inj hm
     exact RR1 rfl rfl ⟨rfl, hL.fresh 1 rfl [] (by decide) (by decide) rfl⟩
   refine CW.skip ?_
   refine CW.regionL ?_
   refine OV (.int .i64 s_l1) rfl (x_mv f65) ?_
   refine OV (.int .i64 (w64 (s_l1 + 1))) rfl (x_add rfl rfl) ?_
   refine OV (.int .i64 (w64 (s_l1 + 1))) rfl (x_assign) ?_
   refine OW.nil ?_
   obtain rfl := Option.some.inj hm
   exact ⟨_, rfl, ⟨f64, rfl, hL⟩⟩
 refine CW.exit ?_
 refine XJ.hit ?_
 obtain rfl := Option.some.inj hm
 exact ⟨_, rfl, ⟨f64, f65, hL⟩⟩

theorem M.spec_l21Code_ok (w0 : World) (a0 : Int) {r : Bool} (hm : M.spec_l21Code a0 = some r) :
    Calls Tryz.prog 67 #[(.int .i64 a0)] w0 fun e w' => e = .returned (.bool r) ∧ Fresh w0 w' [] := by
 unfold M.spec_l21Code at hm
 refine calls_CW (args := [(.int .i64 a0)]) Tryz.func67 rfl rfl rfl ?_
 have hL := Hp.start w0
 refine CSR ?_
 refine OV (.bool false) rfl (x_assign) ?_
 refine OW.nil ?_
 refine CW.seqJ (fun (s_j1 : Bool) (F : Fr) (w : World) => F 2 = (.bool s_j1) ∧ Hp w0 [Ent.snap w0 w0.heap.size] w) (fun s_j1 => M.spec_l21Code_j1 s_j1 = some r) ?_ ?_
 · refine CW.regionL ?_
   refine OV (.int .i64 a0) rfl (x_move) ?_
   refine OV (.bool (a0 == 6)) rfl (x_eql rfl rfl) ?_
   refine OV (.bool (a0 == 6)) rfl (x_move) ?_
   refine ifB_elim hm (fun hb6 hm => ?_) (fun hb6 hm => ?_)
   · refine OW.cons (OP.no' rfl rfl hb6 rfl ?_)
     refine OW.cons (OP.no' rfl rfl hb6 rfl ?_)
     refine OV (.bool true) rfl (x_pickT' rfl hb6 rfl) ?_
     refine OV (.bool true) rfl (x_move) ?_
     refine OW.cons (OP.no' rfl rfl rfl rfl ?_)
     refine OW.cons (OP.no' rfl rfl rfl rfl ?_)
     refine OV (.bool true) rfl (x_pickT' rfl rfl rfl) ?_
     refine OV (.bool true) rfl (x_assign) ?_
     refine OW.nil ?_
     exact ⟨true, hm, ⟨rfl, hL⟩⟩
   refine OW.cons (OP.yes' rfl rfl hb6 (OP.val (v := (.int .i64 a0)) rfl (x_move) ?_))
   refine OW.cons (OP.yes' rfl rfl hb6 (OP.val (v := (.bool (a0 == 7))) rfl (x_eql rfl rfl) ?_))
   refine OV (.bool (a0 == 7)) rfl (x_pickF' rfl hb6 rfl) ?_
   refine OV (.bool (a0 == 7)) rfl (x_move) ?_
   refine ifB_elim hm (fun hb7 hm => ?_) (fun hb7 hm => ?_)
   · refine OW.cons (OP.no' rfl rfl hb7 rfl ?_)
     refine OW.cons (OP.no' rfl rfl hb7 rfl ?_)
     refine OV (.bool true) rfl (x_pickT' rfl hb7 rfl) ?_
     refine OV (.bool true) rfl (x_assign) ?_
     refine OW.nil ?_
     exact ⟨true, hm, ⟨rfl, hL⟩⟩
   refine OW.cons (OP.yes' rfl rfl hb7 (OP.val (v := (.int .i64 a0)) rfl (x_move) ?_))
   refine OW.cons (OP.yes' rfl rfl hb7 (OP.val (v := (.bool (a0 == 5))) rfl (x_eql rfl rfl) ?_))
   refine OV (.bool (a0 == 5)) rfl (x_pickF' rfl hb7 rfl) ?_
   refine OV (.bool (a0 == 5)) rfl (x_assign) ?_
   refine OW.nil ?_
   exact ⟨a0 == 5, hm, ⟨rfl, hL⟩⟩
 intro s_j1 F3 wd4 hJ hm
 unfold M.spec_l21Code_j1 at hm
 obtain ⟨f5, hL⟩ := hJ
 refine CW.ret ?_
 obtain rfl := Option.some.inj hm
 exact RR1 rfl f5 ⟨rfl, hL.fresh 0 rfl [] (by decide) (by decide) rfl⟩

theorem M.spec_l21Value_ok (w0 : World) (a0 : Int) (a1 : Int) {r : Bool} (hm : M.spec_l21Value a0 a1 = some r) :
    Calls Tryz.prog 49 #[(.int .i64 a0), (.int .i64 a1)] w0 fun e w' => e = .returned (.bool r) ∧ Fresh w0 w' [] := by
 unfold M.spec_l21Value at hm
 refine calls_CW (args := [(.int .i64 a0), (.int .i64 a1)]) Tryz.func49 rfl rfl rfl ?_
 have hL := Hp.start w0
 refine CSR ?_
 refine OV (.bool false) rfl (x_assign) ?_
 refine ONS ?_
 refine CSR ?_
 refine OV (.int .i64 a0) rfl (x_move) ?_
 refine OW.nil ?_
 refine CW.block ?_
 refine CSR ?_
 refine OV (.bool (a0 == 1)) rfl (x_eql rfl rfl) ?_
 refine OV (.bool (a0 == 1)) rfl (x_assign) ?_
 refine OW.nil ?_
 refine CW.condM (t := a0 == 1) rfl hm (fun hb1 hm => ?_) (fun hb1 hm => ?_)
 · refine CSR ?_
   refine OV (.int .i64 a1) rfl (x_move) ?_
   obtain ⟨x2, hx3, hm⟩ := bndE hm
   refine OW.cons (OP.call rfl (x_call (vs := [(.int .i64 a1)]) Tryz_C67 ⟨rfl, trivial⟩) (M.spec_l21Code_ok _ a1 hx3) ?_)
   rintro e4 wd5 ⟨rfl, hF6⟩
   refine ⟨_, rfl, ?_⟩
   have hL := hL.pushAll hF6
   simp only [lA, lB, lC, lD] at hL
   refine OV (.bool x2) rfl (x_assign) ?_
   refine OW.nil ?_
   refine CW.ret ?_
   obtain rfl := Option.some.inj hm
   exact RR1 rfl rfl ⟨rfl, hL.fresh 0 rfl [] (by decide) (by decide) rfl⟩
 refine CSR ?_
 refine OV (.bool (a0 == 2)) rfl (x_eql rfl rfl) ?_
 refine OV (.bool (a0 == 2)) rfl (x_assign) ?_
 refine OW.nil ?_
 refine CW.condM (t := a0 == 2) rfl hm (fun hb7 hm => ?_) (fun hb7 hm => ?_)
 · refine CSR ?_
   refine OV (.int .i64 a1) rfl (x_move) ?_
   obtain ⟨x8, hx9, hm⟩ := bndE hm
   refine OW.cons (OP.call rfl (x_call (vs := [(.int .i64 a1), (.int .i64 1), (.int .i64 1000000000)]) Tryz_C17 ⟨rfl, rfl, rfl, trivial⟩) (M.spec_l01In_ok _ a1 1 1000000000 hx9) ?_)
   rintro e10 wd11 ⟨rfl, hF12⟩
   refine ⟨_, rfl, ?_⟩
   have hL := hL.pushAll hF12
   simp only [lA, lB, lC, lD] at hL
   refine OV (.bool x8) rfl (x_assign) ?_
   refine OW.nil ?_
   refine CW.ret ?_
   obtain rfl := Option.some.inj hm
   exact RR1 rfl rfl ⟨rfl, hL.fresh 0 rfl [] (by decide) (by decide) rfl⟩
 refine CSR ?_
 refine OV (.bool (a0 == 3)) rfl (x_eql rfl rfl) ?_
 refine OV (.bool (a0 == 3)) rfl (x_assign) ?_
 refine OW.nil ?_
 refine CW.condM (t := a0 == 3) rfl hm (fun hb13 hm => ?_) (fun hb13 hm => ?_)
 · refine CSR ?_
   refine OV (.int .i64 a1) rfl (x_move) ?_
   obtain ⟨x14, hx15, hm⟩ := bndE hm
   refine OW.cons (OP.call rfl (x_call (vs := [(.int .i64 a1), (.int .i64 1), (.int .i64 100)]) Tryz_C17 ⟨rfl, rfl, rfl, trivial⟩) (M.spec_l01In_ok _ a1 1 100 hx15) ?_)
   rintro e16 wd17 ⟨rfl, hF18⟩
   refine ⟨_, rfl, ?_⟩
   have hL := hL.pushAll hF18
   simp only [lA, lB, lC, lD] at hL
   refine OV (.bool x14) rfl (x_assign) ?_
   refine OW.nil ?_
   refine CW.ret ?_
   obtain rfl := Option.some.inj hm
   exact RR1 rfl rfl ⟨rfl, hL.fresh 0 rfl [] (by decide) (by decide) rfl⟩
 refine CW.skip ?_
 refine CSR ?_
 refine OV (.bool false) rfl (x_assign) ?_
 refine OW.nil ?_
 refine CW.ret ?_
 obtain rfl := Option.some.inj hm
 exact RR1 rfl rfl ⟨rfl, hL.fresh 0 rfl [] (by decide) (by decide) rfl⟩

theorem M.spec_l21Valid_ok (w0 : World) (a0 : Series) {v1 : Value} (h2 : rdL (· < w0.heap.size) w0 v1 a0.Races) (a1 : List Penalty) {v3 : Value} (h4 : rdL (· < w0.heap.size) w0 v3 a1) {r : Bool} (hm : M.spec_l21Valid a0 a1 = some r) :
    Calls Tryz.prog 32 #[(.agg #[(.int .i64 a0.Boats), (.int .i64 a0.Scheme), v1]), v3] w0 fun e w' => e = .returned (.bool r) ∧ Fresh w0 w' [] := by
 unfold M.spec_l21Valid at hm
 refine calls_CW (args := [(.agg #[(.int .i64 a0.Boats), (.int .i64 a0.Scheme), v1]), v3]) Tryz.func32 rfl rfl rfl ?_
 have hL := Hp.start w0
 refine CSR ?_
 refine OW.cons (S_box (cs := #[(.int .i64 a0.Boats), (.int .i64 a0.Scheme), v1]) hL rfl rfl rfl ?_)
 intro wd5 b6 hL
 refine OV (.bool false) rfl (x_assign) ?_
 refine ONS ?_
 refine CSR ?_
 refine OV (.int .i64 0) rfl (x_assign) ?_
 refine OW.nil ?_
 obtain ⟨o113, ho114, hm⟩ := bndE hm
 refine CW.loopB (fun (s_l1 : Int) (F : Fr) (w : World) => F 1 = v3 ∧ F 2 = (.pointer (some ⟨b6, 0, none⟩)) ∧ F 5 = (.int .i64 s_l1) ∧ Hp w0 [Ent.blk b6 33 #[(.int .i64 a0.Boats), (.int .i64 a0.Scheme), v1], Ent.snap w0 w0.heap.size] w) (fun o => outc o (fun x => some x) (fun s => M.spec_l21Valid_a1 a1 s) = some r) ho114 hm ⟨rfl, rfl, rfl, hL⟩ ?_ ?_
 · intro s_l1 F115 wd116 hJ hm
   have hm := outcE hm
   have hm : M.spec_l21Valid_a1 a1 s_l1 = some r := hm
   unfold M.spec_l21Valid_a1 at hm
   obtain ⟨f117, f118, f119, hL⟩ := hJ
   refine CSR ?_
   refine OV v3 rfl (x_mv f117) ?_
   refine OV (.int .i64 (a1.length : Int)) rfl (x_lenR U35 rfl (hL.rdS 1 rfl h4)) ?_
   refine OV (.bool (decide ((a1.length : Int) ≤ 60))) rfl (x_leq rfl rfl) ?_
   refine OV (.bool (decide ((a1.length : Int) ≤ 60))) rfl (x_assign) ?_
   refine OW.nil ?_
   refine CW.ret ?_
   obtain rfl := Option.some.inj hm
   exact RR1 rfl rfl ⟨rfl, hL.fresh 1 rfl [] (by decide) (by decide) rfl⟩
 intro s_l1 F120 wd121 t111 hJ hm hr112
 unfold M.spec_l21Valid_l1 at hm
 obtain ⟨f122, f123, f124, hL⟩ := hJ
 refine CW.seq ?_
 refine CSR ?_
 refine OV (.int .i64 s_l1) rfl (x_mv f124) ?_
 refine OV v3 rfl (x_mv f122) ?_
 refine OV (.int .i64 (a1.length : Int)) rfl (x_lenR U35 rfl (hL.rdS 1 rfl h4)) ?_
 refine OV (.bool (decide (s_l1 < (a1.length : Int)))) rfl (x_lss rfl rfl) ?_
 refine OW.nil ?_
 refine CW.condM (t := decide (s_l1 < (a1.length : Int))) rfl hm (fun hb125 hm => ?_) (fun hb125 hm => ?_)
 · refine CW.skip ?_
   refine CW.seq ?_
   refine CW.block ?_
   refine CSR ?_
   refine OV v3 rfl (x_mv f122) ?_
   refine OV (.int .i64 s_l1) rfl (x_mv f124) ?_
   obtain ⟨x126, ha127, hm⟩ := bndE hm
   obtain ⟨hz128, ha132⟩ := idxE ha127
   obtain ⟨b129, q130, hix131⟩ := rdL_ix (hL.rdS 1 rfl h4) hz128 ha132
   refine OV (.pointer (some ⟨b129, q130, none⟩)) rfl (x_ix U35 Tryz_T53 rfl rfl hix131) ?_
   refine OV (.agg #[(.int .i64 x126.Race), (.int .i64 x126.Boat), (.int .i64 x126.Kind), (.int .i64 x126.Value)]) rfl (x_loadN (cs := [(.int .i64 x126.Race), (.int .i64 x126.Boat), (.int .i64 x126.Kind), (.int .i64 x126.Value)]) U53 Tryz_T53 rfl rfl (rdF_cells (hL.rdS 1 rfl h4) hix131 ha132)) ?_
   refine OW.cons (S_alloc (cs := #[(.int .i64 0), (.int .i64 0), (.int .i64 0), (.int .i64 0)]) hL Tryz_T53 rfl rfl ?_)
   intro wd133 b134 hL
   refine OW.cons (S_storeN (l := [(.int .i64 x126.Race), (.int .i64 x126.Boat), (.int .i64 x126.Kind), (.int .i64 x126.Value)]) (cs' := #[(.int .i64 x126.Race), (.int .i64 x126.Boat), (.int .i64 x126.Kind), (.int .i64 x126.Value)]) hL 0 rfl Tryz_T53 rfl rfl (List.forall_mem_cons.2 ⟨rfl, (List.forall_mem_cons.2 ⟨rfl, (List.forall_mem_cons.2 ⟨rfl, (List.forall_mem_cons.2 ⟨rfl, (fun _ h => by cases h)⟩)⟩)⟩)⟩) rfl (Nat.le_of_ble_eq_true rfl) rfl ?_)
   intro wd135 hL
   refine OW.nil ?_
   refine CW.seqJ (fun (s_j1 : Bool) (F : Fr) (w : World) => F 1 = v3 ∧ F 2 = (.pointer (some ⟨b6, 0, none⟩)) ∧ F 5 = (.int .i64 s_l1) ∧ F 41 = (.bool s_j1) ∧ Hp w0 [Ent.blk b134 53 #[(.int .i64 x126.Race), (.int .i64 x126.Boat), (.int .i64 x126.Kind), (.int .i64 x126.Value)], Ent.blk b6 33 #[(.int .i64 a0.Boats), (.int .i64 a0.Scheme), v1], Ent.snap w0 w0.heap.size] w) (fun s_j1 => M.spec_l21Valid_j1 s_l1 s_j1 = some t111) ?_ ?_
   · refine CW.regionL ?_
     refine OV (.pointer (some ⟨b134, 0, none⟩)) rfl (x_fieldAddr (fsz := 1) 0 0 0 U53 rfl Tryz_T2 rfl rfl rfl) ?_
     refine OV (.int .i64 x126.Race) rfl (x_load1 U2 rfl rfl (hL.cellB 0 rfl rfl)) ?_
     refine OV (.pointer (some ⟨b6, 2, none⟩)) rfl (x_fieldAddr (fsz := 1) 0 2 2 U33 rfl Tryz_T31 rfl f123 rfl) ?_
     refine OV v1 rfl (x_load1 U31 rfl rfl (hL.cellB 1 rfl rfl)) ?_
     refine OV (.int .i64 (a0.Races.length : Int)) rfl (x_lenR U31 rfl (hL.rdS 2 rfl h2)) ?_
     refine OV (.int .i64 (w64 ((a0.Races.length : Int) - 1))) rfl (x_sub rfl rfl) ?_
     obtain ⟨x160, hx161, hm⟩ := bndE hm
     refine OW.cons (OP.call rfl (x_call (vs := [(.int .i64 x126.Race), (.int .i64 0), (.int .i64 (w64 ((a0.Races.length : Int) - 1)))]) Tryz_C17 ⟨rfl, rfl, rfl, trivial⟩) (M.spec_l01In_ok _ x126.Race 0 (w64 ((a0.Races.length : Int) - 1)) hx161) ?_)
     rintro e162 wd163 ⟨rfl, hF164⟩
     refine ⟨_, rfl, ?_⟩
     have hL := hL.pushAll hF164
     simp only [lA, lB, lC, lD] at hL
     refine OV (.bool (!x160)) rfl (x_not rfl) ?_
     refine OV (.bool (!x160)) rfl (x_move) ?_
     refine ifB_elim hm (fun hb165 hm => ?_) (fun hb165 hm => ?_)
     · refine OW.cons (OP.no' rfl rfl hb165 rfl ?_)
       refine OW.cons (OP.no' rfl rfl hb165 rfl ?_)
       refine OW.cons (OP.no' rfl rfl hb165 rfl ?_)
       refine OW.cons (OP.no' rfl rfl hb165 rfl ?_)
       refine OW.cons (OP.no' rfl rfl hb165 rfl ?_)
       refine OW.cons (OP.no' rfl rfl hb165 rfl ?_)
       refine OW.cons (OP.no' rfl rfl hb165 rfl ?_)
       refine OV (.bool true) rfl (x_pickT' rfl hb165 rfl) ?_
       refine OV (.bool true) rfl (x_move) ?_
       refine OW.cons (OP.no' rfl rfl rfl rfl ?_)
       refine OW.cons (OP.no' rfl rfl rfl rfl ?_)
       refine OW.cons (OP.no' rfl rfl rfl rfl ?_)
       refine OW.cons (OP.no' rfl rfl rfl rfl ?_)
       refine OW.cons (OP.no' rfl rfl rfl rfl ?_)
       refine OW.cons (OP.no' rfl rfl rfl rfl ?_)
       refine OV (.bool true) rfl (x_pickT' rfl rfl rfl) ?_
       refine OW.nil ?_
       exact ⟨true, hm, ⟨f122, f123, f124, rfl, hL⟩⟩
     refine OW.cons (OP.yes' rfl rfl hb165 (OP.val (v := (.pointer (some ⟨b134, 1, none⟩))) rfl (x_fieldAddr (fsz := 1) 0 1 1 U53 rfl Tryz_T2 rfl rfl rfl) ?_))
     refine OW.cons (OP.yes' rfl rfl hb165 (OP.val (v := (.int .i64 x126.Boat)) rfl (x_load1 U2 rfl rfl (hL.cellB 0 rfl rfl)) ?_))
     refine OW.cons (OP.yes' rfl rfl hb165 (OP.val (v := (.pointer (some ⟨b6, 0, none⟩))) rfl (x_fieldAddr (fsz := 1) 0 0 0 U33 rfl Tryz_T2 rfl f123 rfl) ?_))
     refine OW.cons (OP.yes' rfl rfl hb165 (OP.val (v := (.int .i64 a0.Boats)) rfl (x_load1 U2 rfl rfl (hL.cellB 1 rfl rfl)) ?_))
     refine OW.cons (OP.yes' rfl rfl hb165 (OP.val (v := (.int .i64 (w64 (a0.Boats - 1)))) rfl (x_sub rfl rfl) ?_))
     obtain ⟨x166, hx167, hm⟩ := bndE hm
     refine OW.cons (OP.yes' rfl rfl hb165 (OP.call rfl (x_call (vs := [(.int .i64 x126.Boat), (.int .i64 0), (.int .i64 (w64 (a0.Boats - 1)))]) Tryz_C17 ⟨rfl, rfl, rfl, trivial⟩) (M.spec_l01In_ok _ x126.Boat 0 (w64 (a0.Boats - 1)) hx167) ?_))
     rintro e168 wd169 ⟨rfl, hF170⟩
     refine ⟨_, rfl, ?_⟩
     have hL := hL.pushAll hF170
     simp only [lA, lB, lC, lD] at hL
     refine OW.cons (OP.yes' rfl rfl hb165 (OP.val (v := (.bool (!x166))) rfl (x_not rfl) ?_))
     refine OV (.bool (!x166)) rfl (x_pickF' rfl hb165 rfl) ?_
     refine OV (.bool (!x166)) rfl (x_move) ?_
     refine ifB_elim hm (fun hb171 hm => ?_) (fun hb171 hm => ?_)
     · refine OW.cons (OP.no' rfl rfl hb171 rfl ?_)
       refine OW.cons (OP.no' rfl rfl hb171 rfl ?_)
       refine OW.cons (OP.no' rfl rfl hb171 rfl ?_)
       refine OW.cons (OP.no' rfl rfl hb171 rfl ?_)
       refine OW.cons (OP.no' rfl rfl hb171 rfl ?_)
       refine OW.cons (OP.no' rfl rfl hb171 rfl ?_)
       refine OV (.bool true) rfl (x_pickT' rfl hb171 rfl) ?_
       refine OW.nil ?_
       exact ⟨true, hm, ⟨f122, f123, f124, rfl, hL⟩⟩
     refine OW.cons (OP.yes' rfl rfl hb171 (OP.val (v := (.pointer (some ⟨b134, 2, none⟩))) rfl (x_fieldAddr (fsz := 1) 0 2 2 U53 rfl Tryz_T2 rfl rfl rfl) ?_))
     refine OW.cons (OP.yes' rfl rfl hb171 (OP.val (v := (.int .i64 x126.Kind)) rfl (x_load1 U2 rfl rfl (hL.cellB 0 rfl rfl)) ?_))
     refine OW.cons (OP.yes' rfl rfl hb171 (OP.val (v := (.pointer (some ⟨b134, 3, none⟩))) rfl (x_fieldAddr (fsz := 1) 0 3 3 U53 rfl Tryz_T2 rfl rfl rfl) ?_))
     refine OW.cons (OP.yes' rfl rfl hb171 (OP.val (v := (.int .i64 x126.Value)) rfl (x_load1 U2 rfl rfl (hL.cellB 0 rfl rfl)) ?_))
     obtain ⟨x172, hx173, hm⟩ := bndE hm
     refine OW.cons (OP.yes' rfl rfl hb171 (OP.call rfl (x_call (vs := [(.int .i64 x126.Kind), (.int .i64 x126.Value)]) Tryz_C49 ⟨rfl, rfl, trivial⟩) (M.spec_l21Value_ok _ x126.Kind x126.Value hx173) ?_))
     rintro e174 wd175 ⟨rfl, hF176⟩
     refine ⟨_, rfl, ?_⟩
     have hL := hL.pushAll hF176
     simp only [lA, lB, lC, lD] at hL
     refine OW.cons (OP.yes' rfl rfl hb171 (OP.val (v := (.bool (!x172))) rfl (x_not rfl) ?_))
     refine OV (.bool (!x172)) rfl (x_pickF' rfl hb171 rfl) ?_
     refine OW.nil ?_
     exact ⟨!x172, hm, ⟨f122, f123, f124, rfl, hL⟩⟩
   intro s_j1 F153 wd154 hJ hm
   unfold M.spec_l21Valid_j1 at hm
   obtain ⟨f155, f156, f157, f158, hL⟩ := hJ
   refine CW.condM (t := s_j1) f158 hm (fun hb159 hm => ?_) (fun hb159 hm => ?_)
   · refine CSR ?_
     refine OV (.bool false) rfl (x_assign) ?_
     refine OW.nil ?_
     refine CW.ret ?_
     obtain rfl := Option.some.inj hm
     have hm := hr112 _ rfl
     obtain rfl := Option.some.inj hm
     exact RR1 rfl rfl ⟨rfl, hL.fresh 2 rfl [] (by decide) (by decide) rfl⟩
   refine CW.skip ?_
   refine CW.regionL ?_
   refine OV (.int .i64 s_l1) rfl (x_mv f157) ?_
   refine OV (.int .i64 (w64 (s_l1 + 1))) rfl (x_add rfl rfl) ?_
   refine OV (.int .i64 (w64 (s_l1 + 1))) rfl (x_assign) ?_
   refine OW.nil ?_
   have hL := hL.sel [1, 2] (by decide) rfl
   obtain rfl := Option.some.inj hm
   exact ⟨_, rfl, ⟨f155, f156, rfl, hL⟩⟩
 refine CW.exit ?_
 refine XJ.hit ?_
 obtain rfl := Option.some.inj hm
 exact ⟨_, rfl, ⟨f122, f123, f124, hL⟩⟩

theorem M.spec_l21Result_ok (w0 : World) (a0 : Series) {v1 : Value} (h2 : rdL (· < w0.heap.size) w0 v1 a0.Races) (a1 : List Penalty) {v3 : Value} (h4 : rdL (· < w0.heap.size) w0 v3 a1) {r : Int} (hm : M.spec_l21Result a0 a1 = some r) :
    Calls Tryz.prog 15 #[(.agg #[(.int .i64 a0.Boats), (.int .i64 a0.Scheme), v1]), v3] w0 fun e w' => e = .returned (.int .i64 r) ∧ Fresh w0 w' [] := by
 unfold M.spec_l21Result at hm
 refine calls_CW (args := [(.agg #[(.int .i64 a0.Boats), (.int .i64 a0.Scheme), v1]), v3]) Tryz.func15 rfl rfl rfl ?_
 have hL := Hp.start w0
 refine CSR ?_
 refine OW.cons (S_box (cs := #[(.int .i64 a0.Boats), (.int .i64 a0.Scheme), v1]) hL rfl rfl rfl ?_)
 intro wd5 b6 hL
 refine OV (.int .i64 0) rfl (x_assign) ?_
 refine ONS ?_
 refine CSR ?_
 refine OV (.agg #[(.int .i64 a0.Boats), (.int .i64 a0.Scheme), v1]) rfl (x_loadN (cs := [(.int .i64 a0.Boats), (.int .i64 a0.Scheme), v1]) U33 Tryz_T33 rfl rfl (hL.cellsB 0 rfl (o := 0) (l := [(.int .i64 a0.Boats), (.int .i64 a0.Scheme), v1]) (by intro j u hj; exact (by simpa using hj)))) ?_
 obtain ⟨x7, hx8, hm⟩ := bndE hm
 refine OW.cons (OP.call rfl (x_call (vs := [(.agg #[(.int .i64 a0.Boats), (.int .i64 a0.Scheme), v1])]) Tryz_C31 ⟨rfl, trivial⟩) (M.spec_IsSeries_ok _ a0 (hL.rdS 1 rfl h2) hx8) ?_)
 rintro e9 wd10 ⟨rfl, hF11⟩
 refine ⟨_, rfl, ?_⟩
 have hL := hL.pushAll hF11
 simp only [lA, lB, lC, lD] at hL
 refine OV (.bool (!x7)) rfl (x_not rfl) ?_
 refine OW.nil ?_
 refine CW.condM (t := !x7) rfl hm (fun hb12 hm => ?_) (fun hb12 hm => ?_)
 · refine CSR ?_
   refine OV (.int .i64 1) rfl (x_assign) ?_
   refine OW.nil ?_
   refine CW.ret ?_
   obtain rfl := Option.some.inj hm
   exact RR1 rfl rfl ⟨rfl, hL.fresh 1 rfl [] (by decide) (by decide) rfl⟩
 refine CW.skip ?_
 refine CW.seq ?_
 refine CSR ?_
 refine OV (.agg #[(.int .i64 a0.Boats), (.int .i64 a0.Scheme), v1]) rfl (x_loadN (cs := [(.int .i64 a0.Boats), (.int .i64 a0.Scheme), v1]) U33 Tryz_T33 rfl rfl (hL.cellsB 0 rfl (o := 0) (l := [(.int .i64 a0.Boats), (.int .i64 a0.Scheme), v1]) (by intro j u hj; exact (by simpa using hj)))) ?_
 refine OV v3 rfl (x_move) ?_
 obtain ⟨x13, hx14, hm⟩ := bndE hm
 refine OW.cons (OP.call rfl (x_call (vs := [(.agg #[(.int .i64 a0.Boats), (.int .i64 a0.Scheme), v1]), v3]) Tryz_C32 ⟨rfl, rfl, trivial⟩) (M.spec_l21Valid_ok _ a0 (hL.rdS 1 rfl h2) a1 (hL.rdS 1 rfl h4) hx14) ?_)
 rintro e15 wd16 ⟨rfl, hF17⟩
 refine ⟨_, rfl, ?_⟩
 have hL := hL.pushAll hF17
 simp only [lA, lB, lC, lD] at hL
 refine OV (.bool (!x13)) rfl (x_not rfl) ?_
 refine OW.nil ?_
 refine CW.condM (t := !x13) rfl hm (fun hb18 hm => ?_) (fun hb18 hm => ?_)
 · refine CSR ?_
   refine OV (.int .i64 2) rfl (x_assign) ?_
   refine OW.nil ?_
   refine CW.ret ?_
   obtain rfl := Option.some.inj hm
   exact RR1 rfl rfl ⟨rfl, hL.fresh 1 rfl [] (by decide) (by decide) rfl⟩
 refine CW.skip ?_
 refine CSR ?_
 refine OV (.int .i64 0) rfl (x_assign) ?_
 refine OW.nil ?_
 refine CW.ret ?_
 obtain rfl := Option.some.inj hm
 exact RR1 rfl rfl ⟨rfl, hL.fresh 1 rfl [] (by decide) (by decide) rfl⟩

theorem M.spec_IsDiscardRule_ok (w0 : World) (a0 : List Int) {v1 : Value} (h2 : rdL (· < w0.heap.size) w0 v1 a0) {r : Bool} (hm : M.spec_IsDiscardRule a0 = some r) :
    Calls Tryz.prog 16 #[v1] w0 fun e w' => e = .returned (.bool r) ∧ Fresh w0 w' [] := by
 unfold M.spec_IsDiscardRule at hm
 refine calls_CW (args := [v1]) Tryz.func16 rfl rfl rfl ?_
 have hL := Hp.start w0
 refine CSR ?_
 refine OV (.bool false) rfl (x_assign) ?_
 refine ONS ?_
 refine CSR ?_
 refine OV v1 rfl (x_move) ?_
 refine OV (.int .i64 (a0.length : Int)) rfl (x_lenR U26 rfl (hL.rdS 0 rfl h2)) ?_
 refine OV (.bool (decide (3 < (a0.length : Int)))) rfl (x_gtr rfl rfl) ?_
 refine OW.nil ?_
 refine CW.condM (t := decide (3 < (a0.length : Int))) rfl hm (fun hb3 hm => ?_) (fun hb3 hm => ?_)
 · refine CSR ?_
   refine OV (.bool false) rfl (x_assign) ?_
   refine OW.nil ?_
   refine CW.ret ?_
   obtain rfl := Option.some.inj hm
   exact RR1 rfl rfl ⟨rfl, hL.fresh 0 rfl [] (by decide) (by decide) rfl⟩
 refine CW.skip ?_
 refine CW.seq ?_
 refine CSR ?_
 refine OV (.int .i64 0) rfl (x_assign) ?_
 refine OW.nil ?_
 obtain ⟨o132, ho133, hm⟩ := bndE hm
 refine CW.loopB (fun (s_l1 : Int) (F : Fr) (w : World) => F 0 = v1 ∧ F 3 = (.int .i64 s_l1) ∧ Hp w0 [Ent.snap w0 w0.heap.size] w) (fun o => outc o (fun x => some x) (fun s => M.spec_IsDiscardRule_a1 s) = some r) ho133 hm ⟨rfl, rfl, hL⟩ ?_ ?_
 · intro s_l1 F134 wd135 hJ hm
   have hm := outcE hm
   have hm : M.spec_IsDiscardRule_a1 s_l1 = some r := hm
   unfold M.spec_IsDiscardRule_a1 at hm
   obtain ⟨f136, f137, hL⟩ := hJ
   refine CSR ?_
   refine OV (.bool true) rfl (x_assign) ?_
   refine OW.nil ?_
   refine CW.ret ?_
   obtain rfl := Option.some.inj hm
   exact RR1 rfl rfl ⟨rfl, hL.fresh 0 rfl [] (by decide) (by decide) rfl⟩
 intro s_l1 F138 wd139 t130 hJ hm hr131
 unfold M.spec_IsDiscardRule_l1 at hm
 obtain ⟨f140, f141, hL⟩ := hJ
 refine CW.seq ?_
 refine CSR ?_
 refine OV (.int .i64 s_l1) rfl (x_mv f141) ?_
 refine OV v1 rfl (x_mv f140) ?_
 refine OV (.int .i64 (a0.length : Int)) rfl (x_lenR U26 rfl (hL.rdS 0 rfl h2)) ?_
 refine OV (.bool (decide (s_l1 < (a0.length : Int)))) rfl (x_lss rfl rfl) ?_
 refine OW.nil ?_
 refine CW.condM (t := decide (s_l1 < (a0.length : Int))) rfl hm (fun hb142 hm => ?_) (fun hb142 hm => ?_)
 · refine CW.skip ?_
   refine CW.seq ?_
   refine CW.block ?_
   refine CW.seqJ (fun (s_j1 : Bool) (F : Fr) (w : World) => F 0 = v1 ∧ F 3 = (.int .i64 s_l1) ∧ F 34 = (.bool s_j1) ∧ Hp w0 [Ent.snap w0 w0.heap.size] w) (fun s_j1 => M.spec_IsDiscardRule_j1 s_l1 s_j1 = some t130) ?_ ?_
   · refine CW.draw Tryz_mixed ?_
     have hL := hL.call (Mod.drew _)
     refine DW.pre (fuel := 0) (fin := bma 22 4194303) (C := fun w' => Mod None_ _ w') [0, 1, 2, 3, 4, 5, 6, 7, 8, 9, 10, 11, 12, 13, 14, 15, 16, 17, 18, 19, 20, 21] (Mod.refl _ _) (by kernel_rfl) (by kernel_rfl) ?_
     refine QW.cons rfl (QP.val (v := v1) rfl (fun w' hm' => x_mv f140) ?_)
     refine QW.cons rfl (QP.val (v := (.int .i64 s_l1)) rfl (fun w' hm' => x_mv f141) ?_)
     obtain ⟨x177, ha178, hm⟩ := bndE hm
     obtain ⟨hz179, ha183⟩ := idxE ha178
     obtain ⟨b180, q181, hix182⟩ := rdL_ix (hL.rdS 0 rfl h2) hz179 ha183
     refine QW.cons rfl (QP.val (v := (.pointer (some ⟨b180, q181, none⟩))) rfl (fun w' hm' => x_ix U26 Tryz_T2 rfl rfl hix182) ?_)
     refine QW.cons rfl (QP.val (v := (.int .i64 x177)) rfl (fun w' hm' => x_load1 U2 rfl rfl (rdF_cells ((hL.call hm').rdS 0 rfl h2) hix182 ha183 0 _ rfl)) ?_)
     obtain ⟨x184, hx185, hm⟩ := bndE hm
     refine QW.cons rfl (QP.call (v := (.bool x184)) rfl (fun w' hm' => x_call (vs := [(.int .i64 x177), (.int .i64 1), (.int .i64 12)]) Tryz_C17 ⟨rfl, rfl, rfl, trivial⟩) (fun w' hm' => (M.spec_l01In_ok w' x177 1 12 hx185).mono (fun e w'' h => ⟨h.1, hm'.trans h.2.mod⟩)) ?_)
     refine QW.cons rfl (QP.val (v := (.bool (!x184))) rfl (fun w' hm' => x_not rfl) ?_)
     refine QW.cons rfl (QP.val (v := (.bool (!x184))) rfl (fun w' hm' => x_move) ?_)
     refine ifB_elim hm (fun hb186 hm => ?_) (fun hb186 hm => ?_)
     · refine QW.cons rfl (QP.no' rfl rfl hb186 rfl ?_)
       refine QW.cons rfl (QP.no' rfl rfl hb186 rfl ?_)
       refine QW.cons rfl (QP.no' rfl rfl hb186 rfl ?_)
       refine QW.cons rfl (QP.noU rfl rfl rfl ?_)
       refine QW.cons rfl (QP.noU rfl rfl rfl ?_)
       refine QW.cons rfl (QP.noU rfl rfl rfl ?_)
       refine QW.cons rfl (QP.noU rfl rfl rfl ?_)
       refine QW.cons rfl (QP.noU rfl rfl rfl ?_)
       refine QW.cons rfl (QP.noU rfl rfl rfl ?_)
       refine QW.cons rfl (QP.noU rfl rfl rfl ?_)
       refine QW.cons rfl (QP.noU rfl rfl rfl ?_)
       refine QW.cons rfl (QP.noU rfl rfl rfl ?_)
       refine QW.cons rfl (QP.noU rfl rfl rfl ?_)
       refine QW.cons rfl (QP.no' rfl rfl hb186 rfl ?_)
       refine QW.cons rfl (QP.val (v := (.bool true)) rfl (fun w' hm' => x_pickT' rfl hb186 rfl) ?_)
       refine QW.nil ?_
       intro wd187 hmod
       have hL := hL.call hmod
       refine DW.done (by kernel_rfl) ?_
       exact ⟨true, hm, ⟨f140, f141, rfl, hL⟩⟩
     refine QW.cons rfl (QP.yes' rfl rfl hb186 (QP.val (v := (.int .i64 s_l1)) rfl (fun w' hm' => x_mv f141) ?_))
     refine QW.cons rfl (QP.yes' rfl rfl hb186 (QP.val (v := (.bool (decide (0 < s_l1)))) rfl (fun w' hm' => x_gtr rfl rfl) ?_))
     refine QW.cons rfl (QP.yes' rfl rfl hb186 (QP.val (v := (.bool (decide (0 < s_l1)))) rfl (fun w' hm' => x_move) ?_))
     refine ifB_elim hm (fun hb188 hm => ?_) (fun hb188 hm => ?_)
     · refine QW.cons rfl (QP.yes' rfl rfl hb188 (QP.val (v := v1) rfl (fun w' hm' => x_mv f140) ?_))
       refine QW.cons rfl (QP.yes' rfl rfl hb188 (QP.val (v := (.int .i64 s_l1)) rfl (fun w' hm' => x_mv f141) ?_))
       refine QW.cons rfl (QP.yes' rfl rfl hb188 (QP.val (v := (.int .i64 (w64 (s_l1 - 1)))) rfl (fun w' hm' => x_sub rfl rfl) ?_))
       obtain ⟨x189, ha190, hm⟩ := bndE hm
       obtain ⟨hz191, ha195⟩ := idxE ha190
       obtain ⟨b192, q193, hix194⟩ := rdL_ix (hL.rdS 0 rfl h2) hz191 ha195
       refine QW.cons rfl (QP.yes' rfl rfl hb188 (QP.val (v := (.pointer (some ⟨b192, q193, none⟩))) rfl (fun w' hm' => x_ix U26 Tryz_T2 rfl rfl hix194) ?_))
       refine QW.cons rfl (QP.yes' rfl rfl hb188 (QP.val (v := (.int .i64 x189)) rfl (fun w' hm' => x_load1 U2 rfl rfl (rdF_cells ((hL.call hm').rdS 0 rfl h2) hix194 ha195 0 _ rfl)) ?_))
       refine QW.cons rfl (QP.yes' rfl rfl hb188 (QP.val (v := v1) rfl (fun w' hm' => x_mv f140) ?_))
       refine QW.cons rfl (QP.yes' rfl rfl hb188 (QP.val (v := (.int .i64 s_l1)) rfl (fun w' hm' => x_mv f141) ?_))
       obtain ⟨x196, ha197, hm⟩ := bndE hm
       obtain ⟨hz198, ha202⟩ := idxE ha197
       obtain ⟨b199, q200, hix201⟩ := rdL_ix (hL.rdS 0 rfl h2) hz198 ha202
       refine QW.cons rfl (QP.yes' rfl rfl hb188 (QP.val (v := (.pointer (some ⟨b199, q200, none⟩))) rfl (fun w' hm' => x_ix U26 Tryz_T2 rfl rfl hix201) ?_))
       refine QW.cons rfl (QP.yes' rfl rfl hb188 (QP.val (v := (.int .i64 x196)) rfl (fun w' hm' => x_load1 U2 rfl rfl (rdF_cells ((hL.call hm').rdS 0 rfl h2) hix201 ha202 0 _ rfl)) ?_))
       refine QW.cons rfl (QP.yes' rfl rfl hb188 (QP.val (v := (.bool (decide (x196 ≤ x189)))) rfl (fun w' hm' => x_geq rfl rfl) ?_))
       refine QW.cons rfl (QP.yes' rfl rfl hb186 (QP.val (v := (.bool (decide (x196 ≤ x189)))) rfl (fun w' hm' => x_pickT' rfl hb188 rfl) ?_))
       refine QW.cons rfl (QP.val (v := (.bool (decide (x196 ≤ x189)))) rfl (fun w' hm' => x_pickF' rfl hb186 rfl) ?_)
       refine QW.nil ?_
       intro wd203 hmod
       have hL := hL.call hmod
       refine DW.done (by kernel_rfl) ?_
       exact ⟨decide (x196 ≤ x189), hm, ⟨f140, f141, rfl, hL⟩⟩
     refine QW.cons rfl (QP.no' rfl rfl hb188 rfl ?_)
     refine QW.cons rfl (QP.no' rfl rfl hb188 rfl ?_)
     refine QW.cons rfl (QP.no' rfl rfl hb188 rfl ?_)
     refine QW.cons rfl (QP.no' rfl rfl hb188 rfl ?_)
     refine QW.cons rfl (QP.no' rfl rfl hb188 rfl ?_)
     refine QW.cons rfl (QP.no' rfl rfl hb188 rfl ?_)
     refine QW.cons rfl (QP.no' rfl rfl hb188 rfl ?_)
     refine QW.cons rfl (QP.no' rfl rfl hb188 rfl ?_)
     refine QW.cons rfl (QP.no' rfl rfl hb188 rfl ?_)
     refine QW.cons rfl (QP.no' rfl rfl hb188 rfl ?_)
     refine QW.cons rfl (QP.yes' rfl rfl hb186 (QP.val (v := (.bool false)) rfl (fun w' hm' => x_pickF' rfl hb188 rfl) ?_))
     refine QW.cons rfl (QP.val (v := (.bool false)) rfl (fun w' hm' => x_pickF' rfl hb186 rfl) ?_)
     refine QW.nil ?_
     intro wd204 hmod
     have hL := hL.call hmod
     refine DW.done (by kernel_rfl) ?_
     exact ⟨false, hm, ⟨f140, f141, rfl, hL⟩⟩
   intro s_j1 F171 wd172 hJ hm
   unfold M.spec_IsDiscardRule_j1 at hm
   obtain ⟨f173, f174, f175, hL⟩ := hJ
   refine CW.condM (t := s_j1) f175 hm (fun hb176 hm => ?_) (fun hb176 hm => ?_)
   · refine CSR ?_
     refine OV (.bool false) rfl (x_assign) ?_
     refine OW.nil ?_
     refine CW.ret ?_
     obtain rfl := Option.some.inj hm
     have hm := hr131 _ rfl
     obtain rfl := Option.some.inj hm
     exact RR1 rfl rfl ⟨rfl, hL.fresh 0 rfl [] (by decide) (by decide) rfl⟩
   refine CW.skip ?_
   refine CW.regionL ?_
   refine OV (.int .i64 s_l1) rfl (x_mv f174) ?_
   refine OV (.int .i64 (w64 (s_l1 + 1))) rfl (x_add rfl rfl) ?_
   refine OV (.int .i64 (w64 (s_l1 + 1))) rfl (x_assign) ?_
   refine OW.nil ?_
   obtain rfl := Option.some.inj hm
   exact ⟨_, rfl, ⟨f173, rfl, hL⟩⟩
 refine CW.exit ?_
 refine XJ.hit ?_
 obtain rfl := Option.some.inj hm
 exact ⟨_, rfl, ⟨f140, f141, hL⟩⟩

theorem M.spec_l26Done_ok (w0 : World) (a0 : Finish) {r : Bool} (hm : M.spec_l26Done a0 = some r) :
    Calls Tryz.prog 54 #[(.agg #[(.int .i64 a0.Boat), (.int .i64 a0.Code), (.int .i64 a0.Time)])] w0 fun e w' => e = .returned (.bool r) ∧ Fresh w0 w' [] := by
 unfold M.spec_l26Done at hm
 refine calls_CW (args := [(.agg #[(.int .i64 a0.Boat), (.int .i64 a0.Code), (.int .i64 a0.Time)])]) Tryz.func54 rfl rfl rfl ?_
 have hL := Hp.start w0
 refine CSR ?_
 refine OW.cons (S_box (cs := #[(.int .i64 a0.Boat), (.int .i64 a0.Code), (.int .i64 a0.Time)]) hL rfl rfl rfl ?_)
 intro wd1 b2 hL
 refine OV (.bool false) rfl (x_assign) ?_
 refine ONR ?_
 refine OV (.pointer (some ⟨b2, 1, none⟩)) rfl (x_fieldAddr (fsz := 1) 0 1 1 U79 rfl Tryz_T2 rfl rfl rfl) ?_
 refine OV (.int .i64 a0.Code) rfl (x_load1 U2 rfl rfl (hL.cellB 0 rfl rfl)) ?_
 refine OV (.bool (a0.Code == 0)) rfl (x_eql rfl rfl) ?_
 refine OV (.bool (a0.Code == 0)) rfl (x_assign) ?_
 refine OW.nil ?_
 refine CW.ret ?_
 obtain rfl := Option.some.inj hm
 exact RR1 rfl rfl ⟨rfl, hL.fresh 1 rfl [] (by decide) (by decide) rfl⟩

theorem M.spec_l21Series_ok (w0 : World) (a0 : Series) {v1 : Value} (h2 : rdL (· < w0.heap.size) w0 v1 a0.Races) (a1 : List Penalty) {v3 : Value} (h4 : rdL (· < w0.heap.size) w0 v3 a1) {r : Series} (hm : M.spec_l21Series a0 a1 = some r) :
    Calls Tryz.prog 34 #[(.agg #[(.int .i64 a0.Boats), (.int .i64 a0.Scheme), v1]), v3] w0 fun e w' => ∃ (rv0 : Value) (rS0 : Nat → Prop), e = .returned (.agg #[(.int .i64 r.Boats), (.int .i64 r.Scheme), rv0]) ∧ Fresh w0 w' [Ent.own 75 rS0 rv0 r.Races] := by
 unfold M.spec_l21Series at hm
 refine calls_CW (args := [(.agg #[(.int .i64 a0.Boats), (.int .i64 a0.Scheme), v1]), v3]) Tryz.func34 rfl rfl rfl ?_
 have hL := Hp.start w0
 refine CSR ?_
 refine OW.cons (S_box (cs := #[(.int .i64 a0.Boats), (.int .i64 a0.Scheme), v1]) hL rfl rfl rfl ?_)
 intro wd5 b6 hL
 refine OW.cons (S_alloc (cs := #[(.int .i64 0), (.int .i64 0), (.slice none 0 0)]) hL Tryz_T33 rfl rfl ?_)
 intro wd7 b8 hL
 refine ONR ?_
 refine OW.cons (S_lit0 (α := Finish) Race hL U31 Tryz_T75 rfl ?_)
 intro wd9 v10 S11 hL
 refine OV v10 rfl (x_assign) ?_
 refine ONS ?_
 refine CSR ?_
 refine OV (.int .i64 0) rfl (x_assign) ?_
 refine OW.nil ?_
 obtain ⟨o70, ho71, hm⟩ := bndE hm
 refine CW.loopB (fun (s_l1 : (List Race) × Int) (F : Fr) (w : World) => ∃ (v66 : Value) (S67 : Nat → Prop), F 1 = v3 ∧ F 2 = (.pointer (some ⟨b6, 0, none⟩)) ∧ F 4 = (.pointer (some ⟨b8, 0, none⟩)) ∧ F 5 = v66 ∧ F 6 = (.int .i64 s_l1.2) ∧ Hp w0 [Ent.own 75 S67 v66 s_l1.1, Ent.blk b8 33 #[(.int .i64 0), (.int .i64 0), (.slice none 0 0)], Ent.blk b6 33 #[(.int .i64 a0.Boats), (.int .i64 a0.Scheme), v1], Ent.snap w0 w0.heap.size] w) (fun o => outc o (fun x => some x) (fun s => M.spec_l21Series_a1 a0 a1 s) = some r) ho71 hm ⟨v10, S11, rfl, rfl, rfl, rfl, rfl, hL⟩ ?_ ?_
 · intro s_l1 F72 wd73 hJ hm
   have hm := outcE hm
   have hm : M.spec_l21Series_a1 a0 a1 s_l1 = some r := hm
   unfold M.spec_l21Series_a1 at hm
   obtain ⟨v66, S67, f74, f75, f76, f77, f78, hL⟩ := hJ
   refine CW.seq ?_
   refine CSR ?_
   refine OV (.int .i64 0) rfl (x_assign) ?_
   refine OW.nil ?_
   obtain ⟨o1213, ho1214, hm⟩ := bndE hm
   refine CW.loopB (fun (s_l2 : (List Race) × Int) (F : Fr) (w : World) => ∃ (S1210 : Nat → Prop), F 1 = v3 ∧ F 2 = (.pointer (some ⟨b6, 0, none⟩)) ∧ F 4 = (.pointer (some ⟨b8, 0, none⟩)) ∧ F 5 = v66 ∧ F 7 = (.int .i64 s_l2.2) ∧ Hp w0 [Ent.own 75 S1210 v66 s_l2.1, Ent.blk b8 33 #[(.int .i64 0), (.int .i64 0), (.slice none 0 0)], Ent.blk b6 33 #[(.int .i64 a0.Boats), (.int .i64 a0.Scheme), v1], Ent.snap w0 w0.heap.size] w) (fun o => outc o (fun x => some x) (fun s => M.spec_l21Series_a2 a0 a1 s) = some r) ho1214 hm ⟨S67, f74, f75, f76, f77, rfl, hL⟩ ?_ ?_
   · intro s_l2 F1215 wd1216 hJ hm
     have hm := outcE hm
     have hm : M.spec_l21Series_a2 a0 a1 s_l2 = some r := hm
     unfold M.spec_l21Series_a2 at hm
     obtain ⟨S1210, f1217, f1218, f1219, f1220, f1221, hL⟩ := hJ
     refine CW.seq ?_
     refine CSR ?_
     refine OV (.int .i64 0) rfl (x_assign) ?_
     refine OW.nil ?_
     obtain ⟨o1612, ho1613, hm⟩ := bndE hm
     refine CW.loopB (fun (s_l3 : (List Race) × Int) (F : Fr) (w : World) => ∃ (S1609 : Nat → Prop), F 1 = v3 ∧ F 2 = (.pointer (some ⟨b6, 0, none⟩)) ∧ F 4 = (.pointer (some ⟨b8, 0, none⟩)) ∧ F 5 = v66 ∧ F 10 = (.int .i64 s_l3.2) ∧ Hp w0 [Ent.own 75 S1609 v66 s_l3.1, Ent.blk b8 33 #[(.int .i64 0), (.int .i64 0), (.slice none 0 0)], Ent.blk b6 33 #[(.int .i64 a0.Boats), (.int .i64 a0.Scheme), v1], Ent.snap w0 w0.heap.size] w) (fun o => outc o (fun x => some x) (fun s => M.spec_l21Series_a3 a0 s) = some r) ho1613 hm ⟨S1210, f1217, f1218, f1219, f1220, rfl, hL⟩ ?_ ?_
     · intro s_l3 F1614 wd1615 hJ hm
       have hm := outcE hm
       have hm : M.spec_l21Series_a3 a0 s_l3 = some r := hm
       unfold M.spec_l21Series_a3 at hm
       obtain ⟨S1609, f1616, f1617, f1618, f1619, f1620, hL⟩ := hJ
       refine CSR ?_
       refine OV (.pointer (some ⟨b6, 0, none⟩)) rfl (x_fieldAddr (fsz := 1) 0 0 0 U33 rfl Tryz_T2 rfl f1617 rfl) ?_
       refine OV (.int .i64 a0.Boats) rfl (x_load1 U2 rfl rfl (hL.cellB 2 rfl rfl)) ?_
       refine OV (.pointer (some ⟨b6, 1, none⟩)) rfl (x_fieldAddr (fsz := 1) 0 1 1 U33 rfl Tryz_T2 rfl f1617 rfl) ?_
       refine OV (.int .i64 a0.Scheme) rfl (x_load1 U2 rfl rfl (hL.cellB 2 rfl rfl)) ?_
       refine OV v66 rfl (x_mv f1619) ?_
       refine OV (.agg #[(.int .i64 a0.Boats), (.int .i64 a0.Scheme), v66]) rfl (x_build Tryz_B33 (ps := [(0, (.int .i64 a0.Boats)), (1, (.int .i64 a0.Scheme)), (2, v66)]) ⟨⟨rfl, rfl⟩, ⟨rfl, rfl⟩, ⟨rfl, rfl⟩, trivial⟩ (by simp [Instr.fill, cells_int, cells_bool, cells_string, cells_agg, cells_slice, cells_pointer, (rdL_cells (hL.rdO 0 rfl))])) ?_
       refine OW.cons (S_storeN (l := [(.int .i64 a0.Boats), (.int .i64 a0.Scheme), v66]) (cs' := #[(.int .i64 a0.Boats), (.int .i64 a0.Scheme), v66]) hL 1 rfl Tryz_T33 f1618 rfl (List.forall_mem_cons.2 ⟨rfl, (List.forall_mem_cons.2 ⟨rfl, (List.forall_mem_cons.2 ⟨rdL_one (hL.rdO 0 rfl), (fun _ h => by cases h)⟩)⟩)⟩) rfl (Nat.le_of_ble_eq_true rfl) rfl ?_)
       intro wd1621 hL
       refine OW.nil ?_
       refine CW.ret ?_
       obtain rfl := Option.some.inj hm
       exact RRc rfl f1618 (run_loadBlk U33 Tryz_T33 (hL.get 1 rfl) rfl) ⟨v66, S1609, rfl, hL.fresh 3 rfl [0] (by decide) (by decide) rfl⟩
     intro s_l3 F1622 wd1623 t1610 hJ hm hr1611
     unfold M.spec_l21Series_l3 at hm
     obtain ⟨S1609, f1624, f1625, f1626, f1627, f1628, hL⟩ := hJ
     refine CW.seq ?_
     refine CSR ?_
     refine OV (.int .i64 s_l3.2) rfl (x_mv f1628) ?_
     refine OV v3 rfl (x_mv f1624) ?_
     refine OV (.int .i64 (a1.length : Int)) rfl (x_lenR U35 rfl (hL.rdS 3 rfl h4)) ?_
     refine OV (.bool (decide (s_l3.2 < (a1.length : Int)))) rfl (x_lss rfl rfl) ?_
     refine OW.nil ?_
     refine CW.condM (t := decide (s_l3.2 < (a1.length : Int))) rfl hm (fun hb1629 hm => ?_) (fun hb1629 hm => ?_)
     · refine CW.skip ?_
       refine CW.seqJ (fun (s_j1 : (List Race)) (F : Fr) (w : World) => ∃ (S1722 : Nat → Prop), F 1 = v3 ∧ F 2 = (.pointer (some ⟨b6, 0, none⟩)) ∧ F 4 = (.pointer (some ⟨b8, 0, none⟩)) ∧ F 5 = v66 ∧ F 10 = (.int .i64 s_l3.2) ∧ Hp w0 [Ent.own 75 S1722 v66 s_j1, Ent.blk b8 33 #[(.int .i64 0), (.int .i64 0), (.slice none 0 0)], Ent.blk b6 33 #[(.int .i64 a0.Boats), (.int .i64 a0.Scheme), v1], Ent.snap w0 w0.heap.size] w) (fun s_j1 => M.spec_l21Series_j1 s_l3 s_j1 = some t1610) ?_ ?_
       · refine CW.blockJ (fun (s_j2 : (List Race)) (F : Fr) (w : World) => ∃ (S1772 : Nat → Prop), F 1 = v3 ∧ F 2 = (.pointer (some ⟨b6, 0, none⟩)) ∧ F 4 = (.pointer (some ⟨b8, 0, none⟩)) ∧ F 5 = v66 ∧ F 10 = (.int .i64 s_l3.2) ∧ Hp w0 [Ent.own 75 S1772 v66 s_j2, Ent.blk b8 33 #[(.int .i64 0), (.int .i64 0), (.slice none 0 0)], Ent.blk b6 33 #[(.int .i64 a0.Boats), (.int .i64 a0.Scheme), v1], Ent.snap w0 w0.heap.size] w) (fun s_j2 => M.spec_l21Series_j2 s_l3 s_j2 = some t1610) ?_ ?_
         · refine CSR ?_
           refine OV v3 rfl (x_mv f1624) ?_
           refine OV (.int .i64 s_l3.2) rfl (x_mv f1628) ?_
           obtain ⟨x1780, ha1781, hm⟩ := bndE hm
           obtain ⟨hz1782, ha1786⟩ := idxE ha1781
           obtain ⟨b1783, q1784, hix1785⟩ := rdL_ix (hL.rdS 3 rfl h4) hz1782 ha1786
           refine OV (.pointer (some ⟨b1783, q1784, none⟩)) rfl (x_ix U35 Tryz_T53 rfl rfl hix1785) ?_
           refine OV (.agg #[(.int .i64 x1780.Race), (.int .i64 x1780.Boat), (.int .i64 x1780.Kind), (.int .i64 x1780.Value)]) rfl (x_loadN (cs := [(.int .i64 x1780.Race), (.int .i64 x1780.Boat), (.int .i64 x1780.Kind), (.int .i64 x1780.Value)]) U53 Tryz_T53 rfl rfl (rdF_cells (hL.rdS 3 rfl h4) hix1785 ha1786)) ?_
           refine OW.cons (S_alloc (cs := #[(.int .i64 0), (.int .i64 0), (.int .i64 0), (.int .i64 0)]) hL Tryz_T53 rfl rfl ?_)
           intro wd1787 b1788 hL
           refine OW.cons (S_storeN (l := [(.int .i64 x1780.Race), (.int .i64 x1780.Boat), (.int .i64 x1780.Kind), (.int .i64 x1780.Value)]) (cs' := #[(.int .i64 x1780.Race), (.int .i64 x1780.Boat), (.int .i64 x1780.Kind), (.int .i64 x1780.Value)]) hL 0 rfl Tryz_T53 rfl rfl (List.forall_mem_cons.2 ⟨rfl, (List.forall_mem_cons.2 ⟨rfl, (List.forall_mem_cons.2 ⟨rfl, (List.forall_mem_cons.2 ⟨rfl, (fun _ h => by cases h)⟩)⟩)⟩)⟩) rfl (Nat.le_of_ble_eq_true rfl) rfl ?_)
           intro wd1789 hL
           refine ONR ?_
           refine OV (.pointer (some ⟨b1788, 2, none⟩)) rfl (x_fieldAddr (fsz := 1) 0 2 2 U53 rfl Tryz_T2 rfl rfl rfl) ?_
           refine OV (.int .i64 x1780.Kind) rfl (x_load1 U2 rfl rfl (hL.cellB 0 rfl rfl)) ?_
           refine OV (.bool (x1780.Kind == 1)) rfl (x_eql rfl rfl) ?_
           refine OW.nil ?_
           refine CW.condM (t := x1780.Kind == 1) rfl hm (fun hb1790 hm => ?_) (fun hb1790 hm => ?_)
           · obtain ⟨wz1791, hL, ho1792⟩ := hL.freeze 1 rfl
             simp only [lC, lD] at hL
             refine CW.draw Tryz_mixed ?_
             have hL := hL.call (Mod.drew _)
             refine DW.pre (fuel := 1) (fin := bma 15 16383) (C := fun w' => Mod None_ _ w') [0, 1, 2, 3, 4, 5, 6, 7, 8, 9, 10, 11, 12, 13] (Mod.refl _ _) (by kernel_rfl) (by kernel_rfl) ?_
             refine QW.cons rfl (QP.val (v := v66) rfl (fun w' hm' => x_mv f1627) ?_)
             refine QW.cons rfl (QP.val (v := (.pointer (some ⟨b1788, 0, none⟩))) rfl (fun w' hm' => x_fieldAddr (fsz := 1) 0 0 0 U53 rfl Tryz_T2 rfl rfl rfl) ?_)
             refine QW.cons rfl (QP.val (v := (.int .i64 x1780.Race)) rfl (fun w' hm' => x_load1 U2 rfl rfl ((hL.call hm').cellB 0 rfl rfl)) ?_)
             obtain ⟨x1793, ha1794, hm⟩ := bndE hm
             obtain ⟨hz1795, ha1803⟩ := idxE ha1794
             obtain ⟨b1796, q1797, v1798, hix1799, hs1800, hc1801, hr1802⟩ := rdN_at ho1792.1.rdL hz1795 ha1803
             refine QW.cons rfl (QP.val (v := (.pointer (some ⟨b1796, q1797, none⟩))) rfl (fun w' hm' => x_ix U31 Tryz_T75 rfl rfl hix1799) ?_)
             refine QW.cons rfl (QP.val (v := (.pointer (some ⟨b1796, q1797, none⟩))) rfl (fun w' hm' => x_fieldAddr (fsz := 1) q1797 0 q1797 U75 rfl Tryz_T73 rfl rfl rfl) ?_)
             refine QW.cons rfl (QP.val (v := v1798) rfl (fun w' hm' => x_load1 U73 rfl rfl ((hL.call hm').cellF 1 rfl hs1800 hc1801)) ?_)
             refine QW.cons rfl (QP.val (v := (.pointer (some ⟨b1788, 1, none⟩))) rfl (fun w' hm' => x_fieldAddr (fsz := 1) 0 1 1 U53 rfl Tryz_T2 rfl rfl rfl) ?_)
             refine QW.cons rfl (QP.val (v := (.int .i64 x1780.Boat)) rfl (fun w' hm' => x_load1 U2 rfl rfl ((hL.call hm').cellB 0 rfl rfl)) ?_)
             refine QW.cons rfl (QP.val (v := (.pointer (some ⟨b1788, 1, none⟩))) rfl (fun w' hm' => x_fieldAddr (fsz := 1) 0 1 1 U53 rfl Tryz_T2 rfl rfl rfl) ?_)
             refine QW.cons rfl (QP.val (v := (.int .i64 x1780.Boat)) rfl (fun w' hm' => x_load1 U2 rfl rfl ((hL.call hm').cellB 0 rfl rfl)) ?_)
             refine QW.cons rfl (QP.val (v := (.pointer (some ⟨b1788, 3, none⟩))) rfl (fun w' hm' => x_fieldAddr (fsz := 1) 0 3 3 U53 rfl Tryz_T2 rfl rfl rfl) ?_)
             refine QW.cons rfl (QP.val (v := (.int .i64 x1780.Value)) rfl (fun w' hm' => x_load1 U2 rfl rfl ((hL.call hm').cellB 0 rfl rfl)) ?_)
             refine QW.cons rfl (QP.val (v := (.agg #[(.int .i64 x1780.Boat), (.int .i64 x1780.Value), (.int .i64 0)])) rfl (fun w' hm' => x_build Tryz_B79 (ps := [(0, (.int .i64 x1780.Boat)), (1, (.int .i64 x1780.Value))]) ⟨⟨rfl, rfl⟩, ⟨rfl, rfl⟩, trivial⟩ (by simp [Instr.fill, cells_int, cells_bool, cells_string, cells_agg, cells_slice, cells_pointer])) ?_)
             obtain ⟨x1804, ha1805, hm⟩ := bndE hm
             obtain ⟨hz1806, ha1810⟩ := idxE ha1805
             obtain ⟨b1807, q1808, hix1809⟩ := rdL_ix (hL.rdF 1 rfl hr1802) hz1806 ha1810
             refine QW.cons rfl (QP.val (v := (.pointer (some ⟨b1807, q1808, none⟩))) rfl (fun w' hm' => x_ix U73 Tryz_T79 rfl rfl hix1809) ?_)
             refine QW.nil ?_
             intro wd1811 hmod
             have hL := hL.call hmod
             have hc1813 := hL.cellF 1 rfl hs1800 hc1801
             have hL := hL.thaw 1 rfl ho1792
             simp only [lC, lD] at hL
             refine DW.only 14 rfl (by kernel_rfl) (S_inRowC (α := Finish) (x1793.Finishes.set (x1780.Boat : Int).toNat (Finish.mk x1780.Boat x1780.Value 0)) (Race.mk (x1793.Finishes.set (x1780.Boat : Int).toNat (Finish.mk x1780.Boat x1780.Value 0))) rfl hL 1 rfl hix1799 ha1803 hc1813 (fun E2 S1 hL hK => S_storeXN (l := [(.int .i64 x1780.Boat), (.int .i64 x1780.Value), (.int .i64 0)]) (Finish.mk x1780.Boat x1780.Value 0) hL 0 rfl Tryz_T79 hix1809 ha1810 rfl rfl rfl hK) ?_)
             intro wd1812 S1814 hL hc1815 ha1816
             simp only [lC, lD] at hL
             obtain ⟨wz1817, hL, ho1818, hs1819, hc1820, hr1821⟩ := hL.freezeAt (α := Finish) 1 rfl hix1799 ha1816 hc1815
             simp only [lC, lD] at hL
             refine DW.done (by kernel_rfl) ?_
             have hL := hL.thaw 1 rfl ho1818
             have hL := hL.sel [1, 2, 3, 4] (by decide) rfl
             exact ⟨s_l3.1.set (x1780.Race : Int).toNat (Race.mk (x1793.Finishes.set (x1780.Boat : Int).toNat (Finish.mk x1780.Boat x1780.Value 0))), hm, ⟨S1814, f1624, f1625, f1626, f1627, f1628, hL⟩⟩
           refine CW.skip ?_
           have hL := hL.sel [1, 2, 3, 4] (by decide) rfl
           exact ⟨s_l3.1, hm, ⟨S1609, f1624, f1625, f1626, f1627, f1628, hL⟩⟩
         intro s_j2 F1773 wd1774 hJ hm
         unfold M.spec_l21Series_j2 at hm
         obtain ⟨S1772, f1775, f1776, f1777, f1778, f1779, hL⟩ := hJ
         exact ⟨s_j2, hm, ⟨S1772, f1775, f1776, f1777, f1778, f1779, hL⟩⟩
       intro s_j1 F1723 wd1724 hJ hm
       unfold M.spec_l21Series_j1 at hm
       obtain ⟨S1722, f1725, f1726, f1727, f1728, f1729, hL⟩ := hJ
       refine CW.regionL ?_
       refine OV (.int .i64 s_l3.2) rfl (x_mv f1729) ?_
       refine OV (.int .i64 (w64 (s_l3.2 + 1))) rfl (x_add rfl rfl) ?_
       refine OV (.int .i64 (w64 (s_l3.2 + 1))) rfl (x_assign) ?_
       refine OW.nil ?_
       obtain rfl := Option.some.inj hm
       exact ⟨_, rfl, ⟨S1722, f1725, f1726, f1727, f1728, rfl, hL⟩⟩
     refine CW.exit ?_
     refine XJ.hit ?_
     obtain rfl := Option.some.inj hm
     exact ⟨_, rfl, ⟨S1609, f1624, f1625, f1626, f1627, f1628, hL⟩⟩
   intro s_l2 F1822 wd1823 t1211 hJ hm hr1212
   unfold M.spec_l21Series_l2 at hm
   obtain ⟨S1210, f1824, f1825, f1826, f1827, f1828, hL⟩ := hJ
   refine CW.seq ?_
   refine CSR ?_
   refine OV (.int .i64 s_l2.2) rfl (x_mv f1828) ?_
   refine OV v3 rfl (x_mv f1824) ?_
   refine OV (.int .i64 (a1.length : Int)) rfl (x_lenR U35 rfl (hL.rdS 3 rfl h4)) ?_
   refine OV (.bool (decide (s_l2.2 < (a1.length : Int)))) rfl (x_lss rfl rfl) ?_
   refine OW.nil ?_
   refine CW.condM (t := decide (s_l2.2 < (a1.length : Int))) rfl hm (fun hb1829 hm => ?_) (fun hb1829 hm => ?_)
   · refine CW.skip ?_
     refine CW.seqJ (fun (s_j3 : (List Race)) (F : Fr) (w : World) => ∃ (S2108 : Nat → Prop), F 1 = v3 ∧ F 2 = (.pointer (some ⟨b6, 0, none⟩)) ∧ F 4 = (.pointer (some ⟨b8, 0, none⟩)) ∧ F 5 = v66 ∧ F 7 = (.int .i64 s_l2.2) ∧ Hp w0 [Ent.own 75 S2108 v66 s_j3, Ent.blk b8 33 #[(.int .i64 0), (.int .i64 0), (.slice none 0 0)], Ent.blk b6 33 #[(.int .i64 a0.Boats), (.int .i64 a0.Scheme), v1], Ent.snap w0 w0.heap.size] w) (fun s_j3 => M.spec_l21Series_j3 s_l2 s_j3 = some t1211) ?_ ?_
     · refine CW.blockJ (fun (s_j4 : (List Race)) (F : Fr) (w : World) => ∃ (S2251 : Nat → Prop), F 1 = v3 ∧ F 2 = (.pointer (some ⟨b6, 0, none⟩)) ∧ F 4 = (.pointer (some ⟨b8, 0, none⟩)) ∧ F 5 = v66 ∧ F 7 = (.int .i64 s_l2.2) ∧ Hp w0 [Ent.own 75 S2251 v66 s_j4, Ent.blk b8 33 #[(.int .i64 0), (.int .i64 0), (.slice none 0 0)], Ent.blk b6 33 #[(.int .i64 a0.Boats), (.int .i64 a0.Scheme), v1], Ent.snap w0 w0.heap.size] w) (fun s_j4 => M.spec_l21Series_j4 s_l2 s_j4 = some t1211) ?_ ?_
       · refine CSR ?_
         refine OV v3 rfl (x_mv f1824) ?_
         refine OV (.int .i64 s_l2.2) rfl (x_mv f1828) ?_
         obtain ⟨x2259, ha2260, hm⟩ := bndE hm
         obtain ⟨hz2261, ha2265⟩ := idxE ha2260
         obtain ⟨b2262, q2263, hix2264⟩ := rdL_ix (hL.rdS 3 rfl h4) hz2261 ha2265
         refine OV (.pointer (some ⟨b2262, q2263, none⟩)) rfl (x_ix U35 Tryz_T53 rfl rfl hix2264) ?_
         refine OV (.agg #[(.int .i64 x2259.Race), (.int .i64 x2259.Boat), (.int .i64 x2259.Kind), (.int .i64 x2259.Value)]) rfl (x_loadN (cs := [(.int .i64 x2259.Race), (.int .i64 x2259.Boat), (.int .i64 x2259.Kind), (.int .i64 x2259.Value)]) U53 Tryz_T53 rfl rfl (rdF_cells (hL.rdS 3 rfl h4) hix2264 ha2265)) ?_
         refine OW.cons (S_alloc (cs := #[(.int .i64 0), (.int .i64 0), (.int .i64 0), (.int .i64 0)]) hL Tryz_T53 rfl rfl ?_)
         intro wd2266 b2267 hL
         refine OW.cons (S_storeN (l := [(.int .i64 x2259.Race), (.int .i64 x2259.Boat), (.int .i64 x2259.Kind), (.int .i64 x2259.Value)]) (cs' := #[(.int .i64 x2259.Race), (.int .i64 x2259.Boat), (.int .i64 x2259.Kind), (.int .i64 x2259.Value)]) hL 0 rfl Tryz_T53 rfl rfl (List.forall_mem_cons.2 ⟨rfl, (List.forall_mem_cons.2 ⟨rfl, (List.forall_mem_cons.2 ⟨rfl, (List.forall_mem_cons.2 ⟨rfl, (fun _ h => by cases h)⟩)⟩)⟩)⟩) rfl (Nat.le_of_ble_eq_true rfl) rfl ?_)
         intro wd2268 hL
         refine ONS ?_
         obtain ⟨wz2269, hL, ho2270⟩ := hL.freeze 1 rfl
         simp only [lC, lD] at hL
         refine CW.drawH (fun w' => Hp w0 [Ent.blk b2267 53 #[(.int .i64 x2259.Race), (.int .i64 x2259.Boat), (.int .i64 x2259.Kind), (.int .i64 x2259.Value)], Ent.frzS wz2269 S1210, Ent.blk b8 33 #[(.int .i64 0), (.int .i64 0), (.slice none 0 0)], Ent.blk b6 33 #[(.int .i64 a0.Boats), (.int .i64 a0.Scheme), v1], Ent.snap w0 w0.heap.size] w') Tryz_mixed ?_
         have hL := hL.call (Mod.drew _)
         have hS := (hL.sel [0, 1, 2, 3, 4] (by decide) rfl)
         refine DH.take 0 rfl (by kernel_rfl) (by kernel_rfl) (by kernel_rfl) rfl rfl hS (YH.val (v := v66) (fun w' hS' => x_mv f1827)) ?_
         have hS := (hL.sel [0, 1, 2, 3, 4] (by decide) rfl)
         refine DH.take 1 rfl (by kernel_rfl) (by kernel_rfl) (by kernel_rfl) rfl rfl hS (YH.val (v := (.pointer (some ⟨b2267, 0, none⟩))) (fun w' hS' => x_fieldAddr (fsz := 1) 0 0 0 U53 rfl Tryz_T2 rfl rfl rfl)) ?_
         have hS := (hL.sel [0, 1, 2, 3, 4] (by decide) rfl)
         refine DH.take 2 rfl (by kernel_rfl) (by kernel_rfl) (by kernel_rfl) rfl rfl hS (YH.val (v := (.int .i64 x2259.Race)) (fun w' hS' => x_load1 U2 rfl rfl (hS'.cellB 0 rfl rfl))) ?_
         have hS := (hL.sel [0, 1, 2, 3, 4] (by decide) rfl)
         obtain ⟨x2292, ha2293, hm⟩ := bndE hm
         obtain ⟨hz2294, ha2302⟩ := idxE ha2293
         obtain ⟨b2295, q2296, v2297, hix2298, hs2299, hc2300, hr2301⟩ := rdN_at ho2270.1.rdL hz2294 ha2302
         refine DH.take 3 rfl (by kernel_rfl) (by kernel_rfl) (by kernel_rfl) rfl rfl hS (YH.val (v := (.pointer (some ⟨b2295, q2296, none⟩))) (fun w' hS' => x_ix U31 Tryz_T75 rfl rfl hix2298)) ?_
         have hS := (hL.sel [0, 1, 2, 3, 4] (by decide) rfl)
         refine DH.take 4 rfl (by kernel_rfl) (by kernel_rfl) (by kernel_rfl) rfl rfl hS (YH.val (v := (.pointer (some ⟨b2295, q2296, none⟩))) (fun w' hS' => x_fieldAddr (fsz := 1) q2296 0 q2296 U75 rfl Tryz_T73 rfl rfl rfl)) ?_
         have hS := (hL.sel [0, 1, 2, 3, 4] (by decide) rfl)
         refine DH.take 5 rfl (by kernel_rfl) (by kernel_rfl) (by kernel_rfl) rfl rfl hS (YH.val (v := v2297) (fun w' hS' => x_load1 U73 rfl rfl (hS'.cellF 1 rfl hs2299 hc2300))) ?_
         have hS := (hL.sel [0, 1, 2, 3, 4] (by decide) rfl)
         refine DH.take 6 rfl (by kernel_rfl) (by kernel_rfl) (by kernel_rfl) rfl rfl hS (YH.val (v := (.pointer (some ⟨b2267, 1, none⟩))) (fun w' hS' => x_fieldAddr (fsz := 1) 0 1 1 U53 rfl Tryz_T2 rfl rfl rfl)) ?_
         have hS := (hL.sel [0, 1, 2, 3, 4] (by decide) rfl)
         refine DH.take 7 rfl (by kernel_rfl) (by kernel_rfl) (by kernel_rfl) rfl rfl hS (YH.val (v := (.int .i64 x2259.Boat)) (fun w' hS' => x_load1 U2 rfl rfl (hS'.cellB 0 rfl rfl))) ?_
         have hS := (hL.sel [0, 1, 2, 3, 4] (by decide) rfl)
         obtain ⟨x2303, ha2304, hm⟩ := bndE hm
         obtain ⟨hz2305, ha2309⟩ := idxE ha2304
         obtain ⟨b2306, q2307, hix2308⟩ := rdL_ix (hL.rdF 1 rfl hr2301) hz2305 ha2309
         refine DH.take 8 rfl (by kernel_rfl) (by kernel_rfl) (by kernel_rfl) rfl rfl hS (YH.val (v := (.pointer (some ⟨b2306, q2307, none⟩))) (fun w' hS' => x_ix U73 Tryz_T79 rfl rfl hix2308)) ?_
         have hS := (hL.sel [0, 1, 2, 3, 4] (by decide) rfl)
         refine DH.take 9 rfl (by kernel_rfl) (by kernel_rfl) (by kernel_rfl) rfl rfl hS (YH.val (v := (.agg #[(.int .i64 x2303.Boat), (.int .i64 x2303.Code), (.int .i64 x2303.Time)])) (fun w' hS' => x_loadN (cs := [(.int .i64 x2303.Boat), (.int .i64 x2303.Code), (.int .i64 x2303.Time)]) U79 Tryz_T79 rfl rfl (rdF_cells (hS'.rdF 1 rfl hr2301) hix2308 ha2309))) ?_
         refine DH.only 10 rfl (by kernel_rfl) (S_alloc (cs := #[(.int .i64 0), (.int .i64 0), (.int .i64 0)]) hL Tryz_T79 rfl rfl ?_)
         intro wd2310 b2311 hL
         refine ⟨(hL.sel [1, 2, 3, 4, 5] (by decide) rfl), ?_⟩
         refine DH.only 11 rfl (by kernel_rfl) (S_storeN (l := [(.int .i64 x2303.Boat), (.int .i64 x2303.Code), (.int .i64 x2303.Time)]) (cs' := #[(.int .i64 x2303.Boat), (.int .i64 x2303.Code), (.int .i64 x2303.Time)]) hL 0 rfl Tryz_T79 rfl rfl (List.forall_mem_cons.2 ⟨rfl, (List.forall_mem_cons.2 ⟨rfl, (List.forall_mem_cons.2 ⟨rfl, (fun _ h => by cases h)⟩)⟩)⟩) rfl (Nat.le_of_ble_eq_true rfl) rfl ?_)
         intro wd2312 hL
         refine ⟨(hL.sel [1, 2, 3, 4, 5] (by decide) rfl), ?_⟩
         refine DH.done (by kernel_rfl) ?_
         have hL := hL.thaw 2 rfl ho2270
         refine CW.seqJ (fun (s_j5 : Bool) (F : Fr) (w : World) => F 1 = v3 ∧ F 2 = (.pointer (some ⟨b6, 0, none⟩)) ∧ F 4 = (.pointer (some ⟨b8, 0, none⟩)) ∧ F 5 = v66 ∧ F 7 = (.int .i64 s_l2.2) ∧ F 8 = (.pointer (some ⟨b2267, 0, none⟩)) ∧ F 9 = (.pointer (some ⟨b2311, 0, none⟩)) ∧ F 58 = (.bool s_j5) ∧ Hp w0 [Ent.blk b2311 79 #[(.int .i64 x2303.Boat), (.int .i64 x2303.Code), (.int .i64 x2303.Time)], Ent.blk b2267 53 #[(.int .i64 x2259.Race), (.int .i64 x2259.Boat), (.int .i64 x2259.Kind), (.int .i64 x2259.Value)], Ent.own 75 S1210 v66 s_l2.1, Ent.blk b8 33 #[(.int .i64 0), (.int .i64 0), (.slice none 0 0)], Ent.blk b6 33 #[(.int .i64 a0.Boats), (.int .i64 a0.Scheme), v1], Ent.snap w0 w0.heap.size] w) (fun s_j5 => M.spec_l21Series_j5 s_l2 x2259 x2303 s_j5 = some t1211) ?_ ?_
         · refine CW.regionL ?_
           refine OV (.pointer (some ⟨b2267, 2, none⟩)) rfl (x_fieldAddr (fsz := 1) 0 2 2 U53 rfl Tryz_T2 rfl rfl rfl) ?_
           refine OV (.int .i64 x2259.Kind) rfl (x_load1 U2 rfl rfl (hL.cellB 1 rfl rfl)) ?_
           refine OV (.bool (x2259.Kind == 2)) rfl (x_eql rfl rfl) ?_
           refine OV (.bool (x2259.Kind == 2)) rfl (x_move) ?_
           refine ifB_elim hm (fun hb2388 hm => ?_) (fun hb2388 hm => ?_)
           · refine OW.cons (OP.yes' rfl rfl hb2388 (OP.val (v := (.agg #[(.int .i64 x2303.Boat), (.int .i64 x2303.Code), (.int .i64 x2303.Time)])) rfl (x_loadN (cs := [(.int .i64 x2303.Boat), (.int .i64 x2303.Code), (.int .i64 x2303.Time)]) U79 Tryz_T79 rfl rfl (hL.cellsB 0 rfl (o := 0) (l := [(.int .i64 x2303.Boat), (.int .i64 x2303.Code), (.int .i64 x2303.Time)]) (by intro j u hj; exact (by simpa using hj)))) ?_))
             obtain ⟨x2389, hx2390, hm⟩ := bndE hm
             refine OW.cons (OP.yes' rfl rfl hb2388 (OP.call rfl (x_call (vs := [(.agg #[(.int .i64 x2303.Boat), (.int .i64 x2303.Code), (.int .i64 x2303.Time)])]) Tryz_C54 ⟨rfl, trivial⟩) (M.spec_l26Done_ok _ x2303 hx2390) ?_))
             rintro e2391 wd2392 ⟨rfl, hF2393⟩
             refine ⟨_, rfl, ?_⟩
             have hL := hL.pushAll hF2393
             simp only [lA, lB, lC, lD] at hL
             refine OV (.bool x2389) rfl (x_pickT' rfl hb2388 rfl) ?_
             refine OW.nil ?_
             exact ⟨x2389, hm, ⟨f1824, f1825, f1826, f1827, f1828, rfl, rfl, rfl, hL⟩⟩
           refine OW.cons (OP.no' rfl rfl hb2388 rfl ?_)
           refine OW.cons (OP.no' rfl rfl hb2388 rfl ?_)
           refine OV (.bool false) rfl (x_pickF' rfl hb2388 rfl) ?_
           refine OW.nil ?_
           exact ⟨false, hm, ⟨f1824, f1825, f1826, f1827, f1828, rfl, rfl, rfl, hL⟩⟩
         intro s_j5 F2319 wd2320 hJ hm
         unfold M.spec_l21Series_j5 at hm
         obtain ⟨f2321, f2322, f2323, f2324, f2325, f2326, f2327, f2328, hL⟩ := hJ
         refine CW.condM (t := s_j5) f2328 hm (fun hb2329 hm => ?_) (fun hb2329 hm => ?_)
         · obtain ⟨wz2330, hL, ho2331⟩ := hL.freeze 2 rfl
           simp only [lC, lD] at hL
           refine CW.drawH (fun w' => Hp w0 [Ent.blk b2311 79 #[(.int .i64 x2303.Boat), (.int .i64 x2303.Code), (.int .i64 x2303.Time)], Ent.blk b2267 53 #[(.int .i64 x2259.Race), (.int .i64 x2259.Boat), (.int .i64 x2259.Kind), (.int .i64 x2259.Value)], Ent.blk b8 33 #[(.int .i64 0), (.int .i64 0), (.slice none 0 0)], Ent.blk b6 33 #[(.int .i64 a0.Boats), (.int .i64 a0.Scheme), v1], Ent.snap w0 w0.heap.size] w') Tryz_mixed ?_
           have hL := hL.call (Mod.drew _)
           have hS := (hL.sel [0, 1, 3, 4, 5] (by decide) rfl)
           refine DH.take 0 rfl (by kernel_rfl) (by kernel_rfl) (by kernel_rfl) rfl rfl hS (YH.val (v := v66) (fun w' hS' => x_mv f2324)) ?_
           have hS := (hL.sel [0, 1, 3, 4, 5] (by decide) rfl)
           refine DH.take 1 rfl (by kernel_rfl) (by kernel_rfl) (by kernel_rfl) rfl rfl hS (YH.val (v := (.pointer (some ⟨b2267, 0, none⟩))) (fun w' hS' => x_fieldAddr (fsz := 1) 0 0 0 U53 rfl Tryz_T2 rfl f2326 rfl)) ?_
           have hS := (hL.sel [0, 1, 3, 4, 5] (by decide) rfl)
           refine DH.take 2 rfl (by kernel_rfl) (by kernel_rfl) (by kernel_rfl) rfl rfl hS (YH.val (v := (.int .i64 x2259.Race)) (fun w' hS' => x_load1 U2 rfl rfl (hS'.cellB 1 rfl rfl))) ?_
           have hS := (hL.sel [0, 1, 3, 4, 5] (by decide) rfl)
           obtain ⟨x2360, ha2361, hm⟩ := bndE hm
           obtain ⟨hz2362, ha2370⟩ := idxE ha2361
           obtain ⟨b2363, q2364, v2365, hix2366, hs2367, hc2368, hr2369⟩ := rdN_at ho2331.1.rdL hz2362 ha2370
           refine DH.take 3 rfl (by kernel_rfl) (by kernel_rfl) (by kernel_rfl) rfl rfl hS (YH.val (v := (.pointer (some ⟨b2363, q2364, none⟩))) (fun w' hS' => x_ix U31 Tryz_T75 rfl rfl hix2366)) ?_
           have hS := (hL.sel [0, 1, 3, 4, 5] (by decide) rfl)
           refine DH.take 4 rfl (by kernel_rfl) (by kernel_rfl) (by kernel_rfl) rfl rfl hS (YH.val (v := (.pointer (some ⟨b2363, q2364, none⟩))) (fun w' hS' => x_fieldAddr (fsz := 1) q2364 0 q2364 U75 rfl Tryz_T73 rfl rfl rfl)) ?_
           have hS := (hL.sel [0, 1, 3, 4, 5] (by decide) rfl)
           refine DH.take 6 rfl (by kernel_rfl) (by kernel_rfl) (by kernel_rfl) rfl rfl hS (YH.val (v := (.pointer (some ⟨b2267, 1, none⟩))) (fun w' hS' => x_fieldAddr (fsz := 1) 0 1 1 U53 rfl Tryz_T2 rfl f2326 rfl)) ?_
           have hS := (hL.sel [0, 1, 3, 4, 5] (by decide) rfl)
           refine DH.take 7 rfl (by kernel_rfl) (by kernel_rfl) (by kernel_rfl) rfl rfl hS (YH.val (v := (.int .i64 x2259.Boat)) (fun w' hS' => x_load1 U2 rfl rfl (hS'.cellB 1 rfl rfl))) ?_
           have hS := (hL.sel [0, 1, 3, 4, 5] (by decide) rfl)
           refine DH.take 8 rfl (by kernel_rfl) (by kernel_rfl) (by kernel_rfl) rfl rfl hS (YH.val (v := (.pointer (some ⟨b2311, 2, none⟩))) (fun w' hS' => x_fieldAddr (fsz := 1) 0 2 2 U79 rfl Tryz_T2 rfl f2327 rfl)) ?_
           have hS := (hL.sel [0, 1, 3, 4, 5] (by decide) rfl)
           refine DH.take 9 rfl (by kernel_rfl) (by kernel_rfl) (by kernel_rfl) rfl rfl hS (YH.val (v := (.int .i64 x2303.Time)) (fun w' hS' => x_load1 U2 rfl rfl (hS'.cellB 0 rfl rfl))) ?_
           have hS := (hL.sel [0, 1, 3, 4, 5] (by decide) rfl)
           refine DH.take 10 rfl (by kernel_rfl) (by kernel_rfl) (by kernel_rfl) rfl rfl hS (YH.val (v := (.pointer (some ⟨b2267, 3, none⟩))) (fun w' hS' => x_fieldAddr (fsz := 1) 0 3 3 U53 rfl Tryz_T2 rfl f2326 rfl)) ?_
           have hS := (hL.sel [0, 1, 3, 4, 5] (by decide) rfl)
           refine DH.take 11 rfl (by kernel_rfl) (by kernel_rfl) (by kernel_rfl) rfl rfl hS (YH.val (v := (.int .i64 x2259.Value)) (fun w' hS' => x_load1 U2 rfl rfl (hS'.cellB 1 rfl rfl))) ?_
           have hS := (hL.sel [0, 1, 3, 4, 5] (by decide) rfl)
           refine DH.take 12 rfl (by kernel_rfl) (by kernel_rfl) (by kernel_rfl) rfl rfl hS (YH.val (v := (.int .i64 (w64 (x2303.Time + x2259.Value)))) (fun w' hS' => x_add rfl rfl)) ?_
           have hS := (hL.sel [0, 1, 3, 4, 5] (by decide) rfl)
           refine DH.take 13 rfl (by kernel_rfl) (by kernel_rfl) (by kernel_rfl) rfl rfl hS (YH.val (v := (.int .i64 (min 1000000000 (w64 (x2303.Time + x2259.Value))))) (fun w' hS' => x_min2 rfl rfl)) ?_
           refine DH.only 5 rfl (by kernel_rfl) (OP.val (v := v2365) rfl (x_load1 U73 rfl rfl (hL.cellF 2 rfl hs2367 hc2368)) ?_)
           refine ⟨(hL.sel [0, 1, 3, 4, 5] (by decide) rfl), ?_⟩
           have hS := (hL.sel [0, 1, 3, 4, 5] (by decide) rfl)
           obtain ⟨x2371, ha2372, hm⟩ := bndE hm
           obtain ⟨hz2373, ha2377⟩ := idxE ha2372
           obtain ⟨b2374, q2375, hix2376⟩ := rdL_ix (hL.rdF 2 rfl hr2369) hz2373 ha2377
           refine DH.take 14 rfl (by kernel_rfl) (by kernel_rfl) (by kernel_rfl) rfl rfl hS (YH.val (v := (.pointer (some ⟨b2374, q2375, none⟩))) (fun w' hS' => x_ix U73 Tryz_T79 rfl rfl hix2376)) ?_
           have hS := (hL.sel [0, 1, 3, 4, 5] (by decide) rfl)
           refine DH.take 15 rfl (by kernel_rfl) (by kernel_rfl) (by kernel_rfl) rfl rfl hS (YH.val (v := (.pointer (some ⟨b2374, q2375 + 2, none⟩))) (fun w' hS' => x_fieldAddr (fsz := 1) q2375 2 (q2375 + 2) U79 rfl Tryz_T2 rfl rfl rfl)) ?_
           have hc2379 := hL.cellF 2 rfl hs2367 hc2368
           have hL := hL.thaw 2 rfl ho2331
           simp only [lC, lD] at hL
           refine DH.only 16 rfl (by kernel_rfl) (S_inRowC (α := Finish) (x2360.Finishes.set (x2259.Boat : Int).toNat (Finish.mk x2371.Boat x2371.Code (min 1000000000 (w64 (x2303.Time + x2259.Value))))) (Race.mk (x2360.Finishes.set (x2259.Boat : Int).toNat (Finish.mk x2371.Boat x2371.Code (min 1000000000 (w64 (x2303.Time + x2259.Value)))))) rfl hL 2 rfl hix2366 ha2370 hc2379 (fun E2 S1 hL hK => S_storeX (j := 2) (Finish.mk x2371.Boat x2371.Code (min 1000000000 (w64 (x2303.Time + x2259.Value)))) hL 0 rfl Tryz_T2 hix2376 ha2377 rfl rfl rfl rfl rfl rfl hK) ?_)
           intro wd2378 S2380 hL hc2381 ha2382
           simp only [lC, lD] at hL
           obtain ⟨wz2383, hL, ho2384, hs2385, hc2386, hr2387⟩ := hL.freezeAt (α := Finish) 2 rfl hix2366 ha2382 hc2381
           simp only [lC, lD] at hL
           refine ⟨(hL.sel [0, 1, 3, 4, 5] (by decide) rfl), ?_⟩
           refine DH.done (by kernel_rfl) ?_
           have hL := hL.thaw 2 rfl ho2384
           have hL := hL.sel [2, 3, 4, 5] (by decide) rfl
           exact ⟨s_l2.1.set (x2259.Race : Int).toNat (Race.mk (x2360.Finishes.set (x2259.Boat : Int).toNat (Finish.mk x2371.Boat x2371.Code (min 1000000000 (w64 (x2303.Time + x2259.Value)))))), hm, ⟨S2380, f2321, f2322, f2323, f2324, f2325, hL⟩⟩
         refine CW.skip ?_
         have hL := hL.sel [2, 3, 4, 5] (by decide) rfl
         exact ⟨s_l2.1, hm, ⟨S1210, f2321, f2322, f2323, f2324, f2325, hL⟩⟩
       intro s_j4 F2252 wd2253 hJ hm
       unfold M.spec_l21Series_j4 at hm
       obtain ⟨S2251, f2254, f2255, f2256, f2257, f2258, hL⟩ := hJ
       exact ⟨s_j4, hm, ⟨S2251, f2254, f2255, f2256, f2257, f2258, hL⟩⟩
     intro s_j3 F2109 wd2110 hJ hm
     unfold M.spec_l21Series_j3 at hm
     obtain ⟨S2108, f2111, f2112, f2113, f2114, f2115, hL⟩ := hJ
     refine CW.regionL ?_
     refine OV (.int .i64 s_l2.2) rfl (x_mv f2115) ?_
     refine OV (.int .i64 (w64 (s_l2.2 + 1))) rfl (x_add rfl rfl) ?_
     refine OV (.int .i64 (w64 (s_l2.2 + 1))) rfl (x_assign) ?_
     refine OW.nil ?_
     obtain rfl := Option.some.inj hm
     exact ⟨_, rfl, ⟨S2108, f2111, f2112, f2113, f2114, rfl, hL⟩⟩
   refine CW.exit ?_
   refine XJ.hit ?_
   obtain rfl := Option.some.inj hm
   exact ⟨_, rfl, ⟨S1210, f1824, f1825, f1826, f1827, f1828, hL⟩⟩
 intro s_l1 F2394 wd2395 t68 hJ hm hr69
 unfold M.spec_l21Series_l1 at hm
 obtain ⟨v66, S67, f2396, f2397, f2398, f2399, f2400, hL⟩ := hJ
 refine CW.seq ?_
 refine CSR ?_
 refine OV (.int .i64 s_l1.2) rfl (x_mv f2400) ?_
 refine OV (.pointer (some ⟨b6, 2, none⟩)) rfl (x_fieldAddr (fsz := 1) 0 2 2 U33 rfl Tryz_T31 rfl f2397 rfl) ?_
 refine OV v1 rfl (x_load1 U31 rfl rfl (hL.cellB 2 rfl rfl)) ?_
 refine OV (.int .i64 (a0.Races.length : Int)) rfl (x_lenR U31 rfl (hL.rdS 3 rfl h2)) ?_
 refine OV (.bool (decide (s_l1.2 < (a0.Races.length : Int)))) rfl (x_lss rfl rfl) ?_
 refine OW.nil ?_
 refine CW.condM (t := decide (s_l1.2 < (a0.Races.length : Int))) rfl hm (fun hb2401 hm => ?_) (fun hb2401 hm => ?_)
 · refine CW.skip ?_
   refine CW.seq ?_
   refine CW.block ?_
   refine CW.regionL ?_
   refine OV v66 rfl (x_mv f2399) ?_
   refine OW.cons (S_lit ([] : List Finish) hL U73 Tryz_T79 rfl (by decide) (by first | (simp [Instr.fill, madeCells, Value.cells, ev, upd, Flat.enc, Flat.sz]; done) | rfl | kernel_rfl) rfl rfl ?_)
   intro wd2402 v2403 S2404 hL
   refine OV (.pointer (some ⟨b6, 2, none⟩)) rfl (x_fieldAddr (fsz := 1) 0 2 2 U33 rfl Tryz_T31 rfl f2397 rfl) ?_
   refine OV v1 rfl (x_load1 U31 rfl rfl (hL.cellB 3 rfl rfl)) ?_
   refine OV (.int .i64 s_l1.2) rfl (x_mv f2400) ?_
   obtain ⟨x2405, ha2406, hm⟩ := bndE hm
   obtain ⟨hz2407, ha2415⟩ := idxE ha2406
   obtain ⟨b2408, q2409, v2410, hix2411, hs2412, hc2413, hr2414⟩ := rdN_at h2 hz2407 ha2415
   refine OV (.pointer (some ⟨b2408, q2409, none⟩)) rfl (x_ix U31 Tryz_T75 rfl rfl hix2411) ?_
   refine OV (.pointer (some ⟨b2408, q2409, none⟩)) rfl (x_fieldAddr (fsz := 1) q2409 0 q2409 U75 rfl Tryz_T73 rfl rfl rfl) ?_
   refine OV v2410 rfl (x_load1 U73 rfl rfl (hL.cellS 4 rfl hs2412 hc2413)) ?_
   obtain ⟨hc2419, hm⟩ := chkE hm
   refine OW.cons (S_append (ys := x2405.Finishes) hL 0 rfl U73 Tryz_T79 rfl rfl rfl (hL.rdS 4 rfl hr2414) hc2419 (by decide) rfl ?_)
   intro wd2416 v2417 S2418 hL
   refine OV (.agg #[v2417]) rfl (x_build Tryz_B75 (ps := [(0, v2417)]) ⟨⟨rfl, rfl⟩, trivial⟩ (by simp [Instr.fill, cells_int, cells_bool, cells_string, cells_agg, cells_slice, cells_pointer, (rdL_cells (hL.rdO 0 rfl))])) ?_
   refine OW.cons (S_lit1 (Race.mk (([] : List Finish) ++ x2405.Finishes)) rfl hL U31 Tryz_T75 rfl rfl ?_)
   intro wd2420 v2421 S2422 hL
   obtain ⟨hc2426, hm⟩ := chkE hm
   have hL := hL.sel [1, 0, 2, 3, 4] (by decide) rfl
   refine OW.cons (S_appendN Finish hL U31 Tryz_T75 rfl rfl rfl hc2426 (by decide) rfl ?_)
   intro wd2423 v2424 S2425 hL
   refine OV v2424 rfl (x_assign) ?_
   refine OW.nil ?_
   refine CW.regionL ?_
   refine OV (.int .i64 s_l1.2) rfl (x_mv f2400) ?_
   refine OV (.int .i64 (w64 (s_l1.2 + 1))) rfl (x_add rfl rfl) ?_
   refine OV (.int .i64 (w64 (s_l1.2 + 1))) rfl (x_assign) ?_
   refine OW.nil ?_
   obtain rfl := Option.some.inj hm
   exact ⟨_, rfl, ⟨v2424, S2425, f2396, f2397, f2398, rfl, rfl, hL⟩⟩
 refine CW.exit ?_
 refine XJ.hit ?_
 obtain rfl := Option.some.inj hm
 exact ⟨_, rfl, ⟨v66, S67, f2396, f2397, f2398, f2399, f2400, hL⟩⟩

theorem M.spec_l26Place_ok (w0 : World) (a0 : Race) {v1 : Value} (h2 : rdL (· < w0.heap.size) w0 v1 a0.Finishes) (a1 : List Int) {v3 : Value} (h4 : rdL (· < w0.heap.size) w0 v3 a1) (a2 : Int) {r : Int × Int} (hm : M.spec_l26Place a0 a1 a2 = some r) :
    Calls Tryz.prog 69 #[(.agg #[v1]), v3, (.int .i64 a2)] w0 fun e w' => e = .returned (.tuple #[(.int .i64 r.1), (.int .i64 r.2)]) ∧ Fresh w0 w' [] := by
 unfold M.spec_l26Place at hm
 refine calls_CW (args := [(.agg #[v1]), v3, (.int .i64 a2)]) Tryz.func69 rfl rfl rfl ?_
 have hL := Hp.start w0
 refine CSR ?_
 refine OW.cons (S_box (cs := #[v1]) hL rfl rfl rfl ?_)
 intro wd5 b6 hL
 refine OV (.int .i64 0) rfl (x_assign) ?_
 refine OV (.int .i64 0) rfl (x_assign) ?_
 refine ONR ?_
 refine OV (.int .i64 1) rfl (x_assign) ?_
 refine ONR ?_
 refine OV (.int .i64 0) rfl (x_assign) ?_
 refine ONS ?_
 refine CSR ?_
 refine OV (.int .i64 0) rfl (x_assign) ?_
 refine OW.nil ?_
 obtain ⟨o819, ho820, hm⟩ := bndE hm
 refine CW.loopB (fun (s_l1 : Int × Int × Int) (F : Fr) (w : World) => F 1 = v3 ∧ F 2 = (.int .i64 a2) ∧ F 3 = (.pointer (some ⟨b6, 0, none⟩)) ∧ F 8 = (.int .i64 s_l1.1) ∧ F 9 = (.int .i64 s_l1.2.1) ∧ F 10 = (.int .i64 s_l1.2.2) ∧ Hp w0 [Ent.blk b6 75 #[v1], Ent.snap w0 w0.heap.size] w) (fun o => outc o (fun x => some x) (fun s => M.spec_l26Place_a1 s) = some r) ho820 hm ⟨rfl, rfl, rfl, rfl, rfl, rfl, hL⟩ ?_ ?_
 · intro s_l1 F821 wd822 hJ hm
   have hm := outcE hm
   have hm : M.spec_l26Place_a1 s_l1 = some r := hm
   unfold M.spec_l26Place_a1 at hm
   obtain ⟨f823, f824, f825, f826, f827, f828, hL⟩ := hJ
   refine CSR ?_
   refine OV (.int .i64 s_l1.1) rfl (x_mv f826) ?_
   refine OV (.int .i64 s_l1.2.1) rfl (x_mv f827) ?_
   refine OV (.int .i64 s_l1.1) rfl (x_assign) ?_
   refine OV (.int .i64 s_l1.2.1) rfl (x_assign) ?_
   refine OW.nil ?_
   refine CW.ret ?_
   obtain rfl := Option.some.inj hm
   exact RR2 rfl rfl rfl ⟨rfl, hL.fresh 1 rfl [] (by decide) (by decide) rfl⟩
 intro s_l1 F829 wd830 t817 hJ hm hr818
 unfold M.spec_l26Place_l1 at hm
 obtain ⟨f831, f832, f833, f834, f835, f836, hL⟩ := hJ
 refine CW.seq ?_
 refine CSR ?_
 refine OV (.int .i64 s_l1.2.2) rfl (x_mv f836) ?_
 refine OV (.pointer (some ⟨b6, 0, none⟩)) rfl (x_fieldAddr (fsz := 1) 0 0 0 U75 rfl Tryz_T73 rfl f833 rfl) ?_
 refine OV v1 rfl (x_load1 U73 rfl rfl (hL.cellB 0 rfl rfl)) ?_
 refine OV (.int .i64 (a0.Finishes.length : Int)) rfl (x_lenR U73 rfl (hL.rdS 1 rfl h2)) ?_
 refine OV (.bool (decide (s_l1.2.2 < (a0.Finishes.length : Int)))) rfl (x_lss rfl rfl) ?_
 refine OW.nil ?_
 refine CW.condM (t := decide (s_l1.2.2 < (a0.Finishes.length : Int))) rfl hm (fun hb837 hm => ?_) (fun hb837 hm => ?_)
 · refine CW.skip ?_
   refine CW.seqJ (fun (s_j1 : Int × Int) (F : Fr) (w : World) => F 1 = v3 ∧ F 2 = (.int .i64 a2) ∧ F 3 = (.pointer (some ⟨b6, 0, none⟩)) ∧ F 8 = (.int .i64 s_j1.1) ∧ F 9 = (.int .i64 s_j1.2) ∧ F 10 = (.int .i64 s_l1.2.2) ∧ Hp w0 [Ent.blk b6 75 #[v1], Ent.snap w0 w0.heap.size] w) (fun s_j1 => M.spec_l26Place_j1 s_l1 s_j1 = some t817) ?_ ?_
   · refine CW.blockJ (fun (s_j2 : Int × Int) (F : Fr) (w : World) => F 1 = v3 ∧ F 2 = (.int .i64 a2) ∧ F 3 = (.pointer (some ⟨b6, 0, none⟩)) ∧ F 8 = (.int .i64 s_j2.1) ∧ F 9 = (.int .i64 s_j2.2) ∧ F 10 = (.int .i64 s_l1.2.2) ∧ Hp w0 [Ent.blk b6 75 #[v1], Ent.snap w0 w0.heap.size] w) (fun s_j2 => M.spec_l26Place_j2 s_l1 s_j2 = some t817) ?_ ?_
     · refine CSR ?_
       refine OV (.pointer (some ⟨b6, 0, none⟩)) rfl (x_fieldAddr (fsz := 1) 0 0 0 U75 rfl Tryz_T73 rfl f833 rfl) ?_
       refine OV v1 rfl (x_load1 U73 rfl rfl (hL.cellB 0 rfl rfl)) ?_
       refine OV (.int .i64 s_l1.2.2) rfl (x_mv f836) ?_
       obtain ⟨x1147, ha1148, hm⟩ := bndE hm
       obtain ⟨hz1149, ha1153⟩ := idxE ha1148
       obtain ⟨b1150, q1151, hix1152⟩ := rdL_ix (hL.rdS 1 rfl h2) hz1149 ha1153
       refine OV (.pointer (some ⟨b1150, q1151, none⟩)) rfl (x_ix U73 Tryz_T79 rfl rfl hix1152) ?_
       refine OV (.agg #[(.int .i64 x1147.Boat), (.int .i64 x1147.Code), (.int .i64 x1147.Time)]) rfl (x_loadN (cs := [(.int .i64 x1147.Boat), (.int .i64 x1147.Code), (.int .i64 x1147.Time)]) U79 Tryz_T79 rfl rfl (rdF_cells (hL.rdS 1 rfl h2) hix1152 ha1153)) ?_
       refine OW.cons (S_alloc (cs := #[(.int .i64 0), (.int .i64 0), (.int .i64 0)]) hL Tryz_T79 rfl rfl ?_)
       intro wd1154 b1155 hL
       refine OW.cons (S_storeN (l := [(.int .i64 x1147.Boat), (.int .i64 x1147.Code), (.int .i64 x1147.Time)]) (cs' := #[(.int .i64 x1147.Boat), (.int .i64 x1147.Code), (.int .i64 x1147.Time)]) hL 0 rfl Tryz_T79 rfl rfl (List.forall_mem_cons.2 ⟨rfl, (List.forall_mem_cons.2 ⟨rfl, (List.forall_mem_cons.2 ⟨rfl, (fun _ h => by cases h)⟩)⟩)⟩) rfl (Nat.le_of_ble_eq_true rfl) rfl ?_)
       intro wd1156 hL
       refine ONS ?_
       refine CW.seqJ (fun (s_j3 : Bool) (F : Fr) (w : World) => F 1 = v3 ∧ F 2 = (.int .i64 a2) ∧ F 3 = (.pointer (some ⟨b6, 0, none⟩)) ∧ F 8 = (.int .i64 s_l1.1) ∧ F 9 = (.int .i64 s_l1.2.1) ∧ F 10 = (.int .i64 s_l1.2.2) ∧ F 11 = (.pointer (some ⟨b1155, 0, none⟩)) ∧ F 37 = (.bool s_j3) ∧ Hp w0 [Ent.blk b1155 79 #[(.int .i64 x1147.Boat), (.int .i64 x1147.Code), (.int .i64 x1147.Time)], Ent.blk b6 75 #[v1], Ent.snap w0 w0.heap.size] w) (fun s_j3 => M.spec_l26Place_j3 a0 a2 s_l1 x1147 s_j3 = some t817) ?_ ?_
       · refine CW.draw Tryz_mixed ?_
         have hL := hL.call (Mod.drew _)
         refine DW.pre (fuel := 0) (fin := bma 14 16383) (C := fun w' => Mod None_ _ w') [0, 1, 2, 3, 4, 5, 6, 7, 8, 9, 10, 11, 12, 13] (Mod.refl _ _) (by kernel_rfl) (by kernel_rfl) ?_
         refine QW.cons rfl (QP.val (v := (.agg #[(.int .i64 x1147.Boat), (.int .i64 x1147.Code), (.int .i64 x1147.Time)])) rfl (fun w' hm' => x_loadN (cs := [(.int .i64 x1147.Boat), (.int .i64 x1147.Code), (.int .i64 x1147.Time)]) U79 Tryz_T79 rfl rfl ((hL.call hm').cellsB 0 rfl (o := 0) (l := [(.int .i64 x1147.Boat), (.int .i64 x1147.Code), (.int .i64 x1147.Time)]) (by intro j u hj; exact (by simpa using hj)))) ?_)
         obtain ⟨x1223, hx1224, hm⟩ := bndE hm
         refine QW.cons rfl (QP.call (v := (.bool x1223)) rfl (fun w' hm' => x_call (vs := [(.agg #[(.int .i64 x1147.Boat), (.int .i64 x1147.Code), (.int .i64 x1147.Time)])]) Tryz_C54 ⟨rfl, trivial⟩) (fun w' hm' => (M.spec_l26Done_ok w' x1147 hx1224).mono (fun e w'' h => ⟨h.1, hm'.trans h.2.mod⟩)) ?_)
         refine QW.cons rfl (QP.val (v := (.bool (!x1223))) rfl (fun w' hm' => x_not rfl) ?_)
         refine QW.cons rfl (QP.val (v := (.bool (!x1223))) rfl (fun w' hm' => x_move) ?_)
         refine ifB_elim hm (fun hb1225 hm => ?_) (fun hb1225 hm => ?_)
         · refine QW.cons rfl (QP.no' rfl rfl hb1225 rfl ?_)
           refine QW.cons rfl (QP.no' rfl rfl hb1225 rfl ?_)
           refine QW.cons rfl (QP.no' rfl rfl hb1225 rfl ?_)
           refine QW.cons rfl (QP.no' rfl rfl hb1225 rfl ?_)
           refine QW.cons rfl (QP.no' rfl rfl hb1225 rfl ?_)
           refine QW.cons rfl (QP.no' rfl rfl hb1225 rfl ?_)
           refine QW.cons rfl (QP.no' rfl rfl hb1225 rfl ?_)
           refine QW.cons rfl (QP.no' rfl rfl hb1225 rfl ?_)
           refine QW.cons rfl (QP.no' rfl rfl hb1225 rfl ?_)
           refine QW.cons rfl (QP.val (v := (.bool true)) rfl (fun w' hm' => x_pickT' rfl hb1225 rfl) ?_)
           refine QW.nil ?_
           intro wd1226 hmod
           have hL := hL.call hmod
           refine DW.done (by kernel_rfl) ?_
           exact ⟨true, hm, ⟨f831, f832, f833, f834, f835, f836, rfl, rfl, hL⟩⟩
         refine QW.cons rfl (QP.yes' rfl rfl hb1225 (QP.val (v := v3) rfl (fun w' hm' => x_mv f831) ?_))
         refine QW.cons rfl (QP.yes' rfl rfl hb1225 (QP.val (v := (.int .i64 s_l1.2.2)) rfl (fun w' hm' => x_mv f836) ?_))
         obtain ⟨x1227, ha1228, hm⟩ := bndE hm
         obtain ⟨hz1229, ha1233⟩ := idxE ha1228
         obtain ⟨b1230, q1231, hix1232⟩ := rdL_ix (hL.rdS 2 rfl h4) hz1229 ha1233
         refine QW.cons rfl (QP.yes' rfl rfl hb1225 (QP.val (v := (.pointer (some ⟨b1230, q1231, none⟩))) rfl (fun w' hm' => x_ix U26 Tryz_T2 rfl rfl hix1232) ?_))
         refine QW.cons rfl (QP.yes' rfl rfl hb1225 (QP.val (v := (.int .i64 x1227)) rfl (fun w' hm' => x_load1 U2 rfl rfl (rdF_cells ((hL.call hm').rdS 2 rfl h4) hix1232 ha1233 0 _ rfl)) ?_))
         refine QW.cons rfl (QP.yes' rfl rfl hb1225 (QP.val (v := v3) rfl (fun w' hm' => x_mv f831) ?_))
         refine QW.cons rfl (QP.yes' rfl rfl hb1225 (QP.val (v := (.int .i64 a2)) rfl (fun w' hm' => x_mv f832) ?_))
         obtain ⟨x1234, ha1235, hm⟩ := bndE hm
         obtain ⟨hz1236, ha1240⟩ := idxE ha1235
         obtain ⟨b1237, q1238, hix1239⟩ := rdL_ix (hL.rdS 2 rfl h4) hz1236 ha1240
         refine QW.cons rfl (QP.yes' rfl rfl hb1225 (QP.val (v := (.pointer (some ⟨b1237, q1238, none⟩))) rfl (fun w' hm' => x_ix U26 Tryz_T2 rfl rfl hix1239) ?_))
         refine QW.cons rfl (QP.yes' rfl rfl hb1225 (QP.val (v := (.int .i64 x1234)) rfl (fun w' hm' => x_load1 U2 rfl rfl (rdF_cells ((hL.call hm').rdS 2 rfl h4) hix1239 ha1240 0 _ rfl)) ?_))
         refine QW.cons rfl (QP.yes' rfl rfl hb1225 (QP.val (v := (.bool (x1227 != x1234))) rfl (fun w' hm' => x_neq rfl rfl) ?_))
         refine QW.cons rfl (QP.val (v := (.bool (x1227 != x1234))) rfl (fun w' hm' => x_pickF' rfl hb1225 rfl) ?_)
         refine QW.nil ?_
         intro wd1241 hmod
         have hL := hL.call hmod
         refine DW.done (by kernel_rfl) ?_
         exact ⟨x1227 != x1234, hm, ⟨f831, f832, f833, f834, f835, f836, rfl, rfl, hL⟩⟩
       intro s_j3 F1176 wd1177 hJ hm
       unfold M.spec_l26Place_j3 at hm
       obtain ⟨f1178, f1179, f1180, f1181, f1182, f1183, f1184, f1185, hL⟩ := hJ
       refine CW.condM (t := s_j3) f1185 hm (fun hb1186 hm => ?_) (fun hb1186 hm => ?_)
       · refine CW.exit ?_
         refine XJ.hit ?_
         have hL := hL.sel [1, 2] (by decide) rfl
         exact ⟨(s_l1.1, s_l1.2.1), hm, ⟨f1178, f1179, f1180, f1181, f1182, f1183, hL⟩⟩
       refine CW.skip ?_
       refine CW.seqJ (fun (s_j4 : Int) (F : Fr) (w : World) => F 1 = v3 ∧ F 2 = (.int .i64 a2) ∧ F 3 = (.pointer (some ⟨b6, 0, none⟩)) ∧ F 8 = (.int .i64 s_j4) ∧ F 9 = (.int .i64 s_l1.2.1) ∧ F 10 = (.int .i64 s_l1.2.2) ∧ F 11 = (.pointer (some ⟨b1155, 0, none⟩)) ∧ Hp w0 [Ent.blk b1155 79 #[(.int .i64 x1147.Boat), (.int .i64 x1147.Code), (.int .i64 x1147.Time)], Ent.blk b6 75 #[v1], Ent.snap w0 w0.heap.size] w) (fun s_j4 => M.spec_l26Place_j4 a0 a2 s_l1 x1147 s_j4 = some t817) ?_ ?_
       · refine CW.seq ?_
         refine CW.draw Tryz_mixed ?_
         have hL := hL.call (Mod.drew _)
         refine DW.pre (fuel := 0) (fin := bma 9 511) (C := fun w' => Mod None_ _ w') [0, 1, 2, 3, 4, 5, 6, 7, 8] (Mod.refl _ _) (by kernel_rfl) (by kernel_rfl) ?_
         refine QW.cons rfl (QP.val (v := (.pointer (some ⟨b1155, 2, none⟩))) rfl (fun w' hm' => x_fieldAddr (fsz := 1) 0 2 2 U79 rfl Tryz_T2 rfl f1184 rfl) ?_)
         refine QW.cons rfl (QP.val (v := (.int .i64 x1147.Time)) rfl (fun w' hm' => x_load1 U2 rfl rfl ((hL.call hm').cellB 0 rfl rfl)) ?_)
         refine QW.cons rfl (QP.val (v := (.pointer (some ⟨b6, 0, none⟩))) rfl (fun w' hm' => x_fieldAddr (fsz := 1) 0 0 0 U75 rfl Tryz_T73 rfl f1180 rfl) ?_)
         refine QW.cons rfl (QP.val (v := v1) rfl (fun w' hm' => x_load1 U73 rfl rfl ((hL.call hm').cellB 1 rfl rfl)) ?_)
         refine QW.cons rfl (QP.val (v := (.int .i64 a2)) rfl (fun w' hm' => x_mv f1179) ?_)
         obtain ⟨x1214, ha1215, hm⟩ := bndE hm
         obtain ⟨hz1216, ha1220⟩ := idxE ha1215
         obtain ⟨b1217, q1218, hix1219⟩ := rdL_ix (hL.rdS 2 rfl h2) hz1216 ha1220
         refine QW.cons rfl (QP.val (v := (.pointer (some ⟨b1217, q1218, none⟩))) rfl (fun w' hm' => x_ix U73 Tryz_T79 rfl rfl hix1219) ?_)
         refine QW.cons rfl (QP.val (v := (.pointer (some ⟨b1217, q1218 + 2, none⟩))) rfl (fun w' hm' => x_fieldAddr (fsz := 1) q1218 2 (q1218 + 2) U79 rfl Tryz_T2 rfl rfl rfl) ?_)
         refine QW.cons rfl (QP.val (v := (.int .i64 x1214.Time)) rfl (fun w' hm' => x_load1 U2 rfl rfl (rdF_cells ((hL.call hm').rdS 2 rfl h2) hix1219 ha1220 2 _ rfl)) ?_)
         refine QW.cons rfl (QP.val (v := (.bool (decide (x1147.Time < x1214.Time)))) rfl (fun w' hm' => x_lss rfl rfl) ?_)
         refine QW.nil ?_
         intro wd1221 hmod
         have hL := hL.call hmod
         refine DW.done (by kernel_rfl) ?_
         refine CW.condM (t := decide (x1147.Time < x1214.Time)) rfl hm (fun hb1222 hm => ?_) (fun hb1222 hm => ?_)
         · refine CW.regionL ?_
           refine OV (.int .i64 s_l1.1) rfl (x_mv f1181) ?_
           refine OV (.int .i64 (w64 (s_l1.1 + 1))) rfl (x_add rfl rfl) ?_
           refine OV (.int .i64 (w64 (s_l1.1 + 1))) rfl (x_assign) ?_
           refine OW.nil ?_
           exact ⟨w64 (s_l1.1 + 1), hm, ⟨f1178, f1179, f1180, rfl, f1182, f1183, f1184, hL⟩⟩
         refine CW.skip ?_
         exact ⟨s_l1.1, hm, ⟨f1178, f1179, f1180, f1181, f1182, f1183, f1184, hL⟩⟩
       intro s_j4 F1196 wd1197 hJ hm
       unfold M.spec_l26Place_j4 at hm
       obtain ⟨f1198, f1199, f1200, f1201, f1202, f1203, f1204, hL⟩ := hJ
       refine CW.seq ?_
       refine CW.draw Tryz_mixed ?_
       have hL := hL.call (Mod.drew _)
       refine DW.pre (fuel := 0) (fin := bma 9 511) (C := fun w' => Mod None_ _ w') [0, 1, 2, 3, 4, 5, 6, 7, 8] (Mod.refl _ _) (by kernel_rfl) (by kernel_rfl) ?_
       refine QW.cons rfl (QP.val (v := (.pointer (some ⟨b1155, 2, none⟩))) rfl (fun w' hm' => x_fieldAddr (fsz := 1) 0 2 2 U79 rfl Tryz_T2 rfl f1204 rfl) ?_)
       refine QW.cons rfl (QP.val (v := (.int .i64 x1147.Time)) rfl (fun w' hm' => x_load1 U2 rfl rfl ((hL.call hm').cellB 0 rfl rfl)) ?_)
       refine QW.cons rfl (QP.val (v := (.pointer (some ⟨b6, 0, none⟩))) rfl (fun w' hm' => x_fieldAddr (fsz := 1) 0 0 0 U75 rfl Tryz_T73 rfl f1200 rfl) ?_)
       refine QW.cons rfl (QP.val (v := v1) rfl (fun w' hm' => x_load1 U73 rfl rfl ((hL.call hm').cellB 1 rfl rfl)) ?_)
       refine QW.cons rfl (QP.val (v := (.int .i64 a2)) rfl (fun w' hm' => x_mv f1199) ?_)
       obtain ⟨x1205, ha1206, hm⟩ := bndE hm
       obtain ⟨hz1207, ha1211⟩ := idxE ha1206
       obtain ⟨b1208, q1209, hix1210⟩ := rdL_ix (hL.rdS 2 rfl h2) hz1207 ha1211
       refine QW.cons rfl (QP.val (v := (.pointer (some ⟨b1208, q1209, none⟩))) rfl (fun w' hm' => x_ix U73 Tryz_T79 rfl rfl hix1210) ?_)
       refine QW.cons rfl (QP.val (v := (.pointer (some ⟨b1208, q1209 + 2, none⟩))) rfl (fun w' hm' => x_fieldAddr (fsz := 1) q1209 2 (q1209 + 2) U79 rfl Tryz_T2 rfl rfl rfl) ?_)
       refine QW.cons rfl (QP.val (v := (.int .i64 x1205.Time)) rfl (fun w' hm' => x_load1 U2 rfl rfl (rdF_cells ((hL.call hm').rdS 2 rfl h2) hix1210 ha1211 2 _ rfl)) ?_)
       refine QW.cons rfl (QP.val (v := (.bool (x1147.Time == x1205.Time))) rfl (fun w' hm' => x_eql rfl rfl) ?_)
       refine QW.nil ?_
       intro wd1212 hmod
       have hL := hL.call hmod
       refine DW.done (by kernel_rfl) ?_
       refine CW.condM (t := x1147.Time == x1205.Time) rfl hm (fun hb1213 hm => ?_) (fun hb1213 hm => ?_)
       · refine CW.regionL ?_
         refine OV (.int .i64 s_l1.2.1) rfl (x_mv f1202) ?_
         refine OV (.int .i64 (w64 (s_l1.2.1 + 1))) rfl (x_add rfl rfl) ?_
         refine OV (.int .i64 (w64 (s_l1.2.1 + 1))) rfl (x_assign) ?_
         refine OW.nil ?_
         have hL := hL.sel [1, 2] (by decide) rfl
         exact ⟨(s_j4, w64 (s_l1.2.1 + 1)), hm, ⟨f1198, f1199, f1200, f1201, rfl, f1203, hL⟩⟩
       refine CW.skip ?_
       have hL := hL.sel [1, 2] (by decide) rfl
       exact ⟨(s_j4, s_l1.2.1), hm, ⟨f1198, f1199, f1200, f1201, f1202, f1203, hL⟩⟩
     intro s_j2 F1139 wd1140 hJ hm
     unfold M.spec_l26Place_j2 at hm
     obtain ⟨f1141, f1142, f1143, f1144, f1145, f1146, hL⟩ := hJ
     exact ⟨(s_j2.1, s_j2.2), hm, ⟨f1141, f1142, f1143, f1144, f1145, f1146, hL⟩⟩
   intro s_j1 F1036 wd1037 hJ hm
   unfold M.spec_l26Place_j1 at hm
   obtain ⟨f1038, f1039, f1040, f1041, f1042, f1043, hL⟩ := hJ
   refine CW.regionL ?_
   refine OV (.int .i64 s_l1.2.2) rfl (x_mv f1043) ?_
   refine OV (.int .i64 (w64 (s_l1.2.2 + 1))) rfl (x_add rfl rfl) ?_
   refine OV (.int .i64 (w64 (s_l1.2.2 + 1))) rfl (x_assign) ?_
   refine OW.nil ?_
   obtain rfl := Option.some.inj hm
   exact ⟨_, rfl, ⟨f1038, f1039, f1040, f1041, f1042, rfl, hL⟩⟩
 refine CW.exit ?_
 refine XJ.hit ?_
 obtain rfl := Option.some.inj hm
 exact ⟨_, rfl, ⟨f831, f832, f833, f834, f835, f836, hL⟩⟩

theorem M.spec_l26Points_ok (w0 : World) (a0 : Race) {v1 : Value} (h2 : rdL (· < w0.heap.size) w0 v1 a0.Finishes) (a1 : Int) {r : (List Int)} (hm : M.spec_l26Points a0 a1 = some r) :
    Calls Tryz.prog 55 #[(.agg #[v1]), (.int .i64 a1)] w0 fun e w' => ∃ (rv0 : Value) (rS0 : Nat → Prop), e = .returned rv0 ∧ Fresh w0 w' [Ent.own 2 rS0 rv0 r] := by
 unfold M.spec_l26Points at hm
 refine calls_CW (args := [(.agg #[v1]), (.int .i64 a1)]) Tryz.func55 rfl rfl rfl ?_
 have hL := Hp.start w0
 refine CSR ?_
 refine OW.cons (S_box (cs := #[v1]) hL rfl rfl rfl ?_)
 intro wd3 b4 hL
 refine OV (.slice none 0 0) rfl (x_assign) ?_
 refine ONR ?_
 refine OV (.pointer (some ⟨b4, 0, none⟩)) rfl (x_fieldAddr (fsz := 1) 0 0 0 U75 rfl Tryz_T73 rfl rfl rfl) ?_
 refine OV v1 rfl (x_load1 U73 rfl rfl (hL.cellB 0 rfl rfl)) ?_
 refine OV (.int .i64 (a0.Finishes.length : Int)) rfl (x_lenR U73 rfl (hL.rdS 1 rfl h2)) ?_
 refine OV (.int .i64 (a0.Finishes.length : Int)) rfl (x_assign) ?_
 refine ONR ?_
 refine OV (.int .i64 0) rfl (x_assign) ?_
 refine ONS ?_
 refine CSR ?_
 refine OV (.int .i64 0) rfl (x_assign) ?_
 refine OW.nil ?_
 obtain ⟨o115, ho116, hm⟩ := bndE hm
 refine CW.loopB (fun (s_l1 : Int × Int) (F : Fr) (w : World) => F 1 = (.int .i64 a1) ∧ F 2 = (.pointer (some ⟨b4, 0, none⟩)) ∧ F 5 = (.int .i64 (a0.Finishes.length : Int)) ∧ F 6 = (.int .i64 s_l1.1) ∧ F 7 = (.int .i64 s_l1.2) ∧ Hp w0 [Ent.blk b4 75 #[v1], Ent.snap w0 w0.heap.size] w) (fun o => outc o (fun x => some x) (fun s => M.spec_l26Points_a1 a0 a1 s) = some r) ho116 hm ⟨rfl, rfl, rfl, rfl, rfl, hL⟩ ?_ ?_
 · intro s_l1 F117 wd118 hJ hm
   have hm := outcE hm
   have hm : M.spec_l26Points_a1 a0 a1 s_l1 = some r := hm
   unfold M.spec_l26Points_a1 at hm
   obtain ⟨f119, f120, f121, f122, f123, hL⟩ := hJ
   refine CSR ?_
   refine OV (.int .i64 (a0.Finishes.length : Int)) rfl (x_mv f121) ?_
   obtain ⟨hc127, hm⟩ := chkE hm
   refine OW.cons (S_make (α := Int) 0 hL U26 Tryz_T2 rfl rfl rfl hc127 (by decide) rfl ?_)
   intro wd124 v125 S126 hL
   refine OV v125 rfl (x_assign) ?_
   refine ONR ?_
   refine OV (.int .i64 (a0.Finishes.length : Int)) rfl (x_mv f121) ?_
   obtain ⟨hc131, hm⟩ := chkE hm
   refine OW.cons (S_make (α := Int) 0 hL U26 Tryz_T2 rfl rfl rfl hc131 (by decide) rfl ?_)
   intro wd128 v129 S130 hL
   refine OV v129 rfl (x_assign) ?_
   refine ONS ?_
   refine CSR ?_
   refine OV (.int .i64 0) rfl (x_assign) ?_
   refine OW.nil ?_
   obtain ⟨o1038, ho1039, hm⟩ := bndE hm
   refine CW.loopB (fun (s_l2 : (List Int) × Int) (F : Fr) (w : World) => ∃ (S1035 : Nat → Prop), F 1 = (.int .i64 a1) ∧ F 2 = (.pointer (some ⟨b4, 0, none⟩)) ∧ F 5 = (.int .i64 (a0.Finishes.length : Int)) ∧ F 6 = (.int .i64 s_l1.1) ∧ F 8 = v125 ∧ F 9 = v129 ∧ F 10 = (.int .i64 s_l2.2) ∧ Hp w0 [Ent.own 2 S130 v129 (List.replicate ((a0.Finishes.length : Int)).toNat (0 : Int)), Ent.own 2 S1035 v125 s_l2.1, Ent.blk b4 75 #[v1], Ent.snap w0 w0.heap.size] w) (fun o => outc o (fun x => some x) (fun s => M.spec_l26Points_a2 s) = some r) ho1039 hm ⟨S126, f119, f120, f121, f122, rfl, rfl, rfl, hL⟩ ?_ ?_
   · intro s_l2 F1040 wd1041 hJ hm
     have hm := outcE hm
     have hm : M.spec_l26Points_a2 s_l2 = some r := hm
     unfold M.spec_l26Points_a2 at hm
     obtain ⟨S1035, f1042, f1043, f1044, f1045, f1046, f1047, f1048, hL⟩ := hJ
     refine CSR ?_
     refine OV v125 rfl (x_mv f1046) ?_
     refine OV v125 rfl (x_assign) ?_
     refine OW.nil ?_
     refine CW.ret ?_
     obtain rfl := Option.some.inj hm
     exact RR1 rfl rfl ⟨v125, S1035, rfl, hL.fresh 3 rfl [1] (by decide) (by decide) rfl⟩
   intro s_l2 F1049 wd1050 t1036 hJ hm hr1037
   unfold M.spec_l26Points_l2 at hm
   obtain ⟨S1035, f1051, f1052, f1053, f1054, f1055, f1056, f1057, hL⟩ := hJ
   refine CW.seq ?_
   refine CSR ?_
   refine OV (.int .i64 s_l2.2) rfl (x_mv f1057) ?_
   refine OV v125 rfl (x_mv f1055) ?_
   refine OV (.int .i64 (s_l2.1.length : Int)) rfl (x_lenR U26 rfl (hL.rdO 1 rfl)) ?_
   refine OV (.bool (decide (s_l2.2 < (s_l2.1.length : Int)))) rfl (x_lss rfl rfl) ?_
   refine OW.nil ?_
   refine CW.condM (t := decide (s_l2.2 < (s_l2.1.length : Int))) rfl hm (fun hb1058 hm => ?_) (fun hb1058 hm => ?_)
   · refine CW.skip ?_
     refine CW.seqJ (fun (s_j1 : (List Int)) (F : Fr) (w : World) => ∃ (S1279 : Nat → Prop), F 1 = (.int .i64 a1) ∧ F 2 = (.pointer (some ⟨b4, 0, none⟩)) ∧ F 5 = (.int .i64 (a0.Finishes.length : Int)) ∧ F 6 = (.int .i64 s_l1.1) ∧ F 8 = v125 ∧ F 9 = v129 ∧ F 10 = (.int .i64 s_l2.2) ∧ Hp w0 [Ent.own 2 S130 v129 (List.replicate ((a0.Finishes.length : Int)).toNat (0 : Int)), Ent.own 2 S1279 v125 s_j1, Ent.blk b4 75 #[v1], Ent.snap w0 w0.heap.size] w) (fun s_j1 => M.spec_l26Points_j1 s_l2 s_j1 = some t1036) ?_ ?_
     · refine CW.blockJ (fun (s_j2 : (List Int)) (F : Fr) (w : World) => ∃ (S1394 : Nat → Prop), F 1 = (.int .i64 a1) ∧ F 2 = (.pointer (some ⟨b4, 0, none⟩)) ∧ F 5 = (.int .i64 (a0.Finishes.length : Int)) ∧ F 6 = (.int .i64 s_l1.1) ∧ F 8 = v125 ∧ F 9 = v129 ∧ F 10 = (.int .i64 s_l2.2) ∧ Hp w0 [Ent.own 2 S130 v129 (List.replicate ((a0.Finishes.length : Int)).toNat (0 : Int)), Ent.own 2 S1394 v125 s_j2, Ent.blk b4 75 #[v1], Ent.snap w0 w0.heap.size] w) (fun s_j2 => M.spec_l26Points_j2 s_l2 s_j2 = some t1036) ?_ ?_
       · refine CSR ?_
         refine OV (.pointer (some ⟨b4, 0, none⟩)) rfl (x_fieldAddr (fsz := 1) 0 0 0 U75 rfl Tryz_T73 rfl f1052 rfl) ?_
         refine OV v1 rfl (x_load1 U73 rfl rfl (hL.cellB 2 rfl rfl)) ?_
         refine OV (.int .i64 s_l2.2) rfl (x_mv f1057) ?_
         obtain ⟨x1404, ha1405, hm⟩ := bndE hm
         obtain ⟨hz1406, ha1410⟩ := idxE ha1405
         obtain ⟨b1407, q1408, hix1409⟩ := rdL_ix (hL.rdS 3 rfl h2) hz1406 ha1410
         refine OV (.pointer (some ⟨b1407, q1408, none⟩)) rfl (x_ix U73 Tryz_T79 rfl rfl hix1409) ?_
         refine OV (.pointer (some ⟨b1407, q1408 + 1, none⟩)) rfl (x_fieldAddr (fsz := 1) q1408 1 (q1408 + 1) U79 rfl Tryz_T2 rfl rfl rfl) ?_
         refine OV (.int .i64 x1404.Code) rfl (x_load1 U2 rfl rfl (rdF_cells (hL.rdS 3 rfl h2) hix1409 ha1410 1 _ rfl)) ?_
         refine OV (.int .i64 x1404.Code) rfl (x_assign) ?_
         refine OW.nil ?_
         refine CW.blockJ (fun (s_j3 : (List Int)) (F : Fr) (w : World) => ∃ (S1455 : Nat → Prop), F 1 = (.int .i64 a1) ∧ F 2 = (.pointer (some ⟨b4, 0, none⟩)) ∧ F 5 = (.int .i64 (a0.Finishes.length : Int)) ∧ F 6 = (.int .i64 s_l1.1) ∧ F 8 = v125 ∧ F 9 = v129 ∧ F 10 = (.int .i64 s_l2.2) ∧ Hp w0 [Ent.own 2 S130 v129 (List.replicate ((a0.Finishes.length : Int)).toNat (0 : Int)), Ent.own 2 S1455 v125 s_j3, Ent.blk b4 75 #[v1], Ent.snap w0 w0.heap.size] w) (fun s_j3 => M.spec_l26Points_j3 s_l2 s_j3 = some t1036) ?_ ?_
         · refine CSR ?_
           refine OV (.int .i64 x1404.Code) rfl (x_move) ?_
           refine OV (.bool (x1404.Code == 0)) rfl (x_eql rfl rfl) ?_
           refine OV (.bool (x1404.Code == 0)) rfl (x_assign) ?_
           refine OW.nil ?_
           refine CW.condM (t := x1404.Code == 0) rfl hm (fun hb1465 hm => ?_) (fun hb1465 hm => ?_)
           · refine CSR ?_
             refine OV (.agg #[v1]) rfl (x_loadN (cs := [v1]) U75 Tryz_T75 rfl f1052 (hL.cellsB 2 rfl (o := 0) (l := [v1]) (by intro j u hj; exact (by simpa using hj)))) ?_
             refine OV v129 rfl (x_mv f1056) ?_
             refine OV (.int .i64 s_l2.2) rfl (x_mv f1057) ?_
             obtain ⟨x1466, hx1467, hm⟩ := bndE hm
             refine OW.cons (OP.call rfl (x_call (vs := [(.agg #[v1]), v129, (.int .i64 s_l2.2)]) Tryz_C69 ⟨rfl, rfl, rfl, trivial⟩) (M.spec_l26Place_ok _ a0 (hL.rdS 3 rfl h2) (List.replicate ((a0.Finishes.length : Int)).toNat (0 : Int)) (hL.rdO 0 rfl) s_l2.2 hx1467) ?_)
             rintro e1468 wd1469 ⟨rfl, hF1470⟩
             refine ⟨_, rfl, ?_⟩
             have hL := hL.pushAll hF1470
             simp only [lA, lB, lC, lD] at hL
             refine OV (.tuple #[(.int .i64 x1466.1), (.int .i64 x1466.2)]) rfl (x_move) ?_
             refine OV (.int .i64 x1466.1) rfl (x_extract rfl rfl) ?_
             refine OV (.int .i64 x1466.2) rfl (x_extract rfl rfl) ?_
             refine OV (.int .i64 x1466.1) rfl (x_assign) ?_
             refine OV (.int .i64 x1466.2) rfl (x_assign) ?_
             refine OW.nil ?_
             refine CW.regionL ?_
             refine OV v125 rfl (x_mv f1055) ?_
             refine OV (.int .i64 s_l2.2) rfl (x_mv f1057) ?_
             refine OV (.int .i64 x1466.1) rfl (x_move) ?_
             refine OV (.int .i64 (w64 (2 * x1466.1))) rfl (x_mul rfl rfl) ?_
             refine OV (.int .i64 x1466.2) rfl (x_move) ?_
             refine OV (.int .i64 (w64 ((w64 (2 * x1466.1)) + x1466.2))) rfl (x_add rfl rfl) ?_
             refine OV (.int .i64 (w64 ((w64 ((w64 (2 * x1466.1)) + x1466.2)) - 1))) rfl (x_sub rfl rfl) ?_
             refine OV (.int .i64 (w64 (5 * (w64 ((w64 ((w64 (2 * x1466.1)) + x1466.2)) - 1))))) rfl (x_mul rfl rfl) ?_
             obtain ⟨x1471, ha1472, hm⟩ := bndE hm
             obtain ⟨hz1473, ha1477⟩ := idxE ha1472
             obtain ⟨b1474, q1475, hix1476⟩ := rdL_ix (hL.rdO 1 rfl) hz1473 ha1477
             refine OV (.pointer (some ⟨b1474, q1475, none⟩)) rfl (x_ix U26 Tryz_T2 rfl rfl hix1476) ?_
             refine OW.cons (S_storeX (j := 0) (w64 (5 * (w64 ((w64 ((w64 (2 * x1466.1)) + x1466.2)) - 1)))) hL 1 rfl Tryz_T2 hix1476 ha1477 rfl rfl rfl rfl rfl rfl ?_)
             intro wd1478 hL
             refine OW.nil ?_
             exact ⟨s_l2.1.set (s_l2.2 : Int).toNat (w64 (5 * (w64 ((w64 ((w64 (2 * x1466.1)) + x1466.2)) - 1)))), hm, ⟨S1035, f1051, f1052, f1053, f1054, f1055, f1056, f1057, hL⟩⟩
           refine CSR ?_
           refine OV (.int .i64 x1404.Code) rfl (x_move) ?_
           refine OV (.bool (x1404.Code == 9)) rfl (x_eql rfl rfl) ?_
           refine OV (.bool (x1404.Code == 9)) rfl (x_assign) ?_
           refine OW.nil ?_
           refine CW.condM (t := x1404.Code == 9) rfl hm (fun hb1479 hm => ?_) (fun hb1479 hm => ?_)
           · refine CW.skip ?_
             exact ⟨s_l2.1, hm, ⟨S1035, f1051, f1052, f1053, f1054, f1055, f1056, f1057, hL⟩⟩
           refine CW.seqJ (fun (s_j4 : Bool) (F : Fr) (w : World) => F 1 = (.int .i64 a1) ∧ F 2 = (.pointer (some ⟨b4, 0, none⟩)) ∧ F 5 = (.int .i64 (a0.Finishes.length : Int)) ∧ F 6 = (.int .i64 s_l1.1) ∧ F 8 = v125 ∧ F 9 = v129 ∧ F 10 = (.int .i64 s_l2.2) ∧ F 77 = (.bool s_j4) ∧ Hp w0 [Ent.own 2 S130 v129 (List.replicate ((a0.Finishes.length : Int)).toNat (0 : Int)), Ent.own 2 S1035 v125 s_l2.1, Ent.blk b4 75 #[v1], Ent.snap w0 w0.heap.size] w) (fun s_j4 => M.spec_l26Points_j4 a0 s_l1 s_l2 s_j4 = some t1036) ?_ ?_
           · refine CW.regionL ?_
             refine OV (.int .i64 x1404.Code) rfl (x_move) ?_
             refine OV (.bool (x1404.Code == 1)) rfl (x_eql rfl rfl) ?_
             refine OV (.bool (x1404.Code == 1)) rfl (x_move) ?_
             refine ifB_elim hm (fun hb1508 hm => ?_) (fun hb1508 hm => ?_)
             · refine OW.cons (OP.no' rfl rfl hb1508 rfl ?_)
               refine OW.cons (OP.no' rfl rfl hb1508 rfl ?_)
               refine OV (.bool true) rfl (x_pickT' rfl hb1508 rfl) ?_
               refine OV (.bool true) rfl (x_assign) ?_
               refine OW.nil ?_
               exact ⟨true, hm, ⟨f1051, f1052, f1053, f1054, f1055, f1056, f1057, rfl, hL⟩⟩
             refine OW.cons (OP.yes' rfl rfl hb1508 (OP.val (v := (.int .i64 a1)) rfl (x_mv f1051) ?_))
             refine OW.cons (OP.yes' rfl rfl hb1508 (OP.val (v := (.bool (a1 == 0))) rfl (x_eql rfl rfl) ?_))
             refine OV (.bool (a1 == 0)) rfl (x_pickF' rfl hb1508 rfl) ?_
             refine OV (.bool (a1 == 0)) rfl (x_assign) ?_
             refine OW.nil ?_
             exact ⟨a1 == 0, hm, ⟨f1051, f1052, f1053, f1054, f1055, f1056, f1057, rfl, hL⟩⟩
           intro s_j4 F1481 wd1482 hJ hm
           unfold M.spec_l26Points_j4 at hm
           obtain ⟨f1483, f1484, f1485, f1486, f1487, f1488, f1489, f1490, hL⟩ := hJ
           refine CW.condM (t := s_j4) f1490 hm (fun hb1491 hm => ?_) (fun hb1491 hm => ?_)
           · refine CW.regionL ?_
             refine OV v125 rfl (x_mv f1487) ?_
             refine OV (.int .i64 s_l2.2) rfl (x_mv f1489) ?_
             refine OV (.int .i64 (a0.Finishes.length : Int)) rfl (x_mv f1485) ?_
             refine OV (.int .i64 (w64 ((a0.Finishes.length : Int) + 1))) rfl (x_add rfl rfl) ?_
             refine OV (.int .i64 (w64 (10 * (w64 ((a0.Finishes.length : Int) + 1))))) rfl (x_mul rfl rfl) ?_
             obtain ⟨x1492, ha1493, hm⟩ := bndE hm
             obtain ⟨hz1494, ha1498⟩ := idxE ha1493
             obtain ⟨b1495, q1496, hix1497⟩ := rdL_ix (hL.rdO 1 rfl) hz1494 ha1498
             refine OV (.pointer (some ⟨b1495, q1496, none⟩)) rfl (x_ix U26 Tryz_T2 rfl rfl hix1497) ?_
             refine OW.cons (S_storeX (j := 0) (w64 (10 * (w64 ((a0.Finishes.length : Int) + 1)))) hL 1 rfl Tryz_T2 hix1497 ha1498 rfl rfl rfl rfl rfl rfl ?_)
             intro wd1499 hL
             refine OW.nil ?_
             exact ⟨s_l2.1.set (s_l2.2 : Int).toNat (w64 (10 * (w64 ((a0.Finishes.length : Int) + 1)))), hm, ⟨S1035, f1483, f1484, f1485, f1486, f1487, f1488, f1489, hL⟩⟩
           refine CW.regionL ?_
           refine OV v125 rfl (x_mv f1487) ?_
           refine OV (.int .i64 s_l2.2) rfl (x_mv f1489) ?_
           refine OV (.int .i64 s_l1.1) rfl (x_mv f1486) ?_
           refine OV (.int .i64 (w64 (s_l1.1 + 1))) rfl (x_add rfl rfl) ?_
           refine OV (.int .i64 (w64 (10 * (w64 (s_l1.1 + 1))))) rfl (x_mul rfl rfl) ?_
           obtain ⟨x1500, ha1501, hm⟩ := bndE hm
           obtain ⟨hz1502, ha1506⟩ := idxE ha1501
           obtain ⟨b1503, q1504, hix1505⟩ := rdL_ix (hL.rdO 1 rfl) hz1502 ha1506
           refine OV (.pointer (some ⟨b1503, q1504, none⟩)) rfl (x_ix U26 Tryz_T2 rfl rfl hix1505) ?_
           refine OW.cons (S_storeX (j := 0) (w64 (10 * (w64 (s_l1.1 + 1)))) hL 1 rfl Tryz_T2 hix1505 ha1506 rfl rfl rfl rfl rfl rfl ?_)
           intro wd1507 hL
           refine OW.nil ?_
           exact ⟨s_l2.1.set (s_l2.2 : Int).toNat (w64 (10 * (w64 (s_l1.1 + 1)))), hm, ⟨S1035, f1483, f1484, f1485, f1486, f1487, f1488, f1489, hL⟩⟩
         intro s_j3 F1456 wd1457 hJ hm
         unfold M.spec_l26Points_j3 at hm
         obtain ⟨S1455, f1458, f1459, f1460, f1461, f1462, f1463, f1464, hL⟩ := hJ
         exact ⟨s_j3, hm, ⟨S1455, f1458, f1459, f1460, f1461, f1462, f1463, f1464, hL⟩⟩
       intro s_j2 F1395 wd1396 hJ hm
       unfold M.spec_l26Points_j2 at hm
       obtain ⟨S1394, f1397, f1398, f1399, f1400, f1401, f1402, f1403, hL⟩ := hJ
       exact ⟨s_j2, hm, ⟨S1394, f1397, f1398, f1399, f1400, f1401, f1402, f1403, hL⟩⟩
     intro s_j1 F1280 wd1281 hJ hm
     unfold M.spec_l26Points_j1 at hm
     obtain ⟨S1279, f1282, f1283, f1284, f1285, f1286, f1287, f1288, hL⟩ := hJ
     refine CW.regionL ?_
     refine OV (.int .i64 s_l2.2) rfl (x_mv f1288) ?_
     refine OV (.int .i64 (w64 (s_l2.2 + 1))) rfl (x_add rfl rfl) ?_
     refine OV (.int .i64 (w64 (s_l2.2 + 1))) rfl (x_assign) ?_
     refine OW.nil ?_
     obtain rfl := Option.some.inj hm
     exact ⟨_, rfl, ⟨S1279, f1282, f1283, f1284, f1285, f1286, f1287, rfl, hL⟩⟩
   refine CW.exit ?_
   refine XJ.hit ?_
   obtain rfl := Option.some.inj hm
   exact ⟨_, rfl, ⟨S1035, f1051, f1052, f1053, f1054, f1055, f1056, f1057, hL⟩⟩
 intro s_l1 F1509 wd1510 t113 hJ hm hr114
 unfold M.spec_l26Points_l1 at hm
 obtain ⟨f1511, f1512, f1513, f1514, f1515, hL⟩ := hJ
 refine CW.seq ?_
 refine CSR ?_
 refine OV (.int .i64 s_l1.2) rfl (x_mv f1515) ?_
 refine OV (.pointer (some ⟨b4, 0, none⟩)) rfl (x_fieldAddr (fsz := 1) 0 0 0 U75 rfl Tryz_T73 rfl f1512 rfl) ?_
 refine OV v1 rfl (x_load1 U73 rfl rfl (hL.cellB 0 rfl rfl)) ?_
 refine OV (.int .i64 (a0.Finishes.length : Int)) rfl (x_lenR U73 rfl (hL.rdS 1 rfl h2)) ?_
 refine OV (.bool (decide (s_l1.2 < (a0.Finishes.length : Int)))) rfl (x_lss rfl rfl) ?_
 refine OW.nil ?_
 refine CW.condM (t := decide (s_l1.2 < (a0.Finishes.length : Int))) rfl hm (fun hb1516 hm => ?_) (fun hb1516 hm => ?_)
 · refine CW.skip ?_
   refine CW.seqJ (fun (s_j5 : Int) (F : Fr) (w : World) => F 1 = (.int .i64 a1) ∧ F 2 = (.pointer (some ⟨b4, 0, none⟩)) ∧ F 5 = (.int .i64 (a0.Finishes.length : Int)) ∧ F 6 = (.int .i64 s_j5) ∧ F 7 = (.int .i64 s_l1.2) ∧ Hp w0 [Ent.blk b4 75 #[v1], Ent.snap w0 w0.heap.size] w) (fun s_j5 => M.spec_l26Points_j5 s_l1 s_j5 = some t113) ?_ ?_
   · refine CW.blockJ (fun (s_j6 : Int) (F : Fr) (w : World) => F 1 = (.int .i64 a1) ∧ F 2 = (.pointer (some ⟨b4, 0, none⟩)) ∧ F 5 = (.int .i64 (a0.Finishes.length : Int)) ∧ F 6 = (.int .i64 s_j6) ∧ F 7 = (.int .i64 s_l1.2) ∧ Hp w0 [Ent.blk b4 75 #[v1], Ent.snap w0 w0.heap.size] w) (fun s_j6 => M.spec_l26Points_j6 s_l1 s_j6 = some t113) ?_ ?_
     · refine CSR ?_
       refine OV (.pointer (some ⟨b4, 0, none⟩)) rfl (x_fieldAddr (fsz := 1) 0 0 0 U75 rfl Tryz_T73 rfl f1512 rfl) ?_
       refine OV v1 rfl (x_load1 U73 rfl rfl (hL.cellB 0 rfl rfl)) ?_
       refine OV (.int .i64 s_l1.2) rfl (x_mv f1515) ?_
       obtain ⟨x1562, ha1563, hm⟩ := bndE hm
       obtain ⟨hz1564, ha1568⟩ := idxE ha1563
       obtain ⟨b1565, q1566, hix1567⟩ := rdL_ix (hL.rdS 1 rfl h2) hz1564 ha1568
       refine OV (.pointer (some ⟨b1565, q1566, none⟩)) rfl (x_ix U73 Tryz_T79 rfl rfl hix1567) ?_
       refine OV (.pointer (some ⟨b1565, q1566 + 1, none⟩)) rfl (x_fieldAddr (fsz := 1) q1566 1 (q1566 + 1) U79 rfl Tryz_T2 rfl rfl rfl) ?_
       refine OV (.int .i64 x1562.Code) rfl (x_load1 U2 rfl rfl (rdF_cells (hL.rdS 1 rfl h2) hix1567 ha1568 1 _ rfl)) ?_
       refine OV (.bool (x1562.Code != 1)) rfl (x_neq rfl rfl) ?_
       refine OW.nil ?_
       refine CW.condM (t := x1562.Code != 1) rfl hm (fun hb1569 hm => ?_) (fun hb1569 hm => ?_)
       · refine CW.regionL ?_
         refine OV (.int .i64 s_l1.1) rfl (x_mv f1514) ?_
         refine OV (.int .i64 (w64 (s_l1.1 + 1))) rfl (x_add rfl rfl) ?_
         refine OV (.int .i64 (w64 (s_l1.1 + 1))) rfl (x_assign) ?_
         refine OW.nil ?_
         exact ⟨w64 (s_l1.1 + 1), hm, ⟨f1511, f1512, f1513, rfl, f1515, hL⟩⟩
       refine CW.skip ?_
       exact ⟨s_l1.1, hm, ⟨f1511, f1512, f1513, f1514, f1515, hL⟩⟩
     intro s_j6 F1555 wd1556 hJ hm
     unfold M.spec_l26Points_j6 at hm
     obtain ⟨f1557, f1558, f1559, f1560, f1561, hL⟩ := hJ
     exact ⟨s_j6, hm, ⟨f1557, f1558, f1559, f1560, f1561, hL⟩⟩
   intro s_j5 F1540 wd1541 hJ hm
   unfold M.spec_l26Points_j5 at hm
   obtain ⟨f1542, f1543, f1544, f1545, f1546, hL⟩ := hJ
   refine CW.regionL ?_
   refine OV (.int .i64 s_l1.2) rfl (x_mv f1546) ?_
   refine OV (.int .i64 (w64 (s_l1.2 + 1))) rfl (x_add rfl rfl) ?_
   refine OV (.int .i64 (w64 (s_l1.2 + 1))) rfl (x_assign) ?_
   refine OW.nil ?_
   obtain rfl := Option.some.inj hm
   exact ⟨_, rfl, ⟨f1542, f1543, f1544, f1545, rfl, hL⟩⟩
 refine CW.exit ?_
 refine XJ.hit ?_
 obtain rfl := Option.some.inj hm
 exact ⟨_, rfl, ⟨f1511, f1512, f1513, f1514, f1515, hL⟩⟩

end Go.Proofs.YtgelmamcinlahaaGreat
