/- Links: each Go function returns what its model computes and leaves what was there. Printed by my generator. -/
import Derived.Test.YtmmkkcmliofknaaGreatDoorMod4
import Derived.Test.YtmmkkcmliofknaaGreatDoorBase9
import Derived.Test.YtmmkkcmliofknaaGreatDoorProg
import Derived.KernelRfl
import Derived.Test.YtmmkkcmliofknaaGreatDoorLayFty
namespace Go.Proofs.YtmmkkcmliofknaaGreatDoor
set_option maxRecDepth 10000
open Go Go.RowKit Go.ChangeShapes Go.WideShapes
set_option linter.unusedVariables false
set_option linter.unusedSimpArgs false

theorem zAQ : Tryz.prog.follows .mixedOrders = true := by kernel_rfl
theorem zAf : TyI Tryz.prog 2 1 8 (.int .i64 0) := by unfold TyI; kernel_rfl
theorem zKw : TyI Tryz.prog 3 1 8 (.int .i64 0) := by unfold TyI; kernel_rfl
theorem zL6 : TyI Tryz.prog 4 1 1 (.bool false) := by unfold TyI; kernel_rfl
theorem zLi : TyI Tryz.prog 5 1 1 (.int .u8 0) := by unfold TyI; kernel_rfl
theorem zMT : TyI Tryz.prog 9 1 16 (.string ByteArray.empty) := by unfold TyI; kernel_rfl
theorem zM5 : TyI Tryz.prog 22 1 24 (.slice none 0 0) := by unfold TyI; kernel_rfl
theorem zBq : TyI Tryz.prog 24 1 24 (.slice none 0 0) := by unfold TyI; kernel_rfl
theorem zBg : TyI Tryz.prog 26 3 56 (.agg #[.int .i64 0, .slice none 0 0, .slice none 0 0]) := by unfold TyI; kernel_rfl
theorem zAR : TyI Tryz.prog 27 1 24 (.slice none 0 0) := by unfold TyI; kernel_rfl
theorem zCq : TyI Tryz.prog 36 1 24 (.slice none 0 0) := by unfold TyI; kernel_rfl
theorem zA5 : TyI Tryz.prog 38 3 40 (.agg #[.int .i64 0, .int .i64 0, .slice none 0 0]) := by unfold TyI; kernel_rfl
theorem zAX : TyI Tryz.prog 49 4 32 (.agg #[.int .i64 0, .int .i64 0, .int .i64 0, .int .i64 0]) := by unfold TyI; kernel_rfl
theorem zCr : TyI Tryz.prog 99 1 24 (.slice none 0 0) := by unfold TyI; kernel_rfl
theorem zBd : TyI Tryz.prog 101 1 24 (.agg #[.slice none 0 0]) := by unfold TyI; kernel_rfl
theorem zAP : TyI Tryz.prog 103 3 24 (.agg #[.int .i64 0, .int .i64 0, .int .i64 0]) := by unfold TyI; kernel_rfl
theorem zBz : TyI Tryz.prog 108 3 24 (.agg #[.int .i64 0, .int .i64 0, .int .i64 0]) := by unfold TyI; kernel_rfl
theorem zMs : TyI Tryz.prog 110 10 160 (.agg #[.string ByteArray.empty, .string ByteArray.empty, .string ByteArray.empty, .string ByteArray.empty, .string ByteArray.empty, .string ByteArray.empty, .string ByteArray.empty, .string ByteArray.empty, .string ByteArray.empty, .string ByteArray.empty]) := by unfold TyI; kernel_rfl
theorem zKY : BuildI Tryz.prog 26 [(0, 1), (1, 1), (2, 1)] #[.int .i64 0, .slice none 0 0, .slice none 0 0] := by unfold BuildI; kernel_rfl
theorem zL7 : BuildI Tryz.prog 38 [(0, 1), (1, 1), (2, 1)] #[.int .i64 0, .int .i64 0, .slice none 0 0] := by unfold BuildI; kernel_rfl
theorem zKZ : BuildI Tryz.prog 49 [(0, 1), (1, 1), (2, 1), (3, 1)] #[.int .i64 0, .int .i64 0, .int .i64 0, .int .i64 0] := by unfold BuildI; kernel_rfl
theorem zQ5 : BuildI Tryz.prog 92 [(0, 1), (1, 1), (2, 1)] #[.slice none 0 0, .int .i64 0, .int .i64 0] := by unfold BuildI; kernel_rfl
theorem zKh : BuildI Tryz.prog 101 [(0, 1)] #[.slice none 0 0] := by unfold BuildI; kernel_rfl
theorem zKi : BuildI Tryz.prog 103 [(0, 1), (1, 1), (2, 1)] #[.int .i64 0, .int .i64 0, .int .i64 0] := by unfold BuildI; kernel_rfl
theorem zLj : BuildI Tryz.prog 108 [(0, 1), (1, 1), (2, 1)] #[.int .i64 0, .int .i64 0, .int .i64 0] := by unfold BuildI; kernel_rfl
theorem zSy : zAL Tryz.prog 5 := ⟨_, _, Tryz.func5, rfl, by kernel_rfl⟩
theorem zTY : zAL Tryz.prog 6 := ⟨_, _, Tryz.func6, rfl, by kernel_rfl⟩
theorem zTZ : zAL Tryz.prog 7 := ⟨_, _, Tryz.func7, rfl, by kernel_rfl⟩
theorem zT0 : zAL Tryz.prog 8 := ⟨_, _, Tryz.func8, rfl, by kernel_rfl⟩
theorem zT1 : zAL Tryz.prog 9 := ⟨_, _, Tryz.func9, rfl, by kernel_rfl⟩
theorem zTB : zAL Tryz.prog 10 := ⟨_, _, Tryz.func10, rfl, by kernel_rfl⟩
theorem zTC : zAL Tryz.prog 11 := ⟨_, _, Tryz.func11, rfl, by kernel_rfl⟩
theorem zOr : zAL Tryz.prog 12 := ⟨_, _, Tryz.func12, rfl, by kernel_rfl⟩
theorem zTD : zAL Tryz.prog 13 := ⟨_, _, Tryz.func13, rfl, by kernel_rfl⟩
theorem zOs : zAL Tryz.prog 14 := ⟨_, _, Tryz.func14, rfl, by kernel_rfl⟩
theorem zQ6 : zAL Tryz.prog 15 := ⟨_, _, Tryz.func15, rfl, by kernel_rfl⟩
theorem zQ7 : zAL Tryz.prog 16 := ⟨_, _, Tryz.func16, rfl, by kernel_rfl⟩
theorem zQ8 : zAL Tryz.prog 17 := ⟨_, _, Tryz.func17, rfl, by kernel_rfl⟩
theorem zQ9 : zAL Tryz.prog 18 := ⟨_, _, Tryz.func18, rfl, by kernel_rfl⟩
theorem zRa : zAL Tryz.prog 19 := ⟨_, _, Tryz.func19, rfl, by kernel_rfl⟩
theorem zRb : zAL Tryz.prog 20 := ⟨_, _, Tryz.func20, rfl, by kernel_rfl⟩
theorem zRc : zAL Tryz.prog 21 := ⟨_, _, Tryz.func21, rfl, by kernel_rfl⟩
theorem zOt : zAL Tryz.prog 22 := ⟨_, _, Tryz.func22, rfl, by kernel_rfl⟩
theorem zTE : zAL Tryz.prog 23 := ⟨_, _, Tryz.func23, rfl, by kernel_rfl⟩
theorem zRd : zAL Tryz.prog 24 := ⟨_, _, Tryz.func24, rfl, by kernel_rfl⟩
theorem zTF : zAL Tryz.prog 25 := ⟨_, _, Tryz.func25, rfl, by kernel_rfl⟩
theorem zTG : zAL Tryz.prog 26 := ⟨_, _, Tryz.func26, rfl, by kernel_rfl⟩
theorem zTH : zAL Tryz.prog 27 := ⟨_, _, Tryz.func27, rfl, by kernel_rfl⟩
theorem zM6 : zAL Tryz.prog 28 := ⟨_, _, Tryz.func28, rfl, by kernel_rfl⟩
theorem zL8 : zAL Tryz.prog 29 := ⟨_, _, Tryz.func29, rfl, by kernel_rfl⟩
theorem zOu : zAL Tryz.prog 30 := ⟨_, _, Tryz.func30, rfl, by kernel_rfl⟩
theorem zL9 : zAL Tryz.prog 31 := ⟨_, _, Tryz.func31, rfl, by kernel_rfl⟩
theorem zOv : zAL Tryz.prog 32 := ⟨_, _, Tryz.func32, rfl, by kernel_rfl⟩
theorem zMa : zAL Tryz.prog 33 := ⟨_, _, Tryz.func33, rfl, by kernel_rfl⟩
theorem zOw : zAL Tryz.prog 34 := ⟨_, _, Tryz.func34, rfl, by kernel_rfl⟩
theorem zTI : zAL Tryz.prog 35 := ⟨_, _, Tryz.func35, rfl, by kernel_rfl⟩
theorem zRe : zAL Tryz.prog 36 := ⟨_, _, Tryz.func36, rfl, by kernel_rfl⟩
theorem zOx : zAL Tryz.prog 37 := ⟨_, _, Tryz.func37, rfl, by kernel_rfl⟩
theorem zRf : zAL Tryz.prog 38 := ⟨_, _, Tryz.func38, rfl, by kernel_rfl⟩
theorem zRg : zAL Tryz.prog 39 := ⟨_, _, Tryz.func39, rfl, by kernel_rfl⟩
theorem zA6 : zAL Tryz.prog 40 := ⟨_, _, Tryz.func40, rfl, by kernel_rfl⟩
theorem zOy : zAL Tryz.prog 41 := ⟨_, _, Tryz.func41, rfl, by kernel_rfl⟩
theorem zOz : zAL Tryz.prog 42 := ⟨_, _, Tryz.func42, rfl, by kernel_rfl⟩
theorem zD4 : zAL Tryz.prog 43 := ⟨_, _, Tryz.func43, rfl, by kernel_rfl⟩
theorem zOA : zAL Tryz.prog 44 := ⟨_, _, Tryz.func44, rfl, by kernel_rfl⟩
theorem zOB : zAL Tryz.prog 45 := ⟨_, _, Tryz.func45, rfl, by kernel_rfl⟩
theorem zRh : zAL Tryz.prog 46 := ⟨_, _, Tryz.func46, rfl, by kernel_rfl⟩
theorem zRi : zAL Tryz.prog 47 := ⟨_, _, Tryz.func47, rfl, by kernel_rfl⟩
theorem zEw : zAL Tryz.prog 48 := ⟨_, _, Tryz.func48, rfl, by kernel_rfl⟩
theorem zOC : zAL Tryz.prog 49 := ⟨_, _, Tryz.func49, rfl, by kernel_rfl⟩
theorem zRj : zAL Tryz.prog 50 := ⟨_, _, Tryz.func50, rfl, by kernel_rfl⟩
theorem zRk : zAL Tryz.prog 51 := ⟨_, _, Tryz.func51, rfl, by kernel_rfl⟩
theorem zOD : zAL Tryz.prog 52 := ⟨_, _, Tryz.func52, rfl, by kernel_rfl⟩
theorem zOE : zAL Tryz.prog 53 := ⟨_, _, Tryz.func53, rfl, by kernel_rfl⟩
theorem zRl : zAL Tryz.prog 54 := ⟨_, _, Tryz.func54, rfl, by kernel_rfl⟩
theorem zK0 : zAL Tryz.prog 55 := ⟨_, _, Tryz.func55, rfl, by kernel_rfl⟩
theorem zOF : zAL Tryz.prog 56 := ⟨_, _, Tryz.func56, rfl, by kernel_rfl⟩
theorem zRm : zAL Tryz.prog 57 := ⟨_, _, Tryz.func57, rfl, by kernel_rfl⟩
theorem zOG : zAL Tryz.prog 58 := ⟨_, _, Tryz.func58, rfl, by kernel_rfl⟩
theorem zRn : zAL Tryz.prog 59 := ⟨_, _, Tryz.func59, rfl, by kernel_rfl⟩
theorem zTJ : zAL Tryz.prog 60 := ⟨_, _, Tryz.func60, rfl, by kernel_rfl⟩
theorem zRo : zAL Tryz.prog 61 := ⟨_, _, Tryz.func61, rfl, by kernel_rfl⟩
theorem zRp : zAL Tryz.prog 62 := ⟨_, _, Tryz.func62, rfl, by kernel_rfl⟩
theorem zTK : zAL Tryz.prog 63 := ⟨_, _, Tryz.func63, rfl, by kernel_rfl⟩
theorem zTL : zAL Tryz.prog 64 := ⟨_, _, Tryz.func64, rfl, by kernel_rfl⟩
theorem zRq : zAL Tryz.prog 65 := ⟨_, _, Tryz.func65, rfl, by kernel_rfl⟩
theorem zOH : zAL Tryz.prog 66 := ⟨_, _, Tryz.func66, rfl, by kernel_rfl⟩
theorem zRr : zAL Tryz.prog 67 := ⟨_, _, Tryz.func67, rfl, by kernel_rfl⟩
theorem zRs : zAL Tryz.prog 68 := ⟨_, _, Tryz.func68, rfl, by kernel_rfl⟩
theorem zMb : zAL Tryz.prog 69 := ⟨_, _, Tryz.func69, rfl, by kernel_rfl⟩
theorem zOI : zAL Tryz.prog 70 := ⟨_, _, Tryz.func70, rfl, by kernel_rfl⟩
theorem zRt : zAL Tryz.prog 71 := ⟨_, _, Tryz.func71, rfl, by kernel_rfl⟩
theorem zRu : zAL Tryz.prog 72 := ⟨_, _, Tryz.func72, rfl, by kernel_rfl⟩
theorem zRv : zAL Tryz.prog 73 := ⟨_, _, Tryz.func73, rfl, by kernel_rfl⟩
theorem zRw : zAL Tryz.prog 74 := ⟨_, _, Tryz.func74, rfl, by kernel_rfl⟩
theorem zRx : zAL Tryz.prog 75 := ⟨_, _, Tryz.func75, rfl, by kernel_rfl⟩
theorem zRy : zAL Tryz.prog 76 := ⟨_, _, Tryz.func76, rfl, by kernel_rfl⟩
theorem zRz : zAL Tryz.prog 77 := ⟨_, _, Tryz.func77, rfl, by kernel_rfl⟩
theorem zOJ : zAL Tryz.prog 78 := ⟨_, _, Tryz.func78, rfl, by kernel_rfl⟩
theorem zJz : zAL Tryz.prog 79 := ⟨_, _, Tryz.func79, rfl, by kernel_rfl⟩
theorem zOK : zAL Tryz.prog 80 := ⟨_, _, Tryz.func80, rfl, by kernel_rfl⟩
theorem zRA : zAL Tryz.prog 81 := ⟨_, _, Tryz.func81, rfl, by kernel_rfl⟩
theorem zRB : zAL Tryz.prog 82 := ⟨_, _, Tryz.func82, rfl, by kernel_rfl⟩
theorem zRC : zAL Tryz.prog 83 := ⟨_, _, Tryz.func83, rfl, by kernel_rfl⟩
theorem zRD : zAL Tryz.prog 84 := ⟨_, _, Tryz.func84, rfl, by kernel_rfl⟩
theorem zRE : zAL Tryz.prog 85 := ⟨_, _, Tryz.func85, rfl, by kernel_rfl⟩
theorem zRF : zAL Tryz.prog 86 := ⟨_, _, Tryz.func86, rfl, by kernel_rfl⟩
theorem zRG : zAL Tryz.prog 87 := ⟨_, _, Tryz.func87, rfl, by kernel_rfl⟩
theorem zRH : zAL Tryz.prog 88 := ⟨_, _, Tryz.func88, rfl, by kernel_rfl⟩
theorem zRI : zAL Tryz.prog 89 := ⟨_, _, Tryz.func89, rfl, by kernel_rfl⟩
theorem zRJ : zAL Tryz.prog 90 := ⟨_, _, Tryz.func90, rfl, by kernel_rfl⟩
theorem zTM : zAL Tryz.prog 91 := ⟨_, _, Tryz.func91, rfl, by kernel_rfl⟩
theorem zTN : zAL Tryz.prog 92 := ⟨_, _, Tryz.func92, rfl, by kernel_rfl⟩
theorem zOL : zAL Tryz.prog 93 := ⟨_, _, Tryz.func93, rfl, by kernel_rfl⟩
theorem zRK : zAL Tryz.prog 94 := ⟨_, _, Tryz.func94, rfl, by kernel_rfl⟩
theorem zRL : zAL Tryz.prog 95 := ⟨_, _, Tryz.func95, rfl, by kernel_rfl⟩
theorem zRM : zAL Tryz.prog 96 := ⟨_, _, Tryz.func96, rfl, by kernel_rfl⟩
theorem zRN : zAL Tryz.prog 98 := ⟨_, _, Tryz.func98, rfl, by kernel_rfl⟩
theorem zRO : zAL Tryz.prog 99 := ⟨_, _, Tryz.func99, rfl, by kernel_rfl⟩
theorem zNz : zAL Tryz.prog 100 := ⟨_, _, Tryz.func100, rfl, by kernel_rfl⟩
theorem zMt : zAL Tryz.prog 101 := ⟨_, _, Tryz.func101, rfl, by kernel_rfl⟩
theorem zQa : zAL Tryz.prog 102 := ⟨_, _, Tryz.func102, rfl, by kernel_rfl⟩
theorem zNA : zAL Tryz.prog 103 := ⟨_, _, Tryz.func103, rfl, by kernel_rfl⟩
theorem zQb : zAL Tryz.prog 104 := ⟨_, _, Tryz.func104, rfl, by kernel_rfl⟩
theorem zQc : zAL Tryz.prog 105 := ⟨_, _, Tryz.func105, rfl, by kernel_rfl⟩
theorem zMu : zAL Tryz.prog 106 := ⟨_, _, Tryz.func106, rfl, by kernel_rfl⟩
theorem zQd : zAL Tryz.prog 107 := ⟨_, _, Tryz.func107, rfl, by kernel_rfl⟩
theorem zQe : zAL Tryz.prog 108 := ⟨_, _, Tryz.func108, rfl, by kernel_rfl⟩
theorem zQf : zAL Tryz.prog 109 := ⟨_, _, Tryz.func109, rfl, by kernel_rfl⟩
theorem zQg : zAL Tryz.prog 110 := ⟨_, _, Tryz.func110, rfl, by kernel_rfl⟩
theorem zNB : zAL Tryz.prog 111 := ⟨_, _, Tryz.func111, rfl, by kernel_rfl⟩
theorem zIC : zAL Tryz.prog 112 := ⟨_, _, Tryz.func112, rfl, by kernel_rfl⟩
theorem zQh : zAL Tryz.prog 113 := ⟨_, _, Tryz.func113, rfl, by kernel_rfl⟩
theorem zQi : zAL Tryz.prog 118 := ⟨_, _, Tryz.func118, rfl, by kernel_rfl⟩
theorem zQj : zAL Tryz.prog 119 := ⟨_, _, Tryz.func119, rfl, by kernel_rfl⟩
theorem zQk : zAL Tryz.prog 120 := ⟨_, _, Tryz.func120, rfl, by kernel_rfl⟩
theorem zQl : zAL Tryz.prog 121 := ⟨_, _, Tryz.func121, rfl, by kernel_rfl⟩
theorem zQm : zAL Tryz.prog 122 := ⟨_, _, Tryz.func122, rfl, by kernel_rfl⟩
theorem zQn : zAL Tryz.prog 123 := ⟨_, _, Tryz.func123, rfl, by kernel_rfl⟩
theorem zQo : zAL Tryz.prog 124 := ⟨_, _, Tryz.func124, rfl, by kernel_rfl⟩
theorem zNC : zAL Tryz.prog 125 := ⟨_, _, Tryz.func125, rfl, by kernel_rfl⟩
theorem zQp : zAL Tryz.prog 128 := ⟨_, _, Tryz.func128, rfl, by kernel_rfl⟩
theorem zQq : zAL Tryz.prog 132 := ⟨_, _, Tryz.func132, rfl, by kernel_rfl⟩
theorem zQr : zAL Tryz.prog 138 := ⟨_, _, Tryz.func138, rfl, by kernel_rfl⟩
theorem zQs : zAL Tryz.prog 142 := ⟨_, _, Tryz.func142, rfl, by kernel_rfl⟩
theorem zND : zAL Tryz.prog 151 := ⟨_, _, Tryz.func151, rfl, by kernel_rfl⟩
abbrev U2 := @Tryz.underlying2
abbrev U3 := @Tryz.underlying3
abbrev U4 := @Tryz.underlying4
abbrev U5 := @Tryz.underlying5
abbrev U9 := @Tryz.underlying9
abbrev U22 := @Tryz.underlying22
abbrev U24 := @Tryz.underlying24
abbrev U26 := @Tryz.underlying26
abbrev U27 := @Tryz.underlying27
abbrev U36 := @Tryz.underlying36
abbrev U38 := @Tryz.underlying38
abbrev U39 := @Tryz.underlying39
abbrev U49 := @Tryz.underlying49
abbrev U70 := @Tryz.underlying70
abbrev U77 := @Tryz.underlying77
abbrev U83 := @Tryz.underlying83
abbrev U85 := @Tryz.underlying85
abbrev U92 := @Tryz.underlying92
abbrev U99 := @Tryz.underlying99
abbrev zIJ := @Tryz.underlying101
abbrev zFd := @Tryz.underlying103
abbrev zLq := @Tryz.underlying108
abbrev zTO := @Tryz.underlying110
abbrev zT6 := @Tryz.underlying132
abbrev zT7 := @Tryz.underlying140

theorem zNq (w0 : World) (a0 : List UInt8) {v1 : Value} (h2 : rdL (· < w0.heap.size) w0 v1 a0) {r : Bool} (hm : zKD a0 = some r) :
    Calls Tryz.prog 5 #[v1] w0 fun e w' => e = .returned (.bool r) ∧ Fresh w0 w' [] := by
 unfold zKD at hm
 refine zAD (args := [v1]) Tryz.func5 rfl rfl rfl ?_
 have hL := zAJ w0
 refine CSR <| OV (.bool false) rfl (zAb) <| ONR <| OV v1 rfl (zAe) <| OV (IV (a0.length : Int)) rfl (zA3 U22 rfl (hL.rdS 0 rfl h2)) <| OV (.bool (decide (4096 < (a0.length : Int)))) rfl (zIq rfl rfl) <| OV (.bool (decide (4096 < (a0.length : Int)))) rfl (zAb) <| OW.nil <| zAx ?_
 obtain rfl := oi hm
 exact RR1 rfl rfl ⟨rfl, hL.fresh 0 rfl [] (by decide) (by decide) rfl⟩

theorem zJZ (w0 : World) (a0 : List UInt8) {v1 : Value} (h2 : rdL (· < w0.heap.size) w0 v1 a0) {r : (Int × Int)} (hm : zHB a0 = some r) :
    Calls Tryz.prog 37 #[v1] w0 fun e w' => ∃ rb : Nat, e = .returned (PV rb 0) ∧ Fresh w0 w' [Ent.blk rb 92 #[v1, .int .i64 r.1, .int .i64 r.2]] := by
 unfold zHB at hm
 refine zAD (args := [v1]) Tryz.func37 rfl rfl rfl ?_
 have hL := zAJ w0
 refine CSR <| OV (.pointer none) rfl (zAb) <| ONR <| OV v1 rfl (zAe) <| OV (.agg #[v1, (IV 0), (IV 61657)]) rfl (zCB zQ5 (ps := [(0, v1), (2, (IV 61657))]) ⟨⟨rfl, rfl⟩, ⟨rfl, rfl⟩, trivial⟩ (by simp [Instr.fill, zBJ, zBA, zBi, zBK, zBo, zBc, (zAY (hL.rdS 0 rfl h2))])) ?_
 refine zAa (zC3 (cs := #[v1, (IV 0), (IV 61657)]) hL rfl rfl rfl ?_)
 intro wd3 b4 hL
 refine OV (PV b4 0) rfl (zAb) <| ONS <| CSR <| OV (IV 0) rfl (zAb) <| OW.nil ?_
 obtain ⟨aY, aK, hm⟩ := zAs hm
 refine zAU (fun (s_l1 : Int × Int) F w => F 0 = v1 ∧ F 3 = (PV b4 0) ∧ F 4 = (IV s_l1.2) ∧ Hp w0 [Ent.blk b4 92 #[v1, (IV 0), (IV s_l1.1)], zAg w0 w0.heap.size] w) (fun o => zBh o (fun x => some x) (fun s => zGE s) = some r) aK hm ⟨rfl, rfl, rfl, hL⟩ ?_ ?_
 · intro s_l1 aZ aT hJ hm
   have hm := zBD hm
   have hm : zGE s_l1 = some r := hm
   unfold zGE at hm
   obtain ⟨bA, aO, bB, hL⟩ := hJ
   refine CSR <| OV (PV b4 0) rfl (zAo aO) <| OV (PV b4 0) rfl (zAb) <| OW.nil <| zAx ?_
   obtain rfl := oi hm
   exact RR1 rfl rfl ⟨b4, rfl, hL.fresh 1 rfl [0] (by decide) (by decide) rfl⟩
 intro s_l1 bC aU aP hJ hm aV
 unfold zGF at hm
 obtain ⟨aF, aJ, aC, hL⟩ := hJ
 refine zAF ?_
 refine zAM (fun (s_j1 : Bool) F w => F 0 = v1 ∧ F 3 = (PV b4 0) ∧ F 4 = (IV s_l1.2) ∧ F 15 = (.bool s_j1) ∧ Hp w0 [Ent.blk b4 92 #[v1, (IV 0), (IV s_l1.1)], zAg w0 w0.heap.size] w) (fun s_j1 => zFf a0 s_l1 s_j1 = some aP) ?_ ?_
 · refine zAl <| OV (IV s_l1.2) rfl (zAo aC) <| OV v1 rfl (zAo aF) <| OV (IV (a0.length : Int)) rfl (zA3 U22 rfl (hL.rdS 1 rfl h2)) <| OV (.bool (decide (s_l1.2 < (a0.length : Int)))) rfl (zBE rfl rfl) <| OV (.bool (decide (s_l1.2 < (a0.length : Int)))) rfl (zAe) ?_
   refine zAH hm (fun aA hm => ?_) (fun aA hm => ?_)
   · refine zAa (zAj rfl rfl aA (zAk (v := (IV s_l1.2)) rfl (zAo aC) ?_))
     refine zAa (zAj rfl rfl aA (zAk (v := (.bool (decide (s_l1.2 < 64)))) rfl (zBE rfl rfl) ?_))
     refine OV (.bool (decide (s_l1.2 < 64))) rfl (zAz rfl aA rfl) <| OW.nil ?_
     exact ⟨decide (s_l1.2 < 64), hm, ⟨aF, aJ, aC, rfl, hL⟩⟩
   refine zAa (zAh rfl rfl aA rfl ?_)
   refine zAa (zAh rfl rfl aA rfl ?_)
   refine OV (.bool false) rfl (zAA rfl aA rfl) <| OW.nil ?_
   exact ⟨false, hm, ⟨aF, aJ, aC, rfl, hL⟩⟩
 intro s_j1 bD aW hJ hm
 unfold zFf at hm
 obtain ⟨aG, aD, aH, aQ, hL⟩ := hJ
 refine zAn (t := s_j1) aQ hm (fun aL hm => ?_) (fun aL hm => ?_)
 · refine zAt <| zAF <| CW.block ?_
   refine zDG (fun w' => Hp w0 [zAg w0 w0.heap.size] w') zAQ ?_
   have hL := hL.call (zA8 _)
   have hS := (hL.sl [1] rfl)
   refine zAw 0 rfl (by kernel_rfl) rfl rfl hS (zAp (v := (PV b4 0)) (fun w' hS' => zAo aD)) ?_
   have hS := (hL.sl [1] rfl)
   refine zAw 1 rfl (by kernel_rfl) rfl rfl hS (zAp (v := (PV b4 0)) (fun w' hS' => zAo aD)) ?_
   have hS := (hL.sl [1] rfl)
   refine zAw 2 rfl (by kernel_rfl) rfl rfl hS (zAp (v := (PV b4 0)) (fun w' hS' => zCM rfl)) ?_
   have hS := (hL.sl [1] rfl)
   refine zAw 3 rfl (by kernel_rfl) rfl rfl hS (zAp (v := (PV b4 2)) (fun w' hS' => zAc (fsz := 1) 0 2 2 U92 rfl zAf rfl rfl rfl)) ?_
   have hS := (hL.sl [1] rfl)
   refine zAw 6 rfl (by kernel_rfl) rfl rfl hS (zAp (v := v1) (fun w' hS' => zAo aG)) ?_
   have hS := (hL.sl [1] rfl)
   refine zAw 7 rfl (by kernel_rfl) rfl rfl hS (zAp (v := (IV s_l1.2)) (fun w' hS' => zAo aH)) ?_
   have hS := (hL.sl [1] rfl)
   obtain ⟨aB, aM, hm⟩ := zAs hm
   obtain ⟨aN, aI⟩ := zAZ aM
   obtain ⟨aR, aS, aE⟩ := zAC (hL.rdS 1 rfl h2) aN aI
   refine zAw 8 rfl (by kernel_rfl) rfl rfl hS (zAp (v := (.pointer (some ⟨aR, aS, none⟩))) (fun w' hS' => zA1 U22 zLi rfl rfl aE)) ?_
   have hS := (hL.sl [1] rfl)
   refine zAw 9 rfl (by kernel_rfl) rfl rfl hS (zAp (v := (.int .u8 (aB.toNat : Int))) (fun w' hS' => zAd U5 rfl rfl (zAv (hS'.rdS 0 rfl h2) aE aI 0 _ rfl))) ?_
   have hS := (hL.sl [1] rfl)
   refine zAw 10 rfl (by kernel_rfl) rfl rfl hS (zAp (v := (IV (IntKind.i64.wrap (aB.toNat : Int)))) (fun w' hS' => zLB U5 U2 rfl)) ?_
   refine zAT 4 rfl (by kernel_rfl) (zAk (v := (IV s_l1.1)) rfl (zAd U2 rfl rfl (hL.cellB 0 rfl rfl)) ?_)
   refine ⟨(hL.sl [1] rfl), ?_⟩
   have hS := (hL.sl [1] rfl)
   refine zAw 5 rfl (by kernel_rfl) rfl rfl hS (zAp (v := (IV (w64 (s_l1.1 * 53)))) (fun w' hS' => zHP rfl rfl)) ?_
   have hS := (hL.sl [1] rfl)
   refine zAw 11 rfl (by kernel_rfl) rfl rfl hS (zAp (v := (IV (w64 ((w64 (s_l1.1 * 53)) + (IntKind.i64.wrap (aB.toNat : Int)))))) (fun w' hS' => zBe rfl rfl)) ?_
   have hS := (hL.sl [1] rfl)
   refine zAw 12 rfl (by kernel_rfl) rfl rfl hS (zAp (v := (IV ((w64 ((w64 (s_l1.1 * 53)) + (IntKind.i64.wrap (aB.toNat : Int)))).tmod 2147483647))) (fun w' hS' => zNv rfl rfl (by decide))) ?_
   have hS := (hL.sl [1] rfl)
   refine zAw 13 rfl (by kernel_rfl) rfl rfl hS (zAp (v := (PV b4 0)) (fun w' hS' => zCM rfl)) ?_
   have hS := (hL.sl [1] rfl)
   refine zAw 14 rfl (by kernel_rfl) rfl rfl hS (zAp (v := (PV b4 2)) (fun w' hS' => zAc (fsz := 1) 0 2 2 U92 rfl zAf rfl rfl rfl)) ?_
   refine zAT 15 rfl (by kernel_rfl) (zEt (cs' := #[v1, (IV 0), (IV ((w64 ((w64 (s_l1.1 * 53)) + (IntKind.i64.wrap (aB.toNat : Int)))).tmod 2147483647))]) hL 0 rfl zAf rfl rfl rfl rfl rfl ?_)
   intro aX hL
   refine ⟨(hL.sl [1] rfl), ?_⟩
   refine zDB (by kernel_rfl) ?_
   refine zAl <| OV (IV s_l1.2) rfl (zAo aH) <| OV (IV (w64 (s_l1.2 + 1))) rfl (zBe rfl rfl) <| OV (IV (w64 (s_l1.2 + 1))) rfl (zAb) <| OW.nil ?_
   obtain rfl := oi hm
   exact ⟨_, rfl, ⟨aG, aD, rfl, hL⟩⟩
 refine zA0 ?_
 refine zBk ?_
 obtain rfl := oi hm
 exact ⟨_, rfl, ⟨aG, aD, aH, hL⟩⟩

theorem zAu (w0 : World) {b1 : Nat} {v2 : Value} (a0 : Src) (h3 : rdL (fun k => k < w0.heap.size ∧ ¬ (Ent.blk b1 92 #[v2, .int .i64 a0.at_, .int .i64 a0.seed]).S k) w0 v2 a0.code) (he4 : (Ent.blk b1 92 #[v2, .int .i64 a0.at_, .int .i64 a0.seed]).H w0) (a1 : Int) {r : (Int) × (Int × Int)} (hm : zAE a0 a1 = some r) :
    Calls Tryz.prog 40 #[(PV b1 0), (IV a1)] w0 fun e w' => e = .returned (IV r.1) ∧ Mut w0 w' (Ent.blk b1 92 #[v2, .int .i64 a0.at_, .int .i64 a0.seed]).S [Ent.blk b1 92 #[v2, .int .i64 r.2.1, .int .i64 r.2.2]] := by
 unfold zAE at hm
 refine zAD (args := [(PV b1 0), (IV a1)]) Tryz.func40 rfl rfl rfl ?_
 have hL := zDc he4
 refine CSR <| OV (IV 0) rfl (zAb) <| ONS <| CSR <| OV (IV a1) rfl (zAe) <| OV (.bool (decide (a1 ≤ 1))) rfl (zKe rfl rfl) <| OW.nil ?_
 refine zAn (t := decide (a1 ≤ 1)) rfl hm (fun hb5 hm => ?_) (fun hb5 hm => ?_)
 · refine CSR <| OV (IV 0) rfl (zAb) <| OW.nil <| zAx ?_
   obtain rfl := oi hm
   exact RR1 rfl rfl ⟨rfl, hL.mutOut 1 rfl [0] (by decide) (by decide) rfl⟩
 refine zAt <| CSR <| OV (PV b1 0) rfl (zAe) <| OV (PV b1 0) rfl (zAe) <| OV (PV b1 0) rfl (zCM rfl) <| OV (PV b1 2) rfl (zAc (fsz := 1) 0 2 2 U92 rfl zAf rfl rfl rfl) <| OV (IV a0.seed) rfl (zAd U2 rfl rfl (hL.cellB 0 rfl rfl)) <| OV (IV (w64 (a0.seed * 48271))) rfl (zHP rfl rfl) <| OV (IV (w64 ((w64 (a0.seed * 48271)) + 23))) rfl (zBe rfl rfl) <| OV (IV ((w64 ((w64 (a0.seed * 48271)) + 23)).tmod 2147483647)) rfl (zNv rfl rfl (by decide)) <| OV (PV b1 0) rfl (zCM rfl) <| OV (PV b1 2) rfl (zAc (fsz := 1) 0 2 2 U92 rfl zAf rfl rfl rfl) ?_
 refine zAa (zEt (cs' := #[v2, (IV a0.at_), (IV ((w64 ((w64 (a0.seed * 48271)) + 23)).tmod 2147483647))]) hL 0 rfl zAf rfl rfl rfl rfl rfl ?_)
 intro wd6 hL
 refine ONR <| OV (PV b1 0) rfl (zAe) <| OV (PV b1 0) rfl (zCM rfl) <| OV (PV b1 2) rfl (zAc (fsz := 1) 0 2 2 U92 rfl zAf rfl rfl rfl) <| OV (IV ((w64 ((w64 (a0.seed * 48271)) + 23)).tmod 2147483647)) rfl (zAd U2 rfl rfl (hL.cellB 0 rfl rfl)) <| OV (IV (w64 (((w64 ((w64 (a0.seed * 48271)) + 23)).tmod 2147483647).tdiv 17))) rfl (zL1 rfl rfl (by decide)) <| OV (IV (w64 (((w64 ((w64 (a0.seed * 48271)) + 23)).tmod 2147483647).tdiv 17))) rfl (zAb) <| OW.nil ?_
 refine zAM (fun (s_j1 : Int × Int) F w => F 1 = (IV a1) ∧ F 5 = (IV s_j1.2) ∧ Hp w0 [Ent.blk b1 92 #[v2, (IV s_j1.1), (IV ((w64 ((w64 (a0.seed * 48271)) + 23)).tmod 2147483647))], zAS w0 (Ent.blk b1 92 #[v2, .int .i64 a0.at_, .int .i64 a0.seed]).S] w) (fun s_j1 => zD7 a0 a1 s_j1 = some r) ?_ ?_
 · refine zAF ?_
   refine zBW zAQ ?_
   have hL := hL.call (zA8 _)
   refine DW.pre (fuel := 0) (fin := bma 10 1023) (C := fun w' => Mod zBO _ w') [0, 1, 2, 3, 4, 5, 6, 7, 8, 9] (Mod.refl _ _) (by kernel_rfl) (by kernel_rfl) ?_
   refine QV (PV b1 0) rfl rfl (fun w' hm' => zAe) <| QV (PV b1 0) rfl rfl (fun w' hm' => zCM rfl) <| QV (PV b1 1) rfl rfl (fun w' hm' => zAc (fsz := 1) 0 1 1 U92 rfl zKw rfl rfl rfl) <| QV (IV a0.at_) rfl rfl (fun w' hm' => zAd U3 rfl rfl ((hL.call hm').cellB 0 rfl rfl)) <| QV (PV b1 0) rfl rfl (fun w' hm' => zAe) <| QV (PV b1 0) rfl rfl (fun w' hm' => zCM rfl) <| QV (PV b1 0) rfl rfl (fun w' hm' => zAc (fsz := 1) 0 0 0 U92 rfl zM5 rfl rfl rfl) <| QV v2 rfl rfl (fun w' hm' => zAd U22 rfl rfl ((hL.call hm').cellB 0 rfl rfl)) <| QV (IV (a0.code.length : Int)) rfl rfl (fun w' hm' => zA3 U22 rfl ((hL.call hm').rdZ 1 rfl h3)) <| QV (.bool (decide (a0.at_ < (a0.code.length : Int)))) rfl rfl (fun w' hm' => zBE rfl rfl) ?_
   refine QW.nil ?_
   intro aY hmod
   have hL := hL.call hmod
   refine zBu (by kernel_rfl) ?_
   refine zAn (t := decide (a0.at_ < (a0.code.length : Int))) rfl hm (fun aJ hm => ?_) (fun aJ hm => ?_)
   · refine zAF ?_
     refine zBW zAQ ?_
     have hL := hL.call (zA8 _)
     refine DW.pre (fuel := 0) (fin := bma 14 16383) (C := fun w' => Mod zBO _ w') [0, 1, 2, 3, 4, 5, 6, 7, 8, 9, 10, 11, 12, 13] (Mod.refl _ _) (by kernel_rfl) (by kernel_rfl) ?_
     refine QV (IV (w64 (((w64 ((w64 (a0.seed * 48271)) + 23)).tmod 2147483647).tdiv 17))) rfl rfl (fun w' hm' => zAe) <| QV (PV b1 0) rfl rfl (fun w' hm' => zAe) <| QV (PV b1 0) rfl rfl (fun w' hm' => zCM rfl) <| QV (PV b1 0) rfl rfl (fun w' hm' => zAc (fsz := 1) 0 0 0 U92 rfl zM5 rfl rfl rfl) <| QV v2 rfl rfl (fun w' hm' => zAd U22 rfl rfl ((hL.call hm').cellB 0 rfl rfl)) <| QV (PV b1 0) rfl rfl (fun w' hm' => zAe) <| QV (PV b1 0) rfl rfl (fun w' hm' => zCM rfl) <| QV (PV b1 1) rfl rfl (fun w' hm' => zAc (fsz := 1) 0 1 1 U92 rfl zKw rfl rfl rfl) <| QV (IV a0.at_) rfl rfl (fun w' hm' => zAd U3 rfl rfl ((hL.call hm').cellB 0 rfl rfl)) ?_
     obtain ⟨aB, aK, hm⟩ := zAs hm
     obtain ⟨aL, aF⟩ := zAZ aK
     obtain ⟨aQ, aR, aC⟩ := zAC (hL.rdZ 1 rfl h3) aL aF
     refine QV (.pointer (some ⟨aQ, aR, none⟩)) rfl rfl (fun w' hm' => zA1 U22 zLi rfl rfl aC) <| QV (.int .u8 (aB.toNat : Int)) rfl rfl (fun w' hm' => zAd U5 rfl rfl (zAv ((hL.call hm').rdZ 1 rfl h3) aC aF 0 _ rfl)) <| QV (IV (IntKind.i64.wrap (aB.toNat : Int))) rfl rfl (fun w' hm' => zLB U5 U2 rfl) <| QV (IV (w64 ((w64 (((w64 ((w64 (a0.seed * 48271)) + 23)).tmod 2147483647).tdiv 17)) + (IntKind.i64.wrap (aB.toNat : Int))))) rfl rfl (fun w' hm' => zBe rfl rfl) <| QV (IV (w64 ((w64 (((w64 ((w64 (a0.seed * 48271)) + 23)).tmod 2147483647).tdiv 17)) + (IntKind.i64.wrap (aB.toNat : Int))))) rfl rfl (fun w' hm' => zAb) ?_
     refine QW.nil ?_
     intro aZ hmod
     have hL := hL.call hmod
     refine zBu (by kernel_rfl) ?_
     refine CSR <| OV (PV b1 0) rfl (zAe) <| OV (PV b1 0) rfl (zCM rfl) <| OV (PV b1 1) rfl (zAc (fsz := 1) 0 1 1 U92 rfl zKw rfl rfl rfl) <| OV (IV a0.at_) rfl (zAd U3 rfl rfl (hL.cellB 0 rfl rfl)) <| OV (IV (w64 (a0.at_ + 1))) rfl (zBe rfl rfl) <| OV (PV b1 0) rfl (zCM rfl) <| OV (PV b1 1) rfl (zAc (fsz := 1) 0 1 1 U92 rfl zKw rfl rfl rfl) ?_
     refine zAa (zEt (cs' := #[v2, (IV (w64 (a0.at_ + 1))), (IV ((w64 ((w64 (a0.seed * 48271)) + 23)).tmod 2147483647))]) hL 0 rfl zKw rfl rfl rfl rfl rfl ?_)
     intro bA hL
     refine OW.nil ?_
     refine zAM (fun (s_j2 : Bool) F w => F 0 = (PV b1 0) ∧ F 1 = (IV a1) ∧ F 5 = (IV (w64 ((w64 (((w64 ((w64 (a0.seed * 48271)) + 23)).tmod 2147483647).tdiv 17)) + (IntKind.i64.wrap (aB.toNat : Int))))) ∧ F 62 = (.bool s_j2) ∧ Hp w0 [Ent.blk b1 92 #[v2, (IV (w64 (a0.at_ + 1))), (IV ((w64 ((w64 (a0.seed * 48271)) + 23)).tmod 2147483647))], zAS w0 (Ent.blk b1 92 #[v2, .int .i64 a0.at_, .int .i64 a0.seed]).S] w) (fun s_j2 => zGG a0 a1 aB s_j2 = some r) ?_ ?_
     · refine zAl <| OV (IV a1) rfl (zAe) <| OV (.bool (decide (a1 ≤ 256))) rfl (zKe rfl rfl) <| OV (.bool (decide (a1 ≤ 256))) rfl (zAe) ?_
       refine zAH hm (fun aA hm => ?_) (fun aA hm => ?_)
       · refine zAa (zAj rfl rfl aA (zAk (v := (PV b1 0)) rfl (zAe) ?_))
         refine zAa (zAj rfl rfl aA (zAk (v := (PV b1 0)) rfl (zCM rfl) ?_))
         refine zAa (zAj rfl rfl aA (zAk (v := (PV b1 1)) rfl (zAc (fsz := 1) 0 1 1 U92 rfl zKw rfl rfl rfl) ?_))
         refine zAa (zAj rfl rfl aA (zAk (v := (IV (w64 (a0.at_ + 1)))) rfl (zAd U3 rfl rfl (hL.cellB 0 rfl rfl)) ?_))
         refine zAa (zAj rfl rfl aA (zAk (v := (IV ((w64 (a0.at_ + 1)).tmod 2))) rfl (zNv rfl rfl (by decide)) ?_))
         refine zAa (zAj rfl rfl aA (zAk (v := (.bool (((w64 (a0.at_ + 1)).tmod 2) == 0))) rfl (zBv rfl rfl) ?_))
         refine OV (.bool (((w64 (a0.at_ + 1)).tmod 2) == 0)) rfl (zAz rfl aA rfl) <| OW.nil ?_
         exact ⟨((w64 (a0.at_ + 1)).tmod 2) == 0, hm, ⟨rfl, rfl, rfl, rfl, hL⟩⟩
       refine zAa (zAh rfl rfl aA rfl ?_)
       refine zAa (zAh rfl rfl aA rfl ?_)
       refine zAa (zAh rfl rfl aA rfl ?_)
       refine zAa (zAh rfl rfl aA rfl ?_)
       refine zAa (zAh rfl rfl aA rfl ?_)
       refine zAa (zAh rfl rfl aA rfl ?_)
       refine OV (.bool false) rfl (zAA rfl aA rfl) <| OW.nil ?_
       exact ⟨false, hm, ⟨rfl, rfl, rfl, rfl, hL⟩⟩
     intro s_j2 bE bB hJ hm
     unfold zGG at hm
     obtain ⟨aH, aI, aS, aT, hL⟩ := hJ
     refine zAn (t := s_j2) aT hm (fun aM hm => ?_) (fun aM hm => ?_)
     · refine zBW zAQ ?_
       have hL := hL.call (zA8 _)
       refine DW.pre (fuel := 0) (fin := bma 13 8191) (C := fun w' => Mod zBO _ w') [0, 1, 2, 3, 4, 5, 6, 7, 8, 9, 10, 11, 12] (Mod.refl _ _) (by kernel_rfl) (by kernel_rfl) ?_
       refine QV (PV b1 0) rfl rfl (fun w' hm' => zAo aH) <| QV (PV b1 0) rfl rfl (fun w' hm' => zCM rfl) <| QV (PV b1 0) rfl rfl (fun w' hm' => zAc (fsz := 1) 0 0 0 U92 rfl zM5 rfl rfl rfl) <| QV v2 rfl rfl (fun w' hm' => zAd U22 rfl rfl ((hL.call hm').cellB 0 rfl rfl)) <| QV (PV b1 0) rfl rfl (fun w' hm' => zAo aH) <| QV (PV b1 0) rfl rfl (fun w' hm' => zCM rfl) <| QV (PV b1 1) rfl rfl (fun w' hm' => zAc (fsz := 1) 0 1 1 U92 rfl zKw rfl rfl rfl) <| QV (IV (w64 (a0.at_ + 1))) rfl rfl (fun w' hm' => zAd U3 rfl rfl ((hL.call hm').cellB 0 rfl rfl)) <| QV (IV (w64 ((w64 (a0.at_ + 1)) - 1))) rfl rfl (fun w' hm' => zCn rfl rfl) ?_
       obtain ⟨aD, aN, hm⟩ := zAs hm
       obtain ⟨aO, aG⟩ := zAZ aN
       obtain ⟨aU, aV, aE⟩ := zAC (hL.rdZ 1 rfl h3) aO aG
       refine QV (.pointer (some ⟨aU, aV, none⟩)) rfl rfl (fun w' hm' => zA1 U22 zLi rfl rfl aE) <| QV (.int .u8 (aD.toNat : Int)) rfl rfl (fun w' hm' => zAd U5 rfl rfl (zAv ((hL.call hm').rdZ 1 rfl h3) aE aG 0 _ rfl)) <| QV (IV (IntKind.i64.wrap (aD.toNat : Int))) rfl rfl (fun w' hm' => zLB U5 U2 rfl) <| QV (IV (IntKind.i64.wrap (aD.toNat : Int))) rfl rfl (fun w' hm' => zAb) ?_
       refine QW.nil ?_
       intro bC hmod
       have hL := hL.call hmod
       refine zBu (by kernel_rfl) ?_
       exact ⟨(w64 (a0.at_ + 1), IntKind.i64.wrap (aD.toNat : Int)), hm, ⟨aI, rfl, hL⟩⟩
     refine zAt ?_
     exact ⟨(w64 (a0.at_ + 1), w64 ((w64 (((w64 ((w64 (a0.seed * 48271)) + 23)).tmod 2147483647).tdiv 17)) + (IntKind.i64.wrap (aB.toNat : Int)))), hm, ⟨aI, aS, hL⟩⟩
   refine zAt ?_
   exact ⟨(a0.at_, w64 (((w64 ((w64 (a0.seed * 48271)) + 23)).tmod 2147483647).tdiv 17)), hm, ⟨rfl, rfl, hL⟩⟩
 intro s_j1 bF bD hJ hm
 unfold zD7 at hm
 obtain ⟨aW, aX, hL⟩ := hJ
 refine CSR <| OV (IV s_j1.2) rfl (zAo aX) <| OV (IV a1) rfl (zAo aW) ?_
 obtain ⟨aP, hm⟩ := zEs hm
 refine OV (IV (s_j1.2.tmod a1)) rfl (zNv rfl rfl aP) <| OV (IV (s_j1.2.tmod a1)) rfl (zAb) <| OW.nil <| zAx ?_
 obtain rfl := oi hm
 exact RR1 rfl rfl ⟨rfl, hL.mutOut 1 rfl [0] (by decide) (by decide) rfl⟩

theorem zKx (w0 : World) {b1 : Nat} {v2 : Value} (a0 : Src) (h3 : rdL (fun k => k < w0.heap.size ∧ ¬ (Ent.blk b1 92 #[v2, .int .i64 a0.at_, .int .i64 a0.seed]).S k) w0 v2 a0.code) (he4 : (Ent.blk b1 92 #[v2, .int .i64 a0.at_, .int .i64 a0.seed]).H w0) {r : (Int) × (Int × Int)} (hm : zHq a0 = some r) :
    Calls Tryz.prog 105 #[(PV b1 0)] w0 fun e w' => e = .returned (IV r.1) ∧ Mut w0 w' (Ent.blk b1 92 #[v2, .int .i64 a0.at_, .int .i64 a0.seed]).S [Ent.blk b1 92 #[v2, .int .i64 r.2.1, .int .i64 r.2.2]] := by
 unfold zHq at hm
 refine zAD (args := [(PV b1 0)]) Tryz.func105 rfl rfl rfl ?_
 have hL := zDc he4
 refine CSR <| OV (IV 0) rfl (zAb) <| ONS <| CSR <| OV (PV b1 0) rfl (zAe) ?_
 obtain ⟨x5, hx6, hm⟩ := zAs hm
 refine zAa (OP.call rfl (zAq (vs := [(PV b1 0), (IV 24)]) zA6 ⟨rfl, rfl, trivial⟩) (zAu _ (Src.mk a0.code a0.at_ a0.seed) (hL.exZ 1 0 (by decide) rfl rfl h3) (hL.get 0 rfl) 24 hx6) ?_)
 rintro e7 wd8 ⟨rfl, hF9⟩
 refine ⟨_, rfl, ?_⟩
 have hL := hL.mut 0 rfl hF9
 simp only [lA, lB, lC, lD] at hL
 refine OV (.bool (x5.1 == 0)) rfl (zBv rfl rfl) <| OW.nil ?_
 refine zAn (t := x5.1 == 0) rfl hm (fun aC hm => ?_) (fun aC hm => ?_)
 · refine CSR <| OV (PV b1 0) rfl (zAe) ?_
   obtain ⟨aA, aD, hm⟩ := zAs hm
   refine zAa (OP.call rfl (zAq (vs := [(PV b1 0), (IV 2)]) zA6 ⟨rfl, rfl, trivial⟩) (zAu _ (Src.mk a0.code x5.2.1 x5.2.2) (hL.exZ 1 0 (by decide) rfl rfl h3) (hL.get 0 rfl) 2 aD) ?_)
   rintro aJ aH ⟨rfl, aE⟩
   refine ⟨_, rfl, ?_⟩
   have hL := hL.mut 0 rfl aE
   simp only [lA, lB, lC, lD] at hL
   refine OV (IV (w64 (16 * aA.1))) rfl (zHP rfl rfl) <| OV (IV (w64 (16 * aA.1))) rfl (zAb) <| OW.nil <| zAx ?_
   obtain rfl := oi hm
   exact RR1 rfl rfl ⟨rfl, hL.mutOut 1 rfl [0] (by decide) (by decide) rfl⟩
 refine zAt <| CSR <| OV (PV b1 0) rfl (zAe) ?_
 obtain ⟨aB, aF, hm⟩ := zAs hm
 refine zAa (OP.call rfl (zAq (vs := [(PV b1 0), (IV 6)]) zA6 ⟨rfl, rfl, trivial⟩) (zAu _ (Src.mk a0.code x5.2.1 x5.2.2) (hL.exZ 1 0 (by decide) rfl rfl h3) (hL.get 0 rfl) 6 aF) ?_)
 rintro aK aI ⟨rfl, aG⟩
 refine ⟨_, rfl, ?_⟩
 have hL := hL.mut 0 rfl aG
 simp only [lA, lB, lC, lD] at hL
 refine OV (IV (w64 (1 + aB.1))) rfl (zBe rfl rfl) <| OV (IV (w64 (1 + aB.1))) rfl (zAb) <| OW.nil <| zAx ?_
 obtain rfl := oi hm
 exact RR1 rfl rfl ⟨rfl, hL.mutOut 1 rfl [0] (by decide) (by decide) rfl⟩

theorem zId (w0 : World) {b1 : Nat} {v2 : Value} (a0 : Src) (h3 : rdL (fun k => k < w0.heap.size ∧ ¬ (Ent.blk b1 92 #[v2, .int .i64 a0.at_, .int .i64 a0.seed]).S k) w0 v2 a0.code) (he4 : (Ent.blk b1 92 #[v2, .int .i64 a0.at_, .int .i64 a0.seed]).H w0) (a1 : Int) {r : (Race) × (Int × Int)} (hm : zDD a0 a1 = some r) :
    Calls Tryz.prog 106 #[(PV b1 0), (IV a1)] w0 fun e w' => ∃ (rv0 : Value) (rS0 : Nat → Prop), e = .returned (.agg #[rv0]) ∧ Mut w0 w' (Ent.blk b1 92 #[v2, .int .i64 a0.at_, .int .i64 a0.seed]).S [Ent.blk b1 92 #[v2, .int .i64 r.2.1, .int .i64 r.2.2], Ent.own 103 rS0 rv0 r.1.Finishes] := by
 unfold zDD at hm
 refine zAD (args := [(PV b1 0), (IV a1)]) Tryz.func106 rfl rfl rfl ?_
 have hL := zDc he4
 refine CSR ?_
 refine zAa (zBb (cs := #[(.slice none 0 0)]) hL zBd rfl rfl ?_)
 intro wd5 b6 hL
 refine ONR ?_
 refine zAa (zBS ([] : List Finish) hL U99 zAP rfl (by decide) (by first | (simp [Instr.fill, madeCells, Value.cells, ev, upd, Flat.enc, Flat.sz]; done) | rfl | kernel_rfl) rfl rfl ?_)
 intro wd7 v8 S9 hL
 refine OV v8 rfl (zAb) <| ONS <| CSR <| OV (IV 0) rfl (zAb) <| OW.nil ?_
 obtain ⟨bT, aN, hm⟩ := zAs hm
 refine zAU (fun (s_l1 : Int × Int × (List Finish) × Int) F w => ∃ aA aD, F 0 = (PV b1 0) ∧ F 1 = (IV a1) ∧ F 4 = (PV b6 0) ∧ F 5 = aA ∧ F 6 = (IV s_l1.2.2.2) ∧ Hp w0 [Ent.own 103 aD aA s_l1.2.2.1, Ent.blk b6 101 #[(.slice none 0 0)], Ent.blk b1 92 #[v2, (IV s_l1.1), (IV s_l1.2.1)], zAS w0 (Ent.blk b1 92 #[v2, .int .i64 a0.at_, .int .i64 a0.seed]).S] w) (fun o => zBh o (fun x => some x) (fun s => zGx s) = some r) aN hm ⟨v8, S9, rfl, rfl, rfl, rfl, rfl, hL⟩ ?_ ?_
 · intro s_l1 bU bG hJ hm
   have hm := zBD hm
   have hm : zGx s_l1 = some r := hm
   unfold zGx at hm
   obtain ⟨aA, aD, bV, bW, aK, aX, bX, hL⟩ := hJ
   refine CSR <| OV aA rfl (zAo aX) <| OV (.agg #[aA]) rfl (zCB zKh (ps := [(0, aA)]) ⟨⟨rfl, rfl⟩, trivial⟩ (by simp [Instr.fill, zBJ, zBA, zBi, zBK, zBo, zBc, (zAY (hL.rdO 0 rfl))])) ?_
   refine zAa (zA9 (l := [aA]) (cs' := #[aA]) hL 1 rfl zBd aK rfl (fc ⟨zBI (hL.rdO 0 rfl), fz⟩) rfl (nle rfl) rfl ?_)
   intro bH hL
   refine OW.nil <| zAx ?_
   obtain rfl := oi hm
   exact RRc rfl aK (zCN zIJ zBd (hL.get 1 rfl) rfl) ⟨aA, aD, rfl, hL.mutOut 3 rfl [2, 0] (by decide) (by decide) rfl⟩
 intro s_l1 bY bI aY hJ hm bJ
 unfold zDp at hm
 obtain ⟨aA, aD, aE, aH, aI, aJ, aF, hL⟩ := hJ
 refine zAF <| CSR <| OV (IV s_l1.2.2.2) rfl (zAo aF) <| OV (IV a1) rfl (zAo aH) <| OV (.bool (decide (s_l1.2.2.2 < a1))) rfl (zBE rfl rfl) <| OW.nil ?_
 refine zAn (t := decide (s_l1.2.2.2 < a1)) rfl hm (fun aO hm => ?_) (fun aO hm => ?_)
 · refine zAt <| zAF <| CW.block <| CSR <| OV (IV s_l1.2.2.2) rfl (zAo aF) <| OV (PV b1 0) rfl (zAo aE) <| OV (IV a1) rfl (zAo aH) <| OV (IV (w64 (2 * a1))) rfl (zHP rfl rfl) ?_
   obtain ⟨aB, aP, hm⟩ := zAs hm
   refine zAa (OP.call rfl (zAq (vs := [(PV b1 0), (IV (w64 (2 * a1)))]) zA6 ⟨rfl, rfl, trivial⟩) (zAu _ (Src.mk a0.code s_l1.1 s_l1.2.1) (hL.exZ 3 2 (by decide) rfl rfl h3) (hL.get 2 rfl) (w64 (2 * a1)) aP) ?_)
   rintro bZ bK ⟨rfl, aQ⟩
   refine ⟨_, rfl, ?_⟩
   have hL := hL.mut 2 rfl aQ
   simp only [lA, lB, lC, lD] at hL
   refine OV (IV (w64 (1 + aB.1))) rfl (zBe rfl rfl) <| OV (.agg #[(IV s_l1.2.2.2), (IV 0), (IV (w64 (1 + aB.1)))]) rfl (zCB zKi (ps := [(0, (IV s_l1.2.2.2)), (2, (IV (w64 (1 + aB.1))))]) ⟨⟨rfl, rfl⟩, ⟨rfl, rfl⟩, trivial⟩ (by simp [Instr.fill, zBJ, zBA, zBi, zBK, zBo, zBc])) ?_
   refine zAa (zBb (cs := #[(IV 0), (IV 0), (IV 0)]) hL zAP rfl rfl ?_)
   intro bL aL hL
   refine zAa (zA9 (l := [(IV s_l1.2.2.2), (IV 0), (IV (w64 (1 + aB.1)))]) (cs' := #[(IV s_l1.2.2.2), (IV 0), (IV (w64 (1 + aB.1)))]) hL 0 rfl zAP rfl rfl (fc ⟨rfl, (fc ⟨rfl, (fc ⟨rfl, fz⟩)⟩)⟩) rfl (nle rfl) rfl ?_)
   intro bM hL
   refine OW.nil ?_
   refine zAM (fun (s_j1 : Int × Int × Int × Int) F w => F 0 = (PV b1 0) ∧ F 1 = (IV a1) ∧ F 4 = (PV b6 0) ∧ F 5 = aA ∧ F 6 = (IV s_l1.2.2.2) ∧ F 7 = (PV aL 0) ∧ Hp w0 [Ent.blk aL 103 #[(IV s_l1.2.2.2), (IV s_j1.2.2.1), (IV s_j1.2.2.2)], Ent.own 103 aD aA s_l1.2.2.1, Ent.blk b6 101 #[(.slice none 0 0)], Ent.blk b1 92 #[v2, (IV s_j1.1), (IV s_j1.2.1)], zAS w0 (Ent.blk b1 92 #[v2, .int .i64 a0.at_, .int .i64 a0.seed]).S] w) (fun s_j1 => zDo s_l1 s_j1 = some aY) ?_ ?_
   · refine CSR <| OV (PV b1 0) rfl (zAo aE) ?_
     obtain ⟨aG, aR, hm⟩ := zAs hm
     refine zAa (OP.call rfl (zAq (vs := [(PV b1 0), (IV 4)]) zA6 ⟨rfl, rfl, trivial⟩) (zAu _ (Src.mk a0.code aB.2.1 aB.2.2) (hL.exZ 4 3 (by decide) rfl rfl h3) (hL.get 3 rfl) 4 aR) ?_)
     rintro cA bN ⟨rfl, aS⟩
     refine ⟨_, rfl, ?_⟩
     have hL := hL.mut 3 rfl aS
     simp only [lA, lB, lC, lD] at hL
     refine OV (.bool (aG.1 == 0)) rfl (zBv rfl rfl) <| OW.nil ?_
     refine zAn (t := aG.1 == 0) rfl hm (fun aT hm => ?_) (fun aT hm => ?_)
     · refine zAl <| OV (IV s_l1.2.2.2) rfl (zAo aF) <| OV (PV b1 0) rfl (zAo aE) ?_
       obtain ⟨aC, aU, hm⟩ := zAs hm
       refine zAa (OP.call rfl (zAq (vs := [(PV b1 0), (IV 9)]) zA6 ⟨rfl, rfl, trivial⟩) (zAu _ (Src.mk a0.code aG.2.1 aG.2.2) (hL.exZ 4 3 (by decide) rfl rfl h3) (hL.get 3 rfl) 9 aU) ?_)
       rintro cB bO ⟨rfl, aV⟩
       refine ⟨_, rfl, ?_⟩
       have hL := hL.mut 3 rfl aV
       simp only [lA, lB, lC, lD] at hL
       refine OV (IV (w64 (1 + aC.1))) rfl (zBe rfl rfl) <| OV (.agg #[(IV s_l1.2.2.2), (IV (w64 (1 + aC.1))), (IV 0)]) rfl (zCB zKi (ps := [(0, (IV s_l1.2.2.2)), (1, (IV (w64 (1 + aC.1))))]) ⟨⟨rfl, rfl⟩, ⟨rfl, rfl⟩, trivial⟩ (by simp [Instr.fill, zBJ, zBA, zBi, zBK, zBo, zBc])) ?_
       refine zAa (zA9 (l := [(IV s_l1.2.2.2), (IV (w64 (1 + aC.1))), (IV 0)]) (cs' := #[(IV s_l1.2.2.2), (IV (w64 (1 + aC.1))), (IV 0)]) hL 0 rfl zAP rfl rfl (fc ⟨rfl, (fc ⟨rfl, (fc ⟨rfl, fz⟩)⟩)⟩) rfl (nle rfl) rfl ?_)
       intro bP hL
       refine OW.nil ?_
       exact ⟨(aC.2.1, aC.2.2, w64 (1 + aC.1), 0), hm, ⟨aE, aH, aI, aJ, aF, rfl, hL⟩⟩
     refine zAt ?_
     exact ⟨(aG.2.1, aG.2.2, 0, w64 (1 + aB.1)), hm, ⟨aE, aH, aI, aJ, aF, rfl, hL⟩⟩
   intro s_j1 cC bQ hJ hm
   unfold zDo at hm
   obtain ⟨aZ, bA, bB, bC, bD, bE, hL⟩ := hJ
   refine zAl <| OV aA rfl (zAo bC) <| OV (.agg #[(IV s_l1.2.2.2), (IV s_j1.2.2.1), (IV s_j1.2.2.2)]) rfl (zAW (cs := [(IV s_l1.2.2.2), (IV s_j1.2.2.1), (IV s_j1.2.2.2)]) zFd zAP rfl bE (hL.cellsB 0 rfl (o := 0) (l := [(IV s_l1.2.2.2), (IV s_j1.2.2.1), (IV s_j1.2.2.2)]) (by intro j u hj; exact (by simpa using hj)))) ?_
   refine zAa (zBS ([(Finish.mk s_l1.2.2.2 s_j1.2.2.1 s_j1.2.2.2)] : List Finish) hL U99 zAP rfl (by decide) (by first | (simp [Instr.fill, madeCells, Value.cells, ev, upd, Flat.enc, Flat.sz]; done) | rfl | kernel_rfl) rfl rfl ?_)
   intro bR cD cE hL
   obtain ⟨aW, hm⟩ := zEs hm
   refine zAa (zCA (ys := ([(Finish.mk s_l1.2.2.2 s_j1.2.2.1 s_j1.2.2.2)] : List Finish)) hL 2 rfl U99 zAP rfl rfl rfl (hL.rdO 0 rfl) aW (by decide) rfl ?_)
   intro bS aM bF hL
   refine OV aM rfl (zAb) <| OW.nil <| zAl <| OV (IV s_l1.2.2.2) rfl (zAo bD) <| OV (IV (w64 (s_l1.2.2.2 + 1))) rfl (zBe rfl rfl) <| OV (IV (w64 (s_l1.2.2.2 + 1))) rfl (zAb) <| OW.nil ?_
   have hL := hL.sl [2, 3, 4, 5] rfl
   obtain rfl := oi hm
   exact ⟨_, rfl, ⟨aM, bF, aZ, bA, bB, rfl, rfl, hL⟩⟩
 refine zA0 ?_
 refine zBk ?_
 obtain rfl := oi hm
 exact ⟨_, rfl, ⟨aA, aD, aE, aH, aI, aJ, aF, hL⟩⟩

theorem zKj (w0 : World) {b1 : Nat} {v2 : Value} (a0 : Src) (h3 : rdL (fun k => k < w0.heap.size ∧ ¬ (Ent.blk b1 92 #[v2, .int .i64 a0.at_, .int .i64 a0.seed]).S k) w0 v2 a0.code) (he4 : (Ent.blk b1 92 #[v2, .int .i64 a0.at_, .int .i64 a0.seed]).H w0) {r : (Series) × (Int × Int)} (hm : zGT a0 = some r) :
    Calls Tryz.prog 72 #[(PV b1 0)] w0 fun e w' => ∃ (rv0 : Value) (rS0 : Nat → Prop), e = .returned (.agg #[(IV r.1.Boats), (IV r.1.Scheme), rv0]) ∧ Mut w0 w' (Ent.blk b1 92 #[v2, .int .i64 a0.at_, .int .i64 a0.seed]).S [Ent.blk b1 92 #[v2, .int .i64 r.2.1, .int .i64 r.2.2], Ent.own 101 rS0 rv0 r.1.Races] := by
 unfold zGT at hm
 refine zAD (args := [(PV b1 0)]) Tryz.func72 rfl rfl rfl ?_
 have hL := zDc he4
 refine CSR ?_
 refine zAa (zBb (cs := #[(IV 0), (IV 0), (.slice none 0 0)]) hL zA5 rfl rfl ?_)
 intro wd5 b6 hL
 refine ONR <| OV (PV b1 0) rfl (zAe) ?_
 obtain ⟨x7, hx8, hm⟩ := zAs hm
 refine zAa (OP.call rfl (zAq (vs := [(PV b1 0)]) zQc ⟨rfl, trivial⟩) (zKx _ (Src.mk a0.code a0.at_ a0.seed) (hL.exZ 2 1 (by decide) rfl rfl h3) (hL.get 1 rfl) hx8) ?_)
 rintro e9 dW ⟨rfl, cH⟩
 refine ⟨_, rfl, ?_⟩
 have hL := hL.mut 1 rfl cH
 simp only [lA, lB, lC, lD] at hL
 refine OV (IV x7.1) rfl (zAb) <| ONR <| OV (IV x7.1) rfl (zAe) <| OV (PV b1 0) rfl (zAe) ?_
 obtain ⟨aB, cI, hm⟩ := zAs hm
 refine zAa (OP.call rfl (zAq (vs := [(PV b1 0), (IV 2)]) zA6 ⟨rfl, rfl, trivial⟩) (zAu _ (Src.mk a0.code x7.2.1 x7.2.2) (hL.exZ 2 1 (by decide) rfl rfl h3) (hL.get 1 rfl) 2 cI) ?_)
 rintro fE dX ⟨rfl, cJ⟩
 refine ⟨_, rfl, ?_⟩
 have hL := hL.mut 1 rfl cJ
 simp only [lA, lB, lC, lD] at hL
 refine zAa (zM2 (α := Finish) Race hL U36 zBd rfl ?_)
 intro dY aC aW hL
 refine OV (.agg #[(IV x7.1), (IV aB.1), aC]) rfl (zCB zL7 (ps := [(0, (IV x7.1)), (1, (IV aB.1)), (2, aC)]) ⟨⟨rfl, rfl⟩, ⟨rfl, rfl⟩, ⟨rfl, rfl⟩, trivial⟩ (by simp [Instr.fill, zBJ, zBA, zBi, zBK, zBo, zBc, (zAY (hL.rdO 0 rfl))])) ?_
 refine zAa (zBb (cs := #[(IV 0), (IV 0), (.slice none 0 0)]) hL zA5 rfl rfl ?_)
 intro dZ aE hL
 refine zAa (zA9 (l := [(IV x7.1), (IV aB.1), aC]) (cs' := #[(IV x7.1), (IV aB.1), aC]) hL 0 rfl zA5 rfl rfl (fc ⟨rfl, (fc ⟨rfl, (fc ⟨zBI (hL.rdO 1 rfl), fz⟩)⟩)⟩) rfl (nle rfl) rfl ?_)
 intro eA hL
 refine ONR ?_
 refine zAa (zM2 (α := Finish) Race hL U36 zBd rfl ?_)
 intro eB cF dB hL
 refine OV cF rfl (zAb) <| ONS <| CSR <| OV (PV b1 0) rfl (zAe) ?_
 obtain ⟨dC, cK, hm⟩ := zAs hm
 refine zAa (OP.call rfl (zAq (vs := [(PV b1 0), (IV 7)]) zA6 ⟨rfl, rfl, trivial⟩) (zAu _ (Src.mk a0.code aB.2.1 aB.2.2) (hL.exZ 5 4 (by decide) rfl rfl h3) (hL.get 4 rfl) 7 cK) ?_)
 rintro fF eC ⟨rfl, cM⟩
 refine ⟨_, rfl, ?_⟩
 have hL := hL.mut 4 rfl cM
 simp only [lA, lB, lC, lD] at hL
 refine OV (IV dC.1) rfl (zAb) <| OW.nil ?_
 obtain ⟨fG, cN, hm⟩ := zAs hm
 refine zAU (fun (s_l1 : Int × Int × (List Race) × Int) F w => ∃ aG aH, F 0 = (PV b1 0) ∧ F 2 = (PV b6 0) ∧ F 3 = (IV x7.1) ∧ F 4 = (PV aE 0) ∧ F 5 = aG ∧ F 6 = (IV s_l1.2.2.2) ∧ Hp w0 [Ent.own 101 aH aG s_l1.2.2.1, Ent.blk aE 38 #[(IV x7.1), (IV aB.1), aC], Ent.own 101 aW aC ([] : List Race), Ent.blk b6 38 #[(IV 0), (IV 0), (.slice none 0 0)], Ent.blk b1 92 #[v2, (IV s_l1.1), (IV s_l1.2.1)], zAS w0 (Ent.blk b1 92 #[v2, .int .i64 a0.at_, .int .i64 a0.seed]).S] w) (fun o => zBh o (fun x => some x) (fun s => zDQ a0 x7 aB s) = some r) cN hm ⟨cF, dB, rfl, rfl, rfl, rfl, rfl, rfl, hL⟩ ?_ ?_
 · intro s_l1 fH eD hJ hm
   have hm := zBD hm
   have hm : zDQ a0 x7 aB s_l1 = some r := hm
   unfold zDQ at hm
   obtain ⟨aG, aH, bA, aX, cG, aM, aY, fI, hL⟩ := hJ
   refine zAM (fun (s_j1 : Int × Int × Int × (List Race)) F w => ∃ aD aN, F 2 = (PV b6 0) ∧ F 4 = (PV aE 0) ∧ F 5 = aD ∧ Hp w0 [Ent.own 101 aN aD s_j1.2.2.2, Ent.blk aE 38 #[(IV x7.1), (IV s_j1.2.2.1), aC], Ent.own 101 aW aC ([] : List Race), Ent.blk b6 38 #[(IV 0), (IV 0), (.slice none 0 0)], Ent.blk b1 92 #[v2, (IV s_j1.1), (IV s_j1.2.1)], zAS w0 (Ent.blk b1 92 #[v2, .int .i64 a0.at_, .int .i64 a0.seed]).S] w) (fun s_j1 => zHL x7 s_j1 = some r) ?_ ?_
   · refine CSR <| OV (PV b1 0) rfl (zAo bA) ?_
     obtain ⟨aA, bL, hm⟩ := zAs hm
     refine zAa (OP.call rfl (zAq (vs := [(PV b1 0), (IV 30)]) zA6 ⟨rfl, rfl, trivial⟩) (zAu _ (Src.mk a0.code s_l1.1 s_l1.2.1) (hL.exZ 5 4 (by decide) rfl rfl h3) (hL.get 4 rfl) 30 bL) ?_)
     rintro eE dD ⟨rfl, bM⟩
     refine ⟨_, rfl, ?_⟩
     have hL := hL.mut 4 rfl bM
     simp only [lA, lB, lC, lD] at hL
     refine OW.nil ?_
     refine zBG (fun (s_j2 : Int × Int × Int × (List Race)) F w => ∃ aJ aO, F 2 = (PV b6 0) ∧ F 4 = (PV aE 0) ∧ F 5 = aJ ∧ Hp w0 [Ent.own 101 aO aJ s_j2.2.2.2, Ent.blk aE 38 #[(IV x7.1), (IV s_j2.2.2.1), aC], Ent.own 101 aW aC ([] : List Race), Ent.blk b6 38 #[(IV 0), (IV 0), (.slice none 0 0)], Ent.blk b1 92 #[v2, (IV s_j2.1), (IV s_j2.2.1)], zAS w0 (Ent.blk b1 92 #[v2, .int .i64 a0.at_, .int .i64 a0.seed]).S] w) (fun s_j2 => zCh x7 s_j2 = some r) ?_ ?_
     · refine CSR <| OV (.bool (aA.1 == 0)) rfl (zBv rfl rfl) <| OV (.bool (aA.1 == 0)) rfl (zAb) <| OW.nil ?_
       refine zAn (t := aA.1 == 0) rfl hm (fun bN hm => ?_) (fun bN hm => ?_)
       · refine zAl <| OV (PV aE 1) rfl (zAc (fsz := 1) 0 1 1 U38 rfl zAf rfl aM rfl) ?_
         refine zAa (zEt (cs' := #[(IV x7.1), (IV 2), aC]) hL 1 rfl zAf rfl rfl rfl rfl rfl ?_)
         intro dE hL
         refine OW.nil ?_
         exact ⟨(aA.2.1, aA.2.2, 2, s_l1.2.2.1), hm, ⟨aG, aH, aX, aM, aY, hL⟩⟩
       refine CSR <| OV (.bool (aA.1 == 1)) rfl (zBv rfl rfl) <| OV (.bool (aA.1 == 1)) rfl (zAb) <| OW.nil ?_
       refine zAn (t := aA.1 == 1) rfl hm (fun bO hm => ?_) (fun bO hm => ?_)
       · refine zAl <| OV aG rfl (zAo aY) <| OV (PV b1 0) rfl (zAo bA) <| OV (IV x7.1) rfl (zAo cG) <| OV (IV (w64 (x7.1 + 1))) rfl (zBe rfl rfl) ?_
         obtain ⟨aK, bP, hm⟩ := zAs hm
         refine zAa (OP.call rfl (zAq (vs := [(PV b1 0), (IV (w64 (x7.1 + 1)))]) zMu ⟨rfl, rfl, trivial⟩) (zId _ (Src.mk a0.code aA.2.1 aA.2.2) (hL.exZ 5 4 (by decide) rfl rfl h3) (hL.get 4 rfl) (w64 (x7.1 + 1)) bP) ?_)
         rintro eF dF ⟨eG, eH, rfl, bQ⟩
         refine ⟨_, rfl, ?_⟩
         have hL := hL.mut 4 rfl bQ
         simp only [lA, lB, lC, lD] at hL
         refine zAa (zBP (Race.mk aK.1.Finishes) rfl hL U36 zBd rfl rfl ?_)
         intro dG eI eJ hL
         obtain ⟨bR, hm⟩ := zEs hm
         have hL := hL.sl [1, 0, 2, 3, 4, 5, 6] rfl
         refine zAa (zEF Finish hL U36 zBd rfl rfl rfl bR (by decide) rfl ?_)
         intro dH bB cO hL
         refine OV bB rfl (zAb) <| OW.nil ?_
         exact ⟨(aK.2.1, aK.2.2, aB.1, s_l1.2.2.1 ++ ([(Race.mk aK.1.Finishes)] : List Race)), hm, ⟨bB, cO, aX, aM, rfl, hL⟩⟩
       refine CSR <| OV (.bool (aA.1 == 2)) rfl (zBv rfl rfl) <| OV (.bool (aA.1 == 2)) rfl (zAb) <| OW.nil ?_
       refine zAn (t := aA.1 == 2) rfl hm (fun bS hm => ?_) (fun bS hm => ?_)
       · refine zAF ?_
         obtain ⟨eK, bT, hm⟩ := zAs hm
         refine zAU (fun (s_l2 : Int × Int × (List Race)) F w => ∃ aF aI, F 0 = (PV b1 0) ∧ F 2 = (PV b6 0) ∧ F 3 = (IV x7.1) ∧ F 4 = (PV aE 0) ∧ F 5 = aF ∧ Hp w0 [Ent.own 101 aI aF s_l2.2.2, Ent.blk aE 38 #[(IV x7.1), (IV aB.1), aC], Ent.own 101 aW aC ([] : List Race), Ent.blk b6 38 #[(IV 0), (IV 0), (.slice none 0 0)], Ent.blk b1 92 #[v2, (IV s_l2.1), (IV s_l2.2.1)], zAS w0 (Ent.blk b1 92 #[v2, .int .i64 a0.at_, .int .i64 a0.seed]).S] w) (fun o => zBh o (fun x => some x) (fun s => zDO a0 x7 aB s) = some r) bT hm ⟨aG, aH, bA, aX, cG, aM, aY, hL⟩ ?_ ?_
         · intro s_l2 eL dI hJ hm
           have hm := zBD hm
           have hm : zDO a0 x7 aB s_l2 = some r := hm
           unfold zDO at hm
           obtain ⟨aF, aI, cP, cQ, eM, cR, cS, hL⟩ := hJ
           refine zAl <| OV aF rfl (zAo cS) <| OV (PV b1 0) rfl (zAo cP) ?_
           obtain ⟨aL, bU, hm⟩ := zAs hm
           refine zAa (OP.call rfl (zAq (vs := [(PV b1 0), (IV 2)]) zA6 ⟨rfl, rfl, trivial⟩) (zAu _ (Src.mk a0.code s_l2.1 s_l2.2.1) (hL.exZ 5 4 (by decide) rfl rfl h3) (hL.get 4 rfl) 2 bU) ?_)
           rintro eN dJ ⟨rfl, bV⟩
           refine ⟨_, rfl, ?_⟩
           have hL := hL.mut 4 rfl bV
           simp only [lA, lB, lC, lD] at hL
           refine OV (IV (w64 (12 + aL.1))) rfl (zBe rfl rfl) ?_
           obtain ⟨bW, hm⟩ := zEs hm
           obtain ⟨aP, aZ⟩ := zSk (hL.rdO 0 rfl) bW
           refine OV aP rfl (zQQ U36 zBd rfl rfl aZ) <| OV aP rfl (zAb) <| OW.nil ?_
           have hL := hL.prefix 0 rfl aZ
           exact ⟨(aL.2.1, aL.2.2, aB.1, zNN s_l2.2.2 0 (w64 (12 + aL.1))), hm, ⟨aP, aI, cQ, cR, rfl, hL⟩⟩
         intro s_l2 eO dK eP hJ hm dL
         unfold zDP at hm
         obtain ⟨aF, aI, aQ, bC, aR, bD, aS, hL⟩ := hJ
         refine zAF <| CSR <| OV aF rfl (zAo aS) <| OV (IV (s_l2.2.2.length : Int)) rfl (zA3 U36 rfl (hL.rdO 0 rfl)) <| OV (.bool (decide ((s_l2.2.2.length : Int) < 13))) rfl (zBE rfl rfl) <| OW.nil ?_
         refine zAn (t := decide ((s_l2.2.2.length : Int) < 13)) rfl hm (fun bX hm => ?_) (fun bX hm => ?_)
         · refine zAt <| CW.block <| zAl <| OV aF rfl (zAo aS) <| OV (PV b1 0) rfl (zAo aQ) <| OV (IV x7.1) rfl (zAo aR) ?_
           obtain ⟨cT, bY, hm⟩ := zAs hm
           refine zAa (OP.call rfl (zAq (vs := [(PV b1 0), (IV x7.1)]) zMu ⟨rfl, rfl, trivial⟩) (zId _ (Src.mk a0.code s_l2.1 s_l2.2.1) (hL.exZ 5 4 (by decide) rfl rfl h3) (hL.get 4 rfl) x7.1 bY) ?_)
           rintro eQ dM ⟨eR, eS, rfl, bZ⟩
           refine ⟨_, rfl, ?_⟩
           have hL := hL.mut 4 rfl bZ
           simp only [lA, lB, lC, lD] at hL
           refine zAa (zBP (Race.mk cT.1.Finishes) rfl hL U36 zBd rfl rfl ?_)
           intro dN eT eU hL
           obtain ⟨cA, hm⟩ := zEs hm
           have hL := hL.sl [1, 0, 2, 3, 4, 5, 6] rfl
           refine zAa (zEF Finish hL U36 zBd rfl rfl rfl cA (by decide) rfl ?_)
           intro dO bE cU hL
           refine OV bE rfl (zAb) <| OW.nil ?_
           obtain rfl := oi hm
           exact ⟨_, rfl, ⟨bE, cU, aQ, bC, aR, bD, rfl, hL⟩⟩
         refine zA0 ?_
         refine zBk ?_
         obtain rfl := oi hm
         exact ⟨_, rfl, ⟨aF, aI, aQ, bC, aR, bD, aS, hL⟩⟩
       refine zAt ?_
       exact ⟨(aA.2.1, aA.2.2, aB.1, s_l1.2.2.1), hm, ⟨aG, aH, aX, aM, aY, hL⟩⟩
     intro s_j2 eV dP hJ hm
     unfold zCh at hm
     obtain ⟨aJ, aO, cV, cW, cX, hL⟩ := hJ
     exact ⟨(s_j2.1, s_j2.2.1, s_j2.2.2.1, s_j2.2.2.2), hm, ⟨aJ, aO, cV, cW, cX, hL⟩⟩
   intro s_j1 eW dQ hJ hm
   unfold zHL at hm
   obtain ⟨aD, aN, bF, bG, cY, hL⟩ := hJ
   refine CSR <| OV (PV aE 0) rfl (zAc (fsz := 1) 0 0 0 U38 rfl zAf rfl bG rfl) <| OV (IV x7.1) rfl (zAd U2 rfl rfl (hL.cellB 1 rfl rfl)) <| OV (PV aE 1) rfl (zAc (fsz := 1) 0 1 1 U38 rfl zAf rfl bG rfl) <| OV (IV s_j1.2.2.1) rfl (zAd U2 rfl rfl (hL.cellB 1 rfl rfl)) <| OV aD rfl (zAo cY) <| OV (.agg #[(IV x7.1), (IV s_j1.2.2.1), aD]) rfl (zCB zL7 (ps := [(0, (IV x7.1)), (1, (IV s_j1.2.2.1)), (2, aD)]) ⟨⟨rfl, rfl⟩, ⟨rfl, rfl⟩, ⟨rfl, rfl⟩, trivial⟩ (by simp [Instr.fill, zBJ, zBA, zBi, zBK, zBo, zBc, (zAY (hL.rdO 0 rfl))])) ?_
   refine zAa (zA9 (l := [(IV x7.1), (IV s_j1.2.2.1), aD]) (cs' := #[(IV x7.1), (IV s_j1.2.2.1), aD]) hL 3 rfl zA5 bF rfl (fc ⟨rfl, (fc ⟨rfl, (fc ⟨zBI (hL.rdO 0 rfl), fz⟩)⟩)⟩) rfl (nle rfl) rfl ?_)
   intro dR hL
   refine OW.nil <| zAx ?_
   obtain rfl := oi hm
   exact RRc rfl bF (zCN U38 zA5 (hL.get 3 rfl) rfl) ⟨aD, aN, rfl, hL.mutOut 5 rfl [4, 0] (by decide) (by decide) rfl⟩
 intro s_l1 eX dS fJ hJ hm eY
 unfold zCJ at hm
 obtain ⟨aG, aH, aT, bH, aU, bI, bJ, aV, hL⟩ := hJ
 refine zAF <| CSR <| OV (IV s_l1.2.2.2) rfl (zAo aV) <| OV (.bool (decide (0 < s_l1.2.2.2))) rfl (zIq rfl rfl) <| OW.nil ?_
 refine zAn (t := decide (0 < s_l1.2.2.2)) rfl hm (fun cB hm => ?_) (fun cB hm => ?_)
 · refine zAt <| zAF <| CW.block <| zAl <| OV aG rfl (zAo bJ) <| OV (PV b1 0) rfl (zAo aT) <| OV (IV x7.1) rfl (zAo aU) ?_
   obtain ⟨cZ, cC, hm⟩ := zAs hm
   refine zAa (OP.call rfl (zAq (vs := [(PV b1 0), (IV x7.1)]) zMu ⟨rfl, rfl, trivial⟩) (zId _ (Src.mk a0.code s_l1.1 s_l1.2.1) (hL.exZ 5 4 (by decide) rfl rfl h3) (hL.get 4 rfl) x7.1 cC) ?_)
   rintro eZ dT ⟨fA, fB, rfl, cD⟩
   refine ⟨_, rfl, ?_⟩
   have hL := hL.mut 4 rfl cD
   simp only [lA, lB, lC, lD] at hL
   refine zAa (zBP (Race.mk cZ.1.Finishes) rfl hL U36 zBd rfl rfl ?_)
   intro dU fC fD hL
   obtain ⟨cE, hm⟩ := zEs hm
   have hL := hL.sl [1, 0, 2, 3, 4, 5, 6] rfl
   refine zAa (zEF Finish hL U36 zBd rfl rfl rfl cE (by decide) rfl ?_)
   intro dV bK dA hL
   refine OV bK rfl (zAb) <| OW.nil <| zAl <| OV (IV s_l1.2.2.2) rfl (zAo aV) <| OV (IV (w64 (s_l1.2.2.2 - 1))) rfl (zCn rfl rfl) <| OV (IV (w64 (s_l1.2.2.2 - 1))) rfl (zAb) <| OW.nil ?_
   obtain rfl := oi hm
   exact ⟨_, rfl, ⟨bK, dA, aT, bH, aU, bI, rfl, rfl, hL⟩⟩
 refine zA0 ?_
 refine zBk ?_
 obtain rfl := oi hm
 exact ⟨_, rfl, ⟨aG, aH, aT, bH, aU, bI, bJ, aV, hL⟩⟩

theorem zBw (w0 : World) (a0 : Int) (a1 : Int) (a2 : Int) {r : Bool} (hm : zBt a0 a1 a2 = some r) :
    Calls Tryz.prog 48 #[(IV a0), (IV a1), (IV a2)] w0 fun e w' => e = .returned (.bool r) ∧ Fresh w0 w' [] := by
 unfold zBt at hm
 refine zAD (args := [(IV a0), (IV a1), (IV a2)]) Tryz.func48 rfl rfl rfl ?_
 have hL := zAJ w0
 refine CSR <| OV (.bool false) rfl (zAb) <| OW.nil ?_
 refine zAM (fun (s_j1 : Bool) F w => F 6 = (.bool s_j1) ∧ Hp w0 [zAg w0 w0.heap.size] w) (fun s_j1 => zH4 s_j1 = some r) ?_ ?_
 · refine zAl <| OV (IV a0) rfl (zAe) <| OV (IV a1) rfl (zAe) <| OV (.bool (decide (a1 ≤ a0))) rfl (zKf rfl rfl) <| OV (.bool (decide (a1 ≤ a0))) rfl (zAe) ?_
   refine zAH hm (fun hb5 hm => ?_) (fun hb5 hm => ?_)
   · refine zAa (zAj rfl rfl hb5 (zAk (v := (IV a0)) rfl (zAe) ?_))
     refine zAa (zAj rfl rfl hb5 (zAk (v := (IV a2)) rfl (zAe) ?_))
     refine zAa (zAj rfl rfl hb5 (zAk (v := (.bool (decide (a0 ≤ a2)))) rfl (zKe rfl rfl) ?_))
     refine OV (.bool (decide (a0 ≤ a2))) rfl (zAz rfl hb5 rfl) <| OV (.bool (decide (a0 ≤ a2))) rfl (zAb) <| OW.nil ?_
     exact ⟨decide (a0 ≤ a2), hm, ⟨rfl, hL⟩⟩
   refine zAa (zAh rfl rfl hb5 rfl ?_)
   refine zAa (zAh rfl rfl hb5 rfl ?_)
   refine zAa (zAh rfl rfl hb5 rfl ?_)
   refine OV (.bool false) rfl (zAA rfl hb5 rfl) <| OV (.bool false) rfl (zAb) <| OW.nil ?_
   exact ⟨false, hm, ⟨rfl, hL⟩⟩
 intro s_j1 F2 wd3 hJ hm
 unfold zH4 at hm
 obtain ⟨f4, hL⟩ := hJ
 refine zAx ?_
 obtain rfl := oi hm
 exact RR1 rfl f4 ⟨rfl, hL.fresh 0 rfl [] (by decide) (by decide) rfl⟩

theorem zMc (w0 : World) (a0 : Int) {r : Bool} (hm : zHC a0 = some r) :
    Calls Tryz.prog 96 #[(IV a0)] w0 fun e w' => e = .returned (.bool r) ∧ Fresh w0 w' [] := by
 unfold zHC at hm
 refine zAD (args := [(IV a0)]) Tryz.func96 rfl rfl rfl ?_
 have hL := zAJ w0
 refine CSR <| OV (.bool false) rfl (zAb) <| ONR <| OV (IV a0) rfl (zAe) ?_
 obtain ⟨x1, hx2, hm⟩ := zAs hm
 refine zAa (OP.call rfl (zAq (vs := [(IV a0), (IV 0), (IV 9)]) zEw ⟨rfl, rfl, rfl, trivial⟩) (zBw _ a0 0 9 hx2) ?_)
 rintro e3 wd4 ⟨rfl, hF5⟩
 refine ⟨_, rfl, ?_⟩
 have hL := hL.pushAll hF5
 simp only [lA, lB, lC, lD] at hL
 refine OV (.bool x1) rfl (zAb) <| OW.nil <| zAx ?_
 obtain rfl := oi hm
 exact RR1 rfl rfl ⟨rfl, hL.fresh 0 rfl [] (by decide) (by decide) rfl⟩

theorem zMd (w0 : World) (a0 : Int) (a1 : Race) {v1 : Value} (h2 : rdL (· < w0.heap.size) w0 v1 a1.Finishes) {r : Bool} (hm : zIt a0 a1 = some r) :
    Calls Tryz.prog 110 #[(IV a0), (.agg #[v1])] w0 fun e w' => e = .returned (.bool r) ∧ Fresh w0 w' [] := by
 unfold zIt at hm
 refine zAD (args := [(IV a0), (.agg #[v1])]) Tryz.func110 rfl rfl rfl ?_
 have hL := zAJ w0
 refine CSR ?_
 refine zAa (zC3 (cs := #[v1]) hL rfl rfl rfl ?_)
 intro wd3 b4 hL
 refine OV (.bool false) rfl (zAb) <| ONS <| CSR <| OV (PV b4 0) rfl (zAc (fsz := 1) 0 0 0 zIJ rfl zCr rfl rfl rfl) <| OV v1 rfl (zAd U99 rfl rfl (hL.cellB 0 rfl rfl)) <| OV (IV (a1.Finishes.length : Int)) rfl (zA3 U99 rfl (hL.rdS 1 rfl h2)) <| OV (IV a0) rfl (zAe) <| OV (.bool ((a1.Finishes.length : Int) != a0)) rfl (zDk rfl rfl) <| OW.nil ?_
 refine zAn (t := (a1.Finishes.length : Int) != a0) rfl hm (fun hb5 hm => ?_) (fun hb5 hm => ?_)
 · refine CSR <| OV (.bool false) rfl (zAb) <| OW.nil <| zAx ?_
   obtain rfl := oi hm
   exact RR1 rfl rfl ⟨rfl, hL.fresh 1 rfl [] (by decide) (by decide) rfl⟩
 refine zAt <| zAF <| CSR <| OV (IV 0) rfl (zAb) <| OW.nil ?_
 obtain ⟨bQ, aS, hm⟩ := zAs hm
 refine zAU (fun (s_l1 : Int) F w => F 3 = (PV b4 0) ∧ F 5 = (IV s_l1) ∧ Hp w0 [Ent.blk b4 101 #[v1], zAg w0 w0.heap.size] w) (fun o => zBh o (fun x => some x) (fun s => zGH s) = some r) aS hm ⟨rfl, rfl, hL⟩ ?_ ?_
 · intro s_l1 bR bI hJ hm
   have hm := zBD hm
   have hm : zGH s_l1 = some r := hm
   unfold zGH at hm
   obtain ⟨bS, bT, hL⟩ := hJ
   refine CSR <| OV (.bool true) rfl (zAb) <| OW.nil <| zAx ?_
   obtain rfl := oi hm
   exact RR1 rfl rfl ⟨rfl, hL.fresh 1 rfl [] (by decide) (by decide) rfl⟩
 intro s_l1 bU bJ aR hJ hm aP
 unfold zGJ at hm
 obtain ⟨aJ, aH, hL⟩ := hJ
 refine zAF <| CSR <| OV (IV s_l1) rfl (zAo aH) <| OV (PV b4 0) rfl (zAc (fsz := 1) 0 0 0 zIJ rfl zCr rfl aJ rfl) <| OV v1 rfl (zAd U99 rfl rfl (hL.cellB 0 rfl rfl)) <| OV (IV (a1.Finishes.length : Int)) rfl (zA3 U99 rfl (hL.rdS 1 rfl h2)) <| OV (.bool (decide (s_l1 < (a1.Finishes.length : Int)))) rfl (zBE rfl rfl) <| OW.nil ?_
 refine zAn (t := decide (s_l1 < (a1.Finishes.length : Int))) rfl hm (fun aT hm => ?_) (fun aT hm => ?_)
 · refine zAt <| zAF <| CW.block <| CSR <| OV (PV b4 0) rfl (zAc (fsz := 1) 0 0 0 zIJ rfl zCr rfl aJ rfl) <| OV v1 rfl (zAd U99 rfl rfl (hL.cellB 0 rfl rfl)) <| OV (IV s_l1) rfl (zAo aH) ?_
   obtain ⟨aA, aU, hm⟩ := zAs hm
   obtain ⟨aV, aQ⟩ := zAZ aU
   obtain ⟨bC, bD, aM⟩ := zAC (hL.rdS 1 rfl h2) aV aQ
   refine OV (.pointer (some ⟨bC, bD, none⟩)) rfl (zA1 U99 zAP rfl rfl aM) <| OV (.agg #[(IV aA.Boat), (IV aA.Code), (IV aA.Time)]) rfl (zAW (cs := [(IV aA.Boat), (IV aA.Code), (IV aA.Time)]) zFd zAP rfl rfl (zAv (hL.rdS 1 rfl h2) aM aQ)) ?_
   refine zAa (zBb (cs := #[(IV 0), (IV 0), (IV 0)]) hL zAP rfl rfl ?_)
   intro bK aG hL
   refine zAa (zA9 (l := [(IV aA.Boat), (IV aA.Code), (IV aA.Time)]) (cs' := #[(IV aA.Boat), (IV aA.Code), (IV aA.Time)]) hL 0 rfl zAP rfl rfl (fc ⟨rfl, (fc ⟨rfl, (fc ⟨rfl, fz⟩)⟩)⟩) rfl (nle rfl) rfl ?_)
   intro bL hL
   refine ONS ?_
   refine zAM (fun (s_j1 : Bool) F w => F 3 = (PV b4 0) ∧ F 5 = (IV s_l1) ∧ F 6 = (PV aG 0) ∧ F 33 = (.bool s_j1) ∧ Hp w0 [Ent.blk aG 103 #[(IV aA.Boat), (IV aA.Code), (IV aA.Time)], Ent.blk b4 101 #[v1], zAg w0 w0.heap.size] w) (fun s_j1 => zGI s_l1 aA s_j1 = some aR) ?_ ?_
   · refine zAl <| OV (PV aG 0) rfl (zAc (fsz := 1) 0 0 0 zFd rfl zAf rfl rfl rfl) <| OV (IV aA.Boat) rfl (zAd U2 rfl rfl (hL.cellB 0 rfl rfl)) <| OV (IV s_l1) rfl (zAo aH) <| OV (.bool (aA.Boat != s_l1)) rfl (zDk rfl rfl) <| OV (.bool (aA.Boat != s_l1)) rfl (zAe) ?_
     refine zAH hm (fun aC hm => ?_) (fun aC hm => ?_)
     · refine zAa (zAh rfl rfl aC rfl ?_)
       refine zAa (zAh rfl rfl aC rfl ?_)
       refine zAa (zAh rfl rfl aC rfl ?_)
       refine zAa (zAh rfl rfl aC rfl ?_)
       refine OV (.bool true) rfl (zAz rfl aC rfl) <| OW.nil ?_
       exact ⟨true, hm, ⟨aJ, aH, rfl, rfl, hL⟩⟩
     refine zAa (zAj rfl rfl aC (zAk (v := (PV aG 1)) rfl (zAc (fsz := 1) 0 1 1 zFd rfl zAf rfl rfl rfl) ?_))
     refine zAa (zAj rfl rfl aC (zAk (v := (IV aA.Code)) rfl (zAd U2 rfl rfl (hL.cellB 0 rfl rfl)) ?_))
     obtain ⟨aN, aW, hm⟩ := zAs hm
     refine zAa (zAj rfl rfl aC (OP.call rfl (zAq (vs := [(IV aA.Code)]) zRM ⟨rfl, trivial⟩) (zMc _ aA.Code aW) ?_))
     rintro bV bM ⟨rfl, aX⟩
     refine ⟨_, rfl, ?_⟩
     have hL := hL.pushAll aX
     simp only [lA, lB, lC, lD] at hL
     refine zAa (zAj rfl rfl aC (zAk (v := (.bool (!aN))) rfl (zCb rfl) ?_))
     refine OV (.bool (!aN)) rfl (zAA rfl aC rfl) <| OW.nil ?_
     exact ⟨!aN, hm, ⟨aJ, aH, rfl, rfl, hL⟩⟩
   intro s_j1 bW bN hJ hm
   unfold zGI at hm
   obtain ⟨aK, aL, aI, bE, hL⟩ := hJ
   refine zAn (t := s_j1) bE hm (fun aY hm => ?_) (fun aY hm => ?_)
   · refine CSR <| OV (.bool false) rfl (zAb) <| OW.nil <| zAx ?_
     obtain rfl := oi hm
     have hm := aP _ rfl
     obtain rfl := oi hm
     exact RR1 rfl rfl ⟨rfl, hL.fresh 2 rfl [] (by decide) (by decide) rfl⟩
   refine zAt ?_
   refine zAM (fun (s_j2 : Bool) F w => F 3 = (PV b4 0) ∧ F 5 = (IV s_l1) ∧ F 52 = (.bool s_j2) ∧ Hp w0 [Ent.blk aG 103 #[(IV aA.Boat), (IV aA.Code), (IV aA.Time)], Ent.blk b4 101 #[v1], zAg w0 w0.heap.size] w) (fun s_j2 => zDl s_l1 s_j2 = some aR) ?_ ?_
   · refine zAl <| OV (PV aG 1) rfl (zAc (fsz := 1) 0 1 1 zFd rfl zAf rfl aI rfl) <| OV (IV aA.Code) rfl (zAd U2 rfl rfl (hL.cellB 0 rfl rfl)) <| OV (.bool (aA.Code == 0)) rfl (zBv rfl rfl) <| OV (.bool (aA.Code == 0)) rfl (zAe) ?_
     refine zAH hm (fun aD hm => ?_) (fun aD hm => ?_)
     · refine zAa (zAj rfl rfl aD (zAk (v := (PV aG 2)) rfl (zAc (fsz := 1) 0 2 2 zFd rfl zAf rfl aI rfl) ?_))
       refine zAa (zAj rfl rfl aD (zAk (v := (IV aA.Time)) rfl (zAd U2 rfl rfl (hL.cellB 0 rfl rfl)) ?_))
       obtain ⟨aO, aZ, hm⟩ := zAs hm
       refine zAa (zAj rfl rfl aD (OP.call rfl (zAq (vs := [(IV aA.Time), (IV 1), (IV 1000000000)]) zEw ⟨rfl, rfl, rfl, trivial⟩) (zBw _ aA.Time 1 1000000000 aZ) ?_))
       rintro bX bO ⟨rfl, bA⟩
       refine ⟨_, rfl, ?_⟩
       have hL := hL.pushAll bA
       simp only [lA, lB, lC, lD] at hL
       refine zAa (zAj rfl rfl aD (zAk (v := (.bool (!aO))) rfl (zCb rfl) ?_))
       refine OV (.bool (!aO)) rfl (zAz rfl aD rfl) <| OV (.bool (!aO)) rfl (zAe) ?_
       refine zAH hm (fun aB hm => ?_) (fun aB hm => ?_)
       · refine zAa (zAh rfl rfl aB rfl ?_)
         refine zAa (zAh rfl rfl aB rfl ?_)
         refine zAa (zAh rfl rfl aB rfl ?_)
         refine zAa (zAh rfl rfl aB rfl ?_)
         refine zAa (zHT rfl rfl rfl ?_)
         refine zAa (zHT rfl rfl rfl ?_)
         refine zAa (zHT rfl rfl rfl ?_)
         refine zAa (zAh rfl rfl aB rfl ?_)
         refine OV (.bool true) rfl (zAz rfl aB rfl) <| OW.nil ?_
         exact ⟨true, hm, ⟨aK, aL, rfl, hL⟩⟩
       refine zAa (zAj rfl rfl aB (zAk (v := (PV aG 1)) rfl (zAc (fsz := 1) 0 1 1 zFd rfl zAf rfl aI rfl) ?_))
       refine zAa (zAj rfl rfl aB (zAk (v := (IV aA.Code)) rfl (zAd U2 rfl rfl (hL.cellB 0 rfl rfl)) ?_))
       refine zAa (zAj rfl rfl aB (zAk (v := (.bool (aA.Code != 0))) rfl (zDk rfl rfl) ?_))
       refine zAa (zAj rfl rfl aB (zAk (v := (.bool (aA.Code != 0))) rfl (zAe) ?_))
       refine zAH hm (fun aE hm => ?_) (fun aE hm => ?_)
       · refine zAa (zAj rfl rfl aE (zAk (v := (PV aG 2)) rfl (zAc (fsz := 1) 0 2 2 zFd rfl zAf rfl aI rfl) ?_))
         refine zAa (zAj rfl rfl aE (zAk (v := (IV aA.Time)) rfl (zAd U2 rfl rfl (hL.cellB 0 rfl rfl)) ?_))
         refine zAa (zAj rfl rfl aE (zAk (v := (.bool (aA.Time != 0))) rfl (zDk rfl rfl) ?_))
         refine zAa (zAj rfl rfl aB (zAk (v := (.bool (aA.Time != 0))) rfl (zAz rfl aE rfl) ?_))
         refine OV (.bool (aA.Time != 0)) rfl (zAA rfl aB rfl) <| OW.nil ?_
         exact ⟨aA.Time != 0, hm, ⟨aK, aL, rfl, hL⟩⟩
       refine zAa (zAh rfl rfl aE rfl ?_)
       refine zAa (zAh rfl rfl aE rfl ?_)
       refine zAa (zAh rfl rfl aE rfl ?_)
       refine zAa (zAj rfl rfl aB (zAk (v := (.bool false)) rfl (zAA rfl aE rfl) ?_))
       refine OV (.bool false) rfl (zAA rfl aB rfl) <| OW.nil ?_
       exact ⟨false, hm, ⟨aK, aL, rfl, hL⟩⟩
     refine zAa (zAh rfl rfl aD rfl ?_)
     refine zAa (zAh rfl rfl aD rfl ?_)
     refine zAa (zAh rfl rfl aD rfl ?_)
     refine zAa (zAh rfl rfl aD rfl ?_)
     refine OV (.bool false) rfl (zAA rfl aD rfl) <| OV (.bool false) rfl (zAe) ?_
     refine zAa (zAj rfl rfl rfl (zAk (v := (PV aG 1)) rfl (zAc (fsz := 1) 0 1 1 zFd rfl zAf rfl aI rfl) ?_))
     refine zAa (zAj rfl rfl rfl (zAk (v := (IV aA.Code)) rfl (zAd U2 rfl rfl (hL.cellB 0 rfl rfl)) ?_))
     refine zAa (zAj rfl rfl rfl (zAk (v := (.bool (aA.Code != 0))) rfl (zDk rfl rfl) ?_))
     refine zAa (zAj rfl rfl rfl (zAk (v := (.bool (aA.Code != 0))) rfl (zAe) ?_))
     refine zAH hm (fun aF hm => ?_) (fun aF hm => ?_)
     · refine zAa (zAj rfl rfl aF (zAk (v := (PV aG 2)) rfl (zAc (fsz := 1) 0 2 2 zFd rfl zAf rfl aI rfl) ?_))
       refine zAa (zAj rfl rfl aF (zAk (v := (IV aA.Time)) rfl (zAd U2 rfl rfl (hL.cellB 0 rfl rfl)) ?_))
       refine zAa (zAj rfl rfl aF (zAk (v := (.bool (aA.Time != 0))) rfl (zDk rfl rfl) ?_))
       refine zAa (zAj rfl rfl rfl (zAk (v := (.bool (aA.Time != 0))) rfl (zAz rfl aF rfl) ?_))
       refine OV (.bool (aA.Time != 0)) rfl (zAA rfl rfl rfl) <| OW.nil ?_
       exact ⟨aA.Time != 0, hm, ⟨aK, aL, rfl, hL⟩⟩
     refine zAa (zAh rfl rfl aF rfl ?_)
     refine zAa (zAh rfl rfl aF rfl ?_)
     refine zAa (zAh rfl rfl aF rfl ?_)
     refine zAa (zAj rfl rfl rfl (zAk (v := (.bool false)) rfl (zAA rfl aF rfl) ?_))
     refine OV (.bool false) rfl (zAA rfl rfl rfl) <| OW.nil ?_
     exact ⟨false, hm, ⟨aK, aL, rfl, hL⟩⟩
   intro s_j2 bY bP hJ hm
   unfold zDl at hm
   obtain ⟨bF, bG, bH, hL⟩ := hJ
   refine zAn (t := s_j2) bH hm (fun bB hm => ?_) (fun bB hm => ?_)
   · refine CSR <| OV (.bool false) rfl (zAb) <| OW.nil <| zAx ?_
     obtain rfl := oi hm
     have hm := aP _ rfl
     obtain rfl := oi hm
     exact RR1 rfl rfl ⟨rfl, hL.fresh 2 rfl [] (by decide) (by decide) rfl⟩
   refine zAt <| zAl <| OV (IV s_l1) rfl (zAo bG) <| OV (IV (w64 (s_l1 + 1))) rfl (zBe rfl rfl) <| OV (IV (w64 (s_l1 + 1))) rfl (zAb) <| OW.nil ?_
   have hL := hL.sl [1, 2] rfl
   obtain rfl := oi hm
   exact ⟨_, rfl, ⟨bF, rfl, hL⟩⟩
 refine zA0 ?_
 refine zBk ?_
 obtain rfl := oi hm
 exact ⟨_, rfl, ⟨aJ, aH, hL⟩⟩

theorem zJO (w0 : World) (a0 : Series) {v1 : Value} (h2 : rdL (· < w0.heap.size) w0 v1 a0.Races) {r : Bool} (hm : zGA a0 = some r) :
    Calls Tryz.prog 80 #[(.agg #[(IV a0.Boats), (IV a0.Scheme), v1])] w0 fun e w' => e = .returned (.bool r) ∧ Fresh w0 w' [] := by
 unfold zGA at hm
 refine zAD (args := [(.agg #[(IV a0.Boats), (IV a0.Scheme), v1])]) Tryz.func80 rfl rfl rfl ?_
 have hL := zAJ w0
 refine CSR ?_
 refine zAa (zC3 (cs := #[(IV a0.Boats), (IV a0.Scheme), v1]) hL rfl rfl rfl ?_)
 intro wd3 b4 hL
 refine OV (.bool false) rfl (zAb) <| ONS ?_
 refine zAM (fun (s_j1 : Bool) F w => F 1 = (PV b4 0) ∧ F 19 = (.bool s_j1) ∧ Hp w0 [Ent.blk b4 38 #[(IV a0.Boats), (IV a0.Scheme), v1], zAg w0 w0.heap.size] w) (fun s_j1 => zEI a0 s_j1 = some r) ?_ ?_
 · refine zAl <| OV (PV b4 0) rfl (zAc (fsz := 1) 0 0 0 U38 rfl zAf rfl rfl rfl) <| OV (IV a0.Boats) rfl (zAd U2 rfl rfl (hL.cellB 0 rfl rfl)) ?_
   obtain ⟨aI, aJ, hm⟩ := zAs hm
   refine zAa (OP.call rfl (zAq (vs := [(IV a0.Boats), (IV 1), (IV 16)]) zEw ⟨rfl, rfl, rfl, trivial⟩) (zBw _ a0.Boats 1 16 aJ) ?_)
   rintro bK bE ⟨rfl, aK⟩
   refine ⟨_, rfl, ?_⟩
   have hL := hL.pushAll aK
   simp only [lA, lB, lC, lD] at hL
   refine OV (.bool (!aI)) rfl (zCb rfl) <| OV (.bool (!aI)) rfl (zAe) ?_
   refine zAH hm (fun aA hm => ?_) (fun aA hm => ?_)
   · refine zAa (zAh rfl rfl aA rfl ?_)
     refine zAa (zAh rfl rfl aA rfl ?_)
     refine zAa (zAh rfl rfl aA rfl ?_)
     refine zAa (zAh rfl rfl aA rfl ?_)
     refine OV (.bool true) rfl (zAz rfl aA rfl) <| OV (.bool true) rfl (zAe) ?_
     refine zAa (zAh rfl rfl rfl rfl ?_)
     refine zAa (zAh rfl rfl rfl rfl ?_)
     refine zAa (zAh rfl rfl rfl rfl ?_)
     refine zAa (zAh rfl rfl rfl rfl ?_)
     refine OV (.bool true) rfl (zAz rfl rfl rfl) <| OW.nil ?_
     exact ⟨true, hm, ⟨rfl, rfl, hL⟩⟩
   refine zAa (zAj rfl rfl aA (zAk (v := (PV b4 1)) rfl (zAc (fsz := 1) 0 1 1 U38 rfl zAf rfl rfl rfl) ?_))
   refine zAa (zAj rfl rfl aA (zAk (v := (IV a0.Scheme)) rfl (zAd U2 rfl rfl (hL.cellB 0 rfl rfl)) ?_))
   obtain ⟨aE, aL, hm⟩ := zAs hm
   refine zAa (zAj rfl rfl aA (OP.call rfl (zAq (vs := [(IV a0.Scheme), (IV 0), (IV 1)]) zEw ⟨rfl, rfl, rfl, trivial⟩) (zBw _ a0.Scheme 0 1 aL) ?_))
   rintro bL bF ⟨rfl, aM⟩
   refine ⟨_, rfl, ?_⟩
   have hL := hL.pushAll aM
   simp only [lA, lB, lC, lD] at hL
   refine zAa (zAj rfl rfl aA (zAk (v := (.bool (!aE))) rfl (zCb rfl) ?_))
   refine OV (.bool (!aE)) rfl (zAA rfl aA rfl) <| OV (.bool (!aE)) rfl (zAe) ?_
   refine zAH hm (fun aB hm => ?_) (fun aB hm => ?_)
   · refine zAa (zAh rfl rfl aB rfl ?_)
     refine zAa (zAh rfl rfl aB rfl ?_)
     refine zAa (zAh rfl rfl aB rfl ?_)
     refine zAa (zAh rfl rfl aB rfl ?_)
     refine OV (.bool true) rfl (zAz rfl aB rfl) <| OW.nil ?_
     exact ⟨true, hm, ⟨rfl, rfl, hL⟩⟩
   refine zAa (zAj rfl rfl aB (zAk (v := (PV b4 2)) rfl (zAc (fsz := 1) 0 2 2 U38 rfl zCq rfl rfl rfl) ?_))
   refine zAa (zAj rfl rfl aB (zAk (v := v1) rfl (zAd U36 rfl rfl (hL.cellB 0 rfl rfl)) ?_))
   refine zAa (zAj rfl rfl aB (zAk (v := (IV (a0.Races.length : Int))) rfl (zA3 U36 rfl (hL.rdS 1 rfl h2)) ?_))
   refine zAa (zAj rfl rfl aB (zAk (v := (.bool (decide (12 < (a0.Races.length : Int))))) rfl (zIq rfl rfl) ?_))
   refine OV (.bool (decide (12 < (a0.Races.length : Int)))) rfl (zAA rfl aB rfl) <| OW.nil ?_
   exact ⟨decide (12 < (a0.Races.length : Int)), hm, ⟨rfl, rfl, hL⟩⟩
 intro s_j1 bM bG hJ hm
 unfold zEI at hm
 obtain ⟨aZ, bA, hL⟩ := hJ
 refine zAn (t := s_j1) bA hm (fun aN hm => ?_) (fun aN hm => ?_)
 · refine CSR <| OV (.bool false) rfl (zAb) <| OW.nil <| zAx ?_
   obtain rfl := oi hm
   exact RR1 rfl rfl ⟨rfl, hL.fresh 1 rfl [] (by decide) (by decide) rfl⟩
 refine zAt <| zAF <| CSR <| OV (IV 0) rfl (zAb) <| OW.nil ?_
 obtain ⟨bN, aO, hm⟩ := zAs hm
 refine zAU (fun (s_l1 : Int) F w => F 1 = (PV b4 0) ∧ F 3 = (IV s_l1) ∧ Hp w0 [Ent.blk b4 38 #[(IV a0.Boats), (IV a0.Scheme), v1], zAg w0 w0.heap.size] w) (fun o => zBh o (fun x => some x) (fun s => zF3 s) = some r) aO hm ⟨aZ, rfl, hL⟩ ?_ ?_
 · intro s_l1 bO bH hJ hm
   have hm := zBD hm
   have hm : zF3 s_l1 = some r := hm
   unfold zF3 at hm
   obtain ⟨bP, bQ, hL⟩ := hJ
   refine CSR <| OV (.bool true) rfl (zAb) <| OW.nil <| zAx ?_
   obtain rfl := oi hm
   exact RR1 rfl rfl ⟨rfl, hL.fresh 1 rfl [] (by decide) (by decide) rfl⟩
 intro s_l1 bR bI bS hJ hm aP
 unfold zF4 at hm
 obtain ⟨aC, aD, hL⟩ := hJ
 refine zAF <| CSR <| OV (IV s_l1) rfl (zAo aD) <| OV (PV b4 2) rfl (zAc (fsz := 1) 0 2 2 U38 rfl zCq rfl aC rfl) <| OV v1 rfl (zAd U36 rfl rfl (hL.cellB 0 rfl rfl)) <| OV (IV (a0.Races.length : Int)) rfl (zA3 U36 rfl (hL.rdS 1 rfl h2)) <| OV (.bool (decide (s_l1 < (a0.Races.length : Int)))) rfl (zBE rfl rfl) <| OW.nil ?_
 refine zAn (t := decide (s_l1 < (a0.Races.length : Int))) rfl hm (fun aQ hm => ?_) (fun aQ hm => ?_)
 · refine zAt <| zAF <| CW.block <| zAF ?_
   refine zBW zAQ ?_
   have hL := hL.call (zA8 _)
   refine DW.pre (fuel := 0) (fin := bma 9 511) (C := fun w' => Mod zBO _ w') [0, 1, 2, 3, 4, 5, 6, 7, 8] (Mod.refl _ _) (by kernel_rfl) (by kernel_rfl) ?_
   refine QV (PV b4 0) rfl rfl (fun w' hm' => zAc (fsz := 1) 0 0 0 U38 rfl zAf rfl aC rfl) <| QV (IV a0.Boats) rfl rfl (fun w' hm' => zAd U2 rfl rfl ((hL.call hm').cellB 0 rfl rfl)) <| QV (PV b4 2) rfl rfl (fun w' hm' => zAc (fsz := 1) 0 2 2 U38 rfl zCq rfl aC rfl) <| QV v1 rfl rfl (fun w' hm' => zAd U36 rfl rfl ((hL.call hm').cellB 0 rfl rfl)) <| QV (IV s_l1) rfl rfl (fun w' hm' => zAo aD) ?_
   obtain ⟨bB, aR, hm⟩ := zAs hm
   obtain ⟨aS, aT⟩ := zAZ aR
   obtain ⟨bC, bD, aF, aH, aU, aV, aW⟩ := zCp h2 aS aT
   refine QV (.pointer (some ⟨bC, bD, none⟩)) rfl rfl (fun w' hm' => zA1 U36 zBd rfl rfl aH) <| QV (.agg #[aF]) rfl rfl (fun w' hm' => zAW (cs := [aF]) zIJ zBd rfl rfl (by intro j u hj; match j, hj with | 0, hj => (simp at hj; subst hj; exact ((hL.call hm').cellS 1 rfl aU aV)))) ?_
   obtain ⟨aG, aX, hm⟩ := zAs hm
   refine zAi rfl (QP.call (v := (.bool aG)) rfl (fun w' hm' => zAq (vs := [(IV a0.Boats), (.agg #[aF])]) zQg ⟨rfl, rfl, trivial⟩) (fun w' hm' => (zMd w' a0.Boats bB ((hL.call hm').rdS 1 rfl aW) aX).mono (fun e w'' h => ⟨h.1, hm'.trans h.2.mod⟩)) ?_)
   refine QV (.bool (!aG)) rfl rfl (fun w' hm' => zCb rfl) ?_
   refine QW.nil ?_
   intro bJ hmod
   have hL := hL.call hmod
   refine zBu (by kernel_rfl) ?_
   refine zAn (t := !aG) rfl hm (fun aY hm => ?_) (fun aY hm => ?_)
   · refine CSR <| OV (.bool false) rfl (zAb) <| OW.nil <| zAx ?_
     obtain rfl := oi hm
     have hm := aP _ rfl
     obtain rfl := oi hm
     exact RR1 rfl rfl ⟨rfl, hL.fresh 1 rfl [] (by decide) (by decide) rfl⟩
   refine zAt <| zAl <| OV (IV s_l1) rfl (zAo aD) <| OV (IV (w64 (s_l1 + 1))) rfl (zBe rfl rfl) <| OV (IV (w64 (s_l1 + 1))) rfl (zAb) <| OW.nil ?_
   obtain rfl := oi hm
   exact ⟨_, rfl, ⟨aC, rfl, hL⟩⟩
 refine zA0 ?_
 refine zBk ?_
 obtain rfl := oi hm
 exact ⟨_, rfl, ⟨aC, aD, hL⟩⟩

theorem zJ0 (w0 : World) (a0 : Finish) {r : Bool} (hm : zHD a0 = some r) :
    Calls Tryz.prog 111 #[(.agg #[(IV a0.Boat), (IV a0.Code), (IV a0.Time)])] w0 fun e w' => e = .returned (.bool r) ∧ Fresh w0 w' [] := by
 unfold zHD at hm
 refine zAD (args := [(.agg #[(IV a0.Boat), (IV a0.Code), (IV a0.Time)])]) Tryz.func111 rfl rfl rfl ?_
 have hL := zAJ w0
 refine CSR ?_
 refine zAa (zC3 (cs := #[(IV a0.Boat), (IV a0.Code), (IV a0.Time)]) hL rfl rfl rfl ?_)
 intro wd1 b2 hL
 refine OV (.bool false) rfl (zAb) <| ONR <| OV (PV b2 1) rfl (zAc (fsz := 1) 0 1 1 zFd rfl zAf rfl rfl rfl) <| OV (IV a0.Code) rfl (zAd U2 rfl rfl (hL.cellB 0 rfl rfl)) <| OV (.bool (a0.Code == 0)) rfl (zBv rfl rfl) <| OV (.bool (a0.Code == 0)) rfl (zAb) <| OW.nil <| zAx ?_
 obtain rfl := oi hm
 exact RR1 rfl rfl ⟨rfl, hL.fresh 1 rfl [] (by decide) (by decide) rfl⟩

theorem zLJ (w0 : World) (a0 : Race) {v1 : Value} (h2 : rdL (· < w0.heap.size) w0 v1 a0.Finishes) (a1 : List Int) {v3 : Value} (h4 : rdL (· < w0.heap.size) w0 v3 a1) (a2 : Int) {r : Int × Int} (hm : zH6 a0 a1 a2 = some r) :
    Calls Tryz.prog 124 #[(.agg #[v1]), v3, (IV a2)] w0 fun e w' => e = .returned (.tuple #[(IV r.1), (IV r.2)]) ∧ Fresh w0 w' [] := by
 unfold zH6 at hm
 refine zAD (args := [(.agg #[v1]), v3, (IV a2)]) Tryz.func124 rfl rfl rfl ?_
 have hL := zAJ w0
 refine CSR ?_
 refine zAa (zC3 (cs := #[v1]) hL rfl rfl rfl ?_)
 intro wd5 b6 hL
 refine OV (IV 0) rfl (zAb) <| OV (IV 0) rfl (zAb) <| ONR <| OV (IV 1) rfl (zAb) <| ONR <| OV (IV 0) rfl (zAb) <| ONS <| CSR <| OV (IV 0) rfl (zAb) <| OW.nil ?_
 obtain ⟨dU, cE, hm⟩ := zAs hm
 refine zAU (fun (s_l1 : Int × Int × Int) F w => F 1 = v3 ∧ F 2 = (IV a2) ∧ F 3 = (PV b6 0) ∧ F 8 = (IV s_l1.1) ∧ F 9 = (IV s_l1.2.1) ∧ F 10 = (IV s_l1.2.2) ∧ Hp w0 [Ent.blk b6 101 #[v1], zAg w0 w0.heap.size] w) (fun o => zBh o (fun x => some x) (fun s => zF5 s) = some r) cE hm ⟨rfl, rfl, rfl, rfl, rfl, rfl, hL⟩ ?_ ?_
 · intro s_l1 dV dN hJ hm
   have hm := zBD hm
   have hm : zF5 s_l1 = some r := hm
   unfold zF5 at hm
   obtain ⟨dW, dX, dY, dB, dC, dZ, hL⟩ := hJ
   refine CSR <| OV (IV s_l1.1) rfl (zAo dB) <| OV (IV s_l1.2.1) rfl (zAo dC) <| OV (IV s_l1.1) rfl (zAb) <| OV (IV s_l1.2.1) rfl (zAb) <| OW.nil <| zAx ?_
   obtain rfl := oi hm
   exact RR2 rfl rfl rfl ⟨rfl, hL.fresh 1 rfl [] (by decide) (by decide) rfl⟩
 intro s_l1 eA dO aR hJ hm dP
 unfold zF8 at hm
 obtain ⟨aK, aS, aL, bI, bJ, aD, hL⟩ := hJ
 refine zAF <| CSR <| OV (IV s_l1.2.2) rfl (zAo aD) <| OV (PV b6 0) rfl (zAc (fsz := 1) 0 0 0 zIJ rfl zCr rfl aL rfl) <| OV v1 rfl (zAd U99 rfl rfl (hL.cellB 0 rfl rfl)) <| OV (IV (a0.Finishes.length : Int)) rfl (zA3 U99 rfl (hL.rdS 1 rfl h2)) <| OV (.bool (decide (s_l1.2.2 < (a0.Finishes.length : Int)))) rfl (zBE rfl rfl) <| OW.nil ?_
 refine zAn (t := decide (s_l1.2.2 < (a0.Finishes.length : Int))) rfl hm (fun cF hm => ?_) (fun cF hm => ?_)
 · refine zAt ?_
   refine zAM (fun (s_j1 : Int × Int) F w => F 1 = v3 ∧ F 2 = (IV a2) ∧ F 3 = (PV b6 0) ∧ F 8 = (IV s_j1.1) ∧ F 9 = (IV s_j1.2) ∧ F 10 = (IV s_l1.2.2) ∧ Hp w0 [Ent.blk b6 101 #[v1], zAg w0 w0.heap.size] w) (fun s_j1 => zHU s_l1 s_j1 = some aR) ?_ ?_
   · refine zBG (fun (s_j2 : Int × Int) F w => F 1 = v3 ∧ F 2 = (IV a2) ∧ F 3 = (PV b6 0) ∧ F 8 = (IV s_j2.1) ∧ F 9 = (IV s_j2.2) ∧ F 10 = (IV s_l1.2.2) ∧ Hp w0 [Ent.blk b6 101 #[v1], zAg w0 w0.heap.size] w) (fun s_j2 => zEJ s_l1 s_j2 = some aR) ?_ ?_
     · refine CSR <| OV (PV b6 0) rfl (zAc (fsz := 1) 0 0 0 zIJ rfl zCr rfl aL rfl) <| OV v1 rfl (zAd U99 rfl rfl (hL.cellB 0 rfl rfl)) <| OV (IV s_l1.2.2) rfl (zAo aD) ?_
       obtain ⟨aA, bQ, hm⟩ := zAs hm
       obtain ⟨bR, bD⟩ := zAZ bQ
       obtain ⟨cG, cH, aM⟩ := zAC (hL.rdS 1 rfl h2) bR bD
       refine OV (.pointer (some ⟨cG, cH, none⟩)) rfl (zA1 U99 zAP rfl rfl aM) <| OV (.agg #[(IV aA.Boat), (IV aA.Code), (IV aA.Time)]) rfl (zAW (cs := [(IV aA.Boat), (IV aA.Code), (IV aA.Time)]) zFd zAP rfl rfl (zAv (hL.rdS 1 rfl h2) aM bD)) ?_
       refine zAa (zBb (cs := #[(IV 0), (IV 0), (IV 0)]) hL zAP rfl rfl ?_)
       intro dD aC hL
       refine zAa (zA9 (l := [(IV aA.Boat), (IV aA.Code), (IV aA.Time)]) (cs' := #[(IV aA.Boat), (IV aA.Code), (IV aA.Time)]) hL 0 rfl zAP rfl rfl (fc ⟨rfl, (fc ⟨rfl, (fc ⟨rfl, fz⟩)⟩)⟩) rfl (nle rfl) rfl ?_)
       intro dE hL
       refine ONS ?_
       refine zAM (fun (s_j3 : Bool) F w => F 1 = v3 ∧ F 2 = (IV a2) ∧ F 3 = (PV b6 0) ∧ F 8 = (IV s_l1.1) ∧ F 9 = (IV s_l1.2.1) ∧ F 10 = (IV s_l1.2.2) ∧ F 11 = (PV aC 0) ∧ F 37 = (.bool s_j3) ∧ Hp w0 [Ent.blk aC 103 #[(IV aA.Boat), (IV aA.Code), (IV aA.Time)], Ent.blk b6 101 #[v1], zAg w0 w0.heap.size] w) (fun s_j3 => zF7 a0 a2 s_l1 aA s_j3 = some aR) ?_ ?_
       · refine zBW zAQ ?_
         have hL := hL.call (zA8 _)
         refine DW.pre (fuel := 0) (fin := bma 14 16383) (C := fun w' => Mod zBO _ w') [0, 1, 2, 3, 4, 5, 6, 7, 8, 9, 10, 11, 12, 13] (Mod.refl _ _) (by kernel_rfl) (by kernel_rfl) ?_
         refine QV (.agg #[(IV aA.Boat), (IV aA.Code), (IV aA.Time)]) rfl rfl (fun w' hm' => zAW (cs := [(IV aA.Boat), (IV aA.Code), (IV aA.Time)]) zFd zAP rfl rfl ((hL.call hm').cellsB 0 rfl (o := 0) (l := [(IV aA.Boat), (IV aA.Code), (IV aA.Time)]) (by intro j u hj; exact (by simpa using hj)))) ?_
         obtain ⟨aT, bS, hm⟩ := zAs hm
         refine zAi rfl (QP.call (v := (.bool aT)) rfl (fun w' hm' => zAq (vs := [(.agg #[(IV aA.Boat), (IV aA.Code), (IV aA.Time)])]) zNB ⟨rfl, trivial⟩) (fun w' hm' => (zJ0 w' aA bS).mono (fun e w'' h => ⟨h.1, hm'.trans h.2.mod⟩)) ?_)
         refine QV (.bool (!aT)) rfl rfl (fun w' hm' => zCb rfl) <| QV (.bool (!aT)) rfl rfl (fun w' hm' => zAe) ?_
         refine zAH hm (fun aB hm => ?_) (fun aB hm => ?_)
         · refine zAi rfl (zAK rfl rfl aB rfl ?_)
           refine zAi rfl (zAK rfl rfl aB rfl ?_)
           refine zAi rfl (zAK rfl rfl aB rfl ?_)
           refine zAi rfl (zAK rfl rfl aB rfl ?_)
           refine zAi rfl (zAK rfl rfl aB rfl ?_)
           refine zAi rfl (zAK rfl rfl aB rfl ?_)
           refine zAi rfl (zAK rfl rfl aB rfl ?_)
           refine zAi rfl (zAK rfl rfl aB rfl ?_)
           refine zAi rfl (zAK rfl rfl aB rfl ?_)
           refine QV (.bool true) rfl rfl (fun w' hm' => zAz rfl aB rfl) ?_
           refine QW.nil ?_
           intro dF hmod
           have hL := hL.call hmod
           refine zBu (by kernel_rfl) ?_
           exact ⟨true, hm, ⟨aK, aS, aL, bI, bJ, aD, rfl, rfl, hL⟩⟩
         refine zAi rfl (zAB rfl rfl aB (zAN (v := v3) rfl (fun w' hm' => zAo aK) ?_))
         refine zAi rfl (zAB rfl rfl aB (zAN (v := (IV s_l1.2.2)) rfl (fun w' hm' => zAo aD) ?_))
         obtain ⟨aE, bT, hm⟩ := zAs hm
         obtain ⟨bU, bE⟩ := zAZ bT
         obtain ⟨cI, cJ, aN⟩ := zAC (hL.rdS 2 rfl h4) bU bE
         refine zAi rfl (zAB rfl rfl aB (zAN (v := (.pointer (some ⟨cI, cJ, none⟩))) rfl (fun w' hm' => zA1 U27 zAf rfl rfl aN) ?_))
         refine zAi rfl (zAB rfl rfl aB (zAN (v := (IV aE)) rfl (fun w' hm' => zAd U2 rfl rfl (zAv ((hL.call hm').rdS 2 rfl h4) aN bE 0 _ rfl)) ?_))
         refine zAi rfl (zAB rfl rfl aB (zAN (v := v3) rfl (fun w' hm' => zAo aK) ?_))
         refine zAi rfl (zAB rfl rfl aB (zAN (v := (IV a2)) rfl (fun w' hm' => zAo aS) ?_))
         obtain ⟨aF, bV, hm⟩ := zAs hm
         obtain ⟨bW, bF⟩ := zAZ bV
         obtain ⟨cK, cM, aO⟩ := zAC (hL.rdS 2 rfl h4) bW bF
         refine zAi rfl (zAB rfl rfl aB (zAN (v := (.pointer (some ⟨cK, cM, none⟩))) rfl (fun w' hm' => zA1 U27 zAf rfl rfl aO) ?_))
         refine zAi rfl (zAB rfl rfl aB (zAN (v := (IV aF)) rfl (fun w' hm' => zAd U2 rfl rfl (zAv ((hL.call hm').rdS 2 rfl h4) aO bF 0 _ rfl)) ?_))
         refine zAi rfl (zAB rfl rfl aB (zAN (v := (.bool (aE != aF))) rfl (fun w' hm' => zDk rfl rfl) ?_))
         refine QV (.bool (aE != aF)) rfl rfl (fun w' hm' => zAA rfl aB rfl) ?_
         refine QW.nil ?_
         intro dG hmod
         have hL := hL.call hmod
         refine zBu (by kernel_rfl) ?_
         exact ⟨aE != aF, hm, ⟨aK, aS, aL, bI, bJ, aD, rfl, rfl, hL⟩⟩
       intro s_j3 dQ dH hJ hm
       unfold zF7 at hm
       obtain ⟨aU, aG, aH, aV, aW, aX, aY, cN, hL⟩ := hJ
       refine zAn (t := s_j3) cN hm (fun bX hm => ?_) (fun bX hm => ?_)
       · refine zA0 ?_
         refine zBk ?_
         have hL := hL.sl [1, 2] rfl
         exact ⟨(s_l1.1, s_l1.2.1), hm, ⟨aU, aG, aH, aV, aW, aX, hL⟩⟩
       refine zAt ?_
       refine zAM (fun (s_j4 : Int) F w => F 1 = v3 ∧ F 2 = (IV a2) ∧ F 3 = (PV b6 0) ∧ F 8 = (IV s_j4) ∧ F 9 = (IV s_l1.2.1) ∧ F 10 = (IV s_l1.2.2) ∧ F 11 = (PV aC 0) ∧ Hp w0 [Ent.blk aC 103 #[(IV aA.Boat), (IV aA.Code), (IV aA.Time)], Ent.blk b6 101 #[v1], zAg w0 w0.heap.size] w) (fun s_j4 => zF6 a0 a2 s_l1 aA s_j4 = some aR) ?_ ?_
       · refine zAF ?_
         refine zBW zAQ ?_
         have hL := hL.call (zA8 _)
         refine DW.pre (fuel := 0) (fin := bma 9 511) (C := fun w' => Mod zBO _ w') [0, 1, 2, 3, 4, 5, 6, 7, 8] (Mod.refl _ _) (by kernel_rfl) (by kernel_rfl) ?_
         refine QV (PV aC 2) rfl rfl (fun w' hm' => zAc (fsz := 1) 0 2 2 zFd rfl zAf rfl aY rfl) <| QV (IV aA.Time) rfl rfl (fun w' hm' => zAd U2 rfl rfl ((hL.call hm').cellB 0 rfl rfl)) <| QV (PV b6 0) rfl rfl (fun w' hm' => zAc (fsz := 1) 0 0 0 zIJ rfl zCr rfl aH rfl) <| QV v1 rfl rfl (fun w' hm' => zAd U99 rfl rfl ((hL.call hm').cellB 1 rfl rfl)) <| QV (IV a2) rfl rfl (fun w' hm' => zAo aG) ?_
         obtain ⟨aZ, bY, hm⟩ := zAs hm
         obtain ⟨bZ, bG⟩ := zAZ bY
         obtain ⟨bK, aI, aP⟩ := zAC (hL.rdS 2 rfl h2) bZ bG
         refine QV (.pointer (some ⟨bK, aI, none⟩)) rfl rfl (fun w' hm' => zA1 U99 zAP rfl rfl aP) <| QV (.pointer (some ⟨bK, aI + 2, none⟩)) rfl rfl (fun w' hm' => zAc (fsz := 1) aI 2 (aI + 2) zFd rfl zAf rfl rfl rfl) <| QV (IV aZ.Time) rfl rfl (fun w' hm' => zAd U2 rfl rfl (zAv ((hL.call hm').rdS 2 rfl h2) aP bG 2 _ rfl)) <| QV (.bool (decide (aA.Time < aZ.Time))) rfl rfl (fun w' hm' => zBE rfl rfl) ?_
         refine QW.nil ?_
         intro dI hmod
         have hL := hL.call hmod
         refine zBu (by kernel_rfl) ?_
         refine zAn (t := decide (aA.Time < aZ.Time)) rfl hm (fun cA hm => ?_) (fun cA hm => ?_)
         · refine zAl <| OV (IV s_l1.1) rfl (zAo aV) <| OV (IV (w64 (s_l1.1 + 1))) rfl (zBe rfl rfl) <| OV (IV (w64 (s_l1.1 + 1))) rfl (zAb) <| OW.nil ?_
           exact ⟨w64 (s_l1.1 + 1), hm, ⟨aU, aG, aH, rfl, aW, aX, aY, hL⟩⟩
         refine zAt ?_
         exact ⟨s_l1.1, hm, ⟨aU, aG, aH, aV, aW, aX, aY, hL⟩⟩
       intro s_j4 dR dJ hJ hm
       unfold zF6 at hm
       obtain ⟨bL, bA, bB, bM, bN, bO, cO, hL⟩ := hJ
       refine zAF ?_
       refine zBW zAQ ?_
       have hL := hL.call (zA8 _)
       refine DW.pre (fuel := 0) (fin := bma 9 511) (C := fun w' => Mod zBO _ w') [0, 1, 2, 3, 4, 5, 6, 7, 8] (Mod.refl _ _) (by kernel_rfl) (by kernel_rfl) ?_
       refine QV (PV aC 2) rfl rfl (fun w' hm' => zAc (fsz := 1) 0 2 2 zFd rfl zAf rfl cO rfl) <| QV (IV aA.Time) rfl rfl (fun w' hm' => zAd U2 rfl rfl ((hL.call hm').cellB 0 rfl rfl)) <| QV (PV b6 0) rfl rfl (fun w' hm' => zAc (fsz := 1) 0 0 0 zIJ rfl zCr rfl bB rfl) <| QV v1 rfl rfl (fun w' hm' => zAd U99 rfl rfl ((hL.call hm').cellB 1 rfl rfl)) <| QV (IV a2) rfl rfl (fun w' hm' => zAo bA) ?_
       obtain ⟨bC, cB, hm⟩ := zAs hm
       obtain ⟨cC, bH⟩ := zAZ cB
       obtain ⟨bP, aJ, aQ⟩ := zAC (hL.rdS 2 rfl h2) cC bH
       refine QV (.pointer (some ⟨bP, aJ, none⟩)) rfl rfl (fun w' hm' => zA1 U99 zAP rfl rfl aQ) <| QV (.pointer (some ⟨bP, aJ + 2, none⟩)) rfl rfl (fun w' hm' => zAc (fsz := 1) aJ 2 (aJ + 2) zFd rfl zAf rfl rfl rfl) <| QV (IV bC.Time) rfl rfl (fun w' hm' => zAd U2 rfl rfl (zAv ((hL.call hm').rdS 2 rfl h2) aQ bH 2 _ rfl)) <| QV (.bool (aA.Time == bC.Time)) rfl rfl (fun w' hm' => zBv rfl rfl) ?_
       refine QW.nil ?_
       intro dK hmod
       have hL := hL.call hmod
       refine zBu (by kernel_rfl) ?_
       refine zAn (t := aA.Time == bC.Time) rfl hm (fun cD hm => ?_) (fun cD hm => ?_)
       · refine zAl <| OV (IV s_l1.2.1) rfl (zAo bN) <| OV (IV (w64 (s_l1.2.1 + 1))) rfl (zBe rfl rfl) <| OV (IV (w64 (s_l1.2.1 + 1))) rfl (zAb) <| OW.nil ?_
         have hL := hL.sl [1, 2] rfl
         exact ⟨(s_j4, w64 (s_l1.2.1 + 1)), hm, ⟨bL, bA, bB, bM, rfl, bO, hL⟩⟩
       refine zAt ?_
       have hL := hL.sl [1, 2] rfl
       exact ⟨(s_j4, s_l1.2.1), hm, ⟨bL, bA, bB, bM, bN, bO, hL⟩⟩
     intro s_j2 dS dL hJ hm
     unfold zEJ at hm
     obtain ⟨cP, cQ, cR, cS, cT, cU, hL⟩ := hJ
     exact ⟨(s_j2.1, s_j2.2), hm, ⟨cP, cQ, cR, cS, cT, cU, hL⟩⟩
   intro s_j1 dT dM hJ hm
   unfold zHU at hm
   obtain ⟨cV, cW, cX, cY, cZ, dA, hL⟩ := hJ
   refine zAl <| OV (IV s_l1.2.2) rfl (zAo dA) <| OV (IV (w64 (s_l1.2.2 + 1))) rfl (zBe rfl rfl) <| OV (IV (w64 (s_l1.2.2 + 1))) rfl (zAb) <| OW.nil ?_
   obtain rfl := oi hm
   exact ⟨_, rfl, ⟨cV, cW, cX, cY, cZ, rfl, hL⟩⟩
 refine zA0 ?_
 refine zBk ?_
 obtain rfl := oi hm
 exact ⟨_, rfl, ⟨aK, aS, aL, bI, bJ, aD, hL⟩⟩

theorem zCe (w0 : World) (a0 : Race) {v1 : Value} (h2 : rdL (· < w0.heap.size) w0 v1 a0.Finishes) (a1 : Int) {r : (List Int)} (hm : zFU a0 a1 = some r) :
    Calls Tryz.prog 112 #[(.agg #[v1]), (IV a1)] w0 fun e w' => ∃ (rv0 : Value) (rS0 : Nat → Prop), e = .returned rv0 ∧ Fresh w0 w' [Ent.own 2 rS0 rv0 r] := by
 unfold zFU at hm
 refine zAD (args := [(.agg #[v1]), (IV a1)]) Tryz.func112 rfl rfl rfl ?_
 have hL := zAJ w0
 refine CSR ?_
 refine zAa (zC3 (cs := #[v1]) hL rfl rfl rfl ?_)
 intro wd3 b4 hL
 refine OV (.slice none 0 0) rfl (zAb) <| ONR <| OV (PV b4 0) rfl (zAc (fsz := 1) 0 0 0 zIJ rfl zCr rfl rfl rfl) <| OV v1 rfl (zAd U99 rfl rfl (hL.cellB 0 rfl rfl)) <| OV (IV (a0.Finishes.length : Int)) rfl (zA3 U99 rfl (hL.rdS 1 rfl h2)) <| OV (IV (a0.Finishes.length : Int)) rfl (zAb) <| ONR <| OV (IV 0) rfl (zAb) <| ONS <| CSR <| OV (IV 0) rfl (zAb) <| OW.nil ?_
 obtain ⟨fV, cP, hm⟩ := zAs hm
 refine zAU (fun (s_l1 : Int × Int) F w => F 1 = (IV a1) ∧ F 2 = (PV b4 0) ∧ F 5 = (IV (a0.Finishes.length : Int)) ∧ F 6 = (IV s_l1.1) ∧ F 7 = (IV s_l1.2) ∧ Hp w0 [Ent.blk b4 101 #[v1], zAg w0 w0.heap.size] w) (fun o => zBh o (fun x => some x) (fun s => zFy a0 a1 s) = some r) cP hm ⟨rfl, rfl, rfl, rfl, rfl, hL⟩ ?_ ?_
 · intro s_l1 fW eX hJ hm
   have hm := zBD hm
   have hm : zFy a0 a1 s_l1 = some r := hm
   unfold zFy at hm
   obtain ⟨eF, eG, bO, eH, fX, hL⟩ := hJ
   refine CSR <| OV (IV (a0.Finishes.length : Int)) rfl (zAo bO) ?_
   obtain ⟨cQ, hm⟩ := zEs hm
   refine zAa (zKS (α := Int) 0 hL U27 zAf rfl rfl rfl cQ (by decide) rfl ?_)
   intro eY aB eI hL
   refine OV aB rfl (zAb) <| ONR <| OV (IV (a0.Finishes.length : Int)) rfl (zAo bO) ?_
   obtain ⟨cR, hm⟩ := zEs hm
   refine zAa (zKS (α := Int) 0 hL U27 zAf rfl rfl rfl cR (by decide) rfl ?_)
   intro eZ aD aU hL
   refine OV aD rfl (zAb) <| ONS <| CSR <| OV (IV 0) rfl (zAb) <| OW.nil ?_
   obtain ⟨fA, bU, hm⟩ := zAs hm
   refine zAU (fun (s_l2 : (List Int) × Int) F w => ∃ aE, F 1 = (IV a1) ∧ F 2 = (PV b4 0) ∧ F 5 = (IV (a0.Finishes.length : Int)) ∧ F 6 = (IV s_l1.1) ∧ F 8 = aB ∧ F 9 = aD ∧ F 10 = (IV s_l2.2) ∧ Hp w0 [Ent.own 2 aU aD (List.replicate ((a0.Finishes.length : Int)).toNat (0 : Int)), Ent.own 2 aE aB s_l2.1, Ent.blk b4 101 #[v1], zAg w0 w0.heap.size] w) (fun o => zBh o (fun x => some x) (fun s => zHr s) = some r) bU hm ⟨eI, eF, eG, bO, eH, rfl, rfl, rfl, hL⟩ ?_ ?_
   · intro s_l2 fB eJ hJ hm
     have hm := zBD hm
     have hm : zHr s_l2 = some r := hm
     unfold zHr at hm
     obtain ⟨aE, fC, fD, fE, fF, cS, fG, fH, hL⟩ := hJ
     refine CSR <| OV aB rfl (zAo cS) <| OV aB rfl (zAb) <| OW.nil <| zAx ?_
     obtain rfl := oi hm
     exact RR1 rfl rfl ⟨aB, aE, rfl, hL.fresh 3 rfl [1] (by decide) (by decide) rfl⟩
   intro s_l2 fI eK aP hJ hm eL
   unfold zFx at hm
   obtain ⟨aE, aJ, aH, aL, aM, aI, aK, aF, hL⟩ := hJ
   refine zAF <| CSR <| OV (IV s_l2.2) rfl (zAo aF) <| OV aB rfl (zAo aI) <| OV (IV (s_l2.1.length : Int)) rfl (zA3 U27 rfl (hL.rdO 1 rfl)) <| OV (.bool (decide (s_l2.2 < (s_l2.1.length : Int)))) rfl (zBE rfl rfl) <| OW.nil ?_
   refine zAn (t := decide (s_l2.2 < (s_l2.1.length : Int))) rfl hm (fun bV hm => ?_) (fun bV hm => ?_)
   · refine zAt ?_
     refine zAM (fun (s_j1 : (List Int)) F w => ∃ bA, F 1 = (IV a1) ∧ F 2 = (PV b4 0) ∧ F 5 = (IV (a0.Finishes.length : Int)) ∧ F 6 = (IV s_l1.1) ∧ F 8 = aB ∧ F 9 = aD ∧ F 10 = (IV s_l2.2) ∧ Hp w0 [Ent.own 2 aU aD (List.replicate ((a0.Finishes.length : Int)).toNat (0 : Int)), Ent.own 2 bA aB s_j1, Ent.blk b4 101 #[v1], zAg w0 w0.heap.size] w) (fun s_j1 => zHs s_l2 s_j1 = some aP) ?_ ?_
     · refine zBG (fun (s_j2 : (List Int)) F w => ∃ bB, F 1 = (IV a1) ∧ F 2 = (PV b4 0) ∧ F 5 = (IV (a0.Finishes.length : Int)) ∧ F 6 = (IV s_l1.1) ∧ F 8 = aB ∧ F 9 = aD ∧ F 10 = (IV s_l2.2) ∧ Hp w0 [Ent.own 2 aU aD (List.replicate ((a0.Finishes.length : Int)).toNat (0 : Int)), Ent.own 2 bB aB s_j2, Ent.blk b4 101 #[v1], zAg w0 w0.heap.size] w) (fun s_j2 => zHt s_l2 s_j2 = some aP) ?_ ?_
       · refine CSR <| OV (PV b4 0) rfl (zAc (fsz := 1) 0 0 0 zIJ rfl zCr rfl aH rfl) <| OV v1 rfl (zAd U99 rfl rfl (hL.cellB 2 rfl rfl)) <| OV (IV s_l2.2) rfl (zAo aF) ?_
         obtain ⟨aC, bW, hm⟩ := zAs hm
         obtain ⟨bX, bJ⟩ := zAZ bW
         obtain ⟨bP, aQ, aV⟩ := zAC (hL.rdS 3 rfl h2) bX bJ
         refine OV (.pointer (some ⟨bP, aQ, none⟩)) rfl (zA1 U99 zAP rfl rfl aV) <| OV (.pointer (some ⟨bP, aQ + 1, none⟩)) rfl (zAc (fsz := 1) aQ 1 (aQ + 1) zFd rfl zAf rfl rfl rfl) <| OV (IV aC.Code) rfl (zAd U2 rfl rfl (zAv (hL.rdS 3 rfl h2) aV bJ 1 _ rfl)) <| OV (IV aC.Code) rfl (zAb) <| OW.nil ?_
         refine zBG (fun (s_j3 : (List Int)) F w => ∃ bC, F 1 = (IV a1) ∧ F 2 = (PV b4 0) ∧ F 5 = (IV (a0.Finishes.length : Int)) ∧ F 6 = (IV s_l1.1) ∧ F 8 = aB ∧ F 9 = aD ∧ F 10 = (IV s_l2.2) ∧ Hp w0 [Ent.own 2 aU aD (List.replicate ((a0.Finishes.length : Int)).toNat (0 : Int)), Ent.own 2 bC aB s_j3, Ent.blk b4 101 #[v1], zAg w0 w0.heap.size] w) (fun s_j3 => zDf s_l2 s_j3 = some aP) ?_ ?_
         · refine CSR <| OV (IV aC.Code) rfl (zAe) <| OV (.bool (aC.Code == 0)) rfl (zBv rfl rfl) <| OV (.bool (aC.Code == 0)) rfl (zAb) <| OW.nil ?_
           refine zAn (t := aC.Code == 0) rfl hm (fun bY hm => ?_) (fun bY hm => ?_)
           · refine CSR <| OV (.agg #[v1]) rfl (zAW (cs := [v1]) zIJ zBd rfl aH (hL.cellsB 2 rfl (o := 0) (l := [v1]) (by intro j u hj; exact (by simpa using hj)))) <| OV aD rfl (zAo aK) <| OV (IV s_l2.2) rfl (zAo aF) ?_
             obtain ⟨aA, bZ, hm⟩ := zAs hm
             refine zAa (OP.call rfl (zAq (vs := [(.agg #[v1]), aD, (IV s_l2.2)]) zQo ⟨rfl, rfl, rfl, trivial⟩) (zLJ _ a0 (hL.rdS 3 rfl h2) (List.replicate ((a0.Finishes.length : Int)).toNat (0 : Int)) (hL.rdO 0 rfl) s_l2.2 bZ) ?_)
             rintro fJ eM ⟨rfl, cA⟩
             refine ⟨_, rfl, ?_⟩
             have hL := hL.pushAll cA
             simp only [lA, lB, lC, lD] at hL
             refine OV (.tuple #[(IV aA.1), (IV aA.2)]) rfl (zAe) <| OV (IV aA.1) rfl (zA7 rfl rfl) <| OV (IV aA.2) rfl (zA7 rfl rfl) <| OV (IV aA.1) rfl (zAb) <| OV (IV aA.2) rfl (zAb) <| OW.nil <| zAl <| OV aB rfl (zAo aI) <| OV (IV s_l2.2) rfl (zAo aF) <| OV (IV aA.1) rfl (zAe) <| OV (IV (w64 (2 * aA.1))) rfl (zHP rfl rfl) <| OV (IV aA.2) rfl (zAe) <| OV (IV (w64 ((w64 (2 * aA.1)) + aA.2))) rfl (zBe rfl rfl) <| OV (IV (w64 ((w64 ((w64 (2 * aA.1)) + aA.2)) - 1))) rfl (zCn rfl rfl) <| OV (IV (w64 (5 * (w64 ((w64 ((w64 (2 * aA.1)) + aA.2)) - 1))))) rfl (zHP rfl rfl) ?_
             obtain ⟨fK, cB, hm⟩ := zAs hm
             obtain ⟨cC, bK⟩ := zAZ cB
             obtain ⟨cT, cU, aW⟩ := zAC (hL.rdO 1 rfl) cC bK
             refine OV (.pointer (some ⟨cT, cU, none⟩)) rfl (zA1 U27 zAf rfl rfl aW) ?_
             refine zAa (zBV (j := 0) (w64 (5 * (w64 ((w64 ((w64 (2 * aA.1)) + aA.2)) - 1)))) hL 1 rfl zAf aW bK rfl rfl rfl rfl rfl rfl ?_)
             intro eN hL
             refine OW.nil ?_
             exact ⟨s_l2.1.set (s_l2.2 : Int).toNat (w64 (5 * (w64 ((w64 ((w64 (2 * aA.1)) + aA.2)) - 1)))), hm, ⟨aE, aJ, aH, aL, aM, aI, aK, aF, hL⟩⟩
           refine CSR <| OV (IV aC.Code) rfl (zAe) <| OV (.bool (aC.Code == 9)) rfl (zBv rfl rfl) <| OV (.bool (aC.Code == 9)) rfl (zAb) <| OW.nil ?_
           refine zAn (t := aC.Code == 9) rfl hm (fun cD hm => ?_) (fun cD hm => ?_)
           · refine zAt ?_
             exact ⟨s_l2.1, hm, ⟨aE, aJ, aH, aL, aM, aI, aK, aF, hL⟩⟩
           refine zAM (fun (s_j4 : Bool) F w => F 1 = (IV a1) ∧ F 2 = (PV b4 0) ∧ F 5 = (IV (a0.Finishes.length : Int)) ∧ F 6 = (IV s_l1.1) ∧ F 8 = aB ∧ F 9 = aD ∧ F 10 = (IV s_l2.2) ∧ F 77 = (.bool s_j4) ∧ Hp w0 [Ent.own 2 aU aD (List.replicate ((a0.Finishes.length : Int)).toNat (0 : Int)), Ent.own 2 aE aB s_l2.1, Ent.blk b4 101 #[v1], zAg w0 w0.heap.size] w) (fun s_j4 => zFw a0 s_l1 s_l2 s_j4 = some aP) ?_ ?_
           · refine zAl <| OV (IV aC.Code) rfl (zAe) <| OV (.bool (aC.Code == 1)) rfl (zBv rfl rfl) <| OV (.bool (aC.Code == 1)) rfl (zAe) ?_
             refine zAH hm (fun aG hm => ?_) (fun aG hm => ?_)
             · refine zAa (zAh rfl rfl aG rfl ?_)
               refine zAa (zAh rfl rfl aG rfl ?_)
               refine OV (.bool true) rfl (zAz rfl aG rfl) <| OV (.bool true) rfl (zAb) <| OW.nil ?_
               exact ⟨true, hm, ⟨aJ, aH, aL, aM, aI, aK, aF, rfl, hL⟩⟩
             refine zAa (zAj rfl rfl aG (zAk (v := (IV a1)) rfl (zAo aJ) ?_))
             refine zAa (zAj rfl rfl aG (zAk (v := (.bool (a1 == 0))) rfl (zBv rfl rfl) ?_))
             refine OV (.bool (a1 == 0)) rfl (zAA rfl aG rfl) <| OV (.bool (a1 == 0)) rfl (zAb) <| OW.nil ?_
             exact ⟨a1 == 0, hm, ⟨aJ, aH, aL, aM, aI, aK, aF, rfl, hL⟩⟩
           intro s_j4 fL eO hJ hm
           unfold zFw at hm
           obtain ⟨bQ, bR, bD, bE, aR, bS, aS, cV, hL⟩ := hJ
           refine zAn (t := s_j4) cV hm (fun cE hm => ?_) (fun cE hm => ?_)
           · refine zAl <| OV aB rfl (zAo aR) <| OV (IV s_l2.2) rfl (zAo aS) <| OV (IV (a0.Finishes.length : Int)) rfl (zAo bD) <| OV (IV (w64 ((a0.Finishes.length : Int) + 1))) rfl (zBe rfl rfl) <| OV (IV (w64 (10 * (w64 ((a0.Finishes.length : Int) + 1))))) rfl (zHP rfl rfl) ?_
             obtain ⟨fM, cF, hm⟩ := zAs hm
             obtain ⟨cG, bL⟩ := zAZ cF
             obtain ⟨cW, cX, aX⟩ := zAC (hL.rdO 1 rfl) cG bL
             refine OV (.pointer (some ⟨cW, cX, none⟩)) rfl (zA1 U27 zAf rfl rfl aX) ?_
             refine zAa (zBV (j := 0) (w64 (10 * (w64 ((a0.Finishes.length : Int) + 1)))) hL 1 rfl zAf aX bL rfl rfl rfl rfl rfl rfl ?_)
             intro eP hL
             refine OW.nil ?_
             exact ⟨s_l2.1.set (s_l2.2 : Int).toNat (w64 (10 * (w64 ((a0.Finishes.length : Int) + 1)))), hm, ⟨aE, bQ, bR, bD, bE, aR, bS, aS, hL⟩⟩
           refine zAl <| OV aB rfl (zAo aR) <| OV (IV s_l2.2) rfl (zAo aS) <| OV (IV s_l1.1) rfl (zAo bE) <| OV (IV (w64 (s_l1.1 + 1))) rfl (zBe rfl rfl) <| OV (IV (w64 (10 * (w64 (s_l1.1 + 1))))) rfl (zHP rfl rfl) ?_
           obtain ⟨fN, cH, hm⟩ := zAs hm
           obtain ⟨cI, bM⟩ := zAZ cH
           obtain ⟨cY, cZ, aY⟩ := zAC (hL.rdO 1 rfl) cI bM
           refine OV (.pointer (some ⟨cY, cZ, none⟩)) rfl (zA1 U27 zAf rfl rfl aY) ?_
           refine zAa (zBV (j := 0) (w64 (10 * (w64 (s_l1.1 + 1)))) hL 1 rfl zAf aY bM rfl rfl rfl rfl rfl rfl ?_)
           intro eQ hL
           refine OW.nil ?_
           exact ⟨s_l2.1.set (s_l2.2 : Int).toNat (w64 (10 * (w64 (s_l1.1 + 1)))), hm, ⟨aE, bQ, bR, bD, bE, aR, bS, aS, hL⟩⟩
         intro s_j3 fO eR hJ hm
         unfold zDf at hm
         obtain ⟨bC, dA, dB, dC, dD, dE, dF, dG, hL⟩ := hJ
         exact ⟨s_j3, hm, ⟨bC, dA, dB, dC, dD, dE, dF, dG, hL⟩⟩
       intro s_j2 fP eS hJ hm
       unfold zHt at hm
       obtain ⟨bB, dH, dI, dJ, dK, dL, dM, dN, hL⟩ := hJ
       exact ⟨s_j2, hm, ⟨bB, dH, dI, dJ, dK, dL, dM, dN, hL⟩⟩
     intro s_j1 fQ eT hJ hm
     unfold zHs at hm
     obtain ⟨bA, dO, dP, dQ, dR, dS, dT, dU, hL⟩ := hJ
     refine zAl <| OV (IV s_l2.2) rfl (zAo dU) <| OV (IV (w64 (s_l2.2 + 1))) rfl (zBe rfl rfl) <| OV (IV (w64 (s_l2.2 + 1))) rfl (zAb) <| OW.nil ?_
     obtain rfl := oi hm
     exact ⟨_, rfl, ⟨bA, dO, dP, dQ, dR, dS, dT, rfl, hL⟩⟩
   refine zA0 ?_
   refine zBk ?_
   obtain rfl := oi hm
   exact ⟨_, rfl, ⟨aE, aJ, aH, aL, aM, aI, aK, aF, hL⟩⟩
 intro s_l1 fR eU cJ hJ hm fS
 unfold zFA at hm
 obtain ⟨bF, aN, bG, bH, aO, hL⟩ := hJ
 refine zAF <| CSR <| OV (IV s_l1.2) rfl (zAo aO) <| OV (PV b4 0) rfl (zAc (fsz := 1) 0 0 0 zIJ rfl zCr rfl aN rfl) <| OV v1 rfl (zAd U99 rfl rfl (hL.cellB 0 rfl rfl)) <| OV (IV (a0.Finishes.length : Int)) rfl (zA3 U99 rfl (hL.rdS 1 rfl h2)) <| OV (.bool (decide (s_l1.2 < (a0.Finishes.length : Int)))) rfl (zBE rfl rfl) <| OW.nil ?_
 refine zAn (t := decide (s_l1.2 < (a0.Finishes.length : Int))) rfl hm (fun cK hm => ?_) (fun cK hm => ?_)
 · refine zAt ?_
   refine zAM (fun (s_j5 : Int) F w => F 1 = (IV a1) ∧ F 2 = (PV b4 0) ∧ F 5 = (IV (a0.Finishes.length : Int)) ∧ F 6 = (IV s_j5) ∧ F 7 = (IV s_l1.2) ∧ Hp w0 [Ent.blk b4 101 #[v1], zAg w0 w0.heap.size] w) (fun s_j5 => zHu s_l1 s_j5 = some cJ) ?_ ?_
   · refine zBG (fun (s_j6 : Int) F w => F 1 = (IV a1) ∧ F 2 = (PV b4 0) ∧ F 5 = (IV (a0.Finishes.length : Int)) ∧ F 6 = (IV s_j6) ∧ F 7 = (IV s_l1.2) ∧ Hp w0 [Ent.blk b4 101 #[v1], zAg w0 w0.heap.size] w) (fun s_j6 => zFz s_l1 s_j6 = some cJ) ?_ ?_
     · refine CSR <| OV (PV b4 0) rfl (zAc (fsz := 1) 0 0 0 zIJ rfl zCr rfl aN rfl) <| OV v1 rfl (zAd U99 rfl rfl (hL.cellB 0 rfl rfl)) <| OV (IV s_l1.2) rfl (zAo aO) ?_
       obtain ⟨bI, cM, hm⟩ := zAs hm
       obtain ⟨cN, bN⟩ := zAZ cM
       obtain ⟨bT, aT, aZ⟩ := zAC (hL.rdS 1 rfl h2) cN bN
       refine OV (.pointer (some ⟨bT, aT, none⟩)) rfl (zA1 U99 zAP rfl rfl aZ) <| OV (.pointer (some ⟨bT, aT + 1, none⟩)) rfl (zAc (fsz := 1) aT 1 (aT + 1) zFd rfl zAf rfl rfl rfl) <| OV (IV bI.Code) rfl (zAd U2 rfl rfl (zAv (hL.rdS 1 rfl h2) aZ bN 1 _ rfl)) <| OV (.bool (bI.Code != 1)) rfl (zDk rfl rfl) <| OW.nil ?_
       refine zAn (t := bI.Code != 1) rfl hm (fun cO hm => ?_) (fun cO hm => ?_)
       · refine zAl <| OV (IV s_l1.1) rfl (zAo bH) <| OV (IV (w64 (s_l1.1 + 1))) rfl (zBe rfl rfl) <| OV (IV (w64 (s_l1.1 + 1))) rfl (zAb) <| OW.nil ?_
         exact ⟨w64 (s_l1.1 + 1), hm, ⟨bF, aN, bG, rfl, aO, hL⟩⟩
       refine zAt ?_
       exact ⟨s_l1.1, hm, ⟨bF, aN, bG, bH, aO, hL⟩⟩
     intro s_j6 fT eV hJ hm
     unfold zFz at hm
     obtain ⟨dV, dW, dX, dY, dZ, hL⟩ := hJ
     exact ⟨s_j6, hm, ⟨dV, dW, dX, dY, dZ, hL⟩⟩
   intro s_j5 fU eW hJ hm
   unfold zHu at hm
   obtain ⟨eA, eB, eC, eD, eE, hL⟩ := hJ
   refine zAl <| OV (IV s_l1.2) rfl (zAo eE) <| OV (IV (w64 (s_l1.2 + 1))) rfl (zBe rfl rfl) <| OV (IV (w64 (s_l1.2 + 1))) rfl (zAb) <| OW.nil ?_
   obtain rfl := oi hm
   exact ⟨_, rfl, ⟨eA, eB, eC, eD, rfl, hL⟩⟩
 refine zA0 ?_
 refine zBk ?_
 obtain rfl := oi hm
 exact ⟨_, rfl, ⟨bF, aN, bG, bH, aO, hL⟩⟩

theorem zMe (w0 : World) (a0 : Series) {v1 : Value} (h2 : rdL (· < w0.heap.size) w0 v1 a0.Races) {r : Table × Int} (hm : zIv a0 = some r) :
    Calls Tryz.prog 83 #[(.agg #[(IV a0.Boats), (IV a0.Scheme), v1])] w0 fun e w' => ∃ (rv0 : Value) (rS0 : Nat → Prop), ∃ (rv1 : Value) (rS1 : Nat → Prop), e = .returned (.tuple #[(.agg #[(IV r.1.Boats), rv0, rv1]), (IV r.2)]) ∧ Fresh w0 w' [Ent.own 27 rS0 rv0 r.1.Points, Ent.own 27 rS1 rv1 r.1.Codes] := by
 unfold zIv at hm
 refine zAD (args := [(.agg #[(IV a0.Boats), (IV a0.Scheme), v1])]) Tryz.func83 rfl rfl rfl ?_
 have hL := zAJ w0
 refine CSR ?_
 refine zAa (zC3 (cs := #[(IV a0.Boats), (IV a0.Scheme), v1]) hL rfl rfl rfl ?_)
 intro wd3 b4 hL
 refine zAa (zBb (cs := #[(IV 0), (.slice none 0 0), (.slice none 0 0)]) hL zBg rfl rfl ?_)
 intro wd5 b6 hL
 refine OV (IV 0) rfl (zAb) <| ONS <| CSR <| OV (.agg #[(IV a0.Boats), (IV a0.Scheme), v1]) rfl (zAW (cs := [(IV a0.Boats), (IV a0.Scheme), v1]) U38 zA5 rfl rfl (hL.cellsB 1 rfl (o := 0) (l := [(IV a0.Boats), (IV a0.Scheme), v1]) (by intro j u hj; exact (by simpa using hj)))) ?_
 obtain ⟨x7, hx8, hm⟩ := zAs hm
 refine zAa (OP.call rfl (zAq (vs := [(.agg #[(IV a0.Boats), (IV a0.Scheme), v1])]) zOK ⟨rfl, trivial⟩) (zJO _ a0 (hL.rdS 2 rfl h2) hx8) ?_)
 rintro e9 aAg ⟨rfl, sI⟩
 refine ⟨_, rfl, ?_⟩
 have hL := hL.pushAll sI
 simp only [lA, lB, lC, lD] at hL
 refine OV (.bool (!x7)) rfl (zCb rfl) <| OW.nil ?_
 refine zAn (t := !x7) rfl hm (fun sJ hm => ?_) (fun sJ hm => ?_)
 · refine CSR <| OV (.agg #[(IV 0), (.slice none 0 0), (.slice none 0 0)]) rfl (zCB zKY (ps := []) trivial (by simp [Instr.fill, zBJ, zBA, zBi, zBK, zBo, zBc])) ?_
   refine zAa (zA9 (l := [(IV 0), (.slice none 0 0), (.slice none 0 0)]) (cs' := #[(IV 0), (.slice none 0 0), (.slice none 0 0)]) hL 0 rfl zBg rfl rfl (fc ⟨rfl, (fc ⟨rfl, (fc ⟨rfl, fz⟩)⟩)⟩) rfl (nle rfl) rfl ?_)
   intro aAh hL
   refine OV (IV 1) rfl (zAb) <| OW.nil <| zAx ?_
   have hL := hL.pushNil (List Int) 27
   have hL := hL.pushNil (List Int) 27
   obtain rfl := oi hm
   exact zP6 rfl rfl (zCN U26 zBg (hL.get 2 rfl) rfl) rfl ⟨(.slice none 0 0), zBO, (.slice none 0 0), zBO, rfl, hL.fresh 4 rfl [1, 0] (by decide) (by decide) rfl⟩
 refine zAt <| CSR <| OV (PV b4 0) rfl (zAc (fsz := 1) 0 0 0 U38 rfl zAf rfl rfl rfl) <| OV (IV a0.Boats) rfl (zAd U2 rfl rfl (hL.cellB 1 rfl rfl)) ?_
 refine zAa (zM2 (α := Int) (List Int) hL U24 zAR rfl ?_)
 intro aAi gS vL hL
 refine zAa (zM2 (α := Int) (List Int) hL U24 zAR rfl ?_)
 intro aAj gT vM hL
 refine OV (.agg #[(IV a0.Boats), gS, gT]) rfl (zCB zKY (ps := [(0, (IV a0.Boats)), (1, gS), (2, gT)]) ⟨⟨rfl, rfl⟩, ⟨rfl, rfl⟩, ⟨rfl, rfl⟩, trivial⟩ (by simp [Instr.fill, zBJ, zBA, zBi, zBK, zBo, zBc, (zAY (hL.rdO 1 rfl)), (zAY (hL.rdO 0 rfl))])) ?_
 refine zAa (zBb (cs := #[(IV 0), (.slice none 0 0), (.slice none 0 0)]) hL zBg rfl rfl ?_)
 intro aAk aB hL
 refine zAa (zA9 (l := [(IV a0.Boats), gS, gT]) (cs' := #[(IV a0.Boats), gS, gT]) hL 0 rfl zBg rfl rfl (fc ⟨rfl, (fc ⟨zBI (hL.rdO 2 rfl), (fc ⟨zBI (hL.rdO 1 rfl), fz⟩)⟩)⟩) rfl (nle rfl) rfl ?_)
 intro aAl hL
 refine ONS <| CSR <| OV (IV 0) rfl (zAb) <| OW.nil ?_
 obtain ⟨aAm, oX, hm⟩ := zAs hm
 have hL := hL.sl [2, 1, 0, 3, 4, 5] rfl
 refine zAU (fun (s_l1 : (List (List Int)) × (List (List Int)) × Int) F w => ∃ aC aH aA aF, F 1 = (PV b4 0) ∧ F 2 = (PV b6 0) ∧ F 4 = (PV aB 0) ∧ F 5 = (IV s_l1.2.2) ∧ Hp w0 [Ent.own 27 aH aC s_l1.1, Ent.own 27 aF aA s_l1.2.1, Ent.blk aB 26 #[(IV a0.Boats), aC, aA], Ent.blk b6 26 #[(IV 0), (.slice none 0 0), (.slice none 0 0)], Ent.blk b4 38 #[(IV a0.Boats), (IV a0.Scheme), v1], zAg w0 w0.heap.size] w) (fun o => zBh o (fun x => some x) (fun s => zIl a0 s) = some r) oX hm ⟨gS, vL, gT, vM, rfl, rfl, rfl, rfl, hL⟩ ?_ ?_
 · intro s_l1 aAn xJ hJ hm
   have hm := zBD hm
   have hm : zIl a0 s_l1 = some r := hm
   unfold zIl at hm
   obtain ⟨aC, aH, aA, aF, aAo, mP, sK, aAp, hL⟩ := hJ
   refine CSR <| OV (.agg #[(IV a0.Boats), aC, aA]) rfl (zAW (cs := [(IV a0.Boats), aC, aA]) U26 zBg rfl sK (hL.cellsB 2 rfl (o := 0) (l := [(IV a0.Boats), aC, aA]) (by intro j u hj; exact (by simpa using hj)))) ?_
   refine zAa (zA9 (l := [(IV a0.Boats), aC, aA]) (cs' := #[(IV a0.Boats), aC, aA]) hL 3 rfl zBg mP rfl (fc ⟨rfl, (fc ⟨zBI (hL.rdO 0 rfl), (fc ⟨zBI (hL.rdO 1 rfl), fz⟩)⟩)⟩) rfl (nle rfl) rfl ?_)
   intro xK hL
   refine OV (IV 0) rfl (zAb) <| OW.nil <| zAx ?_
   obtain rfl := oi hm
   exact zP6 rfl mP (zCN U26 zBg (hL.get 3 rfl) rfl) rfl ⟨aC, aH, aA, aF, rfl, hL.fresh 5 rfl [0, 1] (by decide) (by decide) rfl⟩
 intro s_l1 aAq xL mQ hJ hm xM
 unfold zHa at hm
 obtain ⟨aC, aH, aA, aF, hQ, mR, mS, hR, hL⟩ := hJ
 refine zAF <| CSR <| OV (IV s_l1.2.2) rfl (zAo hR) <| OV (PV b4 2) rfl (zAc (fsz := 1) 0 2 2 U38 rfl zCq rfl hQ rfl) <| OV v1 rfl (zAd U36 rfl rfl (hL.cellB 4 rfl rfl)) <| OV (IV (a0.Races.length : Int)) rfl (zA3 U36 rfl (hL.rdS 5 rfl h2)) <| OV (.bool (decide (s_l1.2.2 < (a0.Races.length : Int)))) rfl (zBE rfl rfl) <| OW.nil ?_
 refine zAn (t := decide (s_l1.2.2 < (a0.Races.length : Int))) rfl hm (fun oY hm => ?_) (fun oY hm => ?_)
 · refine zAt <| zAF <| CW.block <| CSR ?_
   refine zAa (zBS ([] : List Int) hL U27 zAf rfl (by decide) (by first | (simp [Instr.fill, madeCells, Value.cells, ev, upd, Flat.enc, Flat.sz]; done) | rfl | kernel_rfl) rfl rfl ?_)
   intro xN mT sL hL
   refine OV mT rfl (zAb) <| ONS <| CSR <| OV (IV 0) rfl (zAb) <| OW.nil ?_
   obtain ⟨aAr, oZ, hm⟩ := zAs hm
   refine zAU (fun (s_l2 : (List Int) × Int) F w => ∃ aD aJ, F 1 = (PV b4 0) ∧ F 2 = (PV b6 0) ∧ F 4 = (PV aB 0) ∧ F 5 = (IV s_l1.2.2) ∧ F 6 = aD ∧ F 7 = (IV s_l2.2) ∧ Hp w0 [Ent.own 2 aJ aD s_l2.1, Ent.own 27 aH aC s_l1.1, Ent.own 27 aF aA s_l1.2.1, Ent.blk aB 26 #[(IV a0.Boats), aC, aA], Ent.blk b6 26 #[(IV 0), (.slice none 0 0), (.slice none 0 0)], Ent.blk b4 38 #[(IV a0.Boats), (IV a0.Scheme), v1], zAg w0 w0.heap.size] w) (fun o => zBh o (fun x => some (.ret x)) (fun s => zG8 a0 s_l1 s) = some mQ) oZ hm ⟨mT, sL, hQ, mR, mS, hR, rfl, rfl, hL⟩ ?_ ?_
   · intro s_l2 aAs xO hJ hm
     have hm := zBD hm
     have hm : zG8 a0 s_l1 s_l2 = some mQ := hm
     unfold zG8 at hm
     obtain ⟨aD, aJ, aO, cJ, aP, bQ, sM, aAt, hL⟩ := hJ
     obtain ⟨aI, hL, aX⟩ := hL.freeze 1 rfl
     simp only [lC, lD] at hL
     obtain ⟨aE, hL, pA⟩ := hL.freeze 2 rfl
     simp only [lC, lD] at hL
     refine zDG (fun w' => Hp w0 [Ent.blk b6 26 #[(IV 0), (.slice none 0 0), (.slice none 0 0)], Ent.blk b4 38 #[(IV a0.Boats), (IV a0.Scheme), v1], zAg w0 w0.heap.size] w') zAQ ?_
     have hL := hL.call (zA8 _)
     have hS := (hL.sl [4, 5, 6] rfl)
     refine zAw 0 rfl (by kernel_rfl) rfl rfl hS (zAp (v := (PV b4 0)) (fun w' hS' => zAc (fsz := 1) 0 0 0 U38 rfl zAf rfl aO rfl)) ?_
     have hS := (hL.sl [4, 5, 6] rfl)
     refine zAw 1 rfl (by kernel_rfl) rfl rfl hS (zAp (v := (IV a0.Boats)) (fun w' hS' => zAd U2 rfl rfl (hS'.cellB 1 rfl rfl))) ?_
     have hS := (hL.sl [4, 5, 6] rfl)
     refine zAw 2 rfl (by kernel_rfl) rfl rfl hS (zAp (v := (PV aB 1)) (fun w' hS' => zAc (fsz := 1) 0 1 1 U26 rfl zBq rfl aP rfl)) ?_
     have hS := (hL.sl [4, 5, 6] rfl)
     refine zAw 4 rfl (by kernel_rfl) rfl rfl hS (zAp (v := (PV b4 2)) (fun w' hS' => zAc (fsz := 1) 0 2 2 U38 rfl zCq rfl aO rfl)) ?_
     have hS := (hL.sl [4, 5, 6] rfl)
     refine zAw 5 rfl (by kernel_rfl) rfl rfl hS (zAp (v := v1) (fun w' hS' => zAd U36 rfl rfl (hS'.cellB 1 rfl rfl))) ?_
     have hS := (hL.sl [4, 5, 6] rfl)
     refine zAw 6 rfl (by kernel_rfl) rfl rfl hS (zAp (v := (IV s_l1.2.2)) (fun w' hS' => zAo bQ)) ?_
     have hS := (hL.sl [4, 5, 6] rfl)
     obtain ⟨aN, pB, hm⟩ := zAs hm
     obtain ⟨pD, pE⟩ := zAZ pB
     obtain ⟨sN, sO, aK, mU, pF, pG, aL⟩ := zCp h2 pD pE
     refine zAw 7 rfl (by kernel_rfl) rfl rfl hS (zAp (v := (.pointer (some ⟨sN, sO, none⟩))) (fun w' hS' => zA1 U36 zBd rfl rfl mU)) ?_
     have hS := (hL.sl [4, 5, 6] rfl)
     refine zAw 8 rfl (by kernel_rfl) rfl rfl hS (zAp (v := (.agg #[aK])) (fun w' hS' => zAW (cs := [aK]) zIJ zBd rfl rfl (by intro j u hj; match j, hj with | 0, hj => (simp at hj; subst hj; exact (hS'.cellS 2 rfl pF pG))))) ?_
     have hS := (hL.sl [4, 5, 6] rfl)
     refine zAw 9 rfl (by kernel_rfl) rfl rfl hS (zAp (v := (PV b4 1)) (fun w' hS' => zAc (fsz := 1) 0 1 1 U38 rfl zAf rfl aO rfl)) ?_
     have hS := (hL.sl [4, 5, 6] rfl)
     refine zAw 10 rfl (by kernel_rfl) rfl rfl hS (zAp (v := (IV a0.Scheme)) (fun w' hS' => zAd U2 rfl rfl (hS'.cellB 1 rfl rfl))) ?_
     have hS := (hL.sl [4, 5, 6] rfl)
     refine zAw 14 rfl (by kernel_rfl) rfl rfl hS (zAp (v := (PV aB 2)) (fun w' hS' => zAc (fsz := 1) 0 2 2 U26 rfl zBq rfl aP rfl)) ?_
     have hS := (hL.sl [4, 5, 6] rfl)
     refine zAw 16 rfl (by kernel_rfl) rfl rfl hS (zAp (v := aD) (fun w' hS' => zAo sM)) ?_
     obtain ⟨aG, aM, hm⟩ := zAs hm
     obtain ⟨aY, hm⟩ := zEs hm
     obtain ⟨pH, hm⟩ := zEs hm
     refine zAI (listed' := (bma 21 2097151)) (fuel' := 0) (fun F w => ∃ cK hT cM hU, F 1 = (PV b4 0) ∧ F 2 = (PV b6 0) ∧ F 4 = (PV aB 0) ∧ F 5 = (IV s_l1.2.2) ∧ Hp w0 [Ent.own 27 hT cK (s_l1.2.1 ++ ([s_l2.1] : List (List Int))), Ent.own 27 hU cM (s_l1.1 ++ ([aG] : List (List Int))), Ent.blk aB 26 #[(IV a0.Boats), cM, cK], Ent.blk b6 26 #[(IV 0), (.slice none 0 0), (.slice none 0 0)], Ent.blk b4 38 #[(IV a0.Boats), (IV a0.Scheme), v1], zAg w0 w0.heap.size] w) ?_ (fun pI => ?_)
     · intro aAu xP hJ
       obtain ⟨cK, hT, cM, hU, sP, sQ, sR, sS, hL⟩ := hJ
       refine zDB (by kernel_rfl) ?_
       refine zAl <| OV (IV s_l1.2.2) rfl (zAo sS) <| OV (IV (w64 (s_l1.2.2 + 1))) rfl (zBe rfl rfl) <| OV (IV (w64 (s_l1.2.2 + 1))) rfl (zAb) <| OW.nil ?_
       have hL := hL.sl [1, 0, 2, 3, 4, 5] rfl
       obtain rfl := oi hm
       exact ⟨_, rfl, ⟨cM, hU, cK, hT, sP, sQ, sR, rfl, hL⟩⟩
     refine zAI (listed' := (bma 21 1048575)) (fuel' := 1) (fun F w => ∃ aQ hV aR hW, F 1 = (PV b4 0) ∧ F 2 = (PV b6 0) ∧ F 4 = (PV aB 0) ∧ F 5 = (IV s_l1.2.2) ∧ F 68 = (.agg #[(IV a0.Boats), aR, aQ]) ∧ Hp w0 [Ent.own 27 hV aQ (s_l1.2.1 ++ ([s_l2.1] : List (List Int))), Ent.own 27 hW aR (s_l1.1 ++ ([aG] : List (List Int))), Ent.blk aB 26 #[(IV a0.Boats), aC, aA], Ent.blk b6 26 #[(IV 0), (.slice none 0 0), (.slice none 0 0)], Ent.blk b4 38 #[(IV a0.Boats), (IV a0.Scheme), v1], zAg w0 w0.heap.size] w) ?_ (fun pJ => ?_)
     · intro aAv xQ hJ
       obtain ⟨aQ, hV, aR, hW, sT, sU, mV, sV, sW, hL⟩ := hJ
       refine zAT 20 rfl (by kernel_rfl) (zA9 (l := [(IV a0.Boats), aR, aQ]) (cs' := #[(IV a0.Boats), aR, aQ]) hL 2 rfl zBg mV rfl (fc ⟨rfl, (fc ⟨zBI (hL.rdO 1 rfl), (fc ⟨zBI (hL.rdO 0 rfl), fz⟩)⟩)⟩) sW (nle rfl) rfl ?_)
       intro xR hL
       refine ⟨(hL.sl [3, 4, 5] rfl), ?_⟩
       exact zAm (listed' := (bma 21 2097151)) (by kernel_rfl) (pI _ _ ⟨aQ, hV, aR, hW, sT, sU, mV, sV, hL⟩)
     refine zAI (listed' := (bma 21 262143)) (fuel' := 3) (fun F w => ∃ hX mW aS hY, F 1 = (PV b4 0) ∧ F 2 = (PV b6 0) ∧ F 4 = (PV aB 0) ∧ F 5 = (IV s_l1.2.2) ∧ F 50 = (IV a0.Boats) ∧ F 62 = aS ∧ F 64 = aA ∧ F 66 = hX ∧ Hp w0 [Ent.own 27 mW hX ([s_l2.1] : List (List Int)), Ent.own 27 hY aS (s_l1.1 ++ ([aG] : List (List Int))), zA2 aE aF, Ent.blk aB 26 #[(IV a0.Boats), aC, aA], Ent.blk b6 26 #[(IV 0), (.slice none 0 0), (.slice none 0 0)], Ent.blk b4 38 #[(IV a0.Boats), (IV a0.Scheme), v1], zAg w0 w0.heap.size] w) ?_ (fun cN => ?_)
     · intro aAw xS hJ
       obtain ⟨hX, mW, aS, hY, sX, sY, sZ, tA, tB, tC, tD, tE, hL⟩ := hJ
       have hL := hL.thaw 2 rfl pA
       have hL := hL.sl [2, 0, 1, 3, 4, 5, 6] rfl
       refine zAT 18 rfl (by kernel_rfl) (zEF Int hL U24 zAR rfl tD tE pH (by decide) rfl ?_)
       intro xT hZ tF hL
       refine ⟨(hL.sl [3, 4, 5] rfl), ?_⟩
       have hS := (hL.sl [3, 4, 5] rfl)
       refine zAw 19 rfl (by kernel_rfl) rfl rfl hS (zAp (v := (.agg #[(IV a0.Boats), aS, hZ])) (fun w' hS' => zCB zKY (ps := [(0, (IV a0.Boats)), (1, aS), (2, hZ)]) ⟨⟨rfl, tB⟩, ⟨rfl, tC⟩, ⟨rfl, rfl⟩, trivial⟩ (by simp [Instr.fill, zBJ, zBA, zBi, zBK, zBo, zBc, (zAY (hL.rdO 1 rfl)), (zAY (hL.rdO 0 rfl))]))) ?_
       exact zAm (listed' := (bma 21 1048575)) (by kernel_rfl) (pJ _ _ ⟨hZ, tF, aS, hY, sX, sY, sZ, tA, rfl, hL⟩)
     refine zAI (listed' := (bma 21 131071)) (fuel' := 4) (fun F w => ∃ cO iA, F 1 = (PV b4 0) ∧ F 2 = (PV b6 0) ∧ F 4 = (PV aB 0) ∧ F 5 = (IV s_l1.2.2) ∧ F 50 = (IV a0.Boats) ∧ F 62 = cO ∧ F 64 = aA ∧ F 65 = aD ∧ Hp w0 [Ent.own 27 iA cO (s_l1.1 ++ ([aG] : List (List Int))), Ent.own 2 aJ aD s_l2.1, zA2 aE aF, Ent.blk aB 26 #[(IV a0.Boats), aC, aA], Ent.blk b6 26 #[(IV 0), (.slice none 0 0), (.slice none 0 0)], Ent.blk b4 38 #[(IV a0.Boats), (IV a0.Scheme), v1], zAg w0 w0.heap.size] w) ?_ (fun iR => ?_)
     · intro aAx xU hJ
       obtain ⟨cO, iA, tG, tH, tI, tJ, tK, tL, tM, tN, hL⟩ := hJ
       have hL := hL.sl [1, 0, 2, 3, 4, 5, 6] rfl
       refine zAT 17 rfl (by kernel_rfl) (zBP s_l2.1 rfl hL U24 zAR ((congrArg Value.cells tN).trans (zAY (hL.rdO 0 rfl))) rfl ?_)
       intro xV tO tP hL
       refine ⟨(hL.sl [4, 5, 6] rfl), ?_⟩
       exact zAm (listed' := (bma 21 262143)) (by kernel_rfl) (cN _ _ ⟨tO, tP, cO, iA, tG, tH, tI, tJ, tK, tL, tM, rfl, hL⟩)
     refine zAI (listed' := (bma 21 229375)) (fuel' := 4) (fun F w => ∃ cP iB cQ iC, F 1 = (PV b4 0) ∧ F 2 = (PV b6 0) ∧ F 4 = (PV aB 0) ∧ F 5 = (IV s_l1.2.2) ∧ F 50 = (IV a0.Boats) ∧ F 62 = cQ ∧ F 63 = (PV aB 2) ∧ F 66 = cP ∧ Hp w0 [Ent.own 27 iB cP ([s_l2.1] : List (List Int)), Ent.own 27 iC cQ (s_l1.1 ++ ([aG] : List (List Int))), zA2 aE aF, Ent.blk aB 26 #[(IV a0.Boats), aC, aA], Ent.blk b6 26 #[(IV 0), (.slice none 0 0), (.slice none 0 0)], Ent.blk b4 38 #[(IV a0.Boats), (IV a0.Scheme), v1], zAg w0 w0.heap.size] w) ?_ (fun iS => ?_)
     · intro aAy xW hJ
       obtain ⟨cP, iB, cQ, iC, tQ, tR, tS, tT, tU, tV, tW, tX, hL⟩ := hJ
       refine zAT 15 rfl (by kernel_rfl) (zAk (v := aA) rfl (zAd U24 rfl tW (hL.cellB 3 rfl rfl)) ?_)
       refine ⟨(hL.sl [4, 5, 6] rfl), ?_⟩
       exact zAm (listed' := (bma 21 262143)) (by kernel_rfl) (cN _ _ ⟨cP, iB, cQ, iC, tQ, tR, tS, tT, tU, tV, rfl, tX, hL⟩)
     refine zAI (listed' := (bma 21 253951)) (fuel' := 4) (fun F w => ∃ cR iD iE mX, F 1 = (PV b4 0) ∧ F 2 = (PV b6 0) ∧ F 4 = (PV aB 0) ∧ F 5 = (IV s_l1.2.2) ∧ F 50 = (IV a0.Boats) ∧ F 52 = aC ∧ F 61 = iE ∧ F 64 = aA ∧ F 66 = cR ∧ Hp w0 [Ent.own 27 iD cR ([s_l2.1] : List (List Int)), Ent.own 27 mX iE ([aG] : List (List Int)), zA2 aI aH, zA2 aE aF, Ent.blk aB 26 #[(IV a0.Boats), aC, aA], Ent.blk b6 26 #[(IV 0), (.slice none 0 0), (.slice none 0 0)], Ent.blk b4 38 #[(IV a0.Boats), (IV a0.Scheme), v1], zAg w0 w0.heap.size] w) ?_ (fun aZ => ?_)
     · intro aAz xX hJ
       obtain ⟨cR, iD, iE, mX, tY, tZ, uA, uB, uC, uD, uE, uF, uG, hL⟩ := hJ
       have hL := hL.thaw 2 rfl aX
       have hL := hL.sl [2, 1, 0, 3, 4, 5, 6, 7] rfl
       refine zAT 13 rfl (by kernel_rfl) (zEF Int hL U24 zAR rfl uD uE aY (by decide) rfl ?_)
       intro xY uH uI hL
       refine ⟨(hL.sl [4, 5, 6] rfl), ?_⟩
       have hL := hL.sl [1, 0, 2, 3, 4, 5, 6] rfl
       exact zAm (listed' := (bma 21 262143)) (by kernel_rfl) (cN _ _ ⟨cR, iD, uH, uI, tY, tZ, uA, uB, uC, rfl, uF, uG, hL⟩)
     refine zAI (listed' := (bma 21 98303)) (fuel' := 5) (fun F w => ∃ bR cS, F 1 = (PV b4 0) ∧ F 2 = (PV b6 0) ∧ F 4 = (PV aB 0) ∧ F 5 = (IV s_l1.2.2) ∧ F 50 = (IV a0.Boats) ∧ F 62 = bR ∧ F 63 = (PV aB 2) ∧ F 65 = aD ∧ Hp w0 [Ent.own 27 cS bR (s_l1.1 ++ ([aG] : List (List Int))), Ent.own 2 aJ aD s_l2.1, zA2 aE aF, Ent.blk aB 26 #[(IV a0.Boats), aC, aA], Ent.blk b6 26 #[(IV 0), (.slice none 0 0), (.slice none 0 0)], Ent.blk b4 38 #[(IV a0.Boats), (IV a0.Scheme), v1], zAg w0 w0.heap.size] w) ?_ (fun pK => ?_)
     · intro aBa xZ hJ
       obtain ⟨bR, cS, mY, mZ, nA, nB, nC, nD, nE, nF, hL⟩ := hJ
       refine DH.all (rs := [15, 17]) (by kernel_rfl) (by simp) ?_
       intro aBb iT
       simp only [List.mem_cons, List.not_mem_nil, or_false] at iT
       rcases iT with rfl | rfl
       · refine ⟨_, rfl, ?_⟩
         refine zAk (v := aA) rfl (zAd U24 rfl nE (hL.cellB 3 rfl rfl)) ?_
         refine ⟨(hL.sl [4, 5, 6] rfl), ?_⟩
         exact zAm (listed' := (bma 21 131071)) (by kernel_rfl) (iR _ _ ⟨bR, cS, mY, mZ, nA, nB, nC, nD, rfl, nF, hL⟩)
       refine ⟨_, rfl, ?_⟩
       have hL := hL.sl [1, 0, 2, 3, 4, 5, 6] rfl
       refine zBP s_l2.1 rfl hL U24 zAR ((congrArg Value.cells nF).trans (zAY (hL.rdO 0 rfl))) rfl ?_
       intro yA uJ uK hL
       refine ⟨(hL.sl [4, 5, 6] rfl), ?_⟩
       exact zAm (listed' := (bma 21 229375)) (by kernel_rfl) (iS _ _ ⟨uJ, uK, bR, cS, mY, mZ, nA, nB, nC, nD, nE, rfl, hL⟩)
     refine zAI (listed' := (bma 21 122879)) (fuel' := 5) (fun F w => ∃ cT iF, F 1 = (PV b4 0) ∧ F 2 = (PV b6 0) ∧ F 4 = (PV aB 0) ∧ F 5 = (IV s_l1.2.2) ∧ F 50 = (IV a0.Boats) ∧ F 52 = aC ∧ F 61 = cT ∧ F 64 = aA ∧ F 65 = aD ∧ Hp w0 [Ent.own 27 iF cT ([aG] : List (List Int)), Ent.own 2 aJ aD s_l2.1, zA2 aI aH, zA2 aE aF, Ent.blk aB 26 #[(IV a0.Boats), aC, aA], Ent.blk b6 26 #[(IV 0), (.slice none 0 0), (.slice none 0 0)], Ent.blk b4 38 #[(IV a0.Boats), (IV a0.Scheme), v1], zAg w0 w0.heap.size] w) ?_ (fun cU => ?_)
     · intro aBc yB hJ
       obtain ⟨cT, iF, nG, nH, nI, nJ, nK, nL, nM, nN, nO, hL⟩ := hJ
       refine DH.all (rs := [13, 17]) (by kernel_rfl) (by simp) ?_
       intro aBd iU
       simp only [List.mem_cons, List.not_mem_nil, or_false] at iU
       rcases iU with rfl | rfl
       · refine ⟨_, rfl, ?_⟩
         have hL := hL.thaw 2 rfl aX
         have hL := hL.sl [2, 0, 1, 3, 4, 5, 6, 7] rfl
         refine zEF Int hL U24 zAR rfl nL nM aY (by decide) rfl ?_
         intro yC uL uM hL
         refine ⟨(hL.sl [4, 5, 6] rfl), ?_⟩
         exact zAm (listed' := (bma 21 131071)) (by kernel_rfl) (iR _ _ ⟨uL, uM, nG, nH, nI, nJ, nK, rfl, nN, nO, hL⟩)
       refine ⟨_, rfl, ?_⟩
       have hL := hL.sl [1, 0, 2, 3, 4, 5, 6, 7] rfl
       refine zBP s_l2.1 rfl hL U24 zAR ((congrArg Value.cells nO).trans (zAY (hL.rdO 0 rfl))) rfl ?_
       intro yD uN uO hL
       refine ⟨(hL.sl [5, 6, 7] rfl), ?_⟩
       exact zAm (listed' := (bma 21 253951)) (by kernel_rfl) (aZ _ _ ⟨uN, uO, cT, iF, nG, nH, nI, nJ, nK, nL, nM, nN, rfl, hL⟩)
     refine zAI (listed' := (bma 21 221183)) (fuel' := 5) (fun F w => ∃ bS cV cW iG, F 1 = (PV b4 0) ∧ F 2 = (PV b6 0) ∧ F 4 = (PV aB 0) ∧ F 5 = (IV s_l1.2.2) ∧ F 50 = (IV a0.Boats) ∧ F 52 = aC ∧ F 61 = cW ∧ F 63 = (PV aB 2) ∧ F 66 = bS ∧ Hp w0 [Ent.own 27 cV bS ([s_l2.1] : List (List Int)), Ent.own 27 iG cW ([aG] : List (List Int)), zA2 aI aH, zA2 aE aF, Ent.blk aB 26 #[(IV a0.Boats), aC, aA], Ent.blk b6 26 #[(IV 0), (.slice none 0 0), (.slice none 0 0)], Ent.blk b4 38 #[(IV a0.Boats), (IV a0.Scheme), v1], zAg w0 w0.heap.size] w) ?_ (fun cX => ?_)
     · intro aBe yE hJ
       obtain ⟨bS, cV, cW, iG, nQ, nR, nS, nT, nU, nV, nW, nX, nY, hL⟩ := hJ
       refine DH.all (rs := [13, 15]) (by kernel_rfl) (by simp) ?_
       intro aBf iV
       simp only [List.mem_cons, List.not_mem_nil, or_false] at iV
       rcases iV with rfl | rfl
       · refine ⟨_, rfl, ?_⟩
         have hL := hL.thaw 2 rfl aX
         have hL := hL.sl [2, 1, 0, 3, 4, 5, 6, 7] rfl
         refine zEF Int hL U24 zAR rfl nV nW aY (by decide) rfl ?_
         intro yF uP uQ hL
         refine ⟨(hL.sl [4, 5, 6] rfl), ?_⟩
         have hL := hL.sl [1, 0, 2, 3, 4, 5, 6] rfl
         exact zAm (listed' := (bma 21 229375)) (by kernel_rfl) (iS _ _ ⟨bS, cV, uP, uQ, nQ, nR, nS, nT, nU, rfl, nX, nY, hL⟩)
       refine ⟨_, rfl, ?_⟩
       refine zAk (v := aA) rfl (zAd U24 rfl nX (hL.cellB 4 rfl rfl)) ?_
       refine ⟨(hL.sl [5, 6, 7] rfl), ?_⟩
       exact zAm (listed' := (bma 21 253951)) (by kernel_rfl) (aZ _ _ ⟨bS, cV, cW, iG, nQ, nR, nS, nT, nU, nV, nW, rfl, nY, hL⟩)
     refine zAI (listed' := (bma 21 249855)) (fuel' := 5) (fun F w => ∃ cY iH iI nZ, F 1 = (PV b4 0) ∧ F 2 = (PV b6 0) ∧ F 4 = (PV aB 0) ∧ F 5 = (IV s_l1.2.2) ∧ F 50 = (IV a0.Boats) ∧ F 52 = aC ∧ F 60 = iI ∧ F 64 = aA ∧ F 66 = cY ∧ Hp w0 [Ent.own 27 iH cY ([s_l2.1] : List (List Int)), Ent.own 2 nZ iI aG, zA2 aI aH, zA2 aE aF, Ent.blk aB 26 #[(IV a0.Boats), aC, aA], Ent.blk b6 26 #[(IV 0), (.slice none 0 0), (.slice none 0 0)], Ent.blk b4 38 #[(IV a0.Boats), (IV a0.Scheme), v1], zAg w0 w0.heap.size] w) ?_ (fun bA => ?_)
     · intro aBg yG hJ
       obtain ⟨cY, iH, iI, nZ, uR, uS, uT, uU, uV, uW, uX, uY, uZ, hL⟩ := hJ
       have hL := hL.sl [1, 0, 2, 3, 4, 5, 6, 7] rfl
       refine zAT 12 rfl (by kernel_rfl) (zBP aG rfl hL U24 zAR ((congrArg Value.cells uX).trans (zAY (hL.rdO 0 rfl))) rfl ?_)
       intro yH vA vB hL
       refine ⟨(hL.sl [5, 6, 7] rfl), ?_⟩
       have hL := hL.sl [1, 0, 2, 3, 4, 5, 6, 7] rfl
       exact zAm (listed' := (bma 21 253951)) (by kernel_rfl) (aZ _ _ ⟨cY, iH, vA, vB, uR, uS, uT, uU, uV, uW, rfl, uY, uZ, hL⟩)
     refine zAI (listed' := (bma 21 253943)) (fuel' := 5) (fun F w => ∃ cZ iJ dA iK, F 1 = (PV b4 0) ∧ F 2 = (PV b6 0) ∧ F 4 = (PV aB 0) ∧ F 5 = (IV s_l1.2.2) ∧ F 50 = (IV a0.Boats) ∧ F 51 = (PV aB 1) ∧ F 61 = dA ∧ F 64 = aA ∧ F 66 = cZ ∧ Hp w0 [Ent.own 27 iJ cZ ([s_l2.1] : List (List Int)), Ent.own 27 iK dA ([aG] : List (List Int)), zA2 aI aH, zA2 aE aF, Ent.blk aB 26 #[(IV a0.Boats), aC, aA], Ent.blk b6 26 #[(IV 0), (.slice none 0 0), (.slice none 0 0)], Ent.blk b4 38 #[(IV a0.Boats), (IV a0.Scheme), v1], zAg w0 w0.heap.size] w) ?_ (fun dB => ?_)
     · intro aBh yI hJ
       obtain ⟨cZ, iJ, dA, iK, vC, vD, vE, vF, vG, vH, vI, vJ, vK, hL⟩ := hJ
       refine zAT 3 rfl (by kernel_rfl) (zAk (v := aC) rfl (zAd U24 rfl vH (hL.cellB 4 rfl rfl)) ?_)
       refine ⟨(hL.sl [5, 6, 7] rfl), ?_⟩
       exact zAm (listed' := (bma 21 253951)) (by kernel_rfl) (aZ _ _ ⟨cZ, iJ, dA, iK, vC, vD, vE, vF, vG, rfl, vI, vJ, vK, hL⟩)
     refine zAI (listed' := (bma 21 90111)) (fuel' := 6) (fun F w => ∃ bT dC, F 1 = (PV b4 0) ∧ F 2 = (PV b6 0) ∧ F 4 = (PV aB 0) ∧ F 5 = (IV s_l1.2.2) ∧ F 50 = (IV a0.Boats) ∧ F 52 = aC ∧ F 61 = bT ∧ F 63 = (PV aB 2) ∧ F 65 = aD ∧ Hp w0 [Ent.own 27 dC bT ([aG] : List (List Int)), Ent.own 2 aJ aD s_l2.1, zA2 aI aH, zA2 aE aF, Ent.blk aB 26 #[(IV a0.Boats), aC, aA], Ent.blk b6 26 #[(IV 0), (.slice none 0 0), (.slice none 0 0)], Ent.blk b4 38 #[(IV a0.Boats), (IV a0.Scheme), v1], zAg w0 w0.heap.size] w) ?_ (fun iW => ?_)
     · intro aBi yJ hJ
       obtain ⟨bT, dC, iL, iM, dD, dE, dF, dG, dH, dI, dJ, hL⟩ := hJ
       refine DH.all (rs := [13, 15, 17]) (by kernel_rfl) (by simp) ?_
       intro yK gU
       simp only [List.mem_cons, List.not_mem_nil, or_false] at gU
       rcases gU with rfl | rfl | rfl
       · refine ⟨_, rfl, ?_⟩
         have hL := hL.thaw 2 rfl aX
         have hL := hL.sl [2, 0, 1, 3, 4, 5, 6, 7] rfl
         refine zEF Int hL U24 zAR rfl dG dH aY (by decide) rfl ?_
         intro vN pL pM hL
         refine ⟨(hL.sl [4, 5, 6] rfl), ?_⟩
         exact zAm (listed' := (bma 21 98303)) (by kernel_rfl) (pK _ _ ⟨pL, pM, iL, iM, dD, dE, dF, rfl, dI, dJ, hL⟩)
       · refine ⟨_, rfl, ?_⟩
         refine zAk (v := aA) rfl (zAd U24 rfl dI (hL.cellB 4 rfl rfl)) ?_
         refine ⟨(hL.sl [5, 6, 7] rfl), ?_⟩
         exact zAm (listed' := (bma 21 122879)) (by kernel_rfl) (cU _ _ ⟨bT, dC, iL, iM, dD, dE, dF, dG, dH, rfl, dJ, hL⟩)
       refine ⟨_, rfl, ?_⟩
       have hL := hL.sl [1, 0, 2, 3, 4, 5, 6, 7] rfl
       refine zBP s_l2.1 rfl hL U24 zAR ((congrArg Value.cells dJ).trans (zAY (hL.rdO 0 rfl))) rfl ?_
       intro vO pN pO hL
       refine ⟨(hL.sl [5, 6, 7] rfl), ?_⟩
       exact zAm (listed' := (bma 21 221183)) (by kernel_rfl) (cX _ _ ⟨pN, pO, bT, dC, iL, iM, dD, dE, dF, dG, dH, dI, rfl, hL⟩)
     refine zAI (listed' := (bma 21 118783)) (fuel' := 6) (fun F w => ∃ dK iN, F 1 = (PV b4 0) ∧ F 2 = (PV b6 0) ∧ F 4 = (PV aB 0) ∧ F 5 = (IV s_l1.2.2) ∧ F 50 = (IV a0.Boats) ∧ F 52 = aC ∧ F 60 = dK ∧ F 64 = aA ∧ F 65 = aD ∧ Hp w0 [Ent.own 2 iN dK aG, Ent.own 2 aJ aD s_l2.1, zA2 aI aH, zA2 aE aF, Ent.blk aB 26 #[(IV a0.Boats), aC, aA], Ent.blk b6 26 #[(IV 0), (.slice none 0 0), (.slice none 0 0)], Ent.blk b4 38 #[(IV a0.Boats), (IV a0.Scheme), v1], zAg w0 w0.heap.size] w) ?_ (fun dL => ?_)
     · intro yL vP hJ
       obtain ⟨dK, iN, iX, iY, iZ, jA, jB, jC, jD, jE, jF, hL⟩ := hJ
       refine DH.all (rs := [12, 17]) (by kernel_rfl) (by simp) ?_
       intro yM gV
       simp only [List.mem_cons, List.not_mem_nil, or_false] at gV
       rcases gV with rfl | rfl
       · refine ⟨_, rfl, ?_⟩
         refine zBP aG rfl hL U24 zAR ((congrArg Value.cells jD).trans (zAY (hL.rdO 0 rfl))) rfl ?_
         intro vQ pR pS hL
         refine ⟨(hL.sl [5, 6, 7] rfl), ?_⟩
         exact zAm (listed' := (bma 21 122879)) (by kernel_rfl) (cU _ _ ⟨pR, pS, iX, iY, iZ, jA, jB, jC, rfl, jE, jF, hL⟩)
       refine ⟨_, rfl, ?_⟩
       have hL := hL.sl [1, 0, 2, 3, 4, 5, 6, 7] rfl
       refine zBP s_l2.1 rfl hL U24 zAR ((congrArg Value.cells jF).trans (zAY (hL.rdO 0 rfl))) rfl ?_
       intro vR pU pV hL
       refine ⟨(hL.sl [5, 6, 7] rfl), ?_⟩
       exact zAm (listed' := (bma 21 249855)) (by kernel_rfl) (bA _ _ ⟨pU, pV, dK, iN, iX, iY, iZ, jA, jB, jC, jD, jE, rfl, hL⟩)
     refine zAI (listed' := (bma 21 217087)) (fuel' := 6) (fun F w => ∃ bU dM dN iO, F 1 = (PV b4 0) ∧ F 2 = (PV b6 0) ∧ F 4 = (PV aB 0) ∧ F 5 = (IV s_l1.2.2) ∧ F 50 = (IV a0.Boats) ∧ F 52 = aC ∧ F 60 = dN ∧ F 63 = (PV aB 2) ∧ F 66 = bU ∧ Hp w0 [Ent.own 27 dM bU ([s_l2.1] : List (List Int)), Ent.own 2 iO dN aG, zA2 aI aH, zA2 aE aF, Ent.blk aB 26 #[(IV a0.Boats), aC, aA], Ent.blk b6 26 #[(IV 0), (.slice none 0 0), (.slice none 0 0)], Ent.blk b4 38 #[(IV a0.Boats), (IV a0.Scheme), v1], zAg w0 w0.heap.size] w) ?_ (fun dO => ?_)
     · intro yN vS hJ
       obtain ⟨bU, dM, dN, iO, jG, jH, jI, jJ, jK, jL, jM, jN, jO, hL⟩ := hJ
       refine DH.all (rs := [12, 15]) (by kernel_rfl) (by simp) ?_
       intro yO gW
       simp only [List.mem_cons, List.not_mem_nil, or_false] at gW
       rcases gW with rfl | rfl
       · refine ⟨_, rfl, ?_⟩
         have hL := hL.sl [1, 0, 2, 3, 4, 5, 6, 7] rfl
         refine zBP aG rfl hL U24 zAR ((congrArg Value.cells jM).trans (zAY (hL.rdO 0 rfl))) rfl ?_
         intro vT pW pX hL
         refine ⟨(hL.sl [5, 6, 7] rfl), ?_⟩
         have hL := hL.sl [1, 0, 2, 3, 4, 5, 6, 7] rfl
         exact zAm (listed' := (bma 21 221183)) (by kernel_rfl) (cX _ _ ⟨bU, dM, pW, pX, jG, jH, jI, jJ, jK, jL, rfl, jN, jO, hL⟩)
       refine ⟨_, rfl, ?_⟩
       refine zAk (v := aA) rfl (zAd U24 rfl jN (hL.cellB 4 rfl rfl)) ?_
       refine ⟨(hL.sl [5, 6, 7] rfl), ?_⟩
       exact zAm (listed' := (bma 21 249855)) (by kernel_rfl) (bA _ _ ⟨bU, dM, dN, iO, jG, jH, jI, jJ, jK, jL, jM, rfl, jO, hL⟩)
     refine zAI (listed' := (bma 21 247807)) (fuel' := 6) (fun F w => ∃ dP iP, F 1 = (PV b4 0) ∧ F 2 = (PV b6 0) ∧ F 4 = (PV aB 0) ∧ F 5 = (IV s_l1.2.2) ∧ F 50 = (IV a0.Boats) ∧ F 52 = aC ∧ F 57 = (.agg #[aK]) ∧ F 59 = (IV a0.Scheme) ∧ F 64 = aA ∧ F 66 = dP ∧ Hp w0 [Ent.own 27 iP dP ([s_l2.1] : List (List Int)), zA2 aI aH, zA2 aE aF, Ent.blk aB 26 #[(IV a0.Boats), aC, aA], Ent.blk b6 26 #[(IV 0), (.slice none 0 0), (.slice none 0 0)], Ent.blk b4 38 #[(IV a0.Boats), (IV a0.Scheme), v1], zAg w0 w0.heap.size] w) ?_ (fun dQ => ?_)
     · intro yP vU hJ
       obtain ⟨dP, iP, pY, pZ, qA, qB, qC, qD, qE, qF, qG, qH, hL⟩ := hJ
       refine zAT 11 rfl (by kernel_rfl) (OP.call rfl (zAq (vs := [(.agg #[aK]), (IV a0.Scheme)]) zIC ⟨qE, qF, trivial⟩) (zCe _ aN (hL.rdS 6 rfl aL) a0.Scheme aM) ?_)
       rintro yQ vV ⟨qI, qJ, rfl, oA⟩
       refine ⟨_, rfl, ?_⟩
       have hL := hL.pushAll oA
       simp only [lA, lB, lC, lD] at hL
       refine ⟨(hL.sl [5, 6, 7] rfl), ?_⟩
       have hL := hL.sl [1, 0, 2, 3, 4, 5, 6, 7] rfl
       exact zAm (listed' := (bma 21 249855)) (by kernel_rfl) (bA _ _ ⟨dP, iP, qI, qJ, pY, pZ, qA, qB, qC, qD, rfl, qG, qH, hL⟩)
     refine zAI (listed' := (bma 21 122871)) (fuel' := 6) (fun F w => ∃ bV dR, F 1 = (PV b4 0) ∧ F 2 = (PV b6 0) ∧ F 4 = (PV aB 0) ∧ F 5 = (IV s_l1.2.2) ∧ F 50 = (IV a0.Boats) ∧ F 51 = (PV aB 1) ∧ F 61 = bV ∧ F 64 = aA ∧ F 65 = aD ∧ Hp w0 [Ent.own 27 dR bV ([aG] : List (List Int)), Ent.own 2 aJ aD s_l2.1, zA2 aI aH, zA2 aE aF, Ent.blk aB 26 #[(IV a0.Boats), aC, aA], Ent.blk b6 26 #[(IV 0), (.slice none 0 0), (.slice none 0 0)], Ent.blk b4 38 #[(IV a0.Boats), (IV a0.Scheme), v1], zAg w0 w0.heap.size] w) ?_ (fun jP => ?_)
     · intro yR vW hJ
       obtain ⟨bV, dR, jQ, jR, jS, jT, jU, jV, jW, jX, jY, hL⟩ := hJ
       refine DH.all (rs := [3, 17]) (by kernel_rfl) (by simp) ?_
       intro yS gX
       simp only [List.mem_cons, List.not_mem_nil, or_false] at gX
       rcases gX with rfl | rfl
       · refine ⟨_, rfl, ?_⟩
         refine zAk (v := aC) rfl (zAd U24 rfl jV (hL.cellB 4 rfl rfl)) ?_
         refine ⟨(hL.sl [5, 6, 7] rfl), ?_⟩
         exact zAm (listed' := (bma 21 122879)) (by kernel_rfl) (cU _ _ ⟨bV, dR, jQ, jR, jS, jT, jU, rfl, jW, jX, jY, hL⟩)
       refine ⟨_, rfl, ?_⟩
       have hL := hL.sl [1, 0, 2, 3, 4, 5, 6, 7] rfl
       refine zBP s_l2.1 rfl hL U24 zAR ((congrArg Value.cells jY).trans (zAY (hL.rdO 0 rfl))) rfl ?_
       intro vX qK qL hL
       refine ⟨(hL.sl [5, 6, 7] rfl), ?_⟩
       exact zAm (listed' := (bma 21 253943)) (by kernel_rfl) (dB _ _ ⟨qK, qL, bV, dR, jQ, jR, jS, jT, jU, jV, jW, jX, rfl, hL⟩)
     refine zAI (listed' := (bma 21 221175)) (fuel' := 6) (fun F w => ∃ bW dS bX dT, F 1 = (PV b4 0) ∧ F 2 = (PV b6 0) ∧ F 4 = (PV aB 0) ∧ F 5 = (IV s_l1.2.2) ∧ F 50 = (IV a0.Boats) ∧ F 51 = (PV aB 1) ∧ F 61 = bX ∧ F 63 = (PV aB 2) ∧ F 66 = bW ∧ Hp w0 [Ent.own 27 dS bW ([s_l2.1] : List (List Int)), Ent.own 27 dT bX ([aG] : List (List Int)), zA2 aI aH, zA2 aE aF, Ent.blk aB 26 #[(IV a0.Boats), aC, aA], Ent.blk b6 26 #[(IV 0), (.slice none 0 0), (.slice none 0 0)], Ent.blk b4 38 #[(IV a0.Boats), (IV a0.Scheme), v1], zAg w0 w0.heap.size] w) ?_ (fun jZ => ?_)
     · intro yT vY hJ
       obtain ⟨bW, dS, bX, dT, kA, kB, kC, kD, kE, kF, kG, kH, kI, hL⟩ := hJ
       refine DH.all (rs := [3, 15]) (by kernel_rfl) (by simp) ?_
       intro yU gY
       simp only [List.mem_cons, List.not_mem_nil, or_false] at gY
       rcases gY with rfl | rfl
       · refine ⟨_, rfl, ?_⟩
         refine zAk (v := aC) rfl (zAd U24 rfl kF (hL.cellB 4 rfl rfl)) ?_
         refine ⟨(hL.sl [5, 6, 7] rfl), ?_⟩
         exact zAm (listed' := (bma 21 221183)) (by kernel_rfl) (cX _ _ ⟨bW, dS, bX, dT, kA, kB, kC, kD, kE, rfl, kG, kH, kI, hL⟩)
       refine ⟨_, rfl, ?_⟩
       refine zAk (v := aA) rfl (zAd U24 rfl kH (hL.cellB 4 rfl rfl)) ?_
       refine ⟨(hL.sl [5, 6, 7] rfl), ?_⟩
       exact zAm (listed' := (bma 21 253943)) (by kernel_rfl) (dB _ _ ⟨bW, dS, bX, dT, kA, kB, kC, kD, kE, kF, kG, rfl, kI, hL⟩)
     refine zAI (listed' := (bma 21 249847)) (fuel' := 6) (fun F w => ∃ bY dU dV iQ, F 1 = (PV b4 0) ∧ F 2 = (PV b6 0) ∧ F 4 = (PV aB 0) ∧ F 5 = (IV s_l1.2.2) ∧ F 50 = (IV a0.Boats) ∧ F 51 = (PV aB 1) ∧ F 60 = dV ∧ F 64 = aA ∧ F 66 = bY ∧ Hp w0 [Ent.own 27 dU bY ([s_l2.1] : List (List Int)), Ent.own 2 iQ dV aG, zA2 aI aH, zA2 aE aF, Ent.blk aB 26 #[(IV a0.Boats), aC, aA], Ent.blk b6 26 #[(IV 0), (.slice none 0 0), (.slice none 0 0)], Ent.blk b4 38 #[(IV a0.Boats), (IV a0.Scheme), v1], zAg w0 w0.heap.size] w) ?_ (fun dW => ?_)
     · intro yV vZ hJ
       obtain ⟨bY, dU, dV, iQ, kJ, kK, kL, kM, kN, kO, kP, kQ, kR, hL⟩ := hJ
       refine DH.all (rs := [3, 12]) (by kernel_rfl) (by simp) ?_
       intro yW gZ
       simp only [List.mem_cons, List.not_mem_nil, or_false] at gZ
       rcases gZ with rfl | rfl
       · refine ⟨_, rfl, ?_⟩
         refine zAk (v := aC) rfl (zAd U24 rfl kO (hL.cellB 4 rfl rfl)) ?_
         refine ⟨(hL.sl [5, 6, 7] rfl), ?_⟩
         exact zAm (listed' := (bma 21 249855)) (by kernel_rfl) (bA _ _ ⟨bY, dU, dV, iQ, kJ, kK, kL, kM, kN, rfl, kP, kQ, kR, hL⟩)
       refine ⟨_, rfl, ?_⟩
       have hL := hL.sl [1, 0, 2, 3, 4, 5, 6, 7] rfl
       refine zBP aG rfl hL U24 zAR ((congrArg Value.cells kP).trans (zAY (hL.rdO 0 rfl))) rfl ?_
       intro wA qM qN hL
       refine ⟨(hL.sl [5, 6, 7] rfl), ?_⟩
       have hL := hL.sl [1, 0, 2, 3, 4, 5, 6, 7] rfl
       exact zAm (listed' := (bma 21 253943)) (by kernel_rfl) (dB _ _ ⟨bY, dU, qM, qN, kJ, kK, kL, kM, kN, kO, rfl, kQ, kR, hL⟩)
     refine zAI (listed' := (bma 21 86015)) (fuel' := 7) (fun F w => ∃ bZ dX, F 1 = (PV b4 0) ∧ F 2 = (PV b6 0) ∧ F 4 = (PV aB 0) ∧ F 5 = (IV s_l1.2.2) ∧ F 50 = (IV a0.Boats) ∧ F 52 = aC ∧ F 60 = bZ ∧ F 63 = (PV aB 2) ∧ F 65 = aD ∧ Hp w0 [Ent.own 2 dX bZ aG, Ent.own 2 aJ aD s_l2.1, zA2 aI aH, zA2 aE aF, Ent.blk aB 26 #[(IV a0.Boats), aC, aA], Ent.blk b6 26 #[(IV 0), (.slice none 0 0), (.slice none 0 0)], Ent.blk b4 38 #[(IV a0.Boats), (IV a0.Scheme), v1], zAg w0 w0.heap.size] w) ?_ (fun kS => ?_)
     · intro yX wB hJ
       obtain ⟨bZ, dX, dY, dZ, eA, eB, eC, eD, eE, eF, eG, hL⟩ := hJ
       refine DH.all (rs := [12, 15, 17]) (by kernel_rfl) (by simp) ?_
       intro yY hA
       simp only [List.mem_cons, List.not_mem_nil, or_false] at hA
       rcases hA with rfl | rfl | rfl
       · refine ⟨_, rfl, ?_⟩
         refine zBP aG rfl hL U24 zAR ((congrArg Value.cells eE).trans (zAY (hL.rdO 0 rfl))) rfl ?_
         intro wC qO qP hL
         refine ⟨(hL.sl [5, 6, 7] rfl), ?_⟩
         exact zAm (listed' := (bma 21 90111)) (by kernel_rfl) (iW _ _ ⟨qO, qP, dY, dZ, eA, eB, eC, eD, rfl, eF, eG, hL⟩)
       · refine ⟨_, rfl, ?_⟩
         refine zAk (v := aA) rfl (zAd U24 rfl eF (hL.cellB 4 rfl rfl)) ?_
         refine ⟨(hL.sl [5, 6, 7] rfl), ?_⟩
         exact zAm (listed' := (bma 21 118783)) (by kernel_rfl) (dL _ _ ⟨bZ, dX, dY, dZ, eA, eB, eC, eD, eE, rfl, eG, hL⟩)
       refine ⟨_, rfl, ?_⟩
       have hL := hL.sl [1, 0, 2, 3, 4, 5, 6, 7] rfl
       refine zBP s_l2.1 rfl hL U24 zAR ((congrArg Value.cells eG).trans (zAY (hL.rdO 0 rfl))) rfl ?_
       intro wD qQ qR hL
       refine ⟨(hL.sl [5, 6, 7] rfl), ?_⟩
       exact zAm (listed' := (bma 21 217087)) (by kernel_rfl) (dO _ _ ⟨qQ, qR, bZ, dX, dY, dZ, eA, eB, eC, eD, eE, eF, rfl, hL⟩)
     refine zAI (listed' := (bma 21 116735)) (fuel' := 7) (fun F w => F 1 = (PV b4 0) ∧ F 2 = (PV b6 0) ∧ F 4 = (PV aB 0) ∧ F 5 = (IV s_l1.2.2) ∧ F 50 = (IV a0.Boats) ∧ F 52 = aC ∧ F 57 = (.agg #[aK]) ∧ F 59 = (IV a0.Scheme) ∧ F 64 = aA ∧ F 65 = aD ∧ Hp w0 [Ent.own 2 aJ aD s_l2.1, zA2 aI aH, zA2 aE aF, Ent.blk aB 26 #[(IV a0.Boats), aC, aA], Ent.blk b6 26 #[(IV 0), (.slice none 0 0), (.slice none 0 0)], Ent.blk b4 38 #[(IV a0.Boats), (IV a0.Scheme), v1], zAg w0 w0.heap.size] w) ?_ (fun kT => ?_)
     · intro yZ wE hJ
       obtain ⟨kU, kV, kW, kX, kY, kZ, lE, lF, lG, lH, hL⟩ := hJ
       refine DH.all (rs := [11, 17]) (by kernel_rfl) (by simp) ?_
       intro zA hB
       simp only [List.mem_cons, List.not_mem_nil, or_false] at hB
       rcases hB with rfl | rfl
       · refine ⟨_, rfl, ?_⟩
         refine OP.call rfl (zAq (vs := [(.agg #[aK]), (IV a0.Scheme)]) zIC ⟨lE, lF, trivial⟩) (zCe _ aN (hL.rdS 6 rfl aL) a0.Scheme aM) ?_
         rintro zB wF ⟨qS, qT, rfl, oB⟩
         refine ⟨_, rfl, ?_⟩
         have hL := hL.pushAll oB
         simp only [lA, lB, lC, lD] at hL
         refine ⟨(hL.sl [5, 6, 7] rfl), ?_⟩
         exact zAm (listed' := (bma 21 118783)) (by kernel_rfl) (dL _ _ ⟨qS, qT, kU, kV, kW, kX, kY, kZ, rfl, lG, lH, hL⟩)
       refine ⟨_, rfl, ?_⟩
       refine zBP s_l2.1 rfl hL U24 zAR ((congrArg Value.cells lH).trans (zAY (hL.rdO 0 rfl))) rfl ?_
       intro wG qU qV hL
       refine ⟨(hL.sl [4, 5, 6] rfl), ?_⟩
       exact zAm (listed' := (bma 21 247807)) (by kernel_rfl) (dQ _ _ ⟨qU, qV, kU, kV, kW, kX, kY, kZ, lE, lF, lG, rfl, hL⟩)
     refine zAI (listed' := (bma 21 215039)) (fuel' := 7) (fun F w => ∃ cA eH, F 1 = (PV b4 0) ∧ F 2 = (PV b6 0) ∧ F 4 = (PV aB 0) ∧ F 5 = (IV s_l1.2.2) ∧ F 50 = (IV a0.Boats) ∧ F 52 = aC ∧ F 57 = (.agg #[aK]) ∧ F 59 = (IV a0.Scheme) ∧ F 63 = (PV aB 2) ∧ F 66 = cA ∧ Hp w0 [Ent.own 27 eH cA ([s_l2.1] : List (List Int)), zA2 aI aH, zA2 aE aF, Ent.blk aB 26 #[(IV a0.Boats), aC, aA], Ent.blk b6 26 #[(IV 0), (.slice none 0 0), (.slice none 0 0)], Ent.blk b4 38 #[(IV a0.Boats), (IV a0.Scheme), v1], zAg w0 w0.heap.size] w) ?_ (fun lI => ?_)
     · intro zC wH hJ
       obtain ⟨cA, eH, lJ, lK, lL, lM, lN, lO, lP, lQ, lR, lS, hL⟩ := hJ
       refine DH.all (rs := [11, 15]) (by kernel_rfl) (by simp) ?_
       intro zD hC
       simp only [List.mem_cons, List.not_mem_nil, or_false] at hC
       rcases hC with rfl | rfl
       · refine ⟨_, rfl, ?_⟩
         refine OP.call rfl (zAq (vs := [(.agg #[aK]), (IV a0.Scheme)]) zIC ⟨lP, lQ, trivial⟩) (zCe _ aN (hL.rdS 6 rfl aL) a0.Scheme aM) ?_
         rintro zE wI ⟨qW, qX, rfl, oC⟩
         refine ⟨_, rfl, ?_⟩
         have hL := hL.pushAll oC
         simp only [lA, lB, lC, lD] at hL
         refine ⟨(hL.sl [5, 6, 7] rfl), ?_⟩
         have hL := hL.sl [1, 0, 2, 3, 4, 5, 6, 7] rfl
         exact zAm (listed' := (bma 21 217087)) (by kernel_rfl) (dO _ _ ⟨cA, eH, qW, qX, lJ, lK, lL, lM, lN, lO, rfl, lR, lS, hL⟩)
       refine ⟨_, rfl, ?_⟩
       refine zAk (v := aA) rfl (zAd U24 rfl lR (hL.cellB 3 rfl rfl)) ?_
       refine ⟨(hL.sl [4, 5, 6] rfl), ?_⟩
       exact zAm (listed' := (bma 21 247807)) (by kernel_rfl) (dQ _ _ ⟨cA, eH, lJ, lK, lL, lM, lN, lO, lP, lQ, rfl, lS, hL⟩)
     refine zAI (listed' := (bma 21 90103)) (fuel' := 7) (fun F w => ∃ aT cB, F 1 = (PV b4 0) ∧ F 2 = (PV b6 0) ∧ F 4 = (PV aB 0) ∧ F 5 = (IV s_l1.2.2) ∧ F 50 = (IV a0.Boats) ∧ F 51 = (PV aB 1) ∧ F 61 = aT ∧ F 63 = (PV aB 2) ∧ F 65 = aD ∧ Hp w0 [Ent.own 27 cB aT ([aG] : List (List Int)), Ent.own 2 aJ aD s_l2.1, zA2 aI aH, zA2 aE aF, Ent.blk aB 26 #[(IV a0.Boats), aC, aA], Ent.blk b6 26 #[(IV 0), (.slice none 0 0), (.slice none 0 0)], Ent.blk b4 38 #[(IV a0.Boats), (IV a0.Scheme), v1], zAg w0 w0.heap.size] w) ?_ (fun qY => ?_)
     · intro zF wJ hJ
       obtain ⟨aT, cB, eI, eJ, eK, eL, eM, eN, eO, eP, eQ, hL⟩ := hJ
       refine DH.all (rs := [3, 15, 17]) (by kernel_rfl) (by simp) ?_
       intro zG hD
       simp only [List.mem_cons, List.not_mem_nil, or_false] at hD
       rcases hD with rfl | rfl | rfl
       · refine ⟨_, rfl, ?_⟩
         refine zAk (v := aC) rfl (zAd U24 rfl eN (hL.cellB 4 rfl rfl)) ?_
         refine ⟨(hL.sl [5, 6, 7] rfl), ?_⟩
         exact zAm (listed' := (bma 21 90111)) (by kernel_rfl) (iW _ _ ⟨aT, cB, eI, eJ, eK, eL, eM, rfl, eO, eP, eQ, hL⟩)
       · refine ⟨_, rfl, ?_⟩
         refine zAk (v := aA) rfl (zAd U24 rfl eP (hL.cellB 4 rfl rfl)) ?_
         refine ⟨(hL.sl [5, 6, 7] rfl), ?_⟩
         exact zAm (listed' := (bma 21 122871)) (by kernel_rfl) (jP _ _ ⟨aT, cB, eI, eJ, eK, eL, eM, eN, eO, rfl, eQ, hL⟩)
       refine ⟨_, rfl, ?_⟩
       have hL := hL.sl [1, 0, 2, 3, 4, 5, 6, 7] rfl
       refine zBP s_l2.1 rfl hL U24 zAR ((congrArg Value.cells eQ).trans (zAY (hL.rdO 0 rfl))) rfl ?_
       intro wK qZ rA hL
       refine ⟨(hL.sl [5, 6, 7] rfl), ?_⟩
       exact zAm (listed' := (bma 21 221175)) (by kernel_rfl) (jZ _ _ ⟨qZ, rA, aT, cB, eI, eJ, eK, eL, eM, eN, eO, eP, rfl, hL⟩)
     refine zAI (listed' := (bma 21 118775)) (fuel' := 7) (fun F w => ∃ cC eR, F 1 = (PV b4 0) ∧ F 2 = (PV b6 0) ∧ F 4 = (PV aB 0) ∧ F 5 = (IV s_l1.2.2) ∧ F 50 = (IV a0.Boats) ∧ F 51 = (PV aB 1) ∧ F 60 = cC ∧ F 64 = aA ∧ F 65 = aD ∧ Hp w0 [Ent.own 2 eR cC aG, Ent.own 2 aJ aD s_l2.1, zA2 aI aH, zA2 aE aF, Ent.blk aB 26 #[(IV a0.Boats), aC, aA], Ent.blk b6 26 #[(IV 0), (.slice none 0 0), (.slice none 0 0)], Ent.blk b4 38 #[(IV a0.Boats), (IV a0.Scheme), v1], zAg w0 w0.heap.size] w) ?_ (fun lT => ?_)
     · intro zH wL hJ
       obtain ⟨cC, eR, eS, eT, eU, eV, eW, eX, eY, eZ, fA, hL⟩ := hJ
       refine DH.all (rs := [3, 12, 17]) (by kernel_rfl) (by simp) ?_
       intro zI hE
       simp only [List.mem_cons, List.not_mem_nil, or_false] at hE
       rcases hE with rfl | rfl | rfl
       · refine ⟨_, rfl, ?_⟩
         refine zAk (v := aC) rfl (zAd U24 rfl eX (hL.cellB 4 rfl rfl)) ?_
         refine ⟨(hL.sl [5, 6, 7] rfl), ?_⟩
         exact zAm (listed' := (bma 21 118783)) (by kernel_rfl) (dL _ _ ⟨cC, eR, eS, eT, eU, eV, eW, rfl, eY, eZ, fA, hL⟩)
       · refine ⟨_, rfl, ?_⟩
         refine zBP aG rfl hL U24 zAR ((congrArg Value.cells eY).trans (zAY (hL.rdO 0 rfl))) rfl ?_
         intro wM rB rC hL
         refine ⟨(hL.sl [5, 6, 7] rfl), ?_⟩
         exact zAm (listed' := (bma 21 122871)) (by kernel_rfl) (jP _ _ ⟨rB, rC, eS, eT, eU, eV, eW, eX, rfl, eZ, fA, hL⟩)
       refine ⟨_, rfl, ?_⟩
       have hL := hL.sl [1, 0, 2, 3, 4, 5, 6, 7] rfl
       refine zBP s_l2.1 rfl hL U24 zAR ((congrArg Value.cells fA).trans (zAY (hL.rdO 0 rfl))) rfl ?_
       intro wN rD rE hL
       refine ⟨(hL.sl [5, 6, 7] rfl), ?_⟩
       exact zAm (listed' := (bma 21 249847)) (by kernel_rfl) (dW _ _ ⟨rD, rE, cC, eR, eS, eT, eU, eV, eW, eX, eY, eZ, rfl, hL⟩)
     refine zAI (listed' := (bma 21 217079)) (fuel' := 7) (fun F w => ∃ aU cD cE fB, F 1 = (PV b4 0) ∧ F 2 = (PV b6 0) ∧ F 4 = (PV aB 0) ∧ F 5 = (IV s_l1.2.2) ∧ F 50 = (IV a0.Boats) ∧ F 51 = (PV aB 1) ∧ F 60 = cE ∧ F 63 = (PV aB 2) ∧ F 66 = aU ∧ Hp w0 [Ent.own 27 cD aU ([s_l2.1] : List (List Int)), Ent.own 2 fB cE aG, zA2 aI aH, zA2 aE aF, Ent.blk aB 26 #[(IV a0.Boats), aC, aA], Ent.blk b6 26 #[(IV 0), (.slice none 0 0), (.slice none 0 0)], Ent.blk b4 38 #[(IV a0.Boats), (IV a0.Scheme), v1], zAg w0 w0.heap.size] w) ?_ (fun lU => ?_)
     · intro zJ wO hJ
       obtain ⟨aU, cD, cE, fB, fC, fD, fE, fF, fG, fH, fI, fJ, fK, hL⟩ := hJ
       refine DH.all (rs := [3, 12, 15]) (by kernel_rfl) (by simp) ?_
       intro zK hF
       simp only [List.mem_cons, List.not_mem_nil, or_false] at hF
       rcases hF with rfl | rfl | rfl
       · refine ⟨_, rfl, ?_⟩
         refine zAk (v := aC) rfl (zAd U24 rfl fH (hL.cellB 4 rfl rfl)) ?_
         refine ⟨(hL.sl [5, 6, 7] rfl), ?_⟩
         exact zAm (listed' := (bma 21 217087)) (by kernel_rfl) (dO _ _ ⟨aU, cD, cE, fB, fC, fD, fE, fF, fG, rfl, fI, fJ, fK, hL⟩)
       · refine ⟨_, rfl, ?_⟩
         have hL := hL.sl [1, 0, 2, 3, 4, 5, 6, 7] rfl
         refine zBP aG rfl hL U24 zAR ((congrArg Value.cells fI).trans (zAY (hL.rdO 0 rfl))) rfl ?_
         intro wP rF rG hL
         refine ⟨(hL.sl [5, 6, 7] rfl), ?_⟩
         have hL := hL.sl [1, 0, 2, 3, 4, 5, 6, 7] rfl
         exact zAm (listed' := (bma 21 221175)) (by kernel_rfl) (jZ _ _ ⟨aU, cD, rF, rG, fC, fD, fE, fF, fG, fH, rfl, fJ, fK, hL⟩)
       refine ⟨_, rfl, ?_⟩
       refine zAk (v := aA) rfl (zAd U24 rfl fJ (hL.cellB 4 rfl rfl)) ?_
       refine ⟨(hL.sl [5, 6, 7] rfl), ?_⟩
       exact zAm (listed' := (bma 21 249847)) (by kernel_rfl) (dW _ _ ⟨aU, cD, cE, fB, fC, fD, fE, fF, fG, fH, fI, rfl, fK, hL⟩)
     refine zAI (listed' := (bma 21 247799)) (fuel' := 7) (fun F w => ∃ cF fL, F 1 = (PV b4 0) ∧ F 2 = (PV b6 0) ∧ F 4 = (PV aB 0) ∧ F 5 = (IV s_l1.2.2) ∧ F 50 = (IV a0.Boats) ∧ F 51 = (PV aB 1) ∧ F 57 = (.agg #[aK]) ∧ F 59 = (IV a0.Scheme) ∧ F 64 = aA ∧ F 66 = cF ∧ Hp w0 [Ent.own 27 fL cF ([s_l2.1] : List (List Int)), zA2 aI aH, zA2 aE aF, Ent.blk aB 26 #[(IV a0.Boats), aC, aA], Ent.blk b6 26 #[(IV 0), (.slice none 0 0), (.slice none 0 0)], Ent.blk b4 38 #[(IV a0.Boats), (IV a0.Scheme), v1], zAg w0 w0.heap.size] w) ?_ (fun lV => ?_)
     · intro zL wQ hJ
       obtain ⟨cF, fL, lW, lX, lY, lZ, mA, mB, mC, mD, mE, mF, hL⟩ := hJ
       refine DH.all (rs := [3, 11]) (by kernel_rfl) (by simp) ?_
       intro zM hG
       simp only [List.mem_cons, List.not_mem_nil, or_false] at hG
       rcases hG with rfl | rfl
       · refine ⟨_, rfl, ?_⟩
         refine zAk (v := aC) rfl (zAd U24 rfl mB (hL.cellB 3 rfl rfl)) ?_
         refine ⟨(hL.sl [4, 5, 6] rfl), ?_⟩
         exact zAm (listed' := (bma 21 247807)) (by kernel_rfl) (dQ _ _ ⟨cF, fL, lW, lX, lY, lZ, mA, rfl, mC, mD, mE, mF, hL⟩)
       refine ⟨_, rfl, ?_⟩
       refine OP.call rfl (zAq (vs := [(.agg #[aK]), (IV a0.Scheme)]) zIC ⟨mC, mD, trivial⟩) (zCe _ aN (hL.rdS 6 rfl aL) a0.Scheme aM) ?_
       rintro zN wS ⟨rH, rI, rfl, oD⟩
       refine ⟨_, rfl, ?_⟩
       have hL := hL.pushAll oD
       simp only [lA, lB, lC, lD] at hL
       refine ⟨(hL.sl [5, 6, 7] rfl), ?_⟩
       have hL := hL.sl [1, 0, 2, 3, 4, 5, 6, 7] rfl
       exact zAm (listed' := (bma 21 249847)) (by kernel_rfl) (dW _ _ ⟨cF, fL, rH, rI, lW, lX, lY, lZ, mA, mB, rfl, mE, mF, hL⟩)
     refine zAI (listed' := (bma 21 83967)) (fuel' := 8) (fun F w => F 1 = (PV b4 0) ∧ F 2 = (PV b6 0) ∧ F 4 = (PV aB 0) ∧ F 5 = (IV s_l1.2.2) ∧ F 50 = (IV a0.Boats) ∧ F 52 = aC ∧ F 57 = (.agg #[aK]) ∧ F 59 = (IV a0.Scheme) ∧ F 63 = (PV aB 2) ∧ F 65 = aD ∧ Hp w0 [Ent.own 2 aJ aD s_l2.1, zA2 aI aH, zA2 aE aF, Ent.blk aB 26 #[(IV a0.Boats), aC, aA], Ent.blk b6 26 #[(IV 0), (.slice none 0 0), (.slice none 0 0)], Ent.blk b4 38 #[(IV a0.Boats), (IV a0.Scheme), v1], zAg w0 w0.heap.size] w) ?_ (fun rJ => ?_)
     · intro zO wT hJ
       obtain ⟨fM, fN, fO, fP, fQ, fR, fS, fT, fU, fV, hL⟩ := hJ
       refine DH.all (rs := [11, 15, 17]) (by kernel_rfl) (by simp) ?_
       intro zP hH
       simp only [List.mem_cons, List.not_mem_nil, or_false] at hH
       rcases hH with rfl | rfl | rfl
       · refine ⟨_, rfl, ?_⟩
         refine OP.call rfl (zAq (vs := [(.agg #[aK]), (IV a0.Scheme)]) zIC ⟨fS, fT, trivial⟩) (zCe _ aN (hL.rdS 6 rfl aL) a0.Scheme aM) ?_
         rintro zQ wU ⟨rK, rL, rfl, oE⟩
         refine ⟨_, rfl, ?_⟩
         have hL := hL.pushAll oE
         simp only [lA, lB, lC, lD] at hL
         refine ⟨(hL.sl [5, 6, 7] rfl), ?_⟩
         exact zAm (listed' := (bma 21 86015)) (by kernel_rfl) (kS _ _ ⟨rK, rL, fM, fN, fO, fP, fQ, fR, rfl, fU, fV, hL⟩)
       · refine ⟨_, rfl, ?_⟩
         refine zAk (v := aA) rfl (zAd U24 rfl fU (hL.cellB 3 rfl rfl)) ?_
         refine ⟨(hL.sl [4, 5, 6] rfl), ?_⟩
         exact zAm (listed' := (bma 21 116735)) (by kernel_rfl) (kT _ _ ⟨fM, fN, fO, fP, fQ, fR, fS, fT, rfl, fV, hL⟩)
       refine ⟨_, rfl, ?_⟩
       refine zBP s_l2.1 rfl hL U24 zAR ((congrArg Value.cells fV).trans (zAY (hL.rdO 0 rfl))) rfl ?_
       intro wV rM rN hL
       refine ⟨(hL.sl [4, 5, 6] rfl), ?_⟩
       exact zAm (listed' := (bma 21 215039)) (by kernel_rfl) (lI _ _ ⟨rM, rN, fM, fN, fO, fP, fQ, fR, fS, fT, fU, rfl, hL⟩)
     refine zAI (listed' := (bma 21 86007)) (fuel' := 8) (fun F w => ∃ aV cG, F 1 = (PV b4 0) ∧ F 2 = (PV b6 0) ∧ F 4 = (PV aB 0) ∧ F 5 = (IV s_l1.2.2) ∧ F 50 = (IV a0.Boats) ∧ F 51 = (PV aB 1) ∧ F 60 = aV ∧ F 63 = (PV aB 2) ∧ F 65 = aD ∧ Hp w0 [Ent.own 2 cG aV aG, Ent.own 2 aJ aD s_l2.1, zA2 aI aH, zA2 aE aF, Ent.blk aB 26 #[(IV a0.Boats), aC, aA], Ent.blk b6 26 #[(IV 0), (.slice none 0 0), (.slice none 0 0)], Ent.blk b4 38 #[(IV a0.Boats), (IV a0.Scheme), v1], zAg w0 w0.heap.size] w) ?_ (fun rO => ?_)
     · intro zR wW hJ
       obtain ⟨aV, cG, bB, bC, bD, bE, bF, bG, bH, bI, bJ, hL⟩ := hJ
       refine DH.all (rs := [3, 12, 15, 17]) (by kernel_rfl) (by simp) ?_
       intro zS hI
       simp only [List.mem_cons, List.not_mem_nil, or_false] at hI
       rcases hI with rfl | rfl | rfl | rfl
       · refine ⟨_, rfl, ?_⟩
         refine zAk (v := aC) rfl (zAd U24 rfl bG (hL.cellB 4 rfl rfl)) ?_
         refine ⟨(hL.sl [5, 6, 7] rfl), ?_⟩
         exact zAm (listed' := (bma 21 86015)) (by kernel_rfl) (kS _ _ ⟨aV, cG, bB, bC, bD, bE, bF, rfl, bH, bI, bJ, hL⟩)
       · refine ⟨_, rfl, ?_⟩
         refine zBP aG rfl hL U24 zAR ((congrArg Value.cells bH).trans (zAY (hL.rdO 0 rfl))) rfl ?_
         intro wX rP rQ hL
         refine ⟨(hL.sl [5, 6, 7] rfl), ?_⟩
         exact zAm (listed' := (bma 21 90103)) (by kernel_rfl) (qY _ _ ⟨rP, rQ, bB, bC, bD, bE, bF, bG, rfl, bI, bJ, hL⟩)
       · refine ⟨_, rfl, ?_⟩
         refine zAk (v := aA) rfl (zAd U24 rfl bI (hL.cellB 4 rfl rfl)) ?_
         refine ⟨(hL.sl [5, 6, 7] rfl), ?_⟩
         exact zAm (listed' := (bma 21 118775)) (by kernel_rfl) (lT _ _ ⟨aV, cG, bB, bC, bD, bE, bF, bG, bH, rfl, bJ, hL⟩)
       refine ⟨_, rfl, ?_⟩
       have hL := hL.sl [1, 0, 2, 3, 4, 5, 6, 7] rfl
       refine zBP s_l2.1 rfl hL U24 zAR ((congrArg Value.cells bJ).trans (zAY (hL.rdO 0 rfl))) rfl ?_
       intro wY rR rS hL
       refine ⟨(hL.sl [5, 6, 7] rfl), ?_⟩
       exact zAm (listed' := (bma 21 217079)) (by kernel_rfl) (lU _ _ ⟨rR, rS, aV, cG, bB, bC, bD, bE, bF, bG, bH, bI, rfl, hL⟩)
     refine zAI (listed' := (bma 21 116727)) (fuel' := 8) (fun F w => F 1 = (PV b4 0) ∧ F 2 = (PV b6 0) ∧ F 4 = (PV aB 0) ∧ F 5 = (IV s_l1.2.2) ∧ F 50 = (IV a0.Boats) ∧ F 51 = (PV aB 1) ∧ F 57 = (.agg #[aK]) ∧ F 59 = (IV a0.Scheme) ∧ F 64 = aA ∧ F 65 = aD ∧ Hp w0 [Ent.own 2 aJ aD s_l2.1, zA2 aI aH, zA2 aE aF, Ent.blk aB 26 #[(IV a0.Boats), aC, aA], Ent.blk b6 26 #[(IV 0), (.slice none 0 0), (.slice none 0 0)], Ent.blk b4 38 #[(IV a0.Boats), (IV a0.Scheme), v1], zAg w0 w0.heap.size] w) ?_ (fun rT => ?_)
     · intro zT wZ hJ
       obtain ⟨fW, fX, fY, fZ, gA, gB, gC, gD, gE, gF, hL⟩ := hJ
       refine DH.all (rs := [3, 11, 17]) (by kernel_rfl) (by simp) ?_
       intro zU hK
       simp only [List.mem_cons, List.not_mem_nil, or_false] at hK
       rcases hK with rfl | rfl | rfl
       · refine ⟨_, rfl, ?_⟩
         refine zAk (v := aC) rfl (zAd U24 rfl gB (hL.cellB 3 rfl rfl)) ?_
         refine ⟨(hL.sl [4, 5, 6] rfl), ?_⟩
         exact zAm (listed' := (bma 21 116735)) (by kernel_rfl) (kT _ _ ⟨fW, fX, fY, fZ, gA, rfl, gC, gD, gE, gF, hL⟩)
       · refine ⟨_, rfl, ?_⟩
         refine OP.call rfl (zAq (vs := [(.agg #[aK]), (IV a0.Scheme)]) zIC ⟨gC, gD, trivial⟩) (zCe _ aN (hL.rdS 6 rfl aL) a0.Scheme aM) ?_
         rintro zV xA ⟨rU, rV, rfl, oF⟩
         refine ⟨_, rfl, ?_⟩
         have hL := hL.pushAll oF
         simp only [lA, lB, lC, lD] at hL
         refine ⟨(hL.sl [5, 6, 7] rfl), ?_⟩
         exact zAm (listed' := (bma 21 118775)) (by kernel_rfl) (lT _ _ ⟨rU, rV, fW, fX, fY, fZ, gA, gB, rfl, gE, gF, hL⟩)
       refine ⟨_, rfl, ?_⟩
       refine zBP s_l2.1 rfl hL U24 zAR ((congrArg Value.cells gF).trans (zAY (hL.rdO 0 rfl))) rfl ?_
       intro xB rW rX hL
       refine ⟨(hL.sl [4, 5, 6] rfl), ?_⟩
       exact zAm (listed' := (bma 21 247799)) (by kernel_rfl) (lV _ _ ⟨rW, rX, fW, fX, fY, fZ, gA, gB, gC, gD, gE, rfl, hL⟩)
     refine zAI (listed' := (bma 21 215031)) (fuel' := 8) (fun F w => ∃ aW cH, F 1 = (PV b4 0) ∧ F 2 = (PV b6 0) ∧ F 4 = (PV aB 0) ∧ F 5 = (IV s_l1.2.2) ∧ F 50 = (IV a0.Boats) ∧ F 51 = (PV aB 1) ∧ F 57 = (.agg #[aK]) ∧ F 59 = (IV a0.Scheme) ∧ F 63 = (PV aB 2) ∧ F 66 = aW ∧ Hp w0 [Ent.own 27 cH aW ([s_l2.1] : List (List Int)), zA2 aI aH, zA2 aE aF, Ent.blk aB 26 #[(IV a0.Boats), aC, aA], Ent.blk b6 26 #[(IV 0), (.slice none 0 0), (.slice none 0 0)], Ent.blk b4 38 #[(IV a0.Boats), (IV a0.Scheme), v1], zAg w0 w0.heap.size] w) ?_ (fun rY => ?_)
     · intro zW xC hJ
       obtain ⟨aW, cH, gG, gH, gI, gJ, gK, gL, gM, gN, gO, gP, hL⟩ := hJ
       refine DH.all (rs := [3, 11, 15]) (by kernel_rfl) (by simp) ?_
       intro zX hM
       simp only [List.mem_cons, List.not_mem_nil, or_false] at hM
       rcases hM with rfl | rfl | rfl
       · refine ⟨_, rfl, ?_⟩
         refine zAk (v := aC) rfl (zAd U24 rfl gL (hL.cellB 3 rfl rfl)) ?_
         refine ⟨(hL.sl [4, 5, 6] rfl), ?_⟩
         exact zAm (listed' := (bma 21 215039)) (by kernel_rfl) (lI _ _ ⟨aW, cH, gG, gH, gI, gJ, gK, rfl, gM, gN, gO, gP, hL⟩)
       · refine ⟨_, rfl, ?_⟩
         refine OP.call rfl (zAq (vs := [(.agg #[aK]), (IV a0.Scheme)]) zIC ⟨gM, gN, trivial⟩) (zCe _ aN (hL.rdS 6 rfl aL) a0.Scheme aM) ?_
         rintro zY xD ⟨rZ, sA, rfl, oG⟩
         refine ⟨_, rfl, ?_⟩
         have hL := hL.pushAll oG
         simp only [lA, lB, lC, lD] at hL
         refine ⟨(hL.sl [5, 6, 7] rfl), ?_⟩
         have hL := hL.sl [1, 0, 2, 3, 4, 5, 6, 7] rfl
         exact zAm (listed' := (bma 21 217079)) (by kernel_rfl) (lU _ _ ⟨aW, cH, rZ, sA, gG, gH, gI, gJ, gK, gL, rfl, gO, gP, hL⟩)
       refine ⟨_, rfl, ?_⟩
       refine zAk (v := aA) rfl (zAd U24 rfl gO (hL.cellB 3 rfl rfl)) ?_
       refine ⟨(hL.sl [4, 5, 6] rfl), ?_⟩
       exact zAm (listed' := (bma 21 247799)) (by kernel_rfl) (lV _ _ ⟨aW, cH, gG, gH, gI, gJ, gK, gL, gM, gN, rfl, gP, hL⟩)
     refine DH.all (rs := [3, 11, 15, 17]) (by kernel_rfl) (by simp) ?_
     intro zZ hN
     simp only [List.mem_cons, List.not_mem_nil, or_false] at hN
     rcases hN with rfl | rfl | rfl | rfl
     · refine ⟨_, rfl, ?_⟩
       refine zAk (v := aC) rfl (zAd U24 rfl rfl (hL.cellB 3 rfl rfl)) ?_
       refine ⟨(hL.sl [4, 5, 6] rfl), ?_⟩
       exact zAm (listed' := (bma 21 83967)) (by kernel_rfl) (rJ _ _ ⟨aO, cJ, aP, bQ, rfl, rfl, rfl, rfl, rfl, rfl, hL⟩)
     · refine ⟨_, rfl, ?_⟩
       refine OP.call rfl (zAq (vs := [(.agg #[aK]), (IV a0.Scheme)]) zIC ⟨rfl, rfl, trivial⟩) (zCe _ aN (hL.rdS 6 rfl aL) a0.Scheme aM) ?_
       rintro aAa xE ⟨sB, sC, rfl, oH⟩
       refine ⟨_, rfl, ?_⟩
       have hL := hL.pushAll oH
       simp only [lA, lB, lC, lD] at hL
       refine ⟨(hL.sl [5, 6, 7] rfl), ?_⟩
       exact zAm (listed' := (bma 21 86007)) (by kernel_rfl) (rO _ _ ⟨sB, sC, aO, cJ, aP, bQ, rfl, rfl, rfl, rfl, rfl, hL⟩)
     · refine ⟨_, rfl, ?_⟩
       refine zAk (v := aA) rfl (zAd U24 rfl rfl (hL.cellB 3 rfl rfl)) ?_
       refine ⟨(hL.sl [4, 5, 6] rfl), ?_⟩
       exact zAm (listed' := (bma 21 116727)) (by kernel_rfl) (rT _ _ ⟨aO, cJ, aP, bQ, rfl, rfl, rfl, rfl, rfl, rfl, hL⟩)
     refine ⟨_, rfl, ?_⟩
     refine zBP s_l2.1 rfl hL U24 zAR ((congrArg Value.cells (show _ = aD from rfl)).trans (zAY (hL.rdO 0 rfl))) rfl ?_
     intro xF sD sE hL
     refine ⟨(hL.sl [4, 5, 6] rfl), ?_⟩
     exact zAm (listed' := (bma 21 215031)) (by kernel_rfl) (rY _ _ ⟨sD, sE, aO, cJ, aP, bQ, rfl, rfl, rfl, rfl, rfl, rfl, hL⟩)
   intro s_l2 aAb xG aBj hJ hm aAc
   unfold zG9 at hm
   obtain ⟨aD, aJ, bK, mG, mH, bL, mI, bM, hL⟩ := hJ
   refine zAF <| CSR <| OV (IV s_l2.2) rfl (zAo bM) <| OV (PV b4 2) rfl (zAc (fsz := 1) 0 2 2 U38 rfl zCq rfl bK rfl) <| OV v1 rfl (zAd U36 rfl rfl (hL.cellB 5 rfl rfl)) <| OV (IV s_l1.2.2) rfl (zAo bL) ?_
   obtain ⟨gQ, oI, hm⟩ := zAs hm
   obtain ⟨oJ, oK⟩ := zAZ oI
   obtain ⟨mJ, bN, sF, mN, oL, oM, oN⟩ := zCp h2 oJ oK
   refine OV (.pointer (some ⟨mJ, bN, none⟩)) rfl (zA1 U36 zBd rfl rfl mN) <| OV (.pointer (some ⟨mJ, bN, none⟩)) rfl (zAc (fsz := 1) bN 0 bN zIJ rfl zCr rfl rfl rfl) <| OV sF rfl (zAd U99 rfl rfl (hL.cellS 6 rfl oL oM)) <| OV (IV (gQ.Finishes.length : Int)) rfl (zA3 U99 rfl (hL.rdS 6 rfl oN)) <| OV (.bool (decide (s_l2.2 < (gQ.Finishes.length : Int)))) rfl (zBE rfl rfl) <| OW.nil ?_
   refine zAn (t := decide (s_l2.2 < (gQ.Finishes.length : Int))) rfl hm (fun oO hm => ?_) (fun oO hm => ?_)
   · refine zAt <| zAF <| CW.block <| zAl <| OV aD rfl (zAo mI) <| OV (PV b4 2) rfl (zAc (fsz := 1) 0 2 2 U38 rfl zCq rfl bK rfl) <| OV v1 rfl (zAd U36 rfl rfl (hL.cellB 5 rfl rfl)) <| OV (IV s_l1.2.2) rfl (zAo bL) ?_
     obtain ⟨aAd, oP, hm⟩ := zAs hm
     obtain ⟨oQ, oR⟩ := zAZ oP
     obtain ⟨mK, bO, sG, mO, oS, oT, hO⟩ := zCp h2 oQ oR
     refine OV (.pointer (some ⟨mK, bO, none⟩)) rfl (zA1 U36 zBd rfl rfl mO) <| OV (.pointer (some ⟨mK, bO, none⟩)) rfl (zAc (fsz := 1) bO 0 bO zIJ rfl zCr rfl rfl rfl) <| OV sG rfl (zAd U99 rfl rfl (hL.cellS 6 rfl oS oT)) <| OV (IV s_l2.2) rfl (zAo bM) ?_
     obtain ⟨gR, oU, hm⟩ := zAs hm
     obtain ⟨oV, hP⟩ := zAZ oU
     obtain ⟨mL, bP, cI⟩ := zAC (hL.rdS 6 rfl hO) oV hP
     refine OV (.pointer (some ⟨mL, bP, none⟩)) rfl (zA1 U99 zAP rfl rfl cI) <| OV (.pointer (some ⟨mL, bP + 1, none⟩)) rfl (zAc (fsz := 1) bP 1 (bP + 1) zFd rfl zAf rfl rfl rfl) <| OV (IV gR.Code) rfl (zAd U2 rfl rfl (zAv (hL.rdS 6 rfl hO) cI hP 1 _ rfl)) ?_
     refine zAa (zBS ([gR.Code] : List Int) hL U27 zAf rfl (by decide) (by first | (simp [Instr.fill, madeCells, Value.cells, ev, upd, Flat.enc, Flat.sz]; done) | rfl | kernel_rfl) rfl rfl ?_)
     intro xH aAe aAf hL
     obtain ⟨oW, hm⟩ := zEs hm
     refine zAa (zCA (ys := ([gR.Code] : List Int)) hL 1 rfl U27 zAf rfl rfl rfl (hL.rdO 0 rfl) oW (by decide) rfl ?_)
     intro xI mM sH hL
     refine OV mM rfl (zAb) <| OW.nil <| zAl <| OV (IV s_l2.2) rfl (zAo bM) <| OV (IV (w64 (s_l2.2 + 1))) rfl (zBe rfl rfl) <| OV (IV (w64 (s_l2.2 + 1))) rfl (zAb) <| OW.nil ?_
     have hL := hL.sl [1, 2, 3, 4, 5, 6, 7] rfl
     obtain rfl := oi hm
     exact ⟨_, rfl, ⟨mM, sH, bK, mG, mH, bL, rfl, rfl, hL⟩⟩
   refine zA0 ?_
   refine zBk ?_
   obtain rfl := oi hm
   exact ⟨_, rfl, ⟨aD, aJ, bK, mG, mH, bL, mI, bM, hL⟩⟩
 refine zA0 ?_
 refine zBk ?_
 obtain rfl := oi hm
 exact ⟨_, rfl, ⟨aC, aH, aA, aF, hQ, mR, mS, hR, hL⟩⟩

theorem zKL (w0 : World) {b1 : Nat} {v2 : Value} (a0 : Src) (h3 : rdL (fun k => k < w0.heap.size ∧ ¬ (Ent.blk b1 92 #[v2, .int .i64 a0.at_, .int .i64 a0.seed]).S k) w0 v2 a0.code) (he4 : (Ent.blk b1 92 #[v2, .int .i64 a0.at_, .int .i64 a0.seed]).H w0) {r : ((List Int)) × (Int × Int)} (hm : zHV a0 = some r) :
    Calls Tryz.prog 39 #[(PV b1 0)] w0 fun e w' => ∃ (rv0 : Value) (rS0 : Nat → Prop), e = .returned rv0 ∧ Mut w0 w' (Ent.blk b1 92 #[v2, .int .i64 a0.at_, .int .i64 a0.seed]).S [Ent.blk b1 92 #[v2, .int .i64 r.2.1, .int .i64 r.2.2], Ent.own 2 rS0 rv0 r.1] := by
 unfold zHV at hm
 refine zAD (args := [(PV b1 0)]) Tryz.func39 rfl rfl rfl ?_
 have hL := zDc he4
 refine CSR <| OV (.slice none 0 0) rfl (zAb) <| ONR ?_
 refine zAa (zBS ([] : List Int) hL U27 zAf rfl (by decide) (by first | (simp [Instr.fill, madeCells, Value.cells, ev, upd, Flat.enc, Flat.sz]; done) | rfl | kernel_rfl) rfl rfl ?_)
 intro wd5 v6 S7 hL
 refine OV v6 rfl (zAb) <| ONR <| OV (IV 0) rfl (zAb) <| ONS <| CSR <| OV (PV b1 0) rfl (zAe) ?_
 obtain ⟨x8, hx9, hm⟩ := zAs hm
 refine zAa (OP.call rfl (zAq (vs := [(PV b1 0), (IV 4)]) zA6 ⟨rfl, rfl, trivial⟩) (zAu _ (Src.mk a0.code a0.at_ a0.seed) (hL.exZ 2 1 (by decide) rfl rfl h3) (hL.get 1 rfl) 4 hx9) ?_)
 rintro bV bI ⟨rfl, aP⟩
 refine ⟨_, rfl, ?_⟩
 have hL := hL.mut 1 rfl aP
 simp only [lA, lB, lC, lD] at hL
 refine OV (IV x8.1) rfl (zAb) <| OW.nil ?_
 obtain ⟨bW, aQ, hm⟩ := zAs hm
 refine zAU (fun (s_l1 : Int × Int × (List Int) × Int × Int) F w => ∃ aB aC, F 0 = (PV b1 0) ∧ F 3 = aB ∧ F 4 = (IV s_l1.2.2.2.1) ∧ F 5 = (IV s_l1.2.2.2.2) ∧ Hp w0 [Ent.own 2 aC aB s_l1.2.2.1, Ent.blk b1 92 #[v2, (IV s_l1.1), (IV s_l1.2.1)], zAS w0 (Ent.blk b1 92 #[v2, .int .i64 a0.at_, .int .i64 a0.seed]).S] w) (fun o => zBh o (fun x => some x) (fun s => zEB a0 s) = some r) aQ hm ⟨v6, S7, rfl, rfl, rfl, rfl, hL⟩ ?_ ?_
 · intro s_l1 bX bJ hJ hm
   have hm := zBD hm
   have hm : zEB a0 s_l1 = some r := hm
   unfold zEB at hm
   obtain ⟨aB, aC, aG, aH, bD, bY, hL⟩ := hJ
   refine zAF <| CSR <| OV (PV b1 0) rfl (zAo aG) ?_
   obtain ⟨aA, aR, hm⟩ := zAs hm
   refine zAa (OP.call rfl (zAq (vs := [(PV b1 0), (IV 30)]) zA6 ⟨rfl, rfl, trivial⟩) (zAu _ (Src.mk a0.code s_l1.1 s_l1.2.1) (hL.exZ 2 1 (by decide) rfl rfl h3) (hL.get 1 rfl) 30 aR) ?_)
   rintro bZ bK ⟨rfl, aS⟩
   refine ⟨_, rfl, ?_⟩
   have hL := hL.mut 1 rfl aS
   simp only [lA, lB, lC, lD] at hL
   refine OW.nil <| CW.block <| CSR <| OV (.bool (aA.1 == 0)) rfl (zBv rfl rfl) <| OV (.bool (aA.1 == 0)) rfl (zAb) <| OW.nil ?_
   refine zAn (t := aA.1 == 0) rfl hm (fun aT hm => ?_) (fun aT hm => ?_)
   · refine CSR <| OV aB rfl (zAo aH) <| OV (IV s_l1.2.2.2.1) rfl (zAo bD) ?_
     refine zAa (zBS ([s_l1.2.2.2.1] : List Int) hL U27 zAf rfl (by decide) (by first | (simp [Instr.fill, madeCells, Value.cells, ev, upd, Flat.enc, Flat.sz]; done) | rfl | kernel_rfl) rfl rfl ?_)
     intro bL cA cB hL
     obtain ⟨aU, hm⟩ := zEs hm
     refine zAa (zCA (ys := ([s_l1.2.2.2.1] : List Int)) hL 1 rfl U27 zAf rfl rfl rfl (hL.rdO 0 rfl) aU (by decide) rfl ?_)
     intro bM aI bE hL
     refine OV aI rfl (zAb) <| OW.nil <| zAx ?_
     obtain rfl := oi hm
     exact RR1 rfl rfl ⟨aI, bE, rfl, hL.mutOut 3 rfl [2, 1] (by decide) (by decide) rfl⟩
   refine CSR <| OV (.bool (aA.1 == 1)) rfl (zBv rfl rfl) <| OV (.bool (aA.1 == 1)) rfl (zAb) <| OW.nil ?_
   refine zAn (t := aA.1 == 1) rfl hm (fun aV hm => ?_) (fun aV hm => ?_)
   · refine CSR <| OV (PV b1 0) rfl (zAo aG) ?_
     obtain ⟨aJ, aW, hm⟩ := zAs hm
     refine zAa (OP.call rfl (zAq (vs := [(PV b1 0), (IV 2)]) zA6 ⟨rfl, rfl, trivial⟩) (zAu _ (Src.mk a0.code aA.2.1 aA.2.2) (hL.exZ 2 1 (by decide) rfl rfl h3) (hL.get 1 rfl) 2 aW) ?_)
     rintro cC bN ⟨rfl, aX⟩
     refine ⟨_, rfl, ?_⟩
     have hL := hL.mut 1 rfl aX
     simp only [lA, lB, lC, lD] at hL
     refine OV (IV (w64 (13 * aJ.1))) rfl (zHP rfl rfl) ?_
     refine zAa (zBS ([w64 (13 * aJ.1)] : List Int) hL U27 zAf rfl (by decide) (by first | (simp [Instr.fill, madeCells, Value.cells, ev, upd, Flat.enc, Flat.sz]; done) | rfl | kernel_rfl) rfl rfl ?_)
     intro bO aK bF hL
     refine OV aK rfl (zAb) <| OW.nil <| zAx ?_
     obtain rfl := oi hm
     exact RR1 rfl rfl ⟨aK, bF, rfl, hL.mutOut 3 rfl [2, 0] (by decide) (by decide) rfl⟩
   refine CSR <| OV (.bool (aA.1 == 2)) rfl (zBv rfl rfl) <| OV (.bool (aA.1 == 2)) rfl (zAb) <| OW.nil ?_
   refine zAn (t := aA.1 == 2) rfl hm (fun aY hm => ?_) (fun aY hm => ?_)
   · refine CSR ?_
     refine zAa (zBS ([1, 2, 3, 4] : List Int) hL U27 zAf rfl (by decide) (by first | (simp [Instr.fill, madeCells, Value.cells, ev, upd, Flat.enc, Flat.sz]; done) | rfl | kernel_rfl) rfl rfl ?_)
     intro bP aL bG hL
     refine OV aL rfl (zAb) <| OW.nil <| zAx ?_
     obtain rfl := oi hm
     exact RR1 rfl rfl ⟨aL, bG, rfl, hL.mutOut 3 rfl [2, 0] (by decide) (by decide) rfl⟩
   refine zAt <| CSR <| OV aB rfl (zAo aH) <| OV aB rfl (zAb) <| OW.nil <| zAx ?_
   obtain rfl := oi hm
   exact RR1 rfl rfl ⟨aB, aC, rfl, hL.mutOut 2 rfl [1, 0] (by decide) (by decide) rfl⟩
 intro s_l1 cD bQ cE hJ hm bR
 unfold zEC at hm
 obtain ⟨aB, aC, aE, aM, aN, aF, hL⟩ := hJ
 refine zAF <| CSR <| OV (IV s_l1.2.2.2.2) rfl (zAo aF) <| OV (.bool (decide (0 < s_l1.2.2.2.2))) rfl (zIq rfl rfl) <| OW.nil ?_
 refine zAn (t := decide (0 < s_l1.2.2.2.2)) rfl hm (fun aZ hm => ?_) (fun aZ hm => ?_)
 · refine zAt <| zAF <| CW.block <| CSR <| OV (IV s_l1.2.2.2.1) rfl (zAo aN) <| OV (IV (w64 (s_l1.2.2.2.1 + 1))) rfl (zBe rfl rfl) <| OV (PV b1 0) rfl (zAo aE) ?_
   obtain ⟨aD, bA, hm⟩ := zAs hm
   refine zAa (OP.call rfl (zAq (vs := [(PV b1 0), (IV 4)]) zA6 ⟨rfl, rfl, trivial⟩) (zAu _ (Src.mk a0.code s_l1.1 s_l1.2.1) (hL.exZ 2 1 (by decide) rfl rfl h3) (hL.get 1 rfl) 4 bA) ?_)
   rintro cF bS ⟨rfl, bB⟩
   refine ⟨_, rfl, ?_⟩
   have hL := hL.mut 1 rfl bB
   simp only [lA, lB, lC, lD] at hL
   refine OV (IV (w64 ((w64 (s_l1.2.2.2.1 + 1)) + aD.1))) rfl (zBe rfl rfl) <| OV (IV (w64 ((w64 (s_l1.2.2.2.1 + 1)) + aD.1))) rfl (zAb) <| OW.nil <| zAl <| OV aB rfl (zAo aM) <| OV (IV (w64 ((w64 (s_l1.2.2.2.1 + 1)) + aD.1))) rfl (zAe) ?_
   refine zAa (zBS ([w64 ((w64 (s_l1.2.2.2.1 + 1)) + aD.1)] : List Int) hL U27 zAf rfl (by decide) (by first | (simp [Instr.fill, madeCells, Value.cells, ev, upd, Flat.enc, Flat.sz]; done) | rfl | kernel_rfl) rfl rfl ?_)
   intro bT cG cH hL
   obtain ⟨bC, hm⟩ := zEs hm
   refine zAa (zCA (ys := ([w64 ((w64 (s_l1.2.2.2.1 + 1)) + aD.1)] : List Int)) hL 1 rfl U27 zAf rfl rfl rfl (hL.rdO 0 rfl) bC (by decide) rfl ?_)
   intro bU aO bH hL
   refine OV aO rfl (zAb) <| OW.nil <| zAl <| OV (IV s_l1.2.2.2.2) rfl (zAo aF) <| OV (IV (w64 (s_l1.2.2.2.2 - 1))) rfl (zCn rfl rfl) <| OV (IV (w64 (s_l1.2.2.2.2 - 1))) rfl (zAb) <| OW.nil ?_
   have hL := hL.sl [1, 2, 3] rfl
   obtain rfl := oi hm
   exact ⟨_, rfl, ⟨aO, bH, aE, rfl, rfl, rfl, hL⟩⟩
 refine zA0 ?_
 refine zBk ?_
 obtain rfl := oi hm
 exact ⟨_, rfl, ⟨aB, aC, aE, aM, aN, aF, hL⟩⟩

theorem zBn (w0 : World) (a0 : Int) (a1 : Int) (a2 : Int) {r : Bool} (hm : zBr a0 a1 a2 = some r) :
    Calls Tryz.prog 43 #[(IV a0), (IV a1), (IV a2)] w0 fun e w' => e = .returned (.bool r) ∧ Fresh w0 w' [] := by
 unfold zBr at hm
 refine zAD (args := [(IV a0), (IV a1), (IV a2)]) Tryz.func43 rfl rfl rfl ?_
 have hL := zAJ w0
 refine CSR <| OV (.bool false) rfl (zAb) <| OW.nil ?_
 refine zAM (fun (s_j1 : Bool) F w => F 6 = (.bool s_j1) ∧ Hp w0 [zAg w0 w0.heap.size] w) (fun s_j1 => zHA s_j1 = some r) ?_ ?_
 · refine zAl <| OV (IV a0) rfl (zAe) <| OV (IV a1) rfl (zAe) <| OV (.bool (decide (a1 ≤ a0))) rfl (zKf rfl rfl) <| OV (.bool (decide (a1 ≤ a0))) rfl (zAe) ?_
   refine zAH hm (fun hb5 hm => ?_) (fun hb5 hm => ?_)
   · refine zAa (zAj rfl rfl hb5 (zAk (v := (IV a0)) rfl (zAe) ?_))
     refine zAa (zAj rfl rfl hb5 (zAk (v := (IV a2)) rfl (zAe) ?_))
     refine zAa (zAj rfl rfl hb5 (zAk (v := (.bool (decide (a0 ≤ a2)))) rfl (zKe rfl rfl) ?_))
     refine OV (.bool (decide (a0 ≤ a2))) rfl (zAz rfl hb5 rfl) <| OV (.bool (decide (a0 ≤ a2))) rfl (zAb) <| OW.nil ?_
     exact ⟨decide (a0 ≤ a2), hm, ⟨rfl, hL⟩⟩
   refine zAa (zAh rfl rfl hb5 rfl ?_)
   refine zAa (zAh rfl rfl hb5 rfl ?_)
   refine zAa (zAh rfl rfl hb5 rfl ?_)
   refine OV (.bool false) rfl (zAA rfl hb5 rfl) <| OV (.bool false) rfl (zAb) <| OW.nil ?_
   exact ⟨false, hm, ⟨rfl, hL⟩⟩
 intro s_j1 F2 wd3 hJ hm
 unfold zHA at hm
 obtain ⟨f4, hL⟩ := hJ
 refine zAx ?_
 obtain rfl := oi hm
 exact RR1 rfl f4 ⟨rfl, hL.fresh 0 rfl [] (by decide) (by decide) rfl⟩

theorem zKk (w0 : World) (a0 : List Int) {v1 : Value} (h2 : rdL (· < w0.heap.size) w0 v1 a0) (a1 : Int) (a2 : Int) {r : Bool} (hm : zIc a0 a1 a2 = some r) :
    Calls Tryz.prog 93 #[v1, (IV a1), (IV a2)] w0 fun e w' => e = .returned (.bool r) ∧ Fresh w0 w' [] := by
 unfold zIc at hm
 refine zAD (args := [v1, (IV a1), (IV a2)]) Tryz.func93 rfl rfl rfl ?_
 have hL := zAJ w0
 refine CSR <| OV (.bool false) rfl (zAb) <| ONS <| CSR <| OV v1 rfl (zAe) <| OV (IV (a0.length : Int)) rfl (zA3 U27 rfl (hL.rdS 0 rfl h2)) <| OV (IV 0) rfl (zAe) <| OW.nil ?_
 obtain ⟨aZ, aK, hm⟩ := zAs hm
 refine zAU (fun (s_l1 : Int) F w => F 0 = v1 ∧ F 1 = (IV a1) ∧ F 2 = (IV a2) ∧ F 9 = v1 ∧ F 10 = (IV (a0.length : Int)) ∧ F 11 = (IV s_l1) ∧ Hp w0 [zAg w0 w0.heap.size] w) (fun o => zBh o (fun x => some x) (fun s => zHH a0 a1 s) = some r) aK hm ⟨rfl, rfl, rfl, rfl, rfl, rfl, hL⟩ ?_ ?_
 · intro s_l1 bA aW hJ hm
   have hm := zBD hm
   have hm : zHH a0 a1 s_l1 = some r := hm
   unfold zHH at hm
   obtain ⟨aS, aT, bB, bC, bD, bE, hL⟩ := hJ
   refine CSR <| OV v1 rfl (zAo aS) <| OV (IV (a0.length : Int)) rfl (zA3 U27 rfl (hL.rdS 0 rfl h2)) <| OV (IV a1) rfl (zAo aT) <| OV (.bool ((a0.length : Int) == a1)) rfl (zBv rfl rfl) <| OV (.bool ((a0.length : Int) == a1)) rfl (zAb) <| OW.nil <| zAx ?_
   obtain rfl := oi hm
   exact RR1 rfl rfl ⟨rfl, hL.fresh 0 rfl [] (by decide) (by decide) rfl⟩
 intro s_l1 bF aX bG hJ hm aL
 unfold zHI at hm
 obtain ⟨aH, aI, aD, aE, aF, aB, hL⟩ := hJ
 refine CSR <| OV (.bool (decide (s_l1 < (a0.length : Int)))) rfl (zBE aB aF) <| ONS ?_
 refine zAn (t := decide (s_l1 < (a0.length : Int))) rfl hm (fun aM hm => ?_) (fun aM hm => ?_)
 · refine zAt <| zAF <| CW.block <| CSR ?_
   obtain ⟨aA, aN, hm⟩ := zAs hm
   obtain ⟨aO, aG⟩ := zAZ aN
   obtain ⟨aU, aV, aC⟩ := zAC (hL.rdS 0 rfl h2) aO aG
   refine OV (.pointer (some ⟨aU, aV, none⟩)) rfl (zA1 U27 zAf aE aB aC) <| OV (IV aA) rfl (zAd U2 rfl rfl (zAv (hL.rdS 0 rfl h2) aC aG 0 _ rfl)) <| OV (IV aA) rfl (zAb) <| ONR <| OV (IV aA) rfl (zAe) <| OV (IV a2) rfl (zAo aD) ?_
   obtain ⟨aJ, aP, hm⟩ := zAs hm
   refine zAa (OP.call rfl (zAq (vs := [(IV aA), (IV 0), (IV a2)]) zD4 ⟨rfl, rfl, rfl, trivial⟩) (zBn _ aA 0 a2 aP) ?_)
   rintro bH aY ⟨rfl, aQ⟩
   refine ⟨_, rfl, ?_⟩
   have hL := hL.pushAll aQ
   simp only [lA, lB, lC, lD] at hL
   refine OV (.bool (!aJ)) rfl (zCb rfl) <| OW.nil ?_
   refine zAn (t := !aJ) rfl hm (fun aR hm => ?_) (fun aR hm => ?_)
   · refine CSR <| OV (.bool false) rfl (zAb) <| OW.nil <| zAx ?_
     obtain rfl := oi hm
     have hm := aL _ rfl
     obtain rfl := oi hm
     exact RR1 rfl rfl ⟨rfl, hL.fresh 0 rfl [] (by decide) (by decide) rfl⟩
   refine zAt <| zAl <| OV (IV (w64 (s_l1 + 1))) rfl (zBe aB rfl) <| OV (IV (w64 (s_l1 + 1))) rfl (zAe) <| OW.nil ?_
   obtain rfl := oi hm
   exact ⟨_, rfl, ⟨aH, aI, aD, aE, aF, rfl, hL⟩⟩
 refine zA0 ?_
 refine zBk ?_
 obtain rfl := oi hm
 exact ⟨_, rfl, ⟨aH, aI, aD, aE, aF, aB, hL⟩⟩

theorem zMf (w0 : World) (a0 : Table) {v1 : Value} {v3 : Value} (h2 : rdL (· < w0.heap.size) w0 v1 a0.Points) (h4 : rdL (· < w0.heap.size) w0 v3 a0.Codes) {r : Bool} (hm : zIu a0 = some r) :
    Calls Tryz.prog 61 #[(.agg #[(IV a0.Boats), v1, v3])] w0 fun e w' => e = .returned (.bool r) ∧ Fresh w0 w' [] := by
 unfold zIu at hm
 refine zAD (args := [(.agg #[(IV a0.Boats), v1, v3])]) Tryz.func61 rfl rfl rfl ?_
 have hL := zAJ w0
 refine CSR ?_
 refine zAa (zC3 (cs := #[(IV a0.Boats), v1, v3]) hL rfl rfl rfl ?_)
 intro wd5 b6 hL
 refine OV (.bool false) rfl (zAb) <| ONS ?_
 refine zAM (fun (s_j1 : Bool) F w => F 1 = (PV b6 0) ∧ F 22 = (.bool s_j1) ∧ Hp w0 [Ent.blk b6 26 #[(IV a0.Boats), v1, v3], zAg w0 w0.heap.size] w) (fun s_j1 => zFg a0 s_j1 = some r) ?_ ?_
 · refine zAl <| OV (PV b6 0) rfl (zAc (fsz := 1) 0 0 0 U26 rfl zAf rfl rfl rfl) <| OV (IV a0.Boats) rfl (zAd U2 rfl rfl (hL.cellB 0 rfl rfl)) ?_
   obtain ⟨aI, aN, hm⟩ := zAs hm
   refine zAa (OP.call rfl (zAq (vs := [(IV a0.Boats), (IV 1), (IV 16)]) zD4 ⟨rfl, rfl, rfl, trivial⟩) (zBn _ a0.Boats 1 16 aN) ?_)
   rintro cB bV ⟨rfl, aO⟩
   refine ⟨_, rfl, ?_⟩
   have hL := hL.pushAll aO
   simp only [lA, lB, lC, lD] at hL
   refine OV (.bool (!aI)) rfl (zCb rfl) <| OV (.bool (!aI)) rfl (zAe) ?_
   refine zAH hm (fun aC hm => ?_) (fun aC hm => ?_)
   · refine zAa (zAh rfl rfl aC rfl ?_)
     refine zAa (zAh rfl rfl aC rfl ?_)
     refine zAa (zAh rfl rfl aC rfl ?_)
     refine zAa (zAh rfl rfl aC rfl ?_)
     refine OV (.bool true) rfl (zAz rfl aC rfl) <| OV (.bool true) rfl (zAe) ?_
     refine zAa (zAh rfl rfl rfl rfl ?_)
     refine zAa (zAh rfl rfl rfl rfl ?_)
     refine zAa (zAh rfl rfl rfl rfl ?_)
     refine zAa (zAh rfl rfl rfl rfl ?_)
     refine zAa (zAh rfl rfl rfl rfl ?_)
     refine zAa (zAh rfl rfl rfl rfl ?_)
     refine zAa (zAh rfl rfl rfl rfl ?_)
     refine OV (.bool true) rfl (zAz rfl rfl rfl) <| OW.nil ?_
     exact ⟨true, hm, ⟨rfl, rfl, hL⟩⟩
   refine zAa (zAj rfl rfl aC (zAk (v := (PV b6 1)) rfl (zAc (fsz := 1) 0 1 1 U26 rfl zBq rfl rfl rfl) ?_))
   refine zAa (zAj rfl rfl aC (zAk (v := v1) rfl (zAd U24 rfl rfl (hL.cellB 0 rfl rfl)) ?_))
   refine zAa (zAj rfl rfl aC (zAk (v := (IV (a0.Points.length : Int))) rfl (zA3 U24 rfl (hL.rdS 1 rfl h2)) ?_))
   refine zAa (zAj rfl rfl aC (zAk (v := (.bool (decide (12 < (a0.Points.length : Int))))) rfl (zIq rfl rfl) ?_))
   refine OV (.bool (decide (12 < (a0.Points.length : Int)))) rfl (zAA rfl aC rfl) <| OV (.bool (decide (12 < (a0.Points.length : Int)))) rfl (zAe) ?_
   refine zAH hm (fun aB hm => ?_) (fun aB hm => ?_)
   · refine zAa (zAh rfl rfl aB rfl ?_)
     refine zAa (zAh rfl rfl aB rfl ?_)
     refine zAa (zAh rfl rfl aB rfl ?_)
     refine zAa (zAh rfl rfl aB rfl ?_)
     refine zAa (zAh rfl rfl aB rfl ?_)
     refine zAa (zAh rfl rfl aB rfl ?_)
     refine zAa (zAh rfl rfl aB rfl ?_)
     refine OV (.bool true) rfl (zAz rfl aB rfl) <| OW.nil ?_
     exact ⟨true, hm, ⟨rfl, rfl, hL⟩⟩
   refine zAa (zAj rfl rfl aB (zAk (v := (PV b6 1)) rfl (zAc (fsz := 1) 0 1 1 U26 rfl zBq rfl rfl rfl) ?_))
   refine zAa (zAj rfl rfl aB (zAk (v := v1) rfl (zAd U24 rfl rfl (hL.cellB 0 rfl rfl)) ?_))
   refine zAa (zAj rfl rfl aB (zAk (v := (IV (a0.Points.length : Int))) rfl (zA3 U24 rfl (hL.rdS 1 rfl h2)) ?_))
   refine zAa (zAj rfl rfl aB (zAk (v := (PV b6 2)) rfl (zAc (fsz := 1) 0 2 2 U26 rfl zBq rfl rfl rfl) ?_))
   refine zAa (zAj rfl rfl aB (zAk (v := v3) rfl (zAd U24 rfl rfl (hL.cellB 0 rfl rfl)) ?_))
   refine zAa (zAj rfl rfl aB (zAk (v := (IV (a0.Codes.length : Int))) rfl (zA3 U24 rfl (hL.rdS 1 rfl h4)) ?_))
   refine zAa (zAj rfl rfl aB (zAk (v := (.bool ((a0.Points.length : Int) != (a0.Codes.length : Int)))) rfl (zDk rfl rfl) ?_))
   refine OV (.bool ((a0.Points.length : Int) != (a0.Codes.length : Int))) rfl (zAA rfl aB rfl) <| OW.nil ?_
   exact ⟨(a0.Points.length : Int) != (a0.Codes.length : Int), hm, ⟨rfl, rfl, hL⟩⟩
 intro s_j1 cK cC hJ hm
 unfold zFg at hm
 obtain ⟨bH, bU, hL⟩ := hJ
 refine zAn (t := s_j1) bU hm (fun bI hm => ?_) (fun bI hm => ?_)
 · refine CSR <| OV (.bool false) rfl (zAb) <| OW.nil <| zAx ?_
   obtain rfl := oi hm
   exact RR1 rfl rfl ⟨rfl, hL.fresh 1 rfl [] (by decide) (by decide) rfl⟩
 refine zAt <| zAF <| CSR <| OV (PV b6 1) rfl (zAc (fsz := 1) 0 1 1 U26 rfl zBq rfl bH rfl) <| OV v1 rfl (zAd U24 rfl rfl (hL.cellB 0 rfl rfl)) <| OV (IV (a0.Points.length : Int)) rfl (zA3 U24 rfl (hL.rdS 1 rfl h2)) <| OV (IV 0) rfl (zAe) <| OW.nil ?_
 obtain ⟨cD, aP, hm⟩ := zAs hm
 refine zAU (fun (s_l1 : Int) F w => F 1 = (PV b6 0) ∧ F 25 = (IV (a0.Points.length : Int)) ∧ F 26 = (IV s_l1) ∧ Hp w0 [Ent.blk b6 26 #[(IV a0.Boats), v1, v3], zAg w0 w0.heap.size] w) (fun o => zBh o (fun x => some x) (fun s => zGK s) = some r) aP hm ⟨bH, rfl, rfl, hL⟩ ?_ ?_
 · intro s_l1 cE bW hJ hm
   have hm := zBD hm
   have hm : zGK s_l1 = some r := hm
   unfold zGK at hm
   obtain ⟨cF, cG, cH, hL⟩ := hJ
   refine CSR <| OV (.bool true) rfl (zAb) <| OW.nil <| zAx ?_
   obtain rfl := oi hm
   exact RR1 rfl rfl ⟨rfl, hL.fresh 1 rfl [] (by decide) (by decide) rfl⟩
 intro s_l1 cI bX bJ hJ hm aQ
 unfold zGM at hm
 obtain ⟨aD, aF, aE, hL⟩ := hJ
 refine CSR <| OV (.bool (decide (s_l1 < (a0.Points.length : Int)))) rfl (zBE aE aF) <| ONS ?_
 refine zAn (t := decide (s_l1 < (a0.Points.length : Int))) rfl hm (fun aR hm => ?_) (fun aR hm => ?_)
 · refine zAt <| zAF <| CW.block <| CSR <| OV (IV s_l1) rfl (zAo aE) <| OV (IV s_l1) rfl (zAb) <| OW.nil ?_
   refine zAM (fun (s_j2 : Bool) F w => F 1 = (PV b6 0) ∧ F 25 = (IV (a0.Points.length : Int)) ∧ F 26 = (IV s_l1) ∧ F 48 = (.bool s_j2) ∧ Hp w0 [Ent.blk b6 26 #[(IV a0.Boats), v1, v3], zAg w0 w0.heap.size] w) (fun s_j2 => zGL s_l1 s_j2 = some bJ) ?_ ?_
   · refine zBW zAQ ?_
     have hL := hL.call (zA8 _)
     refine DW.pre (fuel := 0) (fin := bma 20 1048575) (C := fun w' => Mod zBO _ w') [0, 1, 2, 3, 4, 5, 6, 7, 8, 9, 10, 11, 12, 13, 14, 15, 16, 17, 18, 19] (Mod.refl _ _) (by kernel_rfl) (by kernel_rfl) ?_
     refine QV (PV b6 1) rfl rfl (fun w' hm' => zAc (fsz := 1) 0 1 1 U26 rfl zBq rfl aD rfl) <| QV v1 rfl rfl (fun w' hm' => zAd U24 rfl rfl ((hL.call hm').cellB 0 rfl rfl)) <| QV (IV s_l1) rfl rfl (fun w' hm' => zAe) ?_
     obtain ⟨bK, aS, hm⟩ := zAs hm
     obtain ⟨aT, aU⟩ := zAZ aS
     obtain ⟨bL, bM, aJ, aK, aV, aW, aX⟩ := zCp h2 aT aU
     refine QV (.pointer (some ⟨bL, bM, none⟩)) rfl rfl (fun w' hm' => zA1 U24 zAR rfl rfl aK) <| QV aJ rfl rfl (fun w' hm' => zAd U27 rfl rfl ((hL.call hm').cellS 1 rfl aV aW)) <| QV (PV b6 0) rfl rfl (fun w' hm' => zAc (fsz := 1) 0 0 0 U26 rfl zAf rfl aD rfl) <| QV (IV a0.Boats) rfl rfl (fun w' hm' => zAd U2 rfl rfl ((hL.call hm').cellB 0 rfl rfl)) ?_
     obtain ⟨aH, aY, hm⟩ := zAs hm
     refine zAi rfl (QP.call (v := (.bool aH)) rfl (fun w' hm' => zAq (vs := [aJ, (IV a0.Boats), (IV 10000)]) zOL ⟨rfl, rfl, rfl, trivial⟩) (fun w' hm' => (zKk w' bK ((hL.call hm').rdS 1 rfl aX) a0.Boats 10000 aY).mono (fun e w'' h => ⟨h.1, hm'.trans h.2.mod⟩)) ?_)
     refine QV (.bool (!aH)) rfl rfl (fun w' hm' => zCb rfl) <| QV (.bool (!aH)) rfl rfl (fun w' hm' => zAe) ?_
     refine zAH hm (fun aA hm => ?_) (fun aA hm => ?_)
     · refine zAi rfl (zAK rfl rfl aA rfl ?_)
       refine zAi rfl (zAK rfl rfl aA rfl ?_)
       refine zAi rfl (zAK rfl rfl aA rfl ?_)
       refine zAi rfl (zAK rfl rfl aA rfl ?_)
       refine zAi rfl (zAK rfl rfl aA rfl ?_)
       refine zAi rfl (zAK rfl rfl aA rfl ?_)
       refine zAi rfl (zAK rfl rfl aA rfl ?_)
       refine zAi rfl (zAK rfl rfl aA rfl ?_)
       refine zAi rfl (zAK rfl rfl aA rfl ?_)
       refine QV (.bool true) rfl rfl (fun w' hm' => zAz rfl aA rfl) ?_
       refine QW.nil ?_
       intro bY hmod
       have hL := hL.call hmod
       refine zBu (by kernel_rfl) ?_
       exact ⟨true, hm, ⟨aD, aF, aE, rfl, hL⟩⟩
     refine zAi rfl (zAB rfl rfl aA (zAN (v := (PV b6 2)) rfl (fun w' hm' => zAc (fsz := 1) 0 2 2 U26 rfl zBq rfl aD rfl) ?_))
     refine zAi rfl (zAB rfl rfl aA (zAN (v := v3) rfl (fun w' hm' => zAd U24 rfl rfl ((hL.call hm').cellB 0 rfl rfl)) ?_))
     refine zAi rfl (zAB rfl rfl aA (zAN (v := (IV s_l1)) rfl (fun w' hm' => zAe) ?_))
     obtain ⟨bN, aZ, hm⟩ := zAs hm
     obtain ⟨bA, bB⟩ := zAZ aZ
     obtain ⟨bO, bP, aL, aM, bC, bD, bE⟩ := zCp h4 bA bB
     refine zAi rfl (zAB rfl rfl aA (zAN (v := (.pointer (some ⟨bO, bP, none⟩))) rfl (fun w' hm' => zA1 U24 zAR rfl rfl aM) ?_))
     refine zAi rfl (zAB rfl rfl aA (zAN (v := aL) rfl (fun w' hm' => zAd U27 rfl rfl ((hL.call hm').cellS 1 rfl bC bD)) ?_))
     refine zAi rfl (zAB rfl rfl aA (zAN (v := (PV b6 0)) rfl (fun w' hm' => zAc (fsz := 1) 0 0 0 U26 rfl zAf rfl aD rfl) ?_))
     refine zAi rfl (zAB rfl rfl aA (zAN (v := (IV a0.Boats)) rfl (fun w' hm' => zAd U2 rfl rfl ((hL.call hm').cellB 0 rfl rfl)) ?_))
     obtain ⟨aG, bF, hm⟩ := zAs hm
     refine zAi rfl (zAB rfl rfl aA (QP.call (v := (.bool aG)) rfl (fun w' hm' => zAq (vs := [aL, (IV a0.Boats), (IV 9)]) zOL ⟨rfl, rfl, rfl, trivial⟩) (fun w' hm' => (zKk w' bN ((hL.call hm').rdS 1 rfl bE) a0.Boats 9 bF).mono (fun e w'' h => ⟨h.1, hm'.trans h.2.mod⟩)) ?_))
     refine zAi rfl (zAB rfl rfl aA (zAN (v := (.bool (!aG))) rfl (fun w' hm' => zCb rfl) ?_))
     refine QV (.bool (!aG)) rfl rfl (fun w' hm' => zAA rfl aA rfl) ?_
     refine QW.nil ?_
     intro bZ hmod
     have hL := hL.call hmod
     refine zBu (by kernel_rfl) ?_
     exact ⟨!aG, hm, ⟨aD, aF, aE, rfl, hL⟩⟩
   intro s_j2 cJ cA hJ hm
   unfold zGL at hm
   obtain ⟨bQ, bR, bS, bT, hL⟩ := hJ
   refine zAn (t := s_j2) bT hm (fun bG hm => ?_) (fun bG hm => ?_)
   · refine CSR <| OV (.bool false) rfl (zAb) <| OW.nil <| zAx ?_
     obtain rfl := oi hm
     have hm := aQ _ rfl
     obtain rfl := oi hm
     exact RR1 rfl rfl ⟨rfl, hL.fresh 1 rfl [] (by decide) (by decide) rfl⟩
   refine zAt <| zAl <| OV (IV (w64 (s_l1 + 1))) rfl (zBe bS rfl) <| OV (IV (w64 (s_l1 + 1))) rfl (zAe) <| OW.nil ?_
   obtain rfl := oi hm
   exact ⟨_, rfl, ⟨bQ, bR, rfl, hL⟩⟩
 refine zA0 ?_
 refine zBk ?_
 obtain rfl := oi hm
 exact ⟨_, rfl, ⟨aD, aF, aE, hL⟩⟩

theorem zIZ (w0 : World) (a0 : List Int) {v1 : Value} (h2 : rdL (· < w0.heap.size) w0 v1 a0) {r : Bool} (hm : zDK a0 = some r) :
    Calls Tryz.prog 42 #[v1] w0 fun e w' => e = .returned (.bool r) ∧ Fresh w0 w' [] := by
 unfold zDK at hm
 refine zAD (args := [v1]) Tryz.func42 rfl rfl rfl ?_
 have hL := zAJ w0
 refine CSR <| OV (.bool false) rfl (zAb) <| ONS <| CSR <| OV v1 rfl (zAe) <| OV (IV (a0.length : Int)) rfl (zA3 U27 rfl (hL.rdS 0 rfl h2)) <| OV (IV 0) rfl (zAe) <| OW.nil ?_
 obtain ⟨bQ, aV, hm⟩ := zAs hm
 refine zAU (fun (s_l1 : Int) F w => F 0 = v1 ∧ F 5 = v1 ∧ F 6 = (IV (a0.length : Int)) ∧ F 7 = (IV s_l1) ∧ Hp w0 [zAg w0 w0.heap.size] w) (fun o => zBh o (fun x => some x) (fun s => zDJ a0 s) = some r) aV hm ⟨rfl, rfl, rfl, rfl, hL⟩ ?_ ?_
 · intro s_l1 bR bL hJ hm
   have hm := zBD hm
   have hm : zDJ a0 s_l1 = some r := hm
   unfold zDJ at hm
   obtain ⟨bG, bS, bT, bM, hL⟩ := hJ
   refine CSR <| OV v1 rfl (zAo bG) <| OV (IV (a0.length : Int)) rfl (zA3 U27 rfl (hL.rdS 0 rfl h2)) <| OV (.bool (decide ((a0.length : Int) ≤ 3))) rfl (zKe rfl rfl) <| OV (.bool (decide ((a0.length : Int) ≤ 3))) rfl (zAb) <| OW.nil <| zAx ?_
   obtain rfl := oi hm
   exact RR1 rfl rfl ⟨rfl, hL.fresh 0 rfl [] (by decide) (by decide) rfl⟩
 intro s_l1 bN bI bH hJ hm aW
 unfold zFe at hm
 obtain ⟨aE, aF, aG, aD, hL⟩ := hJ
 refine CSR <| OV (.bool (decide (s_l1 < (a0.length : Int)))) rfl (zBE aD aG) <| ONS ?_
 refine zAn (t := decide (s_l1 < (a0.length : Int))) rfl hm (fun aN hm => ?_) (fun aN hm => ?_)
 · refine zAt <| zAF <| CW.block <| CSR <| OV (IV s_l1) rfl (zAo aD) ?_
   obtain ⟨aC, aO, hm⟩ := zAs hm
   obtain ⟨aP, aK⟩ := zAZ aO
   obtain ⟨aX, aY, aI⟩ := zAC (hL.rdS 0 rfl h2) aP aK
   refine OV (.pointer (some ⟨aX, aY, none⟩)) rfl (zA1 U27 zAf aF aD aI) <| OV (IV aC) rfl (zAd U2 rfl rfl (zAv (hL.rdS 0 rfl h2) aI aK 0 _ rfl)) <| OV (IV s_l1) rfl (zAb) <| OV (IV aC) rfl (zAb) <| OW.nil ?_
   refine zAM (fun (s_j1 : Bool) F w => F 0 = v1 ∧ F 5 = v1 ∧ F 6 = (IV (a0.length : Int)) ∧ F 7 = (IV s_l1) ∧ F 27 = (.bool s_j1) ∧ Hp w0 [zAg w0 w0.heap.size] w) (fun s_j1 => zCI s_l1 s_j1 = some bH) ?_ ?_
   · refine zAl <| OV (IV aC) rfl (zAe) ?_
     obtain ⟨aM, aQ, hm⟩ := zAs hm
     refine zAa (OP.call rfl (zAq (vs := [(IV aC), (IV 1), (IV 12)]) zD4 ⟨rfl, rfl, rfl, trivial⟩) (zBn _ aC 1 12 aQ) ?_)
     rintro bO bJ ⟨rfl, aR⟩
     refine ⟨_, rfl, ?_⟩
     have hL := hL.pushAll aR
     simp only [lA, lB, lC, lD] at hL
     refine OV (.bool (!aM)) rfl (zCb rfl) <| OV (.bool (!aM)) rfl (zAe) ?_
     refine zAH hm (fun aB hm => ?_) (fun aB hm => ?_)
     · refine zAa (zAh rfl rfl aB rfl ?_)
       refine zAa (zAh rfl rfl aB rfl ?_)
       refine zAa (zAh rfl rfl aB rfl ?_)
       refine zAa (zHT rfl rfl rfl ?_)
       refine zAa (zHT rfl rfl rfl ?_)
       refine zAa (zHT rfl rfl rfl ?_)
       refine zAa (zHT rfl rfl rfl ?_)
       refine zAa (zHT rfl rfl rfl ?_)
       refine zAa (zHT rfl rfl rfl ?_)
       refine zAa (zHT rfl rfl rfl ?_)
       refine zAa (zAh rfl rfl aB rfl ?_)
       refine OV (.bool true) rfl (zAz rfl aB rfl) <| OW.nil ?_
       exact ⟨true, hm, ⟨aE, aF, aG, aD, rfl, hL⟩⟩
     refine zAa (zAj rfl rfl aB (zAk (v := (IV s_l1)) rfl (zAe) ?_))
     refine zAa (zAj rfl rfl aB (zAk (v := (.bool (decide (0 < s_l1)))) rfl (zIq rfl rfl) ?_))
     refine zAa (zAj rfl rfl aB (zAk (v := (.bool (decide (0 < s_l1)))) rfl (zAe) ?_))
     refine zAH hm (fun aA hm => ?_) (fun aA hm => ?_)
     · refine zAa (zAj rfl rfl aA (zAk (v := v1) rfl (zAo aE) ?_))
       refine zAa (zAj rfl rfl aA (zAk (v := (IV s_l1)) rfl (zAe) ?_))
       refine zAa (zAj rfl rfl aA (zAk (v := (IV (w64 (s_l1 - 1)))) rfl (zCn rfl rfl) ?_))
       obtain ⟨aH, aS, hm⟩ := zAs hm
       obtain ⟨aT, aL⟩ := zAZ aS
       obtain ⟨aZ, bA, aJ⟩ := zAC (hL.rdS 0 rfl h2) aT aL
       refine zAa (zAj rfl rfl aA (zAk (v := (.pointer (some ⟨aZ, bA, none⟩))) rfl (zA1 U27 zAf rfl rfl aJ) ?_))
       refine zAa (zAj rfl rfl aA (zAk (v := (IV aH)) rfl (zAd U2 rfl rfl (zAv (hL.rdS 0 rfl h2) aJ aL 0 _ rfl)) ?_))
       refine zAa (zAj rfl rfl aA (zAk (v := (IV aC)) rfl (zAe) ?_))
       refine zAa (zAj rfl rfl aA (zAk (v := (.bool (decide (aC ≤ aH)))) rfl (zKf rfl rfl) ?_))
       refine zAa (zAj rfl rfl aB (zAk (v := (.bool (decide (aC ≤ aH)))) rfl (zAz rfl aA rfl) ?_))
       refine OV (.bool (decide (aC ≤ aH))) rfl (zAA rfl aB rfl) <| OW.nil ?_
       exact ⟨decide (aC ≤ aH), hm, ⟨aE, aF, aG, aD, rfl, hL⟩⟩
     refine zAa (zAh rfl rfl aA rfl ?_)
     refine zAa (zAh rfl rfl aA rfl ?_)
     refine zAa (zAh rfl rfl aA rfl ?_)
     refine zAa (zAh rfl rfl aA rfl ?_)
     refine zAa (zAh rfl rfl aA rfl ?_)
     refine zAa (zAh rfl rfl aA rfl ?_)
     refine zAa (zAh rfl rfl aA rfl ?_)
     refine zAa (zAj rfl rfl aB (zAk (v := (.bool false)) rfl (zAA rfl aA rfl) ?_))
     refine OV (.bool false) rfl (zAA rfl aB rfl) <| OW.nil ?_
     exact ⟨false, hm, ⟨aE, aF, aG, aD, rfl, hL⟩⟩
   intro s_j1 bP bK hJ hm
   unfold zCI at hm
   obtain ⟨bB, bC, bD, bE, bF, hL⟩ := hJ
   refine zAn (t := s_j1) bF hm (fun aU hm => ?_) (fun aU hm => ?_)
   · refine CSR <| OV (.bool false) rfl (zAb) <| OW.nil <| zAx ?_
     obtain rfl := oi hm
     have hm := aW _ rfl
     obtain rfl := oi hm
     exact RR1 rfl rfl ⟨rfl, hL.fresh 0 rfl [] (by decide) (by decide) rfl⟩
   refine zAt <| zAl <| OV (IV (w64 (s_l1 + 1))) rfl (zBe bE rfl) <| OV (IV (w64 (s_l1 + 1))) rfl (zAe) <| OW.nil ?_
   obtain rfl := oi hm
   exact ⟨_, rfl, ⟨bB, bC, bD, rfl, hL⟩⟩
 refine zA0 ?_
 refine zBk ?_
 obtain rfl := oi hm
 exact ⟨_, rfl, ⟨aE, aF, aG, aD, hL⟩⟩

theorem zLr (w0 : World) (a0 : Table) {v1 : Value} {v3 : Value} (h2 : rdL (· < w0.heap.size) w0 v1 a0.Points) (h4 : rdL (· < w0.heap.size) w0 v3 a0.Codes) (a1 : List Int) {v5 : Value} (h6 : rdL (· < w0.heap.size) w0 v5 a1) (a2 : Int) {r : Int} (hm : zHJ a0 a1 a2 = some r) :
    Calls Tryz.prog 24 #[(.agg #[(IV a0.Boats), v1, v3]), v5, (IV a2)] w0 fun e w' => e = .returned (IV r) ∧ Fresh w0 w' [] := by
 unfold zHJ at hm
 refine zAD (args := [(.agg #[(IV a0.Boats), v1, v3]), v5, (IV a2)]) Tryz.func24 rfl rfl rfl ?_
 have hL := zAJ w0
 refine CSR ?_
 refine zAa (zC3 (cs := #[(IV a0.Boats), v1, v3]) hL rfl rfl rfl ?_)
 intro wd7 b8 hL
 refine OV (IV 0) rfl (zAb) <| ONS <| CSR <| OV (.agg #[(IV a0.Boats), v1, v3]) rfl (zAW (cs := [(IV a0.Boats), v1, v3]) U26 zBg rfl rfl (hL.cellsB 0 rfl (o := 0) (l := [(IV a0.Boats), v1, v3]) (by intro j u hj; exact (by simpa using hj)))) ?_
 obtain ⟨x9, aD, hm⟩ := zAs hm
 refine zAa (OP.call rfl (zAq (vs := [(.agg #[(IV a0.Boats), v1, v3])]) zRo ⟨rfl, trivial⟩) (zMf _ a0 (hL.rdS 1 rfl h2) (hL.rdS 1 rfl h4) aD) ?_)
 rintro aQ aM ⟨rfl, aE⟩
 refine ⟨_, rfl, ?_⟩
 have hL := hL.pushAll aE
 simp only [lA, lB, lC, lD] at hL
 refine OV (.bool (!x9)) rfl (zCb rfl) <| OW.nil ?_
 refine zAn (t := !x9) rfl hm (fun aF hm => ?_) (fun aF hm => ?_)
 · refine CSR <| OV (IV 1) rfl (zAb) <| OW.nil <| zAx ?_
   obtain rfl := oi hm
   exact RR1 rfl rfl ⟨rfl, hL.fresh 1 rfl [] (by decide) (by decide) rfl⟩
 refine zAt <| zAF ?_
 refine zAM (fun (s_j1 : Bool) F w => F 20 = (.bool s_j1) ∧ Hp w0 [Ent.blk b8 26 #[(IV a0.Boats), v1, v3], zAg w0 w0.heap.size] w) (fun s_j1 => zFu s_j1 = some r) ?_ ?_
 · refine zAl <| OV v5 rfl (zAe) ?_
   obtain ⟨aC, aG, hm⟩ := zAs hm
   refine zAa (OP.call rfl (zAq (vs := [v5]) zOz ⟨rfl, trivial⟩) (zIZ _ a1 (hL.rdS 1 rfl h6) aG) ?_)
   rintro aR aN ⟨rfl, aH⟩
   refine ⟨_, rfl, ?_⟩
   have hL := hL.pushAll aH
   simp only [lA, lB, lC, lD] at hL
   refine OV (.bool (!aC)) rfl (zCb rfl) <| OV (.bool (!aC)) rfl (zAe) ?_
   refine zAH hm (fun aA hm => ?_) (fun aA hm => ?_)
   · refine zAa (zAh rfl rfl aA rfl ?_)
     refine zAa (zAh rfl rfl aA rfl ?_)
     refine zAa (zAh rfl rfl aA rfl ?_)
     refine zAa (zAh rfl rfl aA rfl ?_)
     refine zAa (zAh rfl rfl aA rfl ?_)
     refine zAa (zAh rfl rfl aA rfl ?_)
     refine OV (.bool true) rfl (zAz rfl aA rfl) <| OW.nil ?_
     exact ⟨true, hm, ⟨rfl, hL⟩⟩
   refine zAa (zAj rfl rfl aA (zAk (v := (IV a2)) rfl (zAe) ?_))
   refine zAa (zAj rfl rfl aA (zAk (v := (PV b8 0)) rfl (zAc (fsz := 1) 0 0 0 U26 rfl zAf rfl rfl rfl) ?_))
   refine zAa (zAj rfl rfl aA (zAk (v := (IV a0.Boats)) rfl (zAd U2 rfl rfl (hL.cellB 0 rfl rfl)) ?_))
   refine zAa (zAj rfl rfl aA (zAk (v := (IV (w64 (a0.Boats - 1)))) rfl (zCn rfl rfl) ?_))
   obtain ⟨aB, aI, hm⟩ := zAs hm
   refine zAa (zAj rfl rfl aA (OP.call rfl (zAq (vs := [(IV a2), (IV 0), (IV (w64 (a0.Boats - 1)))]) zD4 ⟨rfl, rfl, rfl, trivial⟩) (zBn _ a2 0 (w64 (a0.Boats - 1)) aI) ?_))
   rintro aS aO ⟨rfl, aJ⟩
   refine ⟨_, rfl, ?_⟩
   have hL := hL.pushAll aJ
   simp only [lA, lB, lC, lD] at hL
   refine zAa (zAj rfl rfl aA (zAk (v := (.bool (!aB))) rfl (zCb rfl) ?_))
   refine OV (.bool (!aB)) rfl (zAA rfl aA rfl) <| OW.nil ?_
   exact ⟨!aB, hm, ⟨rfl, hL⟩⟩
 intro s_j1 aT aP hJ hm
 unfold zFu at hm
 obtain ⟨aL, hL⟩ := hJ
 refine zAn (t := s_j1) aL hm (fun aK hm => ?_) (fun aK hm => ?_)
 · refine CSR <| OV (IV 2) rfl (zAb) <| OW.nil <| zAx ?_
   obtain rfl := oi hm
   exact RR1 rfl rfl ⟨rfl, hL.fresh 1 rfl [] (by decide) (by decide) rfl⟩
 refine zAt <| CSR <| OV (IV 0) rfl (zAb) <| OW.nil <| zAx ?_
 obtain rfl := oi hm
 exact RR1 rfl rfl ⟨rfl, hL.fresh 1 rfl [] (by decide) (by decide) rfl⟩

theorem zKy (w0 : World) (a0 : List Int) {v1 : Value} (h2 : rdL (· < w0.heap.size) w0 v1 a0) (a1 : Int) {r : Int} (hm : zFt a0 a1 = some r) :
    Calls Tryz.prog 118 #[v1, (IV a1)] w0 fun e w' => e = .returned (IV r) ∧ Fresh w0 w' [] := by
 unfold zFt at hm
 refine zAD (args := [v1, (IV a1)]) Tryz.func118 rfl rfl rfl ?_
 have hL := zAJ w0
 refine CSR <| OV (IV 0) rfl (zAb) <| ONR <| OV (IV 0) rfl (zAb) <| ONS <| CSR <| OV v1 rfl (zAe) <| OV (IV (a0.length : Int)) rfl (zA3 U27 rfl (hL.rdS 0 rfl h2)) <| OV (IV 0) rfl (zAe) <| OW.nil ?_
 obtain ⟨bG, aJ, hm⟩ := zAs hm
 refine zAU (fun (s_l1 : Int × Int) F w => F 1 = (IV a1) ∧ F 5 = (IV s_l1.1) ∧ F 8 = v1 ∧ F 9 = (IV (a0.length : Int)) ∧ F 10 = (IV s_l1.2) ∧ Hp w0 [zAg w0 w0.heap.size] w) (fun o => zBh o (fun x => some x) (fun s => zD5 s) = some r) aJ hm ⟨rfl, rfl, rfl, rfl, rfl, hL⟩ ?_ ?_
 · intro s_l1 bH bB hJ hm
   have hm := zBD hm
   have hm : zD5 s_l1 = some r := hm
   unfold zD5 at hm
   obtain ⟨bI, aO, bJ, bK, bL, hL⟩ := hJ
   refine CSR <| OV (IV s_l1.1) rfl (zAo aO) <| OV (IV s_l1.1) rfl (zAb) <| OW.nil <| zAx ?_
   obtain rfl := oi hm
   exact RR1 rfl rfl ⟨rfl, hL.fresh 0 rfl [] (by decide) (by decide) rfl⟩
 intro s_l1 bM bC aI hJ hm bD
 unfold zFR at hm
 obtain ⟨aC, aG, aD, aE, aA, hL⟩ := hJ
 refine CSR <| OV (.bool (decide (s_l1.2 < (a0.length : Int)))) rfl (zBE aA aE) <| ONS ?_
 refine zAn (t := decide (s_l1.2 < (a0.length : Int))) rfl hm (fun aK hm => ?_) (fun aK hm => ?_)
 · refine zAt ?_
   refine zAM (fun (s_j1 : Int) F w => F 1 = (IV a1) ∧ F 5 = (IV s_j1) ∧ F 8 = v1 ∧ F 9 = (IV (a0.length : Int)) ∧ F 10 = (IV s_l1.2) ∧ Hp w0 [zAg w0 w0.heap.size] w) (fun s_j1 => zFQ s_l1 s_j1 = some aI) ?_ ?_
   · refine zBG (fun (s_j2 : Int) F w => F 1 = (IV a1) ∧ F 5 = (IV s_j2) ∧ F 8 = v1 ∧ F 9 = (IV (a0.length : Int)) ∧ F 10 = (IV s_l1.2) ∧ Hp w0 [zAg w0 w0.heap.size] w) (fun s_j2 => zD6 s_l1 s_j2 = some aI) ?_ ?_
     · refine CSR ?_
       obtain ⟨aB, aL, hm⟩ := zAs hm
       obtain ⟨aM, aH⟩ := zAZ aL
       obtain ⟨aP, aQ, aF⟩ := zAC (hL.rdS 0 rfl h2) aM aH
       refine OV (.pointer (some ⟨aP, aQ, none⟩)) rfl (zA1 U27 zAf aD aA aF) <| OV (IV aB) rfl (zAd U2 rfl rfl (zAv (hL.rdS 0 rfl h2) aF aH 0 _ rfl)) <| OV (IV aB) rfl (zAb) <| ONR <| OV (IV aB) rfl (zAe) <| OV (IV a1) rfl (zAo aC) <| OV (.bool (decide (aB ≤ a1))) rfl (zKe rfl rfl) <| OW.nil ?_
       refine zAn (t := decide (aB ≤ a1)) rfl hm (fun aN hm => ?_) (fun aN hm => ?_)
       · refine zAl <| OV (IV s_l1.1) rfl (zAo aG) <| OV (IV (w64 (s_l1.1 + 1))) rfl (zBe rfl rfl) <| OV (IV (w64 (s_l1.1 + 1))) rfl (zAb) <| OW.nil ?_
         exact ⟨w64 (s_l1.1 + 1), hm, ⟨aC, rfl, aD, aE, aA, hL⟩⟩
       refine zAt ?_
       exact ⟨s_l1.1, hm, ⟨aC, aG, aD, aE, aA, hL⟩⟩
     intro s_j2 bN bE hJ hm
     unfold zD6 at hm
     obtain ⟨aR, aS, aT, aU, aV, hL⟩ := hJ
     exact ⟨s_j2, hm, ⟨aR, aS, aT, aU, aV, hL⟩⟩
   intro s_j1 bO bF hJ hm
   unfold zFQ at hm
   obtain ⟨aW, aX, aY, aZ, bA, hL⟩ := hJ
   refine zAl <| OV (IV (w64 (s_l1.2 + 1))) rfl (zBe bA rfl) <| OV (IV (w64 (s_l1.2 + 1))) rfl (zAe) <| OW.nil ?_
   obtain rfl := oi hm
   exact ⟨_, rfl, ⟨aW, aX, aY, aZ, rfl, hL⟩⟩
 refine zA0 ?_
 refine zBk ?_
 obtain rfl := oi hm
 exact ⟨_, rfl, ⟨aC, aG, aD, aE, aA, hL⟩⟩

theorem zKz (w0 : World) (a0 : Int) (a1 : Int) (a2 : Table) {v3 : Value} {v5 : Value} {b1 : Nat} (h4 : rdL (· < w0.heap.size) w0 v3 a2.Points) (h6 : rdL (· < w0.heap.size) w0 v5 a2.Codes) (hb2 : bxA (· < w0.heap.size) w0 b1 26 #[(IV a2.Boats), v3, v5]) (a3 : Int) {b7 : Nat} (hb8 : bxA (· < w0.heap.size) w0 b7 2 #[(IV a3)]) {r : Int} (hm : zDi a0 a1 a2 a3 = some r) :
    Calls Tryz.prog 119 #[(IV a0), (IV a1), (PV b1 0), (PV b7 0)] w0 fun e w' => e = .returned (IV r) ∧ Fresh w0 w' [] := by
 unfold zDi at hm
 refine zAD (args := [(IV a0), (IV a1), (PV b1 0), (PV b7 0)]) Tryz.func119 rfl rfl rfl ?_
 have hL := zAJ w0
 refine CSR <| OV (IV 0) rfl (zAb) <| ONS ?_
 refine zBW zAQ ?_
 have hL := hL.call (zA8 _)
 refine DW.pre (fuel := 0) (fin := bma 18 262143) (C := fun w' => Mod zBO _ w') [0, 1, 2, 3, 4, 5, 6, 7, 8, 9, 10, 11, 12, 13, 14, 15, 16, 17] (Mod.refl _ _) (by kernel_rfl) (by kernel_rfl) ?_
 refine QV (PV b1 1) rfl rfl (fun w' hm' => zAc (fsz := 1) 0 1 1 U26 rfl zBq rfl rfl rfl) <| QV v3 rfl rfl (fun w' hm' => zAd U24 rfl rfl (((hL.call hm').bxS 0 rfl hb2).cell rfl)) <| QV (IV a1) rfl rfl (fun w' hm' => zAe) ?_
 obtain ⟨x9, aK, hm⟩ := zAs hm
 obtain ⟨aL, aM⟩ := zAZ aK
 obtain ⟨aY, aZ, bA, aI, aN, aO, aC⟩ := zCp h4 aL aM
 refine QV (.pointer (some ⟨aY, aZ, none⟩)) rfl rfl (fun w' hm' => zA1 U24 zAR rfl rfl aI) <| QV bA rfl rfl (fun w' hm' => zAd U27 rfl rfl ((hL.call hm').cellS 0 rfl aN aO)) <| QV (IV a3) rfl rfl (fun w' hm' => zAd U2 rfl rfl (((hL.call hm').bxS 0 rfl hb8).cell rfl)) ?_
 obtain ⟨aD, aP, hm⟩ := zAs hm
 obtain ⟨aQ, aE⟩ := zAZ aP
 obtain ⟨bB, bC, aA⟩ := zAC (hL.rdS 0 rfl aC) aQ aE
 refine QV (.pointer (some ⟨bB, bC, none⟩)) rfl rfl (fun w' hm' => zA1 U27 zAf rfl rfl aA) <| QV (IV aD) rfl rfl (fun w' hm' => zAd U2 rfl rfl (zAv ((hL.call hm').rdS 0 rfl aC) aA aE 0 _ rfl)) <| QV (PV b1 1) rfl rfl (fun w' hm' => zAc (fsz := 1) 0 1 1 U26 rfl zBq rfl rfl rfl) <| QV v3 rfl rfl (fun w' hm' => zAd U24 rfl rfl (((hL.call hm').bxS 0 rfl hb2).cell rfl)) <| QV (IV a0) rfl rfl (fun w' hm' => zAe) ?_
 obtain ⟨bJ, aR, hm⟩ := zAs hm
 obtain ⟨aS, aT⟩ := zAZ aR
 obtain ⟨bD, bE, bF, aJ, aU, aV, aF⟩ := zCp h4 aS aT
 refine QV (.pointer (some ⟨bD, bE, none⟩)) rfl rfl (fun w' hm' => zA1 U24 zAR rfl rfl aJ) <| QV bF rfl rfl (fun w' hm' => zAd U27 rfl rfl ((hL.call hm').cellS 0 rfl aU aV)) <| QV (IV a3) rfl rfl (fun w' hm' => zAd U2 rfl rfl (((hL.call hm').bxS 0 rfl hb8).cell rfl)) ?_
 obtain ⟨aG, aW, hm⟩ := zAs hm
 obtain ⟨aX, aH⟩ := zAZ aW
 obtain ⟨bG, bH, aB⟩ := zAC (hL.rdS 0 rfl aF) aX aH
 refine QV (.pointer (some ⟨bG, bH, none⟩)) rfl rfl (fun w' hm' => zA1 U27 zAf rfl rfl aB) <| QV (IV aG) rfl rfl (fun w' hm' => zAd U2 rfl rfl (zAv ((hL.call hm').rdS 0 rfl aF) aB aH 0 _ rfl)) <| QV (IV (w64 (aD - aG))) rfl rfl (fun w' hm' => zCn rfl rfl) <| QV (IV (w64 (aD - aG))) rfl rfl (fun w' hm' => zAb) ?_
 refine QW.nil ?_
 intro bI hmod
 have hL := hL.call hmod
 refine zBu (by kernel_rfl) ?_
 refine zAx ?_
 obtain rfl := oi hm
 exact RR1 rfl rfl ⟨rfl, hL.fresh 0 rfl [] (by decide) (by decide) rfl⟩

theorem zI5 (w0 : World) (a0 : Int) {r : Int} (hm : zGN a0 = some r) :
    Calls Tryz.prog 69 #[(IV a0)] w0 fun e w' => e = .returned (IV r) ∧ Fresh w0 w' [] := by
 unfold zGN at hm
 refine zAD (args := [(IV a0)]) Tryz.func69 rfl rfl rfl ?_
 have hL := zAJ w0
 refine CSR <| OV (IV 0) rfl (zAb) <| ONR <| OV (IV a0) rfl (zAe) <| OV (IV (min 1 a0)) rfl (zKP rfl rfl) <| OV (IV (max (-1) (min 1 a0))) rfl (zKQ rfl rfl) <| OV (IV (max (-1) (min 1 a0))) rfl (zAb) <| OW.nil <| zAx ?_
 obtain rfl := oi hm
 exact RR1 rfl rfl ⟨rfl, hL.fresh 0 rfl [] (by decide) (by decide) rfl⟩

theorem zJT (w0 : World) (a0 : Int) (a1 : Int) (a2 : Int → Int → Option Int) {fk3 : FuncId} {cp4 : List Value} {b1 : Nat} (hq5 : FnQ Tryz.prog fk3 cp4 (· < w0.heap.size) w0 (fun yw yvs yv => ∃ (y0 : Int) (y1 : Int) (yr : Int), yvs = [(IV y0), (IV y1)] ∧ a2 y0 y1 = some yr ∧ yv = (IV yr))) (hb2 : bxA (· < w0.heap.size) w0 b1 83 #[(.func (.func fk3) #[] cp4.toArray)]) {r : Int} (hm : zCY a0 a1 a2 = some r) :
    Calls Tryz.prog 95 #[(IV a0), (IV a1), (PV b1 0)] w0 fun e w' => e = .returned (IV r) ∧ Fresh w0 w' [] := by
 unfold zCY at hm
 refine zAD (args := [(IV a0), (IV a1), (PV b1 0)]) Tryz.func95 rfl rfl rfl ?_
 have hL := zAJ w0
 refine CSR <| OV (IV 0) rfl (zAb) <| ONR <| OV (.func (.func fk3) #[] cp4.toArray) rfl (zAd U83 rfl rfl ((hL.bxS 0 rfl hb2).cell rfl)) <| OV (IV a0) rfl (zAe) <| OV (IV a1) rfl (zAe) ?_
 obtain ⟨x6, hx7, hm⟩ := zAs hm
 refine zAa (OP.call rfl (zPB (vs := [(IV a0), (IV a1)]) (cap := cp4) hq5.1 rfl ⟨rfl, rfl, trivial⟩) (hq5.2 _ (hL.agS 0 rfl) [(IV a0), (IV a1)] _ ⟨a0, a1, x6, rfl, hx7, rfl⟩) ?_)
 rintro e8 wd9 ⟨rfl, aA⟩
 refine ⟨_, rfl, ?_⟩
 have hL := hL.pushAll aA
 simp only [lA, lB, lC, lD] at hL
 obtain ⟨aD, aB, hm⟩ := zAs hm
 refine zAa (OP.call rfl (zAq (vs := [(IV x6)]) zMb ⟨rfl, trivial⟩) (zI5 _ x6 aB) ?_)
 rintro aF aE ⟨rfl, aC⟩
 refine ⟨_, rfl, ?_⟩
 have hL := hL.pushAll aC
 simp only [lA, lB, lC, lD] at hL
 refine OV (IV aD) rfl (zAb) <| OW.nil <| zAx ?_
 obtain rfl := oi hm
 exact RR1 rfl rfl ⟨rfl, hL.fresh 0 rfl [] (by decide) (by decide) rfl⟩

theorem zES (w0 : World) {E4 : TypeId} {S2 : Nat → Prop} {v1 : Value} (a0 : List Int) (he3 : (Ent.own E4 S2 v1 a0).H w0) (a1 : Int) (a2 : Int) (a3 : Int → Int → Option Int) {fk5 : FuncId} {cp6 : List Value} (hq7 : FnQ Tryz.prog fk5 cp6 (fun k => k < w0.heap.size ∧ ¬ (Ent.own E4 S2 v1 a0).S k) w0 (fun yw yvs yv => ∃ (y0 : Int) (y1 : Int) (yr : Int), yvs = [(IV y0), (IV y1)] ∧ a3 y0 y1 = some yr ∧ yv = (IV yr))) {r : (Unit) × (List Int)} (hm : zBj a0 a1 a2 a3 = some r) :
    Calls Tryz.prog 125 #[v1, (IV a1), (IV a2), (.func (.func fk5) #[] cp6.toArray)] w0 fun e w' => ∃ (ioS : Nat → Prop), e = .returned (.tuple #[]) ∧ Mut w0 w' (Ent.own E4 S2 v1 a0).S [Ent.own E4 ioS v1 r.2] := by
 unfold zBj at hm
 refine zAD (args := [v1, (IV a1), (IV a2), (.func (.func fk5) #[] cp6.toArray)]) Tryz.func125 rfl rfl rfl ?_
 have hL := zDc he3
 refine CSR <| OV (IV a1) rfl (zAe) <| OV (IV (w64 (a1 + 1))) rfl (zBe rfl rfl) <| OV (IV (w64 (a1 + 1))) rfl (zAb) <| OW.nil ?_
 obtain ⟨eH, cK, hm⟩ := zAs hm
 refine zAU (fun (s_l1 : (List Int) × Int) F w => ∃ aG, F 0 = v1 ∧ F 1 = (IV a1) ∧ F 2 = (IV a2) ∧ F 3 = (.func (.func fk5) #[] cp6.toArray) ∧ F 8 = (IV s_l1.2) ∧ Hp w0 [Ent.own E4 aG v1 s_l1.1, zAS w0 (Ent.own E4 S2 v1 a0).S] w) (fun o => zBh o (fun x => some x) (fun s => zBX s) = some r) cK hm ⟨S2, rfl, rfl, rfl, rfl, rfl, hL⟩ ?_ ?_
 · intro s_l1 eI dU hJ hm
   have hm := zBD hm
   have hm : zBX s_l1 = some r := hm
   unfold zBX at hm
   obtain ⟨aG, eJ, eK, eL, eM, eN, hL⟩ := hJ
   obtain rfl := oi hm
   exact RR0 rfl  ⟨aG, rfl, hL.mutOut 1 rfl [0] (by decide) (by decide) rfl⟩
 intro s_l1 eO dV bN hJ hm dW
 unfold zA4 at hm
 obtain ⟨aG, bO, bP, bK, bQ, aW, hL⟩ := hJ
 refine zAF <| CSR <| OV (IV s_l1.2) rfl (zAo aW) <| OV (IV a2) rfl (zAo bK) <| OV (.bool (decide (s_l1.2 < a2))) rfl (zBE rfl rfl) <| OW.nil ?_
 refine zAn (t := decide (s_l1.2 < a2)) rfl hm (fun cM hm => ?_) (fun cM hm => ?_)
 · refine zAt <| zAF <| CW.block <| CSR <| OV (IV s_l1.2) rfl (zAo aW) <| OV (IV s_l1.2) rfl (zAb) <| OW.nil ?_
   obtain ⟨dX, bR, hm⟩ := zAs hm
   refine zAU (fun (s_l2 : (List Int) × Int) F w => ∃ aB, F 0 = v1 ∧ F 1 = (IV a1) ∧ F 2 = (IV a2) ∧ F 3 = (.func (.func fk5) #[] cp6.toArray) ∧ F 8 = (IV s_l1.2) ∧ F 9 = (IV s_l2.2) ∧ Hp w0 [Ent.own E4 aB v1 s_l2.1, zAS w0 (Ent.own E4 S2 v1 a0).S] w) (fun o => zBh o (fun x => some (.ret x)) (fun s => zBF s_l1 s) = some bN) bR hm ⟨aG, bO, bP, bK, bQ, aW, rfl, hL⟩ ?_ ?_
   · intro s_l2 dY dK hJ hm
     have hm := zBD hm
     have hm : zBF s_l1 s_l2 = some bN := hm
     unfold zBF at hm
     obtain ⟨aB, cN, cO, cP, cQ, cR, dZ, hL⟩ := hJ
     refine zAl <| OV (IV s_l1.2) rfl (zAo cR) <| OV (IV (w64 (s_l1.2 + 1))) rfl (zBe rfl rfl) <| OV (IV (w64 (s_l1.2 + 1))) rfl (zAb) <| OW.nil ?_
     obtain rfl := oi hm
     exact ⟨_, rfl, ⟨aB, cN, cO, cP, cQ, rfl, hL⟩⟩
   intro s_l2 eA dL cS hJ hm dM
   unfold zAV at hm
   obtain ⟨aB, aJ, aX, bL, aY, bM, aE, hL⟩ := hJ
   refine zAF ?_
   refine zAM (fun (s_j1 : Bool) F w => F 0 = v1 ∧ F 1 = (IV a1) ∧ F 2 = (IV a2) ∧ F 3 = (.func (.func fk5) #[] cp6.toArray) ∧ F 8 = (IV s_l1.2) ∧ F 9 = (IV s_l2.2) ∧ F 34 = (.bool s_j1) ∧ Hp w0 [Ent.own E4 aB v1 s_l2.1, zAS w0 (Ent.own E4 S2 v1 a0).S] w) (fun s_j1 => zBa s_l2 s_j1 = some cS) ?_ ?_
   · refine zBW zAQ ?_
     have hL := hL.call (zA8 _)
     refine DW.pre (fuel := 0) (fin := bma 17 131071) (C := fun w' => Mod zBO _ w') [0, 1, 2, 3, 4, 5, 6, 7, 8, 9, 10, 11, 12, 13, 14, 15, 16] (Mod.refl _ _) (by kernel_rfl) (by kernel_rfl) ?_
     refine QV (IV s_l2.2) rfl rfl (fun w' hm' => zAo aE) <| QV (IV a1) rfl rfl (fun w' hm' => zAo aX) <| QV (.bool (decide (a1 < s_l2.2))) rfl rfl (fun w' hm' => zIq rfl rfl) <| QV (.bool (decide (a1 < s_l2.2))) rfl rfl (fun w' hm' => zAe) ?_
     refine zAH hm (fun aA hm => ?_) (fun aA hm => ?_)
     · refine zAi rfl (zAB rfl rfl aA (zAN (v := (.func (.func fk5) #[] cp6.toArray)) rfl (fun w' hm' => zAo aY) ?_))
       refine zAi rfl (zAB rfl rfl aA (zAN (v := v1) rfl (fun w' hm' => zAo aJ) ?_))
       refine zAi rfl (zAB rfl rfl aA (zAN (v := (IV s_l2.2)) rfl (fun w' hm' => zAo aE) ?_))
       obtain ⟨aK, bS, hm⟩ := zAs hm
       obtain ⟨bT, bD⟩ := zAZ bS
       obtain ⟨cT, cU, aQ⟩ := zAC (hL.rdO 0 rfl) bT bD
       refine zAi rfl (zAB rfl rfl aA (zAN (v := (.pointer (some ⟨cT, cU, none⟩))) rfl (fun w' hm' => zA1 U27 zAf rfl rfl aQ) ?_))
       refine zAi rfl (zAB rfl rfl aA (zAN (v := (IV aK)) rfl (fun w' hm' => zAd U2 rfl rfl (zAv ((hL.call hm').rdO 0 rfl) aQ bD 0 _ rfl)) ?_))
       refine zAi rfl (zAB rfl rfl aA (zAN (v := v1) rfl (fun w' hm' => zAo aJ) ?_))
       refine zAi rfl (zAB rfl rfl aA (zAN (v := (IV s_l2.2)) rfl (fun w' hm' => zAo aE) ?_))
       refine zAi rfl (zAB rfl rfl aA (zAN (v := (IV (w64 (s_l2.2 - 1)))) rfl (fun w' hm' => zCn rfl rfl) ?_))
       obtain ⟨aL, bU, hm⟩ := zAs hm
       obtain ⟨bV, bE⟩ := zAZ bU
       obtain ⟨cV, cW, aR⟩ := zAC (hL.rdO 0 rfl) bV bE
       refine zAi rfl (zAB rfl rfl aA (zAN (v := (.pointer (some ⟨cV, cW, none⟩))) rfl (fun w' hm' => zA1 U27 zAf rfl rfl aR) ?_))
       refine zAi rfl (zAB rfl rfl aA (zAN (v := (IV aL)) rfl (fun w' hm' => zAd U2 rfl rfl (zAv ((hL.call hm').rdO 0 rfl) aR bE 0 _ rfl)) ?_))
       obtain ⟨aF, bW, hm⟩ := zAs hm
       refine zAi rfl (zAB rfl rfl aA (QP.call (v := (IV aF)) rfl (fun w' hm' => zPB (vs := [(IV aK), (IV aL)]) (cap := cp6) hq7.1 rfl ⟨rfl, rfl, trivial⟩) (fun w' hm' => (hq7.2 w' ((hL.call hm').agZ 1 rfl) [(IV aK), (IV aL)] _ ⟨aK, aL, aF, rfl, bW, rfl⟩).mono (fun e w'' h => ⟨h.1, hm'.trans h.2.mod⟩)) ?_))
       refine zAi rfl (zAB rfl rfl aA (zAN (v := (.bool (decide (aF < 0)))) rfl (fun w' hm' => zBE rfl rfl) ?_))
       refine QV (.bool (decide (aF < 0))) rfl rfl (fun w' hm' => zAz rfl aA rfl) ?_
       refine QW.nil ?_
       intro dN hmod
       have hL := hL.call hmod
       refine zBu (by kernel_rfl) ?_
       exact ⟨decide (aF < 0), hm, ⟨aJ, aX, bL, aY, bM, aE, rfl, hL⟩⟩
     refine zAi rfl (zAK rfl rfl aA rfl ?_)
     refine zAi rfl (zAK rfl rfl aA rfl ?_)
     refine zAi rfl (zAK rfl rfl aA rfl ?_)
     refine zAi rfl (zAK rfl rfl aA rfl ?_)
     refine zAi rfl (zAK rfl rfl aA rfl ?_)
     refine zAi rfl (zAK rfl rfl aA rfl ?_)
     refine zAi rfl (zAK rfl rfl aA rfl ?_)
     refine zAi rfl (zAK rfl rfl aA rfl ?_)
     refine zAi rfl (zAK rfl rfl aA rfl ?_)
     refine zAi rfl (zAK rfl rfl aA rfl ?_)
     refine zAi rfl (zAK rfl rfl aA rfl ?_)
     refine zAi rfl (zAK rfl rfl aA rfl ?_)
     refine QV (.bool false) rfl rfl (fun w' hm' => zAA rfl aA rfl) ?_
     refine QW.nil ?_
     intro dO hmod
     have hL := hL.call hmod
     refine zBu (by kernel_rfl) ?_
     exact ⟨false, hm, ⟨aJ, aX, bL, aY, bM, aE, rfl, hL⟩⟩
   intro s_j1 eB dP hJ hm
   unfold zBa at hm
   obtain ⟨aC, aZ, bA, bB, bC, aD, cX, hL⟩ := hJ
   refine zAn (t := s_j1) cX hm (fun bX hm => ?_) (fun bX hm => ?_)
   · refine zAt <| zAF <| CW.block ?_
     refine zDG (fun w' => Hp w0 [zAS w0 (Ent.own E4 S2 v1 a0).S] w') zAQ ?_
     have hL := hL.call (zA8 _)
     have hS := (hL.sl [1] rfl)
     refine zAw 0 rfl (by kernel_rfl) rfl rfl hS (zAp (v := v1) (fun w' hS' => zAo aC)) ?_
     have hS := (hL.sl [1] rfl)
     refine zAw 1 rfl (by kernel_rfl) rfl rfl hS (zAp (v := (IV s_l2.2)) (fun w' hS' => zAo aD)) ?_
     have hS := (hL.sl [1] rfl)
     refine zAw 2 rfl (by kernel_rfl) rfl rfl hS (zAp (v := v1) (fun w' hS' => zAo aC)) ?_
     have hS := (hL.sl [1] rfl)
     refine zAw 3 rfl (by kernel_rfl) rfl rfl hS (zAp (v := (IV s_l2.2)) (fun w' hS' => zAo aD)) ?_
     have hS := (hL.sl [1] rfl)
     refine zAw 4 rfl (by kernel_rfl) rfl rfl hS (zAp (v := (IV (w64 (s_l2.2 - 1)))) (fun w' hS' => zCn rfl rfl)) ?_
     have hS := (hL.sl [1] rfl)
     refine zAw 5 rfl (by kernel_rfl) rfl rfl hS (zAp (v := v1) (fun w' hS' => zAo aC)) ?_
     have hS := (hL.sl [1] rfl)
     refine zAw 6 rfl (by kernel_rfl) rfl rfl hS (zAp (v := (IV s_l2.2)) (fun w' hS' => zAo aD)) ?_
     have hS := (hL.sl [1] rfl)
     refine zAw 7 rfl (by kernel_rfl) rfl rfl hS (zAp (v := (IV (w64 (s_l2.2 - 1)))) (fun w' hS' => zCn rfl rfl)) ?_
     have hS := (hL.sl [1] rfl)
     obtain ⟨aM, bY, hm⟩ := zAs hm
     obtain ⟨bZ, aO⟩ := zAZ bY
     obtain ⟨cY, cZ, aH⟩ := zAC (hL.rdO 0 rfl) bZ aO
     refine zAw 8 rfl (by kernel_rfl) rfl rfl hS (zAp (v := (.pointer (some ⟨cY, cZ, none⟩))) (fun w' hS' => zA1 U27 zAf rfl rfl aH)) ?_
     have hS := (hL.sl [1] rfl)
     refine zAw 10 rfl (by kernel_rfl) rfl rfl hS (zAp (v := v1) (fun w' hS' => zAo aC)) ?_
     have hS := (hL.sl [1] rfl)
     refine zAw 11 rfl (by kernel_rfl) rfl rfl hS (zAp (v := (IV s_l2.2)) (fun w' hS' => zAo aD)) ?_
     have hS := (hL.sl [1] rfl)
     obtain ⟨aN, cA, hm⟩ := zAs hm
     obtain ⟨cB, aP⟩ := zAZ cA
     obtain ⟨dA, dB, aI⟩ := zAC (hL.rdO 0 rfl) cB aP
     refine zAw 12 rfl (by kernel_rfl) rfl rfl hS (zAp (v := (.pointer (some ⟨dA, dB, none⟩))) (fun w' hS' => zA1 U27 zAf rfl rfl aI)) ?_
     refine DH.all (rs := [9, 13]) (by kernel_rfl) (by simp) ?_
     intro eC bF
     simp only [List.mem_cons, List.not_mem_nil, or_false] at bF
     rcases bF with rfl | rfl
     · refine ⟨_, rfl, ?_⟩
       refine zAk (v := (IV aM)) rfl (zAd U2 rfl rfl (zAv (hL.rdO 0 rfl) aH aO 0 _ rfl)) ?_
       refine ⟨(hL.sl [1] rfl), ?_⟩
       refine zAT 13 rfl (by kernel_rfl) (zAk (v := (IV aN)) rfl (zAd U2 rfl rfl (zAv (hL.rdO 0 rfl) aI aP 0 _ rfl)) ?_)
       refine ⟨(hL.sl [1] rfl), ?_⟩
       have hS := (hL.sl [1] rfl)
       obtain ⟨eD, cC, hm⟩ := zAs hm
       obtain ⟨cD, bG⟩ := zAZ cC
       obtain ⟨dC, dD, aS⟩ := zAC (hL.rdO 0 rfl) cD bG
       refine zAw 14 rfl (by kernel_rfl) rfl rfl hS (zAp (v := (.pointer (some ⟨dC, dD, none⟩))) (fun w' hS' => zA1 U27 zAf rfl rfl aS)) ?_
       refine zAT 15 rfl (by kernel_rfl) (zBV (j := 0) aM hL 0 rfl zAf aS bG rfl rfl rfl rfl rfl rfl ?_)
       intro dQ hL
       refine ⟨(hL.sl [1] rfl), ?_⟩
       have hS := (hL.sl [1] rfl)
       obtain ⟨eE, cE, hm⟩ := zAs hm
       obtain ⟨cF, bH⟩ := zAZ cE
       obtain ⟨dE, dF, aT⟩ := zAC (hL.rdO 0 rfl) cF bH
       refine zAw 16 rfl (by kernel_rfl) rfl rfl hS (zAp (v := (.pointer (some ⟨dE, dF, none⟩))) (fun w' hS' => zA1 U27 zAf rfl rfl aT)) ?_
       refine zAT 17 rfl (by kernel_rfl) (zBV (j := 0) aN hL 0 rfl zAf aT bH rfl rfl rfl rfl rfl rfl ?_)
       intro dR hL
       refine ⟨(hL.sl [1] rfl), ?_⟩
       refine zDB (by kernel_rfl) ?_
       refine zAl <| OV (IV s_l2.2) rfl (zAo aD) <| OV (IV (w64 (s_l2.2 - 1))) rfl (zCn rfl rfl) <| OV (IV (w64 (s_l2.2 - 1))) rfl (zAb) <| OW.nil ?_
       obtain rfl := oi hm
       exact ⟨_, rfl, ⟨aB, aC, aZ, bA, bB, bC, rfl, hL⟩⟩
     refine ⟨_, rfl, ?_⟩
     refine zAk (v := (IV aN)) rfl (zAd U2 rfl rfl (zAv (hL.rdO 0 rfl) aI aP 0 _ rfl)) ?_
     refine ⟨(hL.sl [1] rfl), ?_⟩
     refine zAT 9 rfl (by kernel_rfl) (zAk (v := (IV aM)) rfl (zAd U2 rfl rfl (zAv (hL.rdO 0 rfl) aH aO 0 _ rfl)) ?_)
     refine ⟨(hL.sl [1] rfl), ?_⟩
     have hS := (hL.sl [1] rfl)
     obtain ⟨eF, cG, hm⟩ := zAs hm
     obtain ⟨cH, bI⟩ := zAZ cG
     obtain ⟨dG, dH, aU⟩ := zAC (hL.rdO 0 rfl) cH bI
     refine zAw 14 rfl (by kernel_rfl) rfl rfl hS (zAp (v := (.pointer (some ⟨dG, dH, none⟩))) (fun w' hS' => zA1 U27 zAf rfl rfl aU)) ?_
     refine zAT 15 rfl (by kernel_rfl) (zBV (j := 0) aM hL 0 rfl zAf aU bI rfl rfl rfl rfl rfl rfl ?_)
     intro dS hL
     refine ⟨(hL.sl [1] rfl), ?_⟩
     have hS := (hL.sl [1] rfl)
     obtain ⟨eG, cI, hm⟩ := zAs hm
     obtain ⟨cJ, bJ⟩ := zAZ cI
     obtain ⟨dI, dJ, aV⟩ := zAC (hL.rdO 0 rfl) cJ bJ
     refine zAw 16 rfl (by kernel_rfl) rfl rfl hS (zAp (v := (.pointer (some ⟨dI, dJ, none⟩))) (fun w' hS' => zA1 U27 zAf rfl rfl aV)) ?_
     refine zAT 17 rfl (by kernel_rfl) (zBV (j := 0) aN hL 0 rfl zAf aV bJ rfl rfl rfl rfl rfl rfl ?_)
     intro dT hL
     refine ⟨(hL.sl [1] rfl), ?_⟩
     refine zDB (by kernel_rfl) ?_
     refine zAl <| OV (IV s_l2.2) rfl (zAo aD) <| OV (IV (w64 (s_l2.2 - 1))) rfl (zCn rfl rfl) <| OV (IV (w64 (s_l2.2 - 1))) rfl (zAb) <| OW.nil ?_
     obtain rfl := oi hm
     exact ⟨_, rfl, ⟨aB, aC, aZ, bA, bB, bC, rfl, hL⟩⟩
   refine zA0 ?_
   refine zBk ?_
   obtain rfl := oi hm
   exact ⟨_, rfl, ⟨aB, aC, aZ, bA, bB, bC, aD, hL⟩⟩
 refine zA0 ?_
 refine zBk ?_
 obtain rfl := oi hm
 exact ⟨_, rfl, ⟨aG, bO, bP, bK, bQ, aW, hL⟩⟩

end Go.Proofs.YtmmkkcmliofknaaGreatDoor
