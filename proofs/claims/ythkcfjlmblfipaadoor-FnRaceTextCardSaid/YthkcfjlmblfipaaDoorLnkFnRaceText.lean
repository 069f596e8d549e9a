/- Links: each Go function returns what its model computes and leaves what was there. Printed by my generator. -/
import Derived.Test.YthkcfjlmblfipaaDoorMod4
import Derived.Test.YthkcfjlmblfipaaDoorBase12
import Derived.Test.YthkcfjlmblfipaaDoorProg
import Derived.KernelRfl
import Derived.Test.YthkcfjlmblfipaaDoorLayFtz
namespace Go.Proofs.YthkcfjlmblfipaaDoor
set_option maxRecDepth 10000
open Go Go.RowKit Go.ChangeShapes Go.WideShapes
set_option linter.unusedVariables false
set_option linter.unusedSimpArgs false

theorem Tryd_mixed : Tryd.prog.follows .mixedOrders = true := by kernel_rfl
theorem Tryd_T2 : TyI Tryd.prog 2 1 8 (.int .i64 0) := by unfold TyI; kernel_rfl
theorem Tryd_T3 : TyI Tryd.prog 3 1 8 (.int .i64 0) := by unfold TyI; kernel_rfl
theorem Tryd_T5 : TyI Tryd.prog 5 1 1 (.int .u8 0) := by unfold TyI; kernel_rfl
theorem Tryd_T9 : TyI Tryd.prog 9 1 16 (.string ByteArray.empty) := by unfold TyI; kernel_rfl
theorem Tryd_T22 : TyI Tryd.prog 22 1 24 (.slice none 0 0) := by unfold TyI; kernel_rfl
theorem Tryd_T24 : TyI Tryd.prog 24 1 24 (.agg #[.slice none 0 0]) := by unfold TyI; kernel_rfl
theorem Tryd_T36 : TyI Tryd.prog 36 1 24 (.slice none 0 0) := by unfold TyI; kernel_rfl
theorem Tryd_T46 : TyI Tryd.prog 46 3 24 (.agg #[.int .i64 0, .int .i64 0, .int .i64 0]) := by unfold TyI; kernel_rfl
theorem Tryd_T58 : TyI Tryd.prog 58 2 16 (.agg #[.int .i64 0, .int .i64 0]) := by unfold TyI; kernel_rfl
theorem Tryd_T78 : TyI Tryd.prog 78 10 160 (.agg #[.string ByteArray.empty, .string ByteArray.empty, .string ByteArray.empty, .string ByteArray.empty, .string ByteArray.empty, .string ByteArray.empty, .string ByteArray.empty, .string ByteArray.empty, .string ByteArray.empty, .string ByteArray.empty]) := by unfold TyI; kernel_rfl
theorem Tryd_B24 : BuildI Tryd.prog 24 [(0, 1)] #[.slice none 0 0] := by unfold BuildI; kernel_rfl
theorem Tryd_B46 : BuildI Tryd.prog 46 [(0, 1), (1, 1), (2, 1)] #[.int .i64 0, .int .i64 0, .int .i64 0] := by unfold BuildI; kernel_rfl
theorem Tryd_B58 : BuildI Tryd.prog 58 [(0, 1), (1, 1)] #[.int .i64 0, .int .i64 0] := by unfold BuildI; kernel_rfl
theorem Tryd_B88 : BuildI Tryd.prog 88 [(0, 1), (1, 1), (2, 1)] #[.slice none 0 0, .int .i64 0, .int .i64 0] := by unfold BuildI; kernel_rfl
theorem Tryd_C6 : CallOK Tryd.prog 6 := ⟨_, _, Tryd.func6, rfl, by kernel_rfl⟩
theorem Tryd_C7 : CallOK Tryd.prog 7 := ⟨_, _, Tryd.func7, rfl, by kernel_rfl⟩
theorem Tryd_C8 : CallOK Tryd.prog 8 := ⟨_, _, Tryd.func8, rfl, by kernel_rfl⟩
theorem Tryd_C9 : CallOK Tryd.prog 9 := ⟨_, _, Tryd.func9, rfl, by kernel_rfl⟩
theorem Tryd_C10 : CallOK Tryd.prog 10 := ⟨_, _, Tryd.func10, rfl, by kernel_rfl⟩
theorem Tryd_C11 : CallOK Tryd.prog 11 := ⟨_, _, Tryd.func11, rfl, by kernel_rfl⟩
theorem Tryd_C12 : CallOK Tryd.prog 12 := ⟨_, _, Tryd.func12, rfl, by kernel_rfl⟩
theorem Tryd_C13 : CallOK Tryd.prog 13 := ⟨_, _, Tryd.func13, rfl, by kernel_rfl⟩
theorem Tryd_C14 : CallOK Tryd.prog 14 := ⟨_, _, Tryd.func14, rfl, by kernel_rfl⟩
theorem Tryd_C15 : CallOK Tryd.prog 15 := ⟨_, _, Tryd.func15, rfl, by kernel_rfl⟩
theorem Tryd_C16 : CallOK Tryd.prog 16 := ⟨_, _, Tryd.func16, rfl, by kernel_rfl⟩
theorem Tryd_C17 : CallOK Tryd.prog 17 := ⟨_, _, Tryd.func17, rfl, by kernel_rfl⟩
theorem Tryd_C18 : CallOK Tryd.prog 18 := ⟨_, _, Tryd.func18, rfl, by kernel_rfl⟩
theorem Tryd_C19 : CallOK Tryd.prog 19 := ⟨_, _, Tryd.func19, rfl, by kernel_rfl⟩
theorem Tryd_C20 : CallOK Tryd.prog 20 := ⟨_, _, Tryd.func20, rfl, by kernel_rfl⟩
theorem Tryd_C21 : CallOK Tryd.prog 21 := ⟨_, _, Tryd.func21, rfl, by kernel_rfl⟩
theorem Tryd_C22 : CallOK Tryd.prog 22 := ⟨_, _, Tryd.func22, rfl, by kernel_rfl⟩
theorem Tryd_C23 : CallOK Tryd.prog 23 := ⟨_, _, Tryd.func23, rfl, by kernel_rfl⟩
theorem Tryd_C24 : CallOK Tryd.prog 24 := ⟨_, _, Tryd.func24, rfl, by kernel_rfl⟩
theorem Tryd_C25 : CallOK Tryd.prog 25 := ⟨_, _, Tryd.func25, rfl, by kernel_rfl⟩
theorem Tryd_C26 : CallOK Tryd.prog 26 := ⟨_, _, Tryd.func26, rfl, by kernel_rfl⟩
theorem Tryd_C27 : CallOK Tryd.prog 27 := ⟨_, _, Tryd.func27, rfl, by kernel_rfl⟩
theorem Tryd_C28 : CallOK Tryd.prog 28 := ⟨_, _, Tryd.func28, rfl, by kernel_rfl⟩
theorem Tryd_C29 : CallOK Tryd.prog 29 := ⟨_, _, Tryd.func29, rfl, by kernel_rfl⟩
theorem Tryd_C30 : CallOK Tryd.prog 30 := ⟨_, _, Tryd.func30, rfl, by kernel_rfl⟩
theorem Tryd_C31 : CallOK Tryd.prog 31 := ⟨_, _, Tryd.func31, rfl, by kernel_rfl⟩
theorem Tryd_C32 : CallOK Tryd.prog 32 := ⟨_, _, Tryd.func32, rfl, by kernel_rfl⟩
theorem Tryd_C33 : CallOK Tryd.prog 33 := ⟨_, _, Tryd.func33, rfl, by kernel_rfl⟩
theorem Tryd_C34 : CallOK Tryd.prog 34 := ⟨_, _, Tryd.func34, rfl, by kernel_rfl⟩
theorem Tryd_C35 : CallOK Tryd.prog 35 := ⟨_, _, Tryd.func35, rfl, by kernel_rfl⟩
theorem Tryd_C36 : CallOK Tryd.prog 36 := ⟨_, _, Tryd.func36, rfl, by kernel_rfl⟩
theorem Tryd_C37 : CallOK Tryd.prog 37 := ⟨_, _, Tryd.func37, rfl, by kernel_rfl⟩
theorem Tryd_C38 : CallOK Tryd.prog 38 := ⟨_, _, Tryd.func38, rfl, by kernel_rfl⟩
theorem Tryd_C39 : CallOK Tryd.prog 39 := ⟨_, _, Tryd.func39, rfl, by kernel_rfl⟩
theorem Tryd_C40 : CallOK Tryd.prog 40 := ⟨_, _, Tryd.func40, rfl, by kernel_rfl⟩
theorem Tryd_C41 : CallOK Tryd.prog 41 := ⟨_, _, Tryd.func41, rfl, by kernel_rfl⟩
theorem Tryd_C42 : CallOK Tryd.prog 42 := ⟨_, _, Tryd.func42, rfl, by kernel_rfl⟩
theorem Tryd_C43 : CallOK Tryd.prog 43 := ⟨_, _, Tryd.func43, rfl, by kernel_rfl⟩
theorem Tryd_C44 : CallOK Tryd.prog 44 := ⟨_, _, Tryd.func44, rfl, by kernel_rfl⟩
theorem Tryd_C45 : CallOK Tryd.prog 45 := ⟨_, _, Tryd.func45, rfl, by kernel_rfl⟩
theorem Tryd_C46 : CallOK Tryd.prog 46 := ⟨_, _, Tryd.func46, rfl, by kernel_rfl⟩
theorem Tryd_C47 : CallOK Tryd.prog 47 := ⟨_, _, Tryd.func47, rfl, by kernel_rfl⟩
theorem Tryd_C48 : CallOK Tryd.prog 48 := ⟨_, _, Tryd.func48, rfl, by kernel_rfl⟩
theorem Tryd_C50 : CallOK Tryd.prog 50 := ⟨_, _, Tryd.func50, rfl, by kernel_rfl⟩
theorem Tryd_C51 : CallOK Tryd.prog 51 := ⟨_, _, Tryd.func51, rfl, by kernel_rfl⟩
theorem Tryd_C52 : CallOK Tryd.prog 52 := ⟨_, _, Tryd.func52, rfl, by kernel_rfl⟩
theorem Tryd_C53 : CallOK Tryd.prog 53 := ⟨_, _, Tryd.func53, rfl, by kernel_rfl⟩
theorem Tryd_C54 : CallOK Tryd.prog 54 := ⟨_, _, Tryd.func54, rfl, by kernel_rfl⟩
theorem Tryd_C55 : CallOK Tryd.prog 55 := ⟨_, _, Tryd.func55, rfl, by kernel_rfl⟩
theorem Tryd_C56 : CallOK Tryd.prog 56 := ⟨_, _, Tryd.func56, rfl, by kernel_rfl⟩
theorem Tryd_C57 : CallOK Tryd.prog 57 := ⟨_, _, Tryd.func57, rfl, by kernel_rfl⟩
theorem Tryd_C58 : CallOK Tryd.prog 58 := ⟨_, _, Tryd.func58, rfl, by kernel_rfl⟩
theorem Tryd_C59 : CallOK Tryd.prog 59 := ⟨_, _, Tryd.func59, rfl, by kernel_rfl⟩
theorem Tryd_C63 : CallOK Tryd.prog 63 := ⟨_, _, Tryd.func63, rfl, by kernel_rfl⟩
theorem Tryd_C68 : CallOK Tryd.prog 68 := ⟨_, _, Tryd.func68, rfl, by kernel_rfl⟩
theorem Tryd_C69 : CallOK Tryd.prog 69 := ⟨_, _, Tryd.func69, rfl, by kernel_rfl⟩
theorem Tryd_C73 : CallOK Tryd.prog 73 := ⟨_, _, Tryd.func73, rfl, by kernel_rfl⟩
theorem Tryd_C86 : CallOK Tryd.prog 86 := ⟨_, _, Tryd.func86, rfl, by kernel_rfl⟩
abbrev U2 := @Tryd.underlying2
abbrev U3 := @Tryd.underlying3
abbrev U4 := @Tryd.underlying4
abbrev U5 := @Tryd.underlying5
abbrev U9 := @Tryd.underlying9
abbrev U22 := @Tryd.underlying22
abbrev U24 := @Tryd.underlying24
abbrev U36 := @Tryd.underlying36
abbrev U43 := @Tryd.underlying43
abbrev U46 := @Tryd.underlying46
abbrev U78 := @Tryd.underlying78
abbrev U88 := @Tryd.underlying88

theorem M.spec_l26Split_ok (w0 : World) (a0 : ByteArray) (a1 : UInt8) {r : (List ByteArray)} (hm : M.spec_l26Split a0 a1 = some r) :
    Calls Tryd.prog 22 #[(.string a0), (.int .u8 (a1.toNat : Int))] w0 fun e w' => ∃ (rv0 : Value) (rS0 : Nat → Prop), e = .returned rv0 ∧ Fresh w0 w' [Ent.own 9 rS0 rv0 r] := by
 unfold M.spec_l26Split at hm
 refine calls_CW (args := [(.string a0), (.int .u8 (a1.toNat : Int))]) Tryd.func22 rfl rfl rfl ?_
 have hL := Hp.start w0
 refine CSR ?_
 refine OV (.slice none 0 0) rfl (x_assign) ?_
 refine ONR ?_
 refine OW.cons (S_lit ([] : List ByteArray) hL U43 Tryd_T9 rfl (by decide) (by first | (simp [Instr.fill, madeCells, Value.cells, ev, upd, Flat.enc, Flat.sz]; done) | rfl | kernel_rfl) rfl rfl ?_)
 intro wd1 v2 S3 hL
 refine OV v2 rfl (x_assign) ?_
 refine ONR ?_
 refine OV (.int .i64 0) rfl (x_assign) ?_
 refine ONS ?_
 refine CSR ?_
 refine OV (.int .i64 0) rfl (x_assign) ?_
 refine OW.nil ?_
 obtain ⟨o250, ho251, hm⟩ := bndE hm
 refine CW.loopB (fun (s_l1 : (List ByteArray) × Int × Int) (F : Fr) (w : World) => ∃ (v246 : Value) (S247 : Nat → Prop), F 0 = (.string a0) ∧ F 1 = (.int .u8 (a1.toNat : Int)) ∧ F 5 = v246 ∧ F 6 = (.int .i64 s_l1.2.1) ∧ F 7 = (.int .i64 s_l1.2.2) ∧ Hp w0 [Ent.own 9 S247 v246 s_l1.1, Ent.snap w0 w0.heap.size] w) (fun o => outc o (fun x => some x) (fun s => M.spec_l26Split_a1 s) = some r) ho251 hm ⟨v2, S3, rfl, rfl, rfl, rfl, rfl, hL⟩ ?_ ?_
 · intro s_l1 F252 wd253 hJ hm
   have hm := outcE hm
   have hm : M.spec_l26Split_a1 s_l1 = some r := hm
   unfold M.spec_l26Split_a1 at hm
   obtain ⟨v246, S247, f254, f255, f256, f257, f258, hL⟩ := hJ
   refine CSR ?_
   refine OV v246 rfl (x_mv f256) ?_
   refine OV v246 rfl (x_assign) ?_
   refine OW.nil ?_
   refine CW.ret ?_
   obtain rfl := Option.some.inj hm
   exact RR1 rfl rfl ⟨v246, S247, rfl, hL.fresh 1 rfl [0] (by decide) (by decide) rfl⟩
 intro s_l1 F259 wd260 t248 hJ hm hr249
 unfold M.spec_l26Split_l1 at hm
 obtain ⟨v246, S247, f261, f262, f263, f264, f265, hL⟩ := hJ
 refine CW.seq ?_
 refine CSR ?_
 refine OV (.int .i64 s_l1.2.2) rfl (x_mv f265) ?_
 refine OV (.string a0) rfl (x_mv f261) ?_
 refine OV (.int .i64 (a0.size : Int)) rfl (x_lens U9 rfl) ?_
 refine OV (.bool (decide (s_l1.2.2 ≤ (a0.size : Int)))) rfl (x_leq rfl rfl) ?_
 refine OW.nil ?_
 refine CW.condM (t := decide (s_l1.2.2 ≤ (a0.size : Int))) rfl hm (fun hb266 hm => ?_) (fun hb266 hm => ?_)
 · refine CW.skip ?_
   refine CW.seqJ (fun (s_j1 : (List ByteArray) × Int) (F : Fr) (w : World) => ∃ (v322 : Value) (S323 : Nat → Prop), F 0 = (.string a0) ∧ F 1 = (.int .u8 (a1.toNat : Int)) ∧ F 5 = v322 ∧ F 6 = (.int .i64 s_j1.2) ∧ F 7 = (.int .i64 s_l1.2.2) ∧ Hp w0 [Ent.own 9 S323 v322 s_j1.1, Ent.snap w0 w0.heap.size] w) (fun s_j1 => M.spec_l26Split_j1 s_l1 s_j1 = some t248) ?_ ?_
   · refine CW.blockJ (fun (s_j2 : (List ByteArray) × Int) (F : Fr) (w : World) => ∃ (v354 : Value) (S355 : Nat → Prop), F 0 = (.string a0) ∧ F 1 = (.int .u8 (a1.toNat : Int)) ∧ F 5 = v354 ∧ F 6 = (.int .i64 s_j2.2) ∧ F 7 = (.int .i64 s_l1.2.2) ∧ Hp w0 [Ent.own 9 S355 v354 s_j2.1, Ent.snap w0 w0.heap.size] w) (fun s_j2 => M.spec_l26Split_j2 s_l1 s_j2 = some t248) ?_ ?_
     · refine CW.seqJ (fun (s_j3 : Bool) (F : Fr) (w : World) => F 0 = (.string a0) ∧ F 1 = (.int .u8 (a1.toNat : Int)) ∧ F 5 = v246 ∧ F 6 = (.int .i64 s_l1.2.1) ∧ F 7 = (.int .i64 s_l1.2.2) ∧ F 25 = (.bool s_j3) ∧ Hp w0 [Ent.own 9 S247 v246 s_l1.1, Ent.snap w0 w0.heap.size] w) (fun s_j3 => M.spec_l26Split_j3 a0 s_l1 s_j3 = some t248) ?_ ?_
       · refine CW.regionL ?_
         refine OV (.int .i64 s_l1.2.2) rfl (x_mv f265) ?_
         refine OV (.string a0) rfl (x_mv f261) ?_
         refine OV (.int .i64 (a0.size : Int)) rfl (x_lens U9 rfl) ?_
         refine OV (.bool (s_l1.2.2 == (a0.size : Int))) rfl (x_eql rfl rfl) ?_
         refine OV (.bool (s_l1.2.2 == (a0.size : Int))) rfl (x_move) ?_
         refine ifB_elim hm (fun hb383 hm => ?_) (fun hb383 hm => ?_)
         · refine OW.cons (OP.no' rfl rfl hb383 rfl ?_)
           refine OW.cons (OP.no' rfl rfl hb383 rfl ?_)
           refine OW.cons (OP.no' rfl rfl hb383 rfl ?_)
           refine OW.cons (OP.no' rfl rfl hb383 rfl ?_)
           refine OW.cons (OP.no' rfl rfl hb383 rfl ?_)
           refine OV (.bool true) rfl (x_pickT' rfl hb383 rfl) ?_
           refine OW.nil ?_
           exact ⟨true, hm, ⟨f261, f262, f263, f264, f265, rfl, hL⟩⟩
         refine OW.cons (OP.yes' rfl rfl hb383 (OP.val (v := (.string a0)) rfl (x_mv f261) ?_))
         refine OW.cons (OP.yes' rfl rfl hb383 (OP.val (v := (.int .i64 s_l1.2.2)) rfl (x_mv f265) ?_))
         obtain ⟨x384, hx385, hm⟩ := bndE hm
         refine OW.cons (OP.yes' rfl rfl hb383 (OP.val (v := (.int .u8 x384)) rfl (x_strAt U9 rfl rfl hx385) ?_))
         refine OW.cons (OP.yes' rfl rfl hb383 (OP.val (v := (.int .u8 (a1.toNat : Int))) rfl (x_mv f262) ?_))
         refine OW.cons (OP.yes' rfl rfl hb383 (OP.val (v := (.bool (x384 == (a1.toNat : Int)))) rfl (x_eql rfl rfl) ?_))
         refine OV (.bool (x384 == (a1.toNat : Int))) rfl (x_pickF' rfl hb383 rfl) ?_
         refine OW.nil ?_
         exact ⟨x384 == (a1.toNat : Int), hm, ⟨f261, f262, f263, f264, f265, rfl, hL⟩⟩
       intro s_j3 F366 wd367 hJ hm
       unfold M.spec_l26Split_j3 at hm
       obtain ⟨f368, f369, f370, f371, f372, f373, hL⟩ := hJ
       refine CW.condM (t := s_j3) f373 hm (fun hb374 hm => ?_) (fun hb374 hm => ?_)
       · refine CSR ?_
         refine OV v246 rfl (x_mv f370) ?_
         refine OV (.string a0) rfl (x_mv f368) ?_
         refine OV (.int .i64 s_l1.2.1) rfl (x_mv f371) ?_
         refine OV (.int .i64 s_l1.2.2) rfl (x_mv f372) ?_
         obtain ⟨hc375, hm⟩ := chkE hm
         refine OV (.string (subB a0 s_l1.2.1 s_l1.2.2)) rfl (x_sliceT2 U9 rfl rfl rfl hc375) ?_
         refine OW.cons (S_lit ([subB a0 s_l1.2.1 s_l1.2.2] : List ByteArray) hL U43 Tryd_T9 rfl (by decide) (by first | (simp [Instr.fill, madeCells, Value.cells, ev, upd, Flat.enc, Flat.sz]; done) | rfl | kernel_rfl) rfl rfl ?_)
         intro wd376 v377 S378 hL
         obtain ⟨hc382, hm⟩ := chkE hm
         refine OW.cons (S_append (ys := ([subB a0 s_l1.2.1 s_l1.2.2] : List ByteArray)) hL 1 rfl U43 Tryd_T9 rfl rfl rfl (hL.rdO 0 rfl) hc382 (by decide) rfl ?_)
         intro wd379 v380 S381 hL
         refine OV v380 rfl (x_assign) ?_
         refine OW.nil ?_
         refine CW.regionL ?_
         refine OV (.int .i64 s_l1.2.2) rfl (x_mv f372) ?_
         refine OV (.int .i64 (w64 (s_l1.2.2 + 1))) rfl (x_add rfl rfl) ?_
         refine OV (.int .i64 (w64 (s_l1.2.2 + 1))) rfl (x_assign) ?_
         refine OW.nil ?_
         have hL := hL.sel [1, 2] (by decide) rfl
         exact ⟨(s_l1.1 ++ ([subB a0 s_l1.2.1 s_l1.2.2] : List ByteArray), w64 (s_l1.2.2 + 1)), hm, ⟨v380, S381, f368, f369, rfl, rfl, f372, hL⟩⟩
       refine CW.skip ?_
       exact ⟨(s_l1.1, s_l1.2.1), hm, ⟨v246, S247, f368, f369, f370, f371, f372, hL⟩⟩
     intro s_j2 F356 wd357 hJ hm
     unfold M.spec_l26Split_j2 at hm
     obtain ⟨v354, S355, f358, f359, f360, f361, f362, hL⟩ := hJ
     exact ⟨(s_j2.1, s_j2.2), hm, ⟨v354, S355, f358, f359, f360, f361, f362, hL⟩⟩
   intro s_j1 F324 wd325 hJ hm
   unfold M.spec_l26Split_j1 at hm
   obtain ⟨v322, S323, f326, f327, f328, f329, f330, hL⟩ := hJ
   refine CW.regionL ?_
   refine OV (.int .i64 s_l1.2.2) rfl (x_mv f330) ?_
   refine OV (.int .i64 (w64 (s_l1.2.2 + 1))) rfl (x_add rfl rfl) ?_
   refine OV (.int .i64 (w64 (s_l1.2.2 + 1))) rfl (x_assign) ?_
   refine OW.nil ?_
   obtain rfl := Option.some.inj hm
   exact ⟨_, rfl, ⟨v322, S323, f326, f327, f328, f329, rfl, hL⟩⟩
 refine CW.exit ?_
 refine XJ.hit ?_
 obtain rfl := Option.some.inj hm
 exact ⟨_, rfl, ⟨v246, S247, f261, f262, f263, f264, f265, hL⟩⟩

theorem M.spec_l26Words_ok (w0 : World)  {r : (List ByteArray)} (hm : M.spec_l26Words  = some r) :
    Calls Tryd.prog 23 #[] w0 fun e w' => ∃ (rv0 : Value) (rS0 : Nat → Prop), e = .returned rv0 ∧ Fresh w0 w' [Ent.own 9 rS0 rv0 r] := by
 unfold M.spec_l26Words at hm
 refine calls_CW (args := []) Tryd.func23 rfl rfl rfl ?_
 have hL := Hp.start w0
 refine CSR ?_
 refine OV (.slice none 0 0) rfl (x_assign) ?_
 refine ONR ?_
 refine OW.cons (S_lit ([(⟨#[70, 73, 78]⟩ : ByteArray), (⟨#[68, 78, 67]⟩ : ByteArray), (⟨#[68, 78, 83]⟩ : ByteArray), (⟨#[79, 67, 83]⟩ : ByteArray), (⟨#[68, 78, 70]⟩ : ByteArray), (⟨#[82, 69, 84]⟩ : ByteArray), (⟨#[68, 83, 81]⟩ : ByteArray), (⟨#[68, 78, 69]⟩ : ByteArray), (⟨#[66, 70, 68]⟩ : ByteArray), (⟨#[82, 68, 71]⟩ : ByteArray)] : List ByteArray) hL U43 Tryd_T9 rfl (by decide) (by first | (simp [Instr.fill, madeCells, Value.cells, ev, upd, Flat.enc, Flat.sz]; done) | rfl | kernel_rfl) rfl rfl ?_)
 intro wd1 v2 S3 hL
 refine OV v2 rfl (x_assign) ?_
 refine OW.nil ?_
 refine CW.ret ?_
 obtain rfl := Option.some.inj hm
 exact RR1 rfl rfl ⟨v2, S3, rfl, hL.fresh 1 rfl [0] (by decide) (by decide) rfl⟩

theorem M.spec_l26Number_ok (w0 : World) (a0 : Int) {r : ByteArray} (hm : M.spec_l26Number a0 = some r) :
    Calls Tryd.prog 45 #[(.int .i64 a0)] w0 fun e w' => e = .returned (.string r) ∧ Fresh w0 w' [] := by
 unfold M.spec_l26Number at hm
 refine calls_CW (args := [(.int .i64 a0)]) Tryd.func45 rfl rfl rfl ?_
 have hL := Hp.start w0
 refine CSR ?_
 refine OV (.string (⟨#[]⟩ : ByteArray)) rfl (x_assign) ?_
 refine ONR ?_
 refine OW.cons (S_lit ([] : List UInt8) hL U36 Tryd_T5 rfl (by decide) (by first | (simp [Instr.fill, madeCells, Value.cells, ev, upd, Flat.enc, Flat.sz]; done) | rfl | kernel_rfl) rfl rfl ?_)
 intro wd1 v2 S3 hL
 refine OV v2 rfl (x_assign) ?_
 refine ONS ?_
 refine CSR ?_
 refine OV (.int .i64 a0) rfl (x_move) ?_
 refine OV (.int .i64 a0) rfl (x_assign) ?_
 refine OW.nil ?_
 obtain ⟨o40, ho41, hm⟩ := bndE hm
 refine CW.loopB (fun (s_l1 : (List UInt8) × Int) (F : Fr) (w : World) => ∃ (v36 : Value) (S37 : Nat → Prop), F 3 = v36 ∧ F 4 = (.int .i64 s_l1.2) ∧ Hp w0 [Ent.own 5 S37 v36 s_l1.1, Ent.snap w0 w0.heap.size] w) (fun o => outc o (fun x => some x) (fun s => M.spec_l26Number_a1 s) = some r) ho41 hm ⟨v2, S3, rfl, rfl, hL⟩ ?_ ?_
 · intro s_l1 F42 wd43 hJ hm
   have hm := outcE hm
   have hm : M.spec_l26Number_a1 s_l1 = some r := hm
   unfold M.spec_l26Number_a1 at hm
   obtain ⟨v36, S37, f44, f45, hL⟩ := hJ
   refine CSR ?_
   refine OV v36 rfl (x_mv f44) ?_
   refine OV (.string (bts s_l1.1)) rfl (x_bts U36 U5 U9 rfl (hL.rdO 0 rfl)) ?_
   refine OV (.string (bts s_l1.1)) rfl (x_assign) ?_
   refine OW.nil ?_
   refine CW.ret ?_
   obtain rfl := Option.some.inj hm
   exact RR1 rfl rfl ⟨rfl, hL.fresh 1 rfl [] (by decide) (by decide) rfl⟩
 intro s_l1 F46 wd47 t38 hJ hm hr39
 unfold M.spec_l26Number_l1 at hm
 obtain ⟨v36, S37, f48, f49, hL⟩ := hJ
 refine CW.seq ?_
 refine CW.seqJ (fun (s_j1 : Bool) (F : Fr) (w : World) => F 3 = v36 ∧ F 4 = (.int .i64 s_l1.2) ∧ F 13 = (.bool s_j1) ∧ Hp w0 [Ent.own 5 S37 v36 s_l1.1, Ent.snap w0 w0.heap.size] w) (fun s_j1 => M.spec_l26Number_j1 s_l1 s_j1 = some t38) ?_ ?_
 · refine CW.regionL ?_
   refine OV (.int .i64 s_l1.2) rfl (x_mv f49) ?_
   refine OV (.bool (decide (0 < s_l1.2))) rfl (x_gtr rfl rfl) ?_
   refine OV (.bool (decide (0 < s_l1.2))) rfl (x_move) ?_
   refine ifB_elim hm (fun hb64 hm => ?_) (fun hb64 hm => ?_)
   · refine OW.cons (OP.no' rfl rfl hb64 rfl ?_)
     refine OW.cons (OP.no' rfl rfl hb64 rfl ?_)
     refine OW.cons (OP.no' rfl rfl hb64 rfl ?_)
     refine OV (.bool true) rfl (x_pickT' rfl hb64 rfl) ?_
     refine OW.nil ?_
     exact ⟨true, hm, ⟨f48, f49, rfl, hL⟩⟩
   refine OW.cons (OP.yes' rfl rfl hb64 (OP.val (v := v36) rfl (x_mv f48) ?_))
   refine OW.cons (OP.yes' rfl rfl hb64 (OP.val (v := (.int .i64 (s_l1.1.length : Int))) rfl (x_lenR U36 rfl (hL.rdO 0 rfl)) ?_))
   refine OW.cons (OP.yes' rfl rfl hb64 (OP.val (v := (.bool ((s_l1.1.length : Int) == 0))) rfl (x_eql rfl rfl) ?_))
   refine OV (.bool ((s_l1.1.length : Int) == 0)) rfl (x_pickF' rfl hb64 rfl) ?_
   refine OW.nil ?_
   exact ⟨(s_l1.1.length : Int) == 0, hm, ⟨f48, f49, rfl, hL⟩⟩
 intro s_j1 F51 wd52 hJ hm
 unfold M.spec_l26Number_j1 at hm
 obtain ⟨f53, f54, f55, hL⟩ := hJ
 refine CW.condM (t := s_j1) f55 hm (fun hb56 hm => ?_) (fun hb56 hm => ?_)
 · refine CW.skip ?_
   refine CW.seq ?_
   refine CW.block ?_
   refine CW.regionL ?_
   refine OV (.int .i64 s_l1.2) rfl (x_mv f54) ?_
   refine OV (.int .i64 (s_l1.2.tmod 10)) rfl (x_rem rfl rfl (by decide)) ?_
   refine OV (.int .i64 (w64 (48 + (s_l1.2.tmod 10)))) rfl (x_add rfl rfl) ?_
   refine OV (.int .u8 (IntKind.u8.wrap (w64 (48 + (s_l1.2.tmod 10))))) rfl (x_conv U2 U5 rfl) ?_
   refine OW.cons (S_lit ([(UInt8.ofNat (IntKind.u8.wrap (w64 (48 + (s_l1.2.tmod 10)))).toNat)] : List UInt8) hL U36 Tryd_T5 rfl (by decide) (by simp only [Flat.enc, List.flatMap_cons, List.flatMap_nil, u8w]; first | rfl | kernel_rfl) rfl rfl ?_)
   intro wd57 v58 S59 hL
   refine OV v36 rfl (x_mv f53) ?_
   obtain ⟨hc63, hm⟩ := chkE hm
   refine OW.cons (S_append (ys := s_l1.1) hL 0 rfl U36 Tryd_T5 rfl rfl rfl (hL.rdO 1 rfl) hc63 (by decide) rfl ?_)
   intro wd60 v61 S62 hL
   refine OV v61 rfl (x_assign) ?_
   refine OW.nil ?_
   refine CW.regionL ?_
   refine OV (.int .i64 s_l1.2) rfl (x_mv f54) ?_
   refine OV (.int .i64 (w64 (s_l1.2.tdiv 10))) rfl (x_quo rfl rfl (by decide)) ?_
   refine OV (.int .i64 (w64 (s_l1.2.tdiv 10))) rfl (x_assign) ?_
   refine OW.nil ?_
   have hL := hL.sel [0, 2] (by decide) rfl
   obtain rfl := Option.some.inj hm
   exact ⟨_, rfl, ⟨v61, S62, rfl, rfl, hL⟩⟩
 refine CW.exit ?_
 refine XJ.hit ?_
 obtain rfl := Option.some.inj hm
 exact ⟨_, rfl, ⟨v36, S37, f53, f54, hL⟩⟩

theorem M.spec_l26Read_ok (w0 : World) (a0 : ByteArray) {r : Int} (hm : M.spec_l26Read a0 = some r) :
    Calls Tryd.prog 24 #[(.string a0)] w0 fun e w' => e = .returned (.int .i64 r) ∧ Fresh w0 w' [] := by
 unfold M.spec_l26Read at hm
 refine calls_CW (args := [(.string a0)]) Tryd.func24 rfl rfl rfl ?_
 have hL := Hp.start w0
 refine CSR ?_
 refine OV (.int .i64 0) rfl (x_assign) ?_
 refine ONS ?_
 refine CW.seqJ (fun (s_j1 : Bool) (F : Fr) (w : World) => F 0 = (.string a0) ∧ F 11 = (.bool s_j1) ∧ Hp w0 [Ent.snap w0 w0.heap.size] w) (fun s_j1 => M.spec_l26Read_j1 a0 s_j1 = some r) ?_ ?_
 · refine CW.regionL ?_
   refine OV (.string a0) rfl (x_move) ?_
   refine OV (.bool (sEq a0 (⟨#[]⟩ : ByteArray))) rfl (x_eqlT rfl rfl) ?_
   refine OV (.bool (sEq a0 (⟨#[]⟩ : ByteArray))) rfl (x_move) ?_
   refine ifB_elim hm (fun hb87 hm => ?_) (fun hb87 hm => ?_)
   · refine OW.cons (OP.no' rfl rfl hb87 rfl ?_)
     refine OW.cons (OP.no' rfl rfl hb87 rfl ?_)
     refine OW.cons (OP.no' rfl rfl hb87 rfl ?_)
     refine OV (.bool true) rfl (x_pickT' rfl hb87 rfl) ?_
     refine OW.nil ?_
     exact ⟨true, hm, ⟨rfl, rfl, hL⟩⟩
   refine OW.cons (OP.yes' rfl rfl hb87 (OP.val (v := (.string a0)) rfl (x_move) ?_))
   refine OW.cons (OP.yes' rfl rfl hb87 (OP.val (v := (.int .i64 (a0.size : Int))) rfl (x_lens U9 rfl) ?_))
   refine OW.cons (OP.yes' rfl rfl hb87 (OP.val (v := (.bool (decide (12 < (a0.size : Int))))) rfl (x_gtr rfl rfl) ?_))
   refine OV (.bool (decide (12 < (a0.size : Int)))) rfl (x_pickF' rfl hb87 rfl) ?_
   refine OW.nil ?_
   exact ⟨decide (12 < (a0.size : Int)), hm, ⟨rfl, rfl, hL⟩⟩
 intro s_j1 F2 wd3 hJ hm
 unfold M.spec_l26Read_j1 at hm
 obtain ⟨f4, f5, hL⟩ := hJ
 refine CW.condM (t := s_j1) f5 hm (fun hb6 hm => ?_) (fun hb6 hm => ?_)
 · refine CSR ?_
   refine OV (.int .i64 (-1)) rfl (x_assign) ?_
   refine OW.nil ?_
   refine CW.ret ?_
   obtain rfl := Option.some.inj hm
   exact RR1 rfl rfl ⟨rfl, hL.fresh 0 rfl [] (by decide) (by decide) rfl⟩
 refine CW.skip ?_
 refine CSR ?_
 refine OV (.int .i64 0) rfl (x_assign) ?_
 refine ONS ?_
 refine CSR ?_
 refine OV (.int .i64 0) rfl (x_assign) ?_
 refine OW.nil ?_
 obtain ⟨o49, ho50, hm⟩ := bndE hm
 refine CW.loopB (fun (s_l1 : Int × Int) (F : Fr) (w : World) => F 0 = (.string a0) ∧ F 3 = (.int .i64 s_l1.1) ∧ F 4 = (.int .i64 s_l1.2) ∧ Hp w0 [Ent.snap w0 w0.heap.size] w) (fun o => outc o (fun x => some x) (fun s => M.spec_l26Read_a1 a0 s) = some r) ho50 hm ⟨f4, rfl, rfl, hL⟩ ?_ ?_
 · intro s_l1 F51 wd52 hJ hm
   have hm := outcE hm
   have hm : M.spec_l26Read_a1 a0 s_l1 = some r := hm
   unfold M.spec_l26Read_a1 at hm
   obtain ⟨f53, f54, f55, hL⟩ := hJ
   refine CW.seq ?_
   refine CSR ?_
   refine OV (.int .i64 s_l1.1) rfl (x_mv f54) ?_
   obtain ⟨x56, hx57, hm⟩ := bndE hm
   refine OW.cons (OP.call rfl (x_call (vs := [(.int .i64 s_l1.1)]) Tryd_C45 ⟨rfl, trivial⟩) (M.spec_l26Number_ok _ s_l1.1 hx57) ?_)
   rintro e58 wd59 ⟨rfl, hF60⟩
   refine ⟨_, rfl, ?_⟩
   have hL := hL.pushAll hF60
   simp only [lA, lB, lC, lD] at hL
   refine OV (.string a0) rfl (x_mv f53) ?_
   refine OV (.bool (!(sEq x56 a0))) rfl (x_neqT rfl rfl) ?_
   refine OW.nil ?_
   refine CW.condM (t := !(sEq x56 a0)) rfl hm (fun hb61 hm => ?_) (fun hb61 hm => ?_)
   · refine CSR ?_
     refine OV (.int .i64 (-1)) rfl (x_assign) ?_
     refine OW.nil ?_
     refine CW.ret ?_
     obtain rfl := Option.some.inj hm
     exact RR1 rfl rfl ⟨rfl, hL.fresh 0 rfl [] (by decide) (by decide) rfl⟩
   refine CW.skip ?_
   refine CSR ?_
   refine OV (.int .i64 s_l1.1) rfl (x_mv f54) ?_
   refine OV (.int .i64 s_l1.1) rfl (x_assign) ?_
   refine OW.nil ?_
   refine CW.ret ?_
   obtain rfl := Option.some.inj hm
   exact RR1 rfl rfl ⟨rfl, hL.fresh 0 rfl [] (by decide) (by decide) rfl⟩
 intro s_l1 F62 wd63 t47 hJ hm hr48
 unfold M.spec_l26Read_l1 at hm
 obtain ⟨f64, f65, f66, hL⟩ := hJ
 refine CW.seq ?_
 refine CSR ?_
 refine OV (.int .i64 s_l1.2) rfl (x_mv f66) ?_
 refine OV (.string a0) rfl (x_mv f64) ?_
 refine OV (.int .i64 (a0.size : Int)) rfl (x_lens U9 rfl) ?_
 refine OV (.bool (decide (s_l1.2 < (a0.size : Int)))) rfl (x_lss rfl rfl) ?_
 refine OW.nil ?_
 refine CW.condM (t := decide (s_l1.2 < (a0.size : Int))) rfl hm (fun hb67 hm => ?_) (fun hb67 hm => ?_)
 · refine CW.skip ?_
   refine CW.seq ?_
   refine CW.block ?_
   refine CW.seq ?_
   refine CW.seqJ (fun (s_j2 : Bool) (F : Fr) (w : World) => F 0 = (.string a0) ∧ F 3 = (.int .i64 s_l1.1) ∧ F 4 = (.int .i64 s_l1.2) ∧ F 27 = (.bool s_j2) ∧ Hp w0 [Ent.snap w0 w0.heap.size] w) (fun s_j2 => M.spec_l26Read_j2 a0 s_l1 s_j2 = some t47) ?_ ?_
   · refine CW.regionL ?_
     refine OV (.string a0) rfl (x_mv f64) ?_
     refine OV (.int .i64 s_l1.2) rfl (x_mv f66) ?_
     obtain ⟨x82, hx83, hm⟩ := bndE hm
     refine OV (.int .u8 x82) rfl (x_strAt U9 rfl rfl hx83) ?_
     refine OV (.bool (decide (x82 < 48))) rfl (x_lss rfl rfl) ?_
     refine OV (.bool (decide (x82 < 48))) rfl (x_move) ?_
     refine ifB_elim hm (fun hb84 hm => ?_) (fun hb84 hm => ?_)
     · refine OW.cons (OP.no' rfl rfl hb84 rfl ?_)
       refine OW.cons (OP.no' rfl rfl hb84 rfl ?_)
       refine OW.cons (OP.no' rfl rfl hb84 rfl ?_)
       refine OW.cons (OP.no' rfl rfl hb84 rfl ?_)
       refine OV (.bool true) rfl (x_pickT' rfl hb84 rfl) ?_
       refine OW.nil ?_
       exact ⟨true, hm, ⟨f64, f65, f66, rfl, hL⟩⟩
     refine OW.cons (OP.yes' rfl rfl hb84 (OP.val (v := (.string a0)) rfl (x_mv f64) ?_))
     refine OW.cons (OP.yes' rfl rfl hb84 (OP.val (v := (.int .i64 s_l1.2)) rfl (x_mv f66) ?_))
     obtain ⟨x85, hx86, hm⟩ := bndE hm
     refine OW.cons (OP.yes' rfl rfl hb84 (OP.val (v := (.int .u8 x85)) rfl (x_strAt U9 rfl rfl hx86) ?_))
     refine OW.cons (OP.yes' rfl rfl hb84 (OP.val (v := (.bool (decide (57 < x85)))) rfl (x_gtr rfl rfl) ?_))
     refine OV (.bool (decide (57 < x85))) rfl (x_pickF' rfl hb84 rfl) ?_
     refine OW.nil ?_
     exact ⟨decide (57 < x85), hm, ⟨f64, f65, f66, rfl, hL⟩⟩
   intro s_j2 F73 wd74 hJ hm
   unfold M.spec_l26Read_j2 at hm
   obtain ⟨f75, f76, f77, f78, hL⟩ := hJ
   refine CW.condM (t := s_j2) f78 hm (fun hb79 hm => ?_) (fun hb79 hm => ?_)
   · refine CSR ?_
     refine OV (.int .i64 (-1)) rfl (x_assign) ?_
     refine OW.nil ?_
     refine CW.ret ?_
     obtain rfl := Option.some.inj hm
     have hm := hr48 _ rfl
     obtain rfl := Option.some.inj hm
     exact RR1 rfl rfl ⟨rfl, hL.fresh 0 rfl [] (by decide) (by decide) rfl⟩
   refine CW.skip ?_
   refine CW.regionL ?_
   refine OV (.int .i64 s_l1.1) rfl (x_mv f76) ?_
   refine OV (.int .i64 (w64 (10 * s_l1.1))) rfl (x_mul rfl rfl) ?_
   refine OV (.string a0) rfl (x_mv f75) ?_
   refine OV (.int .i64 s_l1.2) rfl (x_mv f77) ?_
   obtain ⟨x80, hx81, hm⟩ := bndE hm
   refine OV (.int .u8 x80) rfl (x_strAt U9 rfl rfl hx81) ?_
   refine OV (.int .i64 (IntKind.i64.wrap x80)) rfl (x_conv U5 U2 rfl) ?_
   refine OV (.int .i64 (w64 ((w64 (10 * s_l1.1)) + (IntKind.i64.wrap x80)))) rfl (x_add rfl rfl) ?_
   refine OV (.int .i64 (w64 ((w64 ((w64 (10 * s_l1.1)) + (IntKind.i64.wrap x80))) - 48))) rfl (x_sub rfl rfl) ?_
   refine OV (.int .i64 (w64 ((w64 ((w64 (10 * s_l1.1)) + (IntKind.i64.wrap x80))) - 48))) rfl (x_assign) ?_
   refine OW.nil ?_
   refine CW.regionL ?_
   refine OV (.int .i64 s_l1.2) rfl (x_mv f77) ?_
   refine OV (.int .i64 (w64 (s_l1.2 + 1))) rfl (x_add rfl rfl) ?_
   refine OV (.int .i64 (w64 (s_l1.2 + 1))) rfl (x_assign) ?_
   refine OW.nil ?_
   obtain rfl := Option.some.inj hm
   exact ⟨_, rfl, ⟨f75, rfl, rfl, hL⟩⟩
 refine CW.exit ?_
 refine XJ.hit ?_
 obtain rfl := Option.some.inj hm
 exact ⟨_, rfl, ⟨f64, f65, f66, hL⟩⟩

theorem M.spec_l01In_ok (w0 : World) (a0 : Int) (a1 : Int) (a2 : Int) {r : Bool} (hm : M.spec_l01In a0 a1 a2 = some r) :
    Calls Tryd.prog 54 #[(.int .i64 a0), (.int .i64 a1), (.int .i64 a2)] w0 fun e w' => e = .returned (.bool r) ∧ Fresh w0 w' [] := by
 unfold M.spec_l01In at hm
 refine calls_CW (args := [(.int .i64 a0), (.int .i64 a1), (.int .i64 a2)]) Tryd.func54 rfl rfl rfl ?_
 have hL := Hp.start w0
 refine CSR ?_
 refine OV (.bool false) rfl (x_assign) ?_
 refine OW.nil ?_
 refine CW.seqJ (fun (s_j1 : Bool) (F : Fr) (w : World) => F 6 = (.bool s_j1) ∧ Hp w0 [Ent.snap w0 w0.heap.size] w) (fun s_j1 => M.spec_l01In_j1 s_j1 = some r) ?_ ?_
 · refine CW.regionL ?_
   refine OV (.int .i64 a0) rfl (x_move) ?_
   refine OV (.int .i64 a1) rfl (x_move) ?_
   refine OV (.bool (decide (a1 ≤ a0))) rfl (x_geq rfl rfl) ?_
   refine OV (.bool (decide (a1 ≤ a0))) rfl (x_move) ?_
   refine ifB_elim hm (fun hb5 hm => ?_) (fun hb5 hm => ?_)
   · refine OW.cons (OP.yes' rfl rfl hb5 (OP.val (v := (.int .i64 a0)) rfl (x_move) ?_))
     refine OW.cons (OP.yes' rfl rfl hb5 (OP.val (v := (.int .i64 a2)) rfl (x_move) ?_))
     refine OW.cons (OP.yes' rfl rfl hb5 (OP.val (v := (.bool (decide (a0 ≤ a2)))) rfl (x_leq rfl rfl) ?_))
     refine OV (.bool (decide (a0 ≤ a2))) rfl (x_pickT' rfl hb5 rfl) ?_
     refine OV (.bool (decide (a0 ≤ a2))) rfl (x_assign) ?_
     refine OW.nil ?_
     exact ⟨decide (a0 ≤ a2), hm, ⟨rfl, hL⟩⟩
   refine OW.cons (OP.no' rfl rfl hb5 rfl ?_)
   refine OW.cons (OP.no' rfl rfl hb5 rfl ?_)
   refine OW.cons (OP.no' rfl rfl hb5 rfl ?_)
   refine OV (.bool false) rfl (x_pickF' rfl hb5 rfl) ?_
   refine OV (.bool false) rfl (x_assign) ?_
   refine OW.nil ?_
   exact ⟨false, hm, ⟨rfl, hL⟩⟩
 intro s_j1 F2 wd3 hJ hm
 unfold M.spec_l01In_j1 at hm
 obtain ⟨f4, hL⟩ := hJ
 refine CW.ret ?_
 obtain rfl := Option.some.inj hm
 exact RR1 rfl f4 ⟨rfl, hL.fresh 0 rfl [] (by decide) (by decide) rfl⟩

theorem M.spec_l26Code_ok (w0 : World) (a0 : Int) {r : Bool} (hm : M.spec_l26Code a0 = some r) :
    Calls Tryd.prog 73 #[(.int .i64 a0)] w0 fun e w' => e = .returned (.bool r) ∧ Fresh w0 w' [] := by
 unfold M.spec_l26Code at hm
 refine calls_CW (args := [(.int .i64 a0)]) Tryd.func73 rfl rfl rfl ?_
 have hL := Hp.start w0
 refine CSR ?_
 refine OV (.bool false) rfl (x_assign) ?_
 refine ONR ?_
 refine OV (.int .i64 a0) rfl (x_move) ?_
 obtain ⟨x1, hx2, hm⟩ := bndE hm
 refine OW.cons (OP.call rfl (x_call (vs := [(.int .i64 a0), (.int .i64 0), (.int .i64 9)]) Tryd_C54 ⟨rfl, rfl, rfl, trivial⟩) (M.spec_l01In_ok _ a0 0 9 hx2) ?_)
 rintro e3 wd4 ⟨rfl, hF5⟩
 refine ⟨_, rfl, ?_⟩
 have hL := hL.pushAll hF5
 simp only [lA, lB, lC, lD] at hL
 refine OV (.bool x1) rfl (x_assign) ?_
 refine OW.nil ?_
 refine CW.ret ?_
 obtain rfl := Option.some.inj hm
 exact RR1 rfl rfl ⟨rfl, hL.fresh 0 rfl [] (by decide) (by decide) rfl⟩

theorem M.spec_l26Race_ok (w0 : World) (a0 : Int) (a1 : Race) {v1 : Value} (h2 : rdL (· < w0.heap.size) w0 v1 a1.Finishes) {r : Bool} (hm : M.spec_l26Race a0 a1 = some r) :
    Calls Tryd.prog 63 #[(.int .i64 a0), (.agg #[v1])] w0 fun e w' => e = .returned (.bool r) ∧ Fresh w0 w' [] := by
 unfold M.spec_l26Race at hm
 refine calls_CW (args := [(.int .i64 a0), (.agg #[v1])]) Tryd.func63 rfl rfl rfl ?_
 have hL := Hp.start w0
 refine CSR ?_
 refine OW.cons (S_box (cs := #[v1]) hL rfl rfl rfl ?_)
 intro wd3 b4 hL
 refine OV (.bool false) rfl (x_assign) ?_
 refine ONS ?_
 refine CSR ?_
 refine OV (.pointer (some ⟨b4, 0, none⟩)) rfl (x_fieldAddr (fsz := 1) 0 0 0 U24 rfl Tryd_T22 rfl rfl rfl) ?_
 refine OV v1 rfl (x_load1 U22 rfl rfl (hL.cellB 0 rfl rfl)) ?_
 refine OV (.int .i64 (a1.Finishes.length : Int)) rfl (x_lenR U22 rfl (hL.rdS 1 rfl h2)) ?_
 refine OV (.int .i64 a0) rfl (x_move) ?_
 refine OV (.bool ((a1.Finishes.length : Int) != a0)) rfl (x_neq rfl rfl) ?_
 refine OW.nil ?_
 refine CW.condM (t := (a1.Finishes.length : Int) != a0) rfl hm (fun hb5 hm => ?_) (fun hb5 hm => ?_)
 · refine CSR ?_
   refine OV (.bool false) rfl (x_assign) ?_
   refine OW.nil ?_
   refine CW.ret ?_
   obtain rfl := Option.some.inj hm
   exact RR1 rfl rfl ⟨rfl, hL.fresh 1 rfl [] (by decide) (by decide) rfl⟩
 refine CW.skip ?_
 refine CW.seq ?_
 refine CSR ?_
 refine OV (.int .i64 0) rfl (x_assign) ?_
 refine OW.nil ?_
 obtain ⟨o116, ho117, hm⟩ := bndE hm
 refine CW.loopB (fun (s_l1 : Int) (F : Fr) (w : World) => F 3 = (.pointer (some ⟨b4, 0, none⟩)) ∧ F 5 = (.int .i64 s_l1) ∧ Hp w0 [Ent.blk b4 24 #[v1], Ent.snap w0 w0.heap.size] w) (fun o => outc o (fun x => some x) (fun s => M.spec_l26Race_a1 s) = some r) ho117 hm ⟨rfl, rfl, hL⟩ ?_ ?_
 · intro s_l1 F118 wd119 hJ hm
   have hm := outcE hm
   have hm : M.spec_l26Race_a1 s_l1 = some r := hm
   unfold M.spec_l26Race_a1 at hm
   obtain ⟨f120, f121, hL⟩ := hJ
   refine CSR ?_
   refine OV (.bool true) rfl (x_assign) ?_
   refine OW.nil ?_
   refine CW.ret ?_
   obtain rfl := Option.some.inj hm
   exact RR1 rfl rfl ⟨rfl, hL.fresh 1 rfl [] (by decide) (by decide) rfl⟩
 intro s_l1 F122 wd123 t114 hJ hm hr115
 unfold M.spec_l26Race_l1 at hm
 obtain ⟨f124, f125, hL⟩ := hJ
 refine CW.seq ?_
 refine CSR ?_
 refine OV (.int .i64 s_l1) rfl (x_mv f125) ?_
 refine OV (.pointer (some ⟨b4, 0, none⟩)) rfl (x_fieldAddr (fsz := 1) 0 0 0 U24 rfl Tryd_T22 rfl f124 rfl) ?_
 refine OV v1 rfl (x_load1 U22 rfl rfl (hL.cellB 0 rfl rfl)) ?_
 refine OV (.int .i64 (a1.Finishes.length : Int)) rfl (x_lenR U22 rfl (hL.rdS 1 rfl h2)) ?_
 refine OV (.bool (decide (s_l1 < (a1.Finishes.length : Int)))) rfl (x_lss rfl rfl) ?_
 refine OW.nil ?_
 refine CW.condM (t := decide (s_l1 < (a1.Finishes.length : Int))) rfl hm (fun hb126 hm => ?_) (fun hb126 hm => ?_)
 · refine CW.skip ?_
   refine CW.seq ?_
   refine CW.block ?_
   refine CSR ?_
   refine OV (.pointer (some ⟨b4, 0, none⟩)) rfl (x_fieldAddr (fsz := 1) 0 0 0 U24 rfl Tryd_T22 rfl f124 rfl) ?_
   refine OV v1 rfl (x_load1 U22 rfl rfl (hL.cellB 0 rfl rfl)) ?_
   refine OV (.int .i64 s_l1) rfl (x_mv f125) ?_
   obtain ⟨x127, ha128, hm⟩ := bndE hm
   obtain ⟨hz129, ha133⟩ := idxE ha128
   obtain ⟨b130, q131, hix132⟩ := rdL_ix (hL.rdS 1 rfl h2) hz129 ha133
   refine OV (.pointer (some ⟨b130, q131, none⟩)) rfl (x_ix U22 Tryd_T46 rfl rfl hix132) ?_
   refine OV (.agg #[(.int .i64 x127.Boat), (.int .i64 x127.Code), (.int .i64 x127.Time)]) rfl (x_loadN (cs := [(.int .i64 x127.Boat), (.int .i64 x127.Code), (.int .i64 x127.Time)]) U46 Tryd_T46 rfl rfl (rdF_cells (hL.rdS 1 rfl h2) hix132 ha133)) ?_
   refine OW.cons (S_alloc (cs := #[(.int .i64 0), (.int .i64 0), (.int .i64 0)]) hL Tryd_T46 rfl rfl ?_)
   intro wd134 b135 hL
   refine OW.cons (S_storeN (l := [(.int .i64 x127.Boat), (.int .i64 x127.Code), (.int .i64 x127.Time)]) (cs' := #[(.int .i64 x127.Boat), (.int .i64 x127.Code), (.int .i64 x127.Time)]) hL 0 rfl Tryd_T46 rfl rfl (List.forall_mem_cons.2 ⟨rfl, (List.forall_mem_cons.2 ⟨rfl, (List.forall_mem_cons.2 ⟨rfl, (fun _ h => by cases h)⟩)⟩)⟩) rfl (Nat.le_of_ble_eq_true rfl) rfl ?_)
   intro wd136 hL
   refine ONS ?_
   refine CW.seqJ (fun (s_j1 : Bool) (F : Fr) (w : World) => F 3 = (.pointer (some ⟨b4, 0, none⟩)) ∧ F 5 = (.int .i64 s_l1) ∧ F 6 = (.pointer (some ⟨b135, 0, none⟩)) ∧ F 33 = (.bool s_j1) ∧ Hp w0 [Ent.blk b135 46 #[(.int .i64 x127.Boat), (.int .i64 x127.Code), (.int .i64 x127.Time)], Ent.blk b4 24 #[v1], Ent.snap w0 w0.heap.size] w) (fun s_j1 => M.spec_l26Race_j1 s_l1 x127 s_j1 = some t114) ?_ ?_
   · refine CW.regionL ?_
     refine OV (.pointer (some ⟨b135, 0, none⟩)) rfl (x_fieldAddr (fsz := 1) 0 0 0 U46 rfl Tryd_T2 rfl rfl rfl) ?_
     refine OV (.int .i64 x127.Boat) rfl (x_load1 U2 rfl rfl (hL.cellB 0 rfl rfl)) ?_
     refine OV (.int .i64 s_l1) rfl (x_mv f125) ?_
     refine OV (.bool (x127.Boat != s_l1)) rfl (x_neq rfl rfl) ?_
     refine OV (.bool (x127.Boat != s_l1)) rfl (x_move) ?_
     refine ifB_elim hm (fun hb174 hm => ?_) (fun hb174 hm => ?_)
     · refine OW.cons (OP.no' rfl rfl hb174 rfl ?_)
       refine OW.cons (OP.no' rfl rfl hb174 rfl ?_)
       refine OW.cons (OP.no' rfl rfl hb174 rfl ?_)
       refine OW.cons (OP.no' rfl rfl hb174 rfl ?_)
       refine OV (.bool true) rfl (x_pickT' rfl hb174 rfl) ?_
       refine OW.nil ?_
       exact ⟨true, hm, ⟨f124, f125, rfl, rfl, hL⟩⟩
     refine OW.cons (OP.yes' rfl rfl hb174 (OP.val (v := (.pointer (some ⟨b135, 1, none⟩))) rfl (x_fieldAddr (fsz := 1) 0 1 1 U46 rfl Tryd_T2 rfl rfl rfl) ?_))
     refine OW.cons (OP.yes' rfl rfl hb174 (OP.val (v := (.int .i64 x127.Code)) rfl (x_load1 U2 rfl rfl (hL.cellB 0 rfl rfl)) ?_))
     obtain ⟨x175, hx176, hm⟩ := bndE hm
     refine OW.cons (OP.yes' rfl rfl hb174 (OP.call rfl (x_call (vs := [(.int .i64 x127.Code)]) Tryd_C73 ⟨rfl, trivial⟩) (M.spec_l26Code_ok _ x127.Code hx176) ?_))
     rintro e177 wd178 ⟨rfl, hF179⟩
     refine ⟨_, rfl, ?_⟩
     have hL := hL.pushAll hF179
     simp only [lA, lB, lC, lD] at hL
     refine OW.cons (OP.yes' rfl rfl hb174 (OP.val (v := (.bool (!x175))) rfl (x_not rfl) ?_))
     refine OV (.bool (!x175)) rfl (x_pickF' rfl hb174 rfl) ?_
     refine OW.nil ?_
     exact ⟨!x175, hm, ⟨f124, f125, rfl, rfl, hL⟩⟩
   intro s_j1 F143 wd144 hJ hm
   unfold M.spec_l26Race_j1 at hm
   obtain ⟨f145, f146, f147, f148, hL⟩ := hJ
   refine CW.condM (t := s_j1) f148 hm (fun hb149 hm => ?_) (fun hb149 hm => ?_)
   · refine CSR ?_
     refine OV (.bool false) rfl (x_assign) ?_
     refine OW.nil ?_
     refine CW.ret ?_
     obtain rfl := Option.some.inj hm
     have hm := hr115 _ rfl
     obtain rfl := Option.some.inj hm
     exact RR1 rfl rfl ⟨rfl, hL.fresh 2 rfl [] (by decide) (by decide) rfl⟩
   refine CW.skip ?_
   refine CW.seqJ (fun (s_j2 : Bool) (F : Fr) (w : World) => F 3 = (.pointer (some ⟨b4, 0, none⟩)) ∧ F 5 = (.int .i64 s_l1) ∧ F 52 = (.bool s_j2) ∧ Hp w0 [Ent.blk b135 46 #[(.int .i64 x127.Boat), (.int .i64 x127.Code), (.int .i64 x127.Time)], Ent.blk b4 24 #[v1], Ent.snap w0 w0.heap.size] w) (fun s_j2 => M.spec_l26Race_j2 s_l1 s_j2 = some t114) ?_ ?_
   · refine CW.regionL ?_
     refine OV (.pointer (some ⟨b135, 1, none⟩)) rfl (x_fieldAddr (fsz := 1) 0 1 1 U46 rfl Tryd_T2 rfl f147 rfl) ?_
     refine OV (.int .i64 x127.Code) rfl (x_load1 U2 rfl rfl (hL.cellB 0 rfl rfl)) ?_
     refine OV (.bool (x127.Code == 0)) rfl (x_eql rfl rfl) ?_
     refine OV (.bool (x127.Code == 0)) rfl (x_move) ?_
     refine ifB_elim hm (fun hb165 hm => ?_) (fun hb165 hm => ?_)
     · refine OW.cons (OP.yes' rfl rfl hb165 (OP.val (v := (.pointer (some ⟨b135, 2, none⟩))) rfl (x_fieldAddr (fsz := 1) 0 2 2 U46 rfl Tryd_T2 rfl f147 rfl) ?_))
       refine OW.cons (OP.yes' rfl rfl hb165 (OP.val (v := (.int .i64 x127.Time)) rfl (x_load1 U2 rfl rfl (hL.cellB 0 rfl rfl)) ?_))
       obtain ⟨x166, hx167, hm⟩ := bndE hm
       refine OW.cons (OP.yes' rfl rfl hb165 (OP.call rfl (x_call (vs := [(.int .i64 x127.Time), (.int .i64 1), (.int .i64 1000000000)]) Tryd_C54 ⟨rfl, rfl, rfl, trivial⟩) (M.spec_l01In_ok _ x127.Time 1 1000000000 hx167) ?_))
       rintro e168 wd169 ⟨rfl, hF170⟩
       refine ⟨_, rfl, ?_⟩
       have hL := hL.pushAll hF170
       simp only [lA, lB, lC, lD] at hL
       refine OW.cons (OP.yes' rfl rfl hb165 (OP.val (v := (.bool (!x166))) rfl (x_not rfl) ?_))
       refine OV (.bool (!x166)) rfl (x_pickT' rfl hb165 rfl) ?_
       refine OV (.bool (!x166)) rfl (x_move) ?_
       refine ifB_elim hm (fun hb171 hm => ?_) (fun hb171 hm => ?_)
       · refine OW.cons (OP.no' rfl rfl hb171 rfl ?_)
         refine OW.cons (OP.no' rfl rfl hb171 rfl ?_)
         refine OW.cons (OP.no' rfl rfl hb171 rfl ?_)
         refine OW.cons (OP.no' rfl rfl hb171 rfl ?_)
         refine OW.cons (OP.noU rfl rfl rfl ?_)
         refine OW.cons (OP.noU rfl rfl rfl ?_)
         refine OW.cons (OP.noU rfl rfl rfl ?_)
         refine OW.cons (OP.no' rfl rfl hb171 rfl ?_)
         refine OV (.bool true) rfl (x_pickT' rfl hb171 rfl) ?_
         refine OW.nil ?_
         exact ⟨true, hm, ⟨f145, f146, rfl, hL⟩⟩
       refine OW.cons (OP.yes' rfl rfl hb171 (OP.val (v := (.pointer (some ⟨b135, 1, none⟩))) rfl (x_fieldAddr (fsz := 1) 0 1 1 U46 rfl Tryd_T2 rfl f147 rfl) ?_))
       refine OW.cons (OP.yes' rfl rfl hb171 (OP.val (v := (.int .i64 x127.Code)) rfl (x_load1 U2 rfl rfl (hL.cellB 0 rfl rfl)) ?_))
       refine OW.cons (OP.yes' rfl rfl hb171 (OP.val (v := (.bool (x127.Code != 0))) rfl (x_neq rfl rfl) ?_))
       refine OW.cons (OP.yes' rfl rfl hb171 (OP.val (v := (.bool (x127.Code != 0))) rfl (x_move) ?_))
       refine ifB_elim hm (fun hb172 hm => ?_) (fun hb172 hm => ?_)
       · refine OW.cons (OP.yes' rfl rfl hb172 (OP.val (v := (.pointer (some ⟨b135, 2, none⟩))) rfl (x_fieldAddr (fsz := 1) 0 2 2 U46 rfl Tryd_T2 rfl f147 rfl) ?_))
         refine OW.cons (OP.yes' rfl rfl hb172 (OP.val (v := (.int .i64 x127.Time)) rfl (x_load1 U2 rfl rfl (hL.cellB 0 rfl rfl)) ?_))
         refine OW.cons (OP.yes' rfl rfl hb172 (OP.val (v := (.bool (x127.Time != 0))) rfl (x_neq rfl rfl) ?_))
         refine OW.cons (OP.yes' rfl rfl hb171 (OP.val (v := (.bool (x127.Time != 0))) rfl (x_pickT' rfl hb172 rfl) ?_))
         refine OV (.bool (x127.Time != 0)) rfl (x_pickF' rfl hb171 rfl) ?_
         refine OW.nil ?_
         exact ⟨x127.Time != 0, hm, ⟨f145, f146, rfl, hL⟩⟩
       refine OW.cons (OP.no' rfl rfl hb172 rfl ?_)
       refine OW.cons (OP.no' rfl rfl hb172 rfl ?_)
       refine OW.cons (OP.no' rfl rfl hb172 rfl ?_)
       refine OW.cons (OP.yes' rfl rfl hb171 (OP.val (v := (.bool false)) rfl (x_pickF' rfl hb172 rfl) ?_))
       refine OV (.bool false) rfl (x_pickF' rfl hb171 rfl) ?_
       refine OW.nil ?_
       exact ⟨false, hm, ⟨f145, f146, rfl, hL⟩⟩
     refine OW.cons (OP.no' rfl rfl hb165 rfl ?_)
     refine OW.cons (OP.no' rfl rfl hb165 rfl ?_)
     refine OW.cons (OP.no' rfl rfl hb165 rfl ?_)
     refine OW.cons (OP.no' rfl rfl hb165 rfl ?_)
     refine OV (.bool false) rfl (x_pickF' rfl hb165 rfl) ?_
     refine OV (.bool false) rfl (x_move) ?_
     refine OW.cons (OP.yes' rfl rfl rfl (OP.val (v := (.pointer (some ⟨b135, 1, none⟩))) rfl (x_fieldAddr (fsz := 1) 0 1 1 U46 rfl Tryd_T2 rfl f147 rfl) ?_))
     refine OW.cons (OP.yes' rfl rfl rfl (OP.val (v := (.int .i64 x127.Code)) rfl (x_load1 U2 rfl rfl (hL.cellB 0 rfl rfl)) ?_))
     refine OW.cons (OP.yes' rfl rfl rfl (OP.val (v := (.bool (x127.Code != 0))) rfl (x_neq rfl rfl) ?_))
     refine OW.cons (OP.yes' rfl rfl rfl (OP.val (v := (.bool (x127.Code != 0))) rfl (x_move) ?_))
     refine ifB_elim hm (fun hb173 hm => ?_) (fun hb173 hm => ?_)
     · refine OW.cons (OP.yes' rfl rfl hb173 (OP.val (v := (.pointer (some ⟨b135, 2, none⟩))) rfl (x_fieldAddr (fsz := 1) 0 2 2 U46 rfl Tryd_T2 rfl f147 rfl) ?_))
       refine OW.cons (OP.yes' rfl rfl hb173 (OP.val (v := (.int .i64 x127.Time)) rfl (x_load1 U2 rfl rfl (hL.cellB 0 rfl rfl)) ?_))
       refine OW.cons (OP.yes' rfl rfl hb173 (OP.val (v := (.bool (x127.Time != 0))) rfl (x_neq rfl rfl) ?_))
       refine OW.cons (OP.yes' rfl rfl rfl (OP.val (v := (.bool (x127.Time != 0))) rfl (x_pickT' rfl hb173 rfl) ?_))
       refine OV (.bool (x127.Time != 0)) rfl (x_pickF' rfl rfl rfl) ?_
       refine OW.nil ?_
       exact ⟨x127.Time != 0, hm, ⟨f145, f146, rfl, hL⟩⟩
     refine OW.cons (OP.no' rfl rfl hb173 rfl ?_)
     refine OW.cons (OP.no' rfl rfl hb173 rfl ?_)
     refine OW.cons (OP.no' rfl rfl hb173 rfl ?_)
     refine OW.cons (OP.yes' rfl rfl rfl (OP.val (v := (.bool false)) rfl (x_pickF' rfl hb173 rfl) ?_))
     refine OV (.bool false) rfl (x_pickF' rfl rfl rfl) ?_
     refine OW.nil ?_
     exact ⟨false, hm, ⟨f145, f146, rfl, hL⟩⟩
   intro s_j2 F159 wd160 hJ hm
   unfold M.spec_l26Race_j2 at hm
   obtain ⟨f161, f162, f163, hL⟩ := hJ
   refine CW.condM (t := s_j2) f163 hm (fun hb164 hm => ?_) (fun hb164 hm => ?_)
   · refine CSR ?_
     refine OV (.bool false) rfl (x_assign) ?_
     refine OW.nil ?_
     refine CW.ret ?_
     obtain rfl := Option.some.inj hm
     have hm := hr115 _ rfl
     obtain rfl := Option.some.inj hm
     exact RR1 rfl rfl ⟨rfl, hL.fresh 2 rfl [] (by decide) (by decide) rfl⟩
   refine CW.skip ?_
   refine CW.regionL ?_
   refine OV (.int .i64 s_l1) rfl (x_mv f162) ?_
   refine OV (.int .i64 (w64 (s_l1 + 1))) rfl (x_add rfl rfl) ?_
   refine OV (.int .i64 (w64 (s_l1 + 1))) rfl (x_assign) ?_
   refine OW.nil ?_
   have hL := hL.sel [1, 2] (by decide) rfl
   obtain rfl := Option.some.inj hm
   exact ⟨_, rfl, ⟨f161, rfl, hL⟩⟩
 refine CW.exit ?_
 refine XJ.hit ?_
 obtain rfl := Option.some.inj hm
 exact ⟨_, rfl, ⟨f124, f125, hL⟩⟩

theorem M.spec_IsRace_ok (w0 : World) (a0 : Int) (a1 : Race) {v1 : Value} (h2 : rdL (· < w0.heap.size) w0 v1 a1.Finishes) {r : Bool} (hm : M.spec_IsRace a0 a1 = some r) :
    Calls Tryd.prog 43 #[(.int .i64 a0), (.agg #[v1])] w0 fun e w' => e = .returned (.bool r) ∧ Fresh w0 w' [] := by
 unfold M.spec_IsRace at hm
 refine calls_CW (args := [(.int .i64 a0), (.agg #[v1])]) Tryd.func43 rfl rfl rfl ?_
 have hL := Hp.start w0
 refine CSR ?_
 refine OW.cons (S_box (cs := #[v1]) hL rfl rfl rfl ?_)
 intro wd3 b4 hL
 refine OV (.bool false) rfl (x_assign) ?_
 refine OW.nil ?_
 refine CW.seqJ (fun (s_j1 : Bool) (F : Fr) (w : World) => F 4 = (.bool s_j1) ∧ Hp w0 [Ent.blk b4 24 #[v1], Ent.snap w0 w0.heap.size] w) (fun s_j1 => M.spec_IsRace_j1 s_j1 = some r) ?_ ?_
 · refine CW.regionL ?_
   refine OV (.int .i64 a0) rfl (x_move) ?_
   obtain ⟨x19, hx20, hm⟩ := bndE hm
   refine OW.cons (OP.call rfl (x_call (vs := [(.int .i64 a0), (.int .i64 1), (.int .i64 16)]) Tryd_C54 ⟨rfl, rfl, rfl, trivial⟩) (M.spec_l01In_ok _ a0 1 16 hx20) ?_)
   rintro e21 wd22 ⟨rfl, hF23⟩
   refine ⟨_, rfl, ?_⟩
   have hL := hL.pushAll hF23
   simp only [lA, lB, lC, lD] at hL
   refine OV (.bool x19) rfl (x_move) ?_
   refine ifB_elim hm (fun hb24 hm => ?_) (fun hb24 hm => ?_)
   · refine OW.cons (OP.yes' rfl rfl hb24 (OP.val (v := (.int .i64 a0)) rfl (x_move) ?_))
     refine OW.cons (OP.yes' rfl rfl hb24 (OP.val (v := (.agg #[v1])) rfl (x_loadN (cs := [v1]) U24 Tryd_T24 rfl rfl (hL.cellsB 0 rfl (o := 0) (l := [v1]) (by intro j u hj; exact (by simpa using hj)))) ?_))
     obtain ⟨x25, hx26, hm⟩ := bndE hm
     refine OW.cons (OP.yes' rfl rfl hb24 (OP.call rfl (x_call (vs := [(.int .i64 a0), (.agg #[v1])]) Tryd_C63 ⟨rfl, rfl, trivial⟩) (M.spec_l26Race_ok _ a0 a1 (hL.rdS 1 rfl h2) hx26) ?_))
     rintro e27 wd28 ⟨rfl, hF29⟩
     refine ⟨_, rfl, ?_⟩
     have hL := hL.pushAll hF29
     simp only [lA, lB, lC, lD] at hL
     refine OV (.bool x25) rfl (x_pickT' rfl hb24 rfl) ?_
     refine OV (.bool x25) rfl (x_assign) ?_
     refine OW.nil ?_
     exact ⟨x25, hm, ⟨rfl, hL⟩⟩
   refine OW.cons (OP.no' rfl rfl hb24 rfl ?_)
   refine OW.cons (OP.no' rfl rfl hb24 rfl ?_)
   refine OW.cons (OP.no' rfl rfl hb24 rfl ?_)
   refine OV (.bool false) rfl (x_pickF' rfl hb24 rfl) ?_
   refine OV (.bool false) rfl (x_assign) ?_
   refine OW.nil ?_
   exact ⟨false, hm, ⟨rfl, hL⟩⟩
 intro s_j1 F16 wd17 hJ hm
 unfold M.spec_IsRace_j1 at hm
 obtain ⟨f18, hL⟩ := hJ
 refine CW.ret ?_
 obtain rfl := Option.some.inj hm
 exact RR1 rfl f18 ⟨rfl, hL.fresh 1 rfl [] (by decide) (by decide) rfl⟩

theorem M.spec_l26Done_ok (w0 : World) (a0 : Finish) {r : Bool} (hm : M.spec_l26Done a0 = some r) :
    Calls Tryd.prog 44 #[(.agg #[(.int .i64 a0.Boat), (.int .i64 a0.Code), (.int .i64 a0.Time)])] w0 fun e w' => e = .returned (.bool r) ∧ Fresh w0 w' [] := by
 unfold M.spec_l26Done at hm
 refine calls_CW (args := [(.agg #[(.int .i64 a0.Boat), (.int .i64 a0.Code), (.int .i64 a0.Time)])]) Tryd.func44 rfl rfl rfl ?_
 have hL := Hp.start w0
 refine CSR ?_
 refine OW.cons (S_box (cs := #[(.int .i64 a0.Boat), (.int .i64 a0.Code), (.int .i64 a0.Time)]) hL rfl rfl rfl ?_)
 intro wd1 b2 hL
 refine OV (.bool false) rfl (x_assign) ?_
 refine ONR ?_
 refine OV (.pointer (some ⟨b2, 1, none⟩)) rfl (x_fieldAddr (fsz := 1) 0 1 1 U46 rfl Tryd_T2 rfl rfl rfl) ?_
 refine OV (.int .i64 a0.Code) rfl (x_load1 U2 rfl rfl (hL.cellB 0 rfl rfl)) ?_
 refine OV (.bool (a0.Code == 0)) rfl (x_eql rfl rfl) ?_
 refine OV (.bool (a0.Code == 0)) rfl (x_assign) ?_
 refine OW.nil ?_
 refine CW.ret ?_
 obtain rfl := Option.some.inj hm
 exact RR1 rfl rfl ⟨rfl, hL.fresh 1 rfl [] (by decide) (by decide) rfl⟩

theorem M.spec_RaceText_ok (w0 : World) (a0 : Int) (a1 : Race) {v1 : Value} (h2 : rdL (· < w0.heap.size) w0 v1 a1.Finishes) {r : ByteArray} (hm : M.spec_RaceText a0 a1 = some r) :
    Calls Tryd.prog 19 #[(.int .i64 a0), (.agg #[v1])] w0 fun e w' => e = .returned (.string r) ∧ Fresh w0 w' [] := by
 unfold M.spec_RaceText at hm
 refine calls_CW (args := [(.int .i64 a0), (.agg #[v1])]) Tryd.func19 rfl rfl rfl ?_
 have hL := Hp.start w0
 refine CSR ?_
 refine OW.cons (S_box (cs := #[v1]) hL rfl rfl rfl ?_)
 intro wd3 b4 hL
 refine OV (.string (⟨#[]⟩ : ByteArray)) rfl (x_assign) ?_
 refine ONS ?_
 refine CSR ?_
 refine OV (.int .i64 a0) rfl (x_move) ?_
 refine OV (.agg #[v1]) rfl (x_loadN (cs := [v1]) U24 Tryd_T24 rfl rfl (hL.cellsB 0 rfl (o := 0) (l := [v1]) (by intro j u hj; exact (by simpa using hj)))) ?_
 obtain ⟨x5, hx6, hm⟩ := bndE hm
 refine OW.cons (OP.call rfl (x_call (vs := [(.int .i64 a0), (.agg #[v1])]) Tryd_C43 ⟨rfl, rfl, trivial⟩) (M.spec_IsRace_ok _ a0 a1 (hL.rdS 1 rfl h2) hx6) ?_)
 rintro e7 wd8 ⟨rfl, hF9⟩
 refine ⟨_, rfl, ?_⟩
 have hL := hL.pushAll hF9
 simp only [lA, lB, lC, lD] at hL
 refine OV (.bool (!x5)) rfl (x_not rfl) ?_
 refine OW.nil ?_
 refine CW.condM (t := !x5) rfl hm (fun hb10 hm => ?_) (fun hb10 hm => ?_)
 · refine CSR ?_
   refine OV (.string (⟨#[]⟩ : ByteArray)) rfl (x_assign) ?_
   refine OW.nil ?_
   refine CW.ret ?_
   obtain rfl := Option.some.inj hm
   exact RR1 rfl rfl ⟨rfl, hL.fresh 1 rfl [] (by decide) (by decide) rfl⟩
 refine CW.skip ?_
 refine CSR ?_
 refine OV (.string (⟨#[]⟩ : ByteArray)) rfl (x_assign) ?_
 refine ONS ?_
 refine CSR ?_
 refine OV (.int .i64 0) rfl (x_assign) ?_
 refine OW.nil ?_
 obtain ⟨o685, ho686, hm⟩ := bndE hm
 refine CW.loopB (fun (s_l1 : ByteArray × Int) (F : Fr) (w : World) => F 3 = (.pointer (some ⟨b4, 0, none⟩)) ∧ F 5 = (.string s_l1.1) ∧ F 6 = (.int .i64 s_l1.2) ∧ Hp w0 [Ent.blk b4 24 #[v1], Ent.snap w0 w0.heap.size] w) (fun o => outc o (fun x => some x) (fun s => M.spec_RaceText_a1 s) = some r) ho686 hm ⟨rfl, rfl, rfl, hL⟩ ?_ ?_
 · intro s_l1 F687 wd688 hJ hm
   have hm := outcE hm
   have hm : M.spec_RaceText_a1 s_l1 = some r := hm
   unfold M.spec_RaceText_a1 at hm
   obtain ⟨f689, f690, f691, hL⟩ := hJ
   refine CSR ?_
   refine OV (.string s_l1.1) rfl (x_mv f690) ?_
   refine OV (.string s_l1.1) rfl (x_assign) ?_
   refine OW.nil ?_
   refine CW.ret ?_
   obtain rfl := Option.some.inj hm
   exact RR1 rfl rfl ⟨rfl, hL.fresh 1 rfl [] (by decide) (by decide) rfl⟩
 intro s_l1 F692 wd693 t683 hJ hm hr684
 unfold M.spec_RaceText_l1 at hm
 obtain ⟨f694, f695, f696, hL⟩ := hJ
 refine CW.seq ?_
 refine CSR ?_
 refine OV (.int .i64 s_l1.2) rfl (x_mv f696) ?_
 refine OV (.pointer (some ⟨b4, 0, none⟩)) rfl (x_fieldAddr (fsz := 1) 0 0 0 U24 rfl Tryd_T22 rfl f694 rfl) ?_
 refine OV v1 rfl (x_load1 U22 rfl rfl (hL.cellB 0 rfl rfl)) ?_
 refine OV (.int .i64 (a1.Finishes.length : Int)) rfl (x_lenR U22 rfl (hL.rdS 1 rfl h2)) ?_
 refine OV (.bool (decide (s_l1.2 < (a1.Finishes.length : Int)))) rfl (x_lss rfl rfl) ?_
 refine OW.nil ?_
 refine CW.condM (t := decide (s_l1.2 < (a1.Finishes.length : Int))) rfl hm (fun hb697 hm => ?_) (fun hb697 hm => ?_)
 · refine CW.skip ?_
   refine CW.seqJ (fun (s_j1 : ByteArray) (F : Fr) (w : World) => F 3 = (.pointer (some ⟨b4, 0, none⟩)) ∧ F 5 = (.string s_j1) ∧ F 6 = (.int .i64 s_l1.2) ∧ Hp w0 [Ent.blk b4 24 #[v1], Ent.snap w0 w0.heap.size] w) (fun s_j1 => M.spec_RaceText_j1 s_l1 s_j1 = some t683) ?_ ?_
   · refine CW.blockJ (fun (s_j2 : ByteArray) (F : Fr) (w : World) => F 3 = (.pointer (some ⟨b4, 0, none⟩)) ∧ F 5 = (.string s_j2) ∧ F 6 = (.int .i64 s_l1.2) ∧ Hp w0 [Ent.blk b4 24 #[v1], Ent.snap w0 w0.heap.size] w) (fun s_j2 => M.spec_RaceText_j2 s_l1 s_j2 = some t683) ?_ ?_
     · refine CW.seqJ (fun (s_j3 : ByteArray) (F : Fr) (w : World) => F 3 = (.pointer (some ⟨b4, 0, none⟩)) ∧ F 5 = (.string s_j3) ∧ F 6 = (.int .i64 s_l1.2) ∧ Hp w0 [Ent.blk b4 24 #[v1], Ent.snap w0 w0.heap.size] w) (fun s_j3 => M.spec_RaceText_j3 a1 s_l1 s_j3 = some t683) ?_ ?_
       · refine CSR ?_
         refine OV (.int .i64 s_l1.2) rfl (x_mv f696) ?_
         refine OV (.bool (decide (0 < s_l1.2))) rfl (x_gtr rfl rfl) ?_
         refine OW.nil ?_
         refine CW.condM (t := decide (0 < s_l1.2)) rfl hm (fun hb1031 hm => ?_) (fun hb1031 hm => ?_)
         · refine CW.regionL ?_
           refine OV (.string s_l1.1) rfl (x_mv f695) ?_
           obtain ⟨hc1032, hm⟩ := chkE hm
           refine OV (.string (s_l1.1 ++ (⟨#[32]⟩ : ByteArray))) rfl (x_addT rfl rfl hc1032) ?_
           refine OV (.string (s_l1.1 ++ (⟨#[32]⟩ : ByteArray))) rfl (x_assign) ?_
           refine OW.nil ?_
           exact ⟨s_l1.1 ++ (⟨#[32]⟩ : ByteArray), hm, ⟨f694, rfl, f696, hL⟩⟩
         refine CW.skip ?_
         exact ⟨s_l1.1, hm, ⟨f694, f695, f696, hL⟩⟩
       intro s_j3 F955 wd956 hJ hm
       unfold M.spec_RaceText_j3 at hm
       obtain ⟨f957, f958, f959, hL⟩ := hJ
       refine CW.seq ?_
       refine CW.drawH (fun w' => Hp w0 [Ent.blk b4 24 #[v1], Ent.snap w0 w0.heap.size] w') Tryd_mixed ?_
       have hL := hL.call (Mod.drew _)
       have hS := (hL.sel [0, 1] (by decide) rfl)
       refine DH.take 0 rfl (by kernel_rfl) (by kernel_rfl) (by kernel_rfl) rfl rfl hS (YH.val (v := (.string s_j3)) (fun w' hS' => x_mv f958)) ?_
       have hS := (hL.sel [0, 1] (by decide) rfl)
       refine DH.take 2 rfl (by kernel_rfl) (by kernel_rfl) (by kernel_rfl) rfl rfl hS (YH.val (v := (.pointer (some ⟨b4, 0, none⟩))) (fun w' hS' => x_fieldAddr (fsz := 1) 0 0 0 U24 rfl Tryd_T22 rfl f957 rfl)) ?_
       have hS := (hL.sel [0, 1] (by decide) rfl)
       refine DH.take 3 rfl (by kernel_rfl) (by kernel_rfl) (by kernel_rfl) rfl rfl hS (YH.val (v := v1) (fun w' hS' => x_load1 U22 rfl rfl (hS'.cellB 0 rfl rfl))) ?_
       have hS := (hL.sel [0, 1] (by decide) rfl)
       refine DH.take 4 rfl (by kernel_rfl) (by kernel_rfl) (by kernel_rfl) rfl rfl hS (YH.val (v := (.int .i64 s_l1.2)) (fun w' hS' => x_mv f959)) ?_
       have hS := (hL.sel [0, 1] (by decide) rfl)
       obtain ⟨x982, ha983, hm⟩ := bndE hm
       obtain ⟨hz984, ha988⟩ := idxE ha983
       obtain ⟨b985, q986, hix987⟩ := rdL_ix (hL.rdS 1 rfl h2) hz984 ha988
       refine DH.take 5 rfl (by kernel_rfl) (by kernel_rfl) (by kernel_rfl) rfl rfl hS (YH.val (v := (.pointer (some ⟨b985, q986, none⟩))) (fun w' hS' => x_ix U22 Tryd_T46 rfl rfl hix987)) ?_
       have hS := (hL.sel [0, 1] (by decide) rfl)
       refine DH.take 6 rfl (by kernel_rfl) (by kernel_rfl) (by kernel_rfl) rfl rfl hS (YH.val (v := (.pointer (some ⟨b985, q986 + 1, none⟩))) (fun w' hS' => x_fieldAddr (fsz := 1) q986 1 (q986 + 1) U46 rfl Tryd_T2 rfl rfl rfl)) ?_
       have hS := (hL.sel [0, 1] (by decide) rfl)
       refine DH.take 7 rfl (by kernel_rfl) (by kernel_rfl) (by kernel_rfl) rfl rfl hS (YH.val (v := (.int .i64 x982.Code)) (fun w' hS' => x_load1 U2 rfl rfl (rdF_cells (hS'.rdS 1 rfl h2) hix987 ha988 1 _ rfl))) ?_
       obtain ⟨x989, hx990, hm⟩ := bndE hm
       refine DH.only 1 rfl (by kernel_rfl) (OP.call rfl (x_call (vs := []) Tryd_C23 trivial) (M.spec_l26Words_ok _  hx990) ?_)
       rintro e993 wd994 ⟨v992, S991, rfl, hF995⟩
       refine ⟨_, rfl, ?_⟩
       have hL := hL.pushAll hF995
       simp only [lA, lB, lC, lD] at hL
       refine ⟨(hL.sel [1, 2] (by decide) rfl), ?_⟩
       have hS := (hL.sel [1, 2] (by decide) rfl)
       obtain ⟨x996, ha997, hm⟩ := bndE hm
       obtain ⟨hz998, ha1002⟩ := idxE ha997
       obtain ⟨b999, q1000, hix1001⟩ := rdL_ix (hL.rdO 0 rfl) hz998 ha1002
       refine DH.take 8 rfl (by kernel_rfl) (by kernel_rfl) (by kernel_rfl) rfl rfl hS (YH.val (v := (.pointer (some ⟨b999, q1000, none⟩))) (fun w' hS' => x_ix U43 Tryd_T9 rfl rfl hix1001)) ?_
       refine DH.only 9 rfl (by kernel_rfl) (OP.val (v := (.string x996)) rfl (x_load1 U9 rfl rfl (rdF_cells (hL.rdO 0 rfl) hix1001 ha1002 0 _ rfl)) ?_)
       refine ⟨(hL.sel [1, 2] (by decide) rfl), ?_⟩
       have hS := (hL.sel [1, 2] (by decide) rfl)
       obtain ⟨hc1003, hm⟩ := chkE hm
       refine DH.take 10 rfl (by kernel_rfl) (by kernel_rfl) (by kernel_rfl) rfl rfl hS (YH.val (v := (.string (s_j3 ++ x996))) (fun w' hS' => x_addT rfl rfl hc1003)) ?_
       have hS := (hL.sel [1, 2] (by decide) rfl)
       refine DH.take 11 rfl (by kernel_rfl) (by kernel_rfl) (by kernel_rfl) rfl rfl hS (YH.val (v := (.string (s_j3 ++ x996))) (fun w' hS' => x_assign)) ?_
       refine DH.done (by kernel_rfl) ?_
       refine CSR ?_
       refine OV (.pointer (some ⟨b4, 0, none⟩)) rfl (x_fieldAddr (fsz := 1) 0 0 0 U24 rfl Tryd_T22 rfl f957 rfl) ?_
       refine OV v1 rfl (x_load1 U22 rfl rfl (hL.cellB 1 rfl rfl)) ?_
       refine OV (.int .i64 s_l1.2) rfl (x_mv f959) ?_
       obtain ⟨x1004, ha1005, hm⟩ := bndE hm
       obtain ⟨hz1006, ha1010⟩ := idxE ha1005
       obtain ⟨b1007, q1008, hix1009⟩ := rdL_ix (hL.rdS 2 rfl h2) hz1006 ha1010
       refine OV (.pointer (some ⟨b1007, q1008, none⟩)) rfl (x_ix U22 Tryd_T46 rfl rfl hix1009) ?_
       refine OV (.agg #[(.int .i64 x1004.Boat), (.int .i64 x1004.Code), (.int .i64 x1004.Time)]) rfl (x_loadN (cs := [(.int .i64 x1004.Boat), (.int .i64 x1004.Code), (.int .i64 x1004.Time)]) U46 Tryd_T46 rfl rfl (rdF_cells (hL.rdS 2 rfl h2) hix1009 ha1010)) ?_
       obtain ⟨x1011, hx1012, hm⟩ := bndE hm
       refine OW.cons (OP.call rfl (x_call (vs := [(.agg #[(.int .i64 x1004.Boat), (.int .i64 x1004.Code), (.int .i64 x1004.Time)])]) Tryd_C44 ⟨rfl, trivial⟩) (M.spec_l26Done_ok _ x1004 hx1012) ?_)
       rintro e1013 wd1014 ⟨rfl, hF1015⟩
       refine ⟨_, rfl, ?_⟩
       have hL := hL.pushAll hF1015
       simp only [lA, lB, lC, lD] at hL
       refine OW.nil ?_
       refine CW.condM (t := x1011) rfl hm (fun hb1016 hm => ?_) (fun hb1016 hm => ?_)
       · refine CW.regionL ?_
         refine OV (.string (s_j3 ++ x996)) rfl (x_move) ?_
         obtain ⟨hc1017, hm⟩ := chkE hm
         refine OV (.string ((s_j3 ++ x996) ++ (⟨#[61]⟩ : ByteArray))) rfl (x_addT rfl rfl hc1017) ?_
         refine OV (.pointer (some ⟨b4, 0, none⟩)) rfl (x_fieldAddr (fsz := 1) 0 0 0 U24 rfl Tryd_T22 rfl f957 rfl) ?_
         refine OV v1 rfl (x_load1 U22 rfl rfl (hL.cellB 1 rfl rfl)) ?_
         refine OV (.int .i64 s_l1.2) rfl (x_mv f959) ?_
         obtain ⟨x1018, ha1019, hm⟩ := bndE hm
         obtain ⟨hz1020, ha1024⟩ := idxE ha1019
         obtain ⟨b1021, q1022, hix1023⟩ := rdL_ix (hL.rdS 2 rfl h2) hz1020 ha1024
         refine OV (.pointer (some ⟨b1021, q1022, none⟩)) rfl (x_ix U22 Tryd_T46 rfl rfl hix1023) ?_
         refine OV (.pointer (some ⟨b1021, q1022 + 2, none⟩)) rfl (x_fieldAddr (fsz := 1) q1022 2 (q1022 + 2) U46 rfl Tryd_T2 rfl rfl rfl) ?_
         refine OV (.int .i64 x1018.Time) rfl (x_load1 U2 rfl rfl (rdF_cells (hL.rdS 2 rfl h2) hix1023 ha1024 2 _ rfl)) ?_
         obtain ⟨x1025, hx1026, hm⟩ := bndE hm
         refine OW.cons (OP.call rfl (x_call (vs := [(.int .i64 x1018.Time)]) Tryd_C45 ⟨rfl, trivial⟩) (M.spec_l26Number_ok _ x1018.Time hx1026) ?_)
         rintro e1027 wd1028 ⟨rfl, hF1029⟩
         refine ⟨_, rfl, ?_⟩
         have hL := hL.pushAll hF1029
         simp only [lA, lB, lC, lD] at hL
         obtain ⟨hc1030, hm⟩ := chkE hm
         refine OV (.string (((s_j3 ++ x996) ++ (⟨#[61]⟩ : ByteArray)) ++ x1025)) rfl (x_addT rfl rfl hc1030) ?_
         refine OV (.string (((s_j3 ++ x996) ++ (⟨#[61]⟩ : ByteArray)) ++ x1025)) rfl (x_assign) ?_
         refine OW.nil ?_
         have hL := hL.sel [1, 2] (by decide) rfl
         exact ⟨((s_j3 ++ x996) ++ (⟨#[61]⟩ : ByteArray)) ++ x1025, hm, ⟨f957, rfl, f959, hL⟩⟩
       refine CW.skip ?_
       have hL := hL.sel [1, 2] (by decide) rfl
       exact ⟨s_j3 ++ x996, hm, ⟨f957, rfl, f959, hL⟩⟩
     intro s_j2 F948 wd949 hJ hm
     unfold M.spec_RaceText_j2 at hm
     obtain ⟨f950, f951, f952, hL⟩ := hJ
     exact ⟨s_j2, hm, ⟨f950, f951, f952, hL⟩⟩
   intro s_j1 F863 wd864 hJ hm
   unfold M.spec_RaceText_j1 at hm
   obtain ⟨f865, f866, f867, hL⟩ := hJ
   refine CW.regionL ?_
   refine OV (.int .i64 s_l1.2) rfl (x_mv f867) ?_
   refine OV (.int .i64 (w64 (s_l1.2 + 1))) rfl (x_add rfl rfl) ?_
   refine OV (.int .i64 (w64 (s_l1.2 + 1))) rfl (x_assign) ?_
   refine OW.nil ?_
   obtain rfl := Option.some.inj hm
   exact ⟨_, rfl, ⟨f865, f866, rfl, hL⟩⟩
 refine CW.exit ?_
 refine XJ.hit ?_
 obtain rfl := Option.some.inj hm
 exact ⟨_, rfl, ⟨f694, f695, f696, hL⟩⟩

theorem M.spec_ReadRace_ok (w0 : World) (a0 : Int) (a1 : ByteArray) {r : Race × Bool} (hm : M.spec_ReadRace a0 a1 = some r) :
    Calls Tryd.prog 6 #[(.int .i64 a0), (.string a1)] w0 fun e w' => ∃ (rv0 : Value) (rS0 : Nat → Prop), e = .returned (.tuple #[(.agg #[rv0]), (.bool r.2)]) ∧ Fresh w0 w' [Ent.own 46 rS0 rv0 r.1.Finishes] := by
 unfold M.spec_ReadRace at hm
 refine calls_CW (args := [(.int .i64 a0), (.string a1)]) Tryd.func6 rfl rfl rfl ?_
 have hL := Hp.start w0
 refine CSR ?_
 refine OW.cons (S_alloc (cs := #[(.slice none 0 0)]) hL Tryd_T24 rfl rfl ?_)
 intro wd1 b2 hL
 refine OV (.bool false) rfl (x_assign) ?_
 refine ONS ?_
 refine CW.seqJ (fun (s_j1 : Bool) (F : Fr) (w : World) => F 0 = (.int .i64 a0) ∧ F 1 = (.string a1) ∧ F 4 = (.pointer (some ⟨b2, 0, none⟩)) ∧ F 18 = (.bool s_j1) ∧ Hp w0 [Ent.blk b2 24 #[(.slice none 0 0)], Ent.snap w0 w0.heap.size] w) (fun s_j1 => M.spec_ReadRace_j1 a0 a1 s_j1 = some r) ?_ ?_
 · refine CW.regionL ?_
   refine OV (.string a1) rfl (x_move) ?_
   refine OV (.int .i64 (a1.size : Int)) rfl (x_lens U9 rfl) ?_
   refine OV (.bool (decide (300 < (a1.size : Int)))) rfl (x_gtr rfl rfl) ?_
   refine OV (.bool (decide (300 < (a1.size : Int)))) rfl (x_move) ?_
   refine ifB_elim hm (fun hb2184 hm => ?_) (fun hb2184 hm => ?_)
   · refine OW.cons (OP.no' rfl rfl hb2184 rfl ?_)
     refine OW.cons (OP.no' rfl rfl hb2184 rfl ?_)
     refine OV (.bool true) rfl (x_pickT' rfl hb2184 rfl) ?_
     refine OW.nil ?_
     exact ⟨true, hm, ⟨rfl, rfl, rfl, rfl, hL⟩⟩
   refine OW.cons (OP.yes' rfl rfl hb2184 (OP.val (v := (.string a1)) rfl (x_move) ?_))
   refine OW.cons (OP.yes' rfl rfl hb2184 (OP.val (v := (.bool (sEq a1 (⟨#[]⟩ : ByteArray)))) rfl (x_eqlT rfl rfl) ?_))
   refine OV (.bool (sEq a1 (⟨#[]⟩ : ByteArray))) rfl (x_pickF' rfl hb2184 rfl) ?_
   refine OW.nil ?_
   exact ⟨sEq a1 (⟨#[]⟩ : ByteArray), hm, ⟨rfl, rfl, rfl, rfl, hL⟩⟩
 intro s_j1 F4 wd5 hJ hm
 unfold M.spec_ReadRace_j1 at hm
 obtain ⟨f6, f7, f8, f9, hL⟩ := hJ
 refine CW.condM (t := s_j1) f9 hm (fun hb10 hm => ?_) (fun hb10 hm => ?_)
 · refine CSR ?_
   refine OV (.agg #[(.slice none 0 0)]) rfl (x_build Tryd_B24 (ps := []) trivial (by simp [Instr.fill, cells_int, cells_bool, cells_string, cells_agg, cells_slice, cells_pointer])) ?_
   refine OW.cons (S_storeN (l := [(.slice none 0 0)]) (cs' := #[(.slice none 0 0)]) hL 0 rfl Tryd_T24 f8 rfl (List.forall_mem_cons.2 ⟨rfl, (fun _ h => by cases h)⟩) rfl (Nat.le_of_ble_eq_true rfl) rfl ?_)
   intro wd11 hL
   refine OV (.bool false) rfl (x_assign) ?_
   refine OW.nil ?_
   refine CW.ret ?_
   have hL := hL.pushNil Finish 46
   obtain rfl := Option.some.inj hm
   exact RRct rfl f8 (run_loadBlk U24 Tryd_T24 (hL.get 1 rfl) rfl) rfl ⟨(.slice none 0 0), None_, rfl, hL.fresh 2 rfl [0] (by decide) (by decide) rfl⟩
 refine CW.skip ?_
 refine CSR ?_
 refine OW.cons (S_lit ([] : List Finish) hL U22 Tryd_T46 rfl (by decide) (by first | (simp [Instr.fill, madeCells, Value.cells, ev, upd, Flat.enc, Flat.sz]; done) | rfl | kernel_rfl) rfl rfl ?_)
 intro wd12 v13 S14 hL
 refine OV v13 rfl (x_assign) ?_
 refine ONR ?_
 refine OV (.string a1) rfl (x_mv f7) ?_
 obtain ⟨x15, hx16, hm⟩ := bndE hm
 refine OW.cons (OP.call rfl (x_call (vs := [(.string a1), (.int .u8 32)]) Tryd_C22 ⟨rfl, rfl, trivial⟩) (M.spec_l26Split_ok _ a1 32 hx16) ?_)
 rintro e19 wd20 ⟨v18, S17, rfl, hF21⟩
 refine ⟨_, rfl, ?_⟩
 have hL := hL.pushAll hF21
 simp only [lA, lB, lC, lD] at hL
 refine OV v18 rfl (x_assign) ?_
 refine ONS ?_
 refine CSR ?_
 refine OV (.int .i64 0) rfl (x_assign) ?_
 refine OW.nil ?_
 obtain ⟨o1446, ho1447, hm⟩ := bndE hm
 have hL := hL.sel [1, 0, 2, 3] (by decide) rfl
 refine CW.loopB (fun (s_l1 : (List Finish) × Int) (F : Fr) (w : World) => ∃ (v1442 : Value) (S1443 : Nat → Prop), F 0 = (.int .i64 a0) ∧ F 1 = (.string a1) ∧ F 4 = (.pointer (some ⟨b2, 0, none⟩)) ∧ F 6 = v1442 ∧ F 7 = v18 ∧ F 8 = (.int .i64 s_l1.2) ∧ Hp w0 [Ent.own 46 S1443 v1442 s_l1.1, Ent.own 9 S17 v18 x15, Ent.blk b2 24 #[(.slice none 0 0)], Ent.snap w0 w0.heap.size] w) (fun o => outc o (fun x => some x) (fun s => M.spec_ReadRace_a1 a0 a1 s) = some r) ho1447 hm ⟨v13, S14, f6, f7, f8, rfl, rfl, rfl, hL⟩ ?_ ?_
 · intro s_l1 F1448 wd1449 hJ hm
   have hm := outcE hm
   have hm : M.spec_ReadRace_a1 a0 a1 s_l1 = some r := hm
   unfold M.spec_ReadRace_a1 at hm
   obtain ⟨v1442, S1443, f1450, f1451, f1452, f1453, f1454, f1455, hL⟩ := hJ
   refine CSR ?_
   refine OV v1442 rfl (x_mv f1453) ?_
   refine OV (.agg #[v1442]) rfl (x_build Tryd_B24 (ps := [(0, v1442)]) ⟨⟨rfl, rfl⟩, trivial⟩ (by simp [Instr.fill, cells_int, cells_bool, cells_string, cells_agg, cells_slice, cells_pointer, (rdL_cells (hL.rdO 0 rfl))])) ?_
   refine OW.cons (S_alloc (cs := #[(.slice none 0 0)]) hL Tryd_T24 rfl rfl ?_)
   intro wd1456 b1457 hL
   refine OW.cons (S_storeN (l := [v1442]) (cs' := #[v1442]) hL 0 rfl Tryd_T24 rfl rfl (List.forall_mem_cons.2 ⟨rdL_one (hL.rdO 1 rfl), (fun _ h => by cases h)⟩) rfl (Nat.le_of_ble_eq_true rfl) rfl ?_)
   intro wd1458 hL
   refine ONS ?_
   refine CSR ?_
   refine OV (.int .i64 a0) rfl (x_mv f1450) ?_
   refine OV (.agg #[v1442]) rfl (x_loadN (cs := [v1442]) U24 Tryd_T24 rfl rfl (hL.cellsB 0 rfl (o := 0) (l := [v1442]) (by intro j u hj; exact (by simpa using hj)))) ?_
   obtain ⟨x1459, hx1460, hm⟩ := bndE hm
   refine OW.cons (OP.call rfl (x_call (vs := [(.int .i64 a0), (.agg #[v1442])]) Tryd_C19 ⟨rfl, rfl, trivial⟩) (M.spec_RaceText_ok _ a0 (Race.mk s_l1.1) (hL.rdO 1 rfl) hx1460) ?_)
   rintro e1461 wd1462 ⟨rfl, hF1463⟩
   refine ⟨_, rfl, ?_⟩
   have hL := hL.pushAll hF1463
   simp only [lA, lB, lC, lD] at hL
   refine OV (.string a1) rfl (x_mv f1451) ?_
   refine OV (.bool (!(sEq x1459 a1))) rfl (x_neqT rfl rfl) ?_
   refine OW.nil ?_
   refine CW.condM (t := !(sEq x1459 a1)) rfl hm (fun hb1464 hm => ?_) (fun hb1464 hm => ?_)
   · refine CSR ?_
     refine OV (.agg #[(.slice none 0 0)]) rfl (x_build Tryd_B24 (ps := []) trivial (by simp [Instr.fill, cells_int, cells_bool, cells_string, cells_agg, cells_slice, cells_pointer])) ?_
     refine OW.cons (S_storeN (l := [(.slice none 0 0)]) (cs' := #[(.slice none 0 0)]) hL 3 rfl Tryd_T24 f1452 rfl (List.forall_mem_cons.2 ⟨rfl, (fun _ h => by cases h)⟩) rfl (Nat.le_of_ble_eq_true rfl) rfl ?_)
     intro wd1465 hL
     refine OV (.bool false) rfl (x_assign) ?_
     refine OW.nil ?_
     refine CW.ret ?_
     have hL := hL.pushNil Finish 46
     obtain rfl := Option.some.inj hm
     exact RRct rfl f1452 (run_loadBlk U24 Tryd_T24 (hL.get 4 rfl) rfl) rfl ⟨(.slice none 0 0), None_, rfl, hL.fresh 5 rfl [0] (by decide) (by decide) rfl⟩
   refine CW.skip ?_
   refine CSR ?_
   refine OV (.agg #[v1442]) rfl (x_loadN (cs := [v1442]) U24 Tryd_T24 rfl rfl (hL.cellsB 0 rfl (o := 0) (l := [v1442]) (by intro j u hj; exact (by simpa using hj)))) ?_
   refine OW.cons (S_storeN (l := [v1442]) (cs' := #[v1442]) hL 3 rfl Tryd_T24 f1452 rfl (List.forall_mem_cons.2 ⟨rdL_one (hL.rdO 1 rfl), (fun _ h => by cases h)⟩) rfl (Nat.le_of_ble_eq_true rfl) rfl ?_)
   intro wd1466 hL
   refine OV (.bool true) rfl (x_assign) ?_
   refine OW.nil ?_
   refine CW.ret ?_
   obtain rfl := Option.some.inj hm
   exact RRct rfl f1452 (run_loadBlk U24 Tryd_T24 (hL.get 3 rfl) rfl) rfl ⟨v1442, S1443, rfl, hL.fresh 4 rfl [1] (by decide) (by decide) rfl⟩
 intro s_l1 F1467 wd1468 t1444 hJ hm hr1445
 unfold M.spec_ReadRace_l1 at hm
 obtain ⟨v1442, S1443, f1469, f1470, f1471, f1472, f1473, f1474, hL⟩ := hJ
 refine CW.seq ?_
 refine CSR ?_
 refine OV (.int .i64 s_l1.2) rfl (x_mv f1474) ?_
 refine OV v18 rfl (x_mv f1473) ?_
 refine OV (.int .i64 (x15.length : Int)) rfl (x_lenR U43 rfl (hL.rdO 1 rfl)) ?_
 refine OV (.bool (decide (s_l1.2 < (x15.length : Int)))) rfl (x_lss rfl rfl) ?_
 refine OW.nil ?_
 refine CW.condM (t := decide (s_l1.2 < (x15.length : Int))) rfl hm (fun hb1475 hm => ?_) (fun hb1475 hm => ?_)
 · refine CW.skip ?_
   refine CW.seq ?_
   refine CW.block ?_
   refine CSR ?_
   refine OV (.int .i64 s_l1.2) rfl (x_mv f1474) ?_
   refine OV (.agg #[(.int .i64 s_l1.2), (.int .i64 0), (.int .i64 0)]) rfl (x_build Tryd_B46 (ps := [(0, (.int .i64 s_l1.2))]) ⟨⟨rfl, rfl⟩, trivial⟩ (by simp [Instr.fill, cells_int, cells_bool, cells_string, cells_agg, cells_slice, cells_pointer])) ?_
   refine OW.cons (S_alloc (cs := #[(.int .i64 0), (.int .i64 0), (.int .i64 0)]) hL Tryd_T46 rfl rfl ?_)
   intro wd1476 b1477 hL
   refine OW.cons (S_storeN (l := [(.int .i64 s_l1.2), (.int .i64 0), (.int .i64 0)]) (cs' := #[(.int .i64 s_l1.2), (.int .i64 0), (.int .i64 0)]) hL 0 rfl Tryd_T46 rfl rfl (List.forall_mem_cons.2 ⟨rfl, (List.forall_mem_cons.2 ⟨rfl, (List.forall_mem_cons.2 ⟨rfl, (fun _ h => by cases h)⟩)⟩)⟩) rfl (Nat.le_of_ble_eq_true rfl) rfl ?_)
   intro wd1478 hL
   refine ONS ?_
   refine CSR ?_
   refine OV (.int .i64 1) rfl (x_assign) ?_
   refine OW.nil ?_
   obtain ⟨o1895, ho1896, hm⟩ := bndE hm
   refine CW.loopB (fun (s_l2 : Int × Int) (F : Fr) (w : World) => F 0 = (.int .i64 a0) ∧ F 1 = (.string a1) ∧ F 4 = (.pointer (some ⟨b2, 0, none⟩)) ∧ F 6 = v1442 ∧ F 7 = v18 ∧ F 8 = (.int .i64 s_l1.2) ∧ F 9 = (.pointer (some ⟨b1477, 0, none⟩)) ∧ F 10 = (.int .i64 s_l2.2) ∧ Hp w0 [Ent.blk b1477 46 #[(.int .i64 s_l1.2), (.int .i64 s_l2.1), (.int .i64 0)], Ent.own 46 S1443 v1442 s_l1.1, Ent.own 9 S17 v18 x15, Ent.blk b2 24 #[(.slice none 0 0)], Ent.snap w0 w0.heap.size] w) (fun o => outc o (fun x => some (.ret x)) (fun s => M.spec_ReadRace_a2 x15 s_l1 s) = some t1444) ho1896 hm ⟨f1469, f1470, f1471, f1472, f1473, f1474, rfl, rfl, hL⟩ ?_ ?_
   · intro s_l2 F1897 wd1898 hJ hm
     have hm := outcE hm
     have hm : M.spec_ReadRace_a2 x15 s_l1 s_l2 = some t1444 := hm
     unfold M.spec_ReadRace_a2 at hm
     obtain ⟨f1899, f1900, f1901, f1902, f1903, f1904, f1905, f1906, hL⟩ := hJ
     refine CW.seqJ (fun (s_j2 : Int) (F : Fr) (w : World) => F 0 = (.int .i64 a0) ∧ F 1 = (.string a1) ∧ F 4 = (.pointer (some ⟨b2, 0, none⟩)) ∧ F 6 = v1442 ∧ F 7 = v18 ∧ F 8 = (.int .i64 s_l1.2) ∧ F 9 = (.pointer (some ⟨b1477, 0, none⟩)) ∧ Hp w0 [Ent.blk b1477 46 #[(.int .i64 s_l1.2), (.int .i64 s_l2.1), (.int .i64 s_j2)], Ent.own 46 S1443 v1442 s_l1.1, Ent.own 9 S17 v18 x15, Ent.blk b2 24 #[(.slice none 0 0)], Ent.snap w0 w0.heap.size] w) (fun s_j2 => M.spec_ReadRace_j2 s_l1 s_l2 s_j2 = some t1444) ?_ ?_
     · refine CSR ?_
       refine OV v18 rfl (x_mv f1903) ?_
       refine OV (.int .i64 s_l1.2) rfl (x_mv f1904) ?_
       obtain ⟨x1945, ha1946, hm⟩ := bndE hm
       obtain ⟨hz1947, ha1951⟩ := idxE ha1946
       obtain ⟨b1948, q1949, hix1950⟩ := rdL_ix (hL.rdO 2 rfl) hz1947 ha1951
       refine OV (.pointer (some ⟨b1948, q1949, none⟩)) rfl (x_ix U43 Tryd_T9 rfl rfl hix1950) ?_
       refine OV (.string x1945) rfl (x_load1 U9 rfl rfl (rdF_cells (hL.rdO 2 rfl) hix1950 ha1951 0 _ rfl)) ?_
       refine OV (.int .i64 (x1945.size : Int)) rfl (x_lens U9 rfl) ?_
       refine OV (.bool (decide (4 < (x1945.size : Int)))) rfl (x_gtr rfl rfl) ?_
       refine OW.nil ?_
       refine CW.condM (t := decide (4 < (x1945.size : Int))) rfl hm (fun hb1952 hm => ?_) (fun hb1952 hm => ?_)
       · refine CW.regionL ?_
         refine OV v18 rfl (x_mv f1903) ?_
         refine OV (.int .i64 s_l1.2) rfl (x_mv f1904) ?_
         obtain ⟨x1953, ha1954, hm⟩ := bndE hm
         obtain ⟨hz1955, ha1959⟩ := idxE ha1954
         obtain ⟨b1956, q1957, hix1958⟩ := rdL_ix (hL.rdO 2 rfl) hz1955 ha1959
         refine OV (.pointer (some ⟨b1956, q1957, none⟩)) rfl (x_ix U43 Tryd_T9 rfl rfl hix1958) ?_
         refine OV (.string x1953) rfl (x_load1 U9 rfl rfl (rdF_cells (hL.rdO 2 rfl) hix1958 ha1959 0 _ rfl)) ?_
         obtain ⟨hc1960, hm⟩ := chkE hm
         refine OV (.string (subB x1953 4 (x1953.size : Int))) rfl (x_sliceT1 U9 rfl rfl hc1960) ?_
         obtain ⟨x1961, hx1962, hm⟩ := bndE hm
         refine OW.cons (OP.call rfl (x_call (vs := [(.string (subB x1953 4 (x1953.size : Int)))]) Tryd_C24 ⟨rfl, trivial⟩) (M.spec_l26Read_ok _ (subB x1953 4 (x1953.size : Int)) hx1962) ?_)
         rintro e1963 wd1964 ⟨rfl, hF1965⟩
         refine ⟨_, rfl, ?_⟩
         have hL := hL.pushAll hF1965
         simp only [lA, lB, lC, lD] at hL
         refine OV (.pointer (some ⟨b1477, 2, none⟩)) rfl (x_fieldAddr (fsz := 1) 0 2 2 U46 rfl Tryd_T2 rfl f1905 rfl) ?_
         refine OW.cons (S_store (cs' := #[(.int .i64 s_l1.2), (.int .i64 s_l2.1), (.int .i64 x1961)]) hL 0 rfl Tryd_T2 rfl rfl rfl rfl rfl ?_)
         intro wd1966 hL
         refine OW.nil ?_
         exact ⟨x1961, hm, ⟨f1899, f1900, f1901, f1902, f1903, f1904, f1905, hL⟩⟩
       refine CW.skip ?_
       exact ⟨0, hm, ⟨f1899, f1900, f1901, f1902, f1903, f1904, f1905, hL⟩⟩
     intro s_j2 F1929 wd1930 hJ hm
     unfold M.spec_ReadRace_j2 at hm
     obtain ⟨f1931, f1932, f1933, f1934, f1935, f1936, f1937, hL⟩ := hJ
     refine CW.regionL ?_
     refine OV v1442 rfl (x_mv f1934) ?_
     refine OV (.agg #[(.int .i64 s_l1.2), (.int .i64 s_l2.1), (.int .i64 s_j2)]) rfl (x_loadN (cs := [(.int .i64 s_l1.2), (.int .i64 s_l2.1), (.int .i64 s_j2)]) U46 Tryd_T46 rfl f1937 (hL.cellsB 0 rfl (o := 0) (l := [(.int .i64 s_l1.2), (.int .i64 s_l2.1), (.int .i64 s_j2)]) (by intro j u hj; exact (by simpa using hj)))) ?_
     refine OW.cons (S_lit ([(Finish.mk s_l1.2 s_l2.1 s_j2)] : List Finish) hL U22 Tryd_T46 rfl (by decide) (by first | (simp [Instr.fill, madeCells, Value.cells, ev, upd, Flat.enc, Flat.sz]; done) | rfl | kernel_rfl) rfl rfl ?_)
     intro wd1938 v1939 S1940 hL
     obtain ⟨hc1944, hm⟩ := chkE hm
     refine OW.cons (S_append (ys := ([(Finish.mk s_l1.2 s_l2.1 s_j2)] : List Finish)) hL 2 rfl U22 Tryd_T46 rfl rfl rfl (hL.rdO 0 rfl) hc1944 (by decide) rfl ?_)
     intro wd1941 v1942 S1943 hL
     refine OV v1942 rfl (x_assign) ?_
     refine OW.nil ?_
     refine CW.regionL ?_
     refine OV (.int .i64 s_l1.2) rfl (x_mv f1936) ?_
     refine OV (.int .i64 (w64 (s_l1.2 + 1))) rfl (x_add rfl rfl) ?_
     refine OV (.int .i64 (w64 (s_l1.2 + 1))) rfl (x_assign) ?_
     refine OW.nil ?_
     have hL := hL.sel [2, 3, 4, 5] (by decide) rfl
     obtain rfl := Option.some.inj hm
     exact ⟨_, rfl, ⟨v1942, S1943, f1931, f1932, f1933, rfl, f1935, rfl, hL⟩⟩
   intro s_l2 F1967 wd1968 t1893 hJ hm hr1894
   unfold M.spec_ReadRace_l2 at hm
   obtain ⟨f1969, f1970, f1971, f1972, f1973, f1974, f1975, f1976, hL⟩ := hJ
   refine CW.seq ?_
   refine CSR ?_
   refine OV (.int .i64 s_l2.2) rfl (x_mv f1976) ?_
   refine OV (.bool (decide (s_l2.2 < 10))) rfl (x_lss rfl rfl) ?_
   refine OW.nil ?_
   refine CW.condM (t := decide (s_l2.2 < 10)) rfl hm (fun hb1977 hm => ?_) (fun hb1977 hm => ?_)
   · refine CW.skip ?_
     refine CW.seqJ (fun (s_j3 : Int) (F : Fr) (w : World) => F 0 = (.int .i64 a0) ∧ F 1 = (.string a1) ∧ F 4 = (.pointer (some ⟨b2, 0, none⟩)) ∧ F 6 = v1442 ∧ F 7 = v18 ∧ F 8 = (.int .i64 s_l1.2) ∧ F 9 = (.pointer (some ⟨b1477, 0, none⟩)) ∧ F 10 = (.int .i64 s_l2.2) ∧ Hp w0 [Ent.blk b1477 46 #[(.int .i64 s_l1.2), (.int .i64 s_j3), (.int .i64 0)], Ent.own 46 S1443 v1442 s_l1.1, Ent.own 9 S17 v18 x15, Ent.blk b2 24 #[(.slice none 0 0)], Ent.snap w0 w0.heap.size] w) (fun s_j3 => M.spec_ReadRace_j3 s_l2 s_j3 = some t1893) ?_ ?_
     · refine CW.blockJ (fun (s_j4 : Int) (F : Fr) (w : World) => F 0 = (.int .i64 a0) ∧ F 1 = (.string a1) ∧ F 4 = (.pointer (some ⟨b2, 0, none⟩)) ∧ F 6 = v1442 ∧ F 7 = v18 ∧ F 8 = (.int .i64 s_l1.2) ∧ F 9 = (.pointer (some ⟨b1477, 0, none⟩)) ∧ F 10 = (.int .i64 s_l2.2) ∧ Hp w0 [Ent.blk b1477 46 #[(.int .i64 s_l1.2), (.int .i64 s_j4), (.int .i64 0)], Ent.own 46 S1443 v1442 s_l1.1, Ent.own 9 S17 v18 x15, Ent.blk b2 24 #[(.slice none 0 0)], Ent.snap w0 w0.heap.size] w) (fun s_j4 => M.spec_ReadRace_j4 s_l2 s_j4 = some t1893) ?_ ?_
       · refine CW.seq ?_
         refine CW.drawH (fun w' => Hp w0 [Ent.blk b1477 46 #[(.int .i64 s_l1.2), (.int .i64 s_l2.1), (.int .i64 0)], Ent.own 46 S1443 v1442 s_l1.1, Ent.own 9 S17 v18 x15, Ent.blk b2 24 #[(.slice none 0 0)], Ent.snap w0 w0.heap.size] w') Tryd_mixed ?_
         have hL := hL.call (Mod.drew _)
         have hS := (hL.sel [0, 1, 2, 3, 4] (by decide) rfl)
         refine DH.take 1 rfl (by kernel_rfl) (by kernel_rfl) (by kernel_rfl) rfl rfl hS (YH.val (v := (.int .i64 s_l2.2)) (fun w' hS' => x_mv f1976)) ?_
         have hS := (hL.sel [0, 1, 2, 3, 4] (by decide) rfl)
         refine DH.take 4 rfl (by kernel_rfl) (by kernel_rfl) (by kernel_rfl) rfl rfl hS (YH.val (v := v18) (fun w' hS' => x_mv f1973)) ?_
         have hS := (hL.sel [0, 1, 2, 3, 4] (by decide) rfl)
         refine DH.take 5 rfl (by kernel_rfl) (by kernel_rfl) (by kernel_rfl) rfl rfl hS (YH.val (v := (.int .i64 s_l1.2)) (fun w' hS' => x_mv f1974)) ?_
         have hS := (hL.sel [0, 1, 2, 3, 4] (by decide) rfl)
         obtain ⟨x2161, ha2162, hm⟩ := bndE hm
         obtain ⟨hz2163, ha2167⟩ := idxE ha2162
         obtain ⟨b2164, q2165, hix2166⟩ := rdL_ix (hL.rdO 2 rfl) hz2163 ha2167
         refine DH.take 6 rfl (by kernel_rfl) (by kernel_rfl) (by kernel_rfl) rfl rfl hS (YH.val (v := (.pointer (some ⟨b2164, q2165, none⟩))) (fun w' hS' => x_ix U43 Tryd_T9 rfl rfl hix2166)) ?_
         have hS := (hL.sel [0, 1, 2, 3, 4] (by decide) rfl)
         refine DH.take 7 rfl (by kernel_rfl) (by kernel_rfl) (by kernel_rfl) rfl rfl hS (YH.val (v := (.string x2161)) (fun w' hS' => x_load1 U9 rfl rfl (rdF_cells (hS'.rdO 2 rfl) hix2166 ha2167 0 _ rfl))) ?_
         obtain ⟨x2168, hx2169, hm⟩ := bndE hm
         refine DH.only 0 rfl (by kernel_rfl) (OP.call rfl (x_call (vs := []) Tryd_C23 trivial) (M.spec_l26Words_ok _  hx2169) ?_)
         rintro e2172 wd2173 ⟨v2171, S2170, rfl, hF2174⟩
         refine ⟨_, rfl, ?_⟩
         have hL := hL.pushAll hF2174
         simp only [lA, lB, lC, lD] at hL
         refine ⟨(hL.sel [1, 2, 3, 4, 5] (by decide) rfl), ?_⟩
         have hS := (hL.sel [1, 2, 3, 4, 5] (by decide) rfl)
         obtain ⟨x2175, ha2176, hm⟩ := bndE hm
         obtain ⟨hz2177, ha2181⟩ := idxE ha2176
         obtain ⟨b2178, q2179, hix2180⟩ := rdL_ix (hL.rdO 0 rfl) hz2177 ha2181
         refine DH.take 2 rfl (by kernel_rfl) (by kernel_rfl) (by kernel_rfl) rfl rfl hS (YH.val (v := (.pointer (some ⟨b2178, q2179, none⟩))) (fun w' hS' => x_ix U43 Tryd_T9 rfl rfl hix2180)) ?_
         refine DH.only 3 rfl (by kernel_rfl) (OP.val (v := (.string x2175)) rfl (x_load1 U9 rfl rfl (rdF_cells (hL.rdO 0 rfl) hix2180 ha2181 0 _ rfl)) ?_)
         refine ⟨(hL.sel [1, 2, 3, 4, 5] (by decide) rfl), ?_⟩
         have hS := (hL.sel [1, 2, 3, 4, 5] (by decide) rfl)
         refine DH.take 8 rfl (by kernel_rfl) (by kernel_rfl) (by kernel_rfl) rfl rfl hS (YH.val (v := (.bool (sEq x2175 x2161))) (fun w' hS' => x_eqlT rfl rfl)) ?_
         refine DH.done (by kernel_rfl) ?_
         refine CW.condM (t := sEq x2175 x2161) rfl hm (fun hb2182 hm => ?_) (fun hb2182 hm => ?_)
         · refine CW.regionL ?_
           refine OV (.int .i64 s_l2.2) rfl (x_mv f1976) ?_
           refine OV (.pointer (some ⟨b1477, 1, none⟩)) rfl (x_fieldAddr (fsz := 1) 0 1 1 U46 rfl Tryd_T2 rfl f1975 rfl) ?_
           refine OW.cons (S_store (cs' := #[(.int .i64 s_l1.2), (.int .i64 s_l2.2), (.int .i64 0)]) hL 1 rfl Tryd_T2 rfl rfl rfl rfl rfl ?_)
           intro wd2183 hL
           refine OW.nil ?_
           have hL := hL.sel [1, 2, 3, 4, 5] (by decide) rfl
           exact ⟨s_l2.2, hm, ⟨f1969, f1970, f1971, f1972, f1973, f1974, f1975, f1976, hL⟩⟩
         refine CW.skip ?_
         have hL := hL.sel [1, 2, 3, 4, 5] (by decide) rfl
         exact ⟨s_l2.1, hm, ⟨f1969, f1970, f1971, f1972, f1973, f1974, f1975, f1976, hL⟩⟩
       intro s_j4 F2130 wd2131 hJ hm
       unfold M.spec_ReadRace_j4 at hm
       obtain ⟨f2132, f2133, f2134, f2135, f2136, f2137, f2138, f2139, hL⟩ := hJ
       exact ⟨s_j4, hm, ⟨f2132, f2133, f2134, f2135, f2136, f2137, f2138, f2139, hL⟩⟩
     intro s_j3 F2076 wd2077 hJ hm
     unfold M.spec_ReadRace_j3 at hm
     obtain ⟨f2078, f2079, f2080, f2081, f2082, f2083, f2084, f2085, hL⟩ := hJ
     refine CW.regionL ?_
     refine OV (.int .i64 s_l2.2) rfl (x_mv f2085) ?_
     refine OV (.int .i64 (w64 (s_l2.2 + 1))) rfl (x_add rfl rfl) ?_
     refine OV (.int .i64 (w64 (s_l2.2 + 1))) rfl (x_assign) ?_
     refine OW.nil ?_
     obtain rfl := Option.some.inj hm
     exact ⟨_, rfl, ⟨f2078, f2079, f2080, f2081, f2082, f2083, f2084, rfl, hL⟩⟩
   refine CW.exit ?_
   refine XJ.hit ?_
   obtain rfl := Option.some.inj hm
   exact ⟨_, rfl, ⟨f1969, f1970, f1971, f1972, f1973, f1974, f1975, f1976, hL⟩⟩
 refine CW.exit ?_
 refine XJ.hit ?_
 obtain rfl := Option.some.inj hm
 exact ⟨_, rfl, ⟨v1442, S1443, f1469, f1470, f1471, f1472, f1473, f1474, hL⟩⟩

theorem M.strings_Split_ok (w0 : World) (htab : TabsR Tryd.prog (cutLaid_ren.g 1) (parseLaid_ren.g 15) (parseLaid_ren.g 16) w0) (a0 a1 : ByteArray) {r : List ByteArray} (hm : M.strings_Split a0 a1 = some r) :
    Calls Tryd.prog 48 #[(.string a0), (.string a1)] w0 fun e w' => ∃ (rv0 : Value) (rS0 : Nat → Prop), e = .returned rv0 ∧ Fresh w0 w' [Ent.own 9 rS0 rv0 r] := by
 obtain ⟨m, hx⟩ := htab.mx
 exact split_fits hm (fun q1 q2 => Any.strings_Split splitLaid (by kernel_rfl) a0 a1 m w0 q1 hx q2)

theorem M.impl_wordsOf_ok (w0 : World) (htab : TabsR Tryd.prog (cutLaid_ren.g 1) (parseLaid_ren.g 15) (parseLaid_ren.g 16) w0) (a0 : ByteArray) {r : (List ByteArray)} (hm : M.impl_wordsOf a0 = some r) :
    Calls Tryd.prog 25 #[(.string a0)] w0 fun e w' => ∃ (rv0 : Value) (rS0 : Nat → Prop), e = .returned rv0 ∧ Fresh w0 w' [Ent.own 9 rS0 rv0 r] := by
 unfold M.impl_wordsOf at hm
 refine calls_CW (args := [(.string a0)]) Tryd.func25 rfl rfl rfl ?_
 have hL := Hp.start w0
 refine CSR ?_
 refine OV (.slice none 0 0) rfl (x_assign) ?_
 refine ONR ?_
 refine OV (.string a0) rfl (x_move) ?_
 obtain ⟨x1, hx2, hm⟩ := bndE hm
 refine OW.cons (OP.call rfl (x_call (vs := [(.string a0), (.string (⟨#[32]⟩ : ByteArray))]) Tryd_C48 ⟨rfl, rfl, trivial⟩) (M.strings_Split_ok _ (hL.tabR 0 rfl rfl htab) a0 (⟨#[32]⟩ : ByteArray) hx2) ?_)
 rintro e5 wd6 ⟨v4, S3, rfl, hF7⟩
 refine ⟨_, rfl, ?_⟩
 have hL := hL.pushAll hF7
 simp only [lA, lB, lC, lD] at hL
 refine OV v4 rfl (x_assign) ?_
 refine OW.nil ?_
 refine CW.ret ?_
 obtain rfl := Option.some.inj hm
 exact RR1 rfl rfl ⟨v4, S3, rfl, hL.fresh 1 rfl [0] (by decide) (by decide) rfl⟩

theorem M.strings_Cut_ok (w0 : World) (htab : TabsR Tryd.prog (cutLaid_ren.g 1) (parseLaid_ren.g 15) (parseLaid_ren.g 16) w0) (a0 a1 : ByteArray) {r : ByteArray × ByteArray × Bool} (hm : M.strings_Cut a0 a1 = some r) :
    Calls Tryd.prog 26 #[(.string a0), (.string a1)] w0 fun e w' => e = .returned (.tuple #[.string r.1, .string r.2.1, .bool r.2.2]) ∧ Fresh w0 w' [] := by
 obtain ⟨m, hx⟩ := htab.mx
 exact cut_fits hm (fun q1 => Any.strings_Cut { cutLaid with } a0 a1 m w0 q1 hx)

theorem M.impl_within_ok (w0 : World) (a0 : Int) (a1 : Int) (a2 : Int) {r : Bool} (hm : M.impl_within a0 a1 a2 = some r) :
    Calls Tryd.prog 56 #[(.int .i64 a0), (.int .i64 a1), (.int .i64 a2)] w0 fun e w' => e = .returned (.bool r) ∧ Fresh w0 w' [] := by
 unfold M.impl_within at hm
 refine calls_CW (args := [(.int .i64 a0), (.int .i64 a1), (.int .i64 a2)]) Tryd.func56 rfl rfl rfl ?_
 have hL := Hp.start w0
 refine CSR ?_
 refine OV (.bool false) rfl (x_assign) ?_
 refine OW.nil ?_
 refine CW.seqJ (fun (s_j1 : Bool) (F : Fr) (w : World) => F 6 = (.bool s_j1) ∧ Hp w0 [Ent.snap w0 w0.heap.size] w) (fun s_j1 => M.impl_within_j1 s_j1 = some r) ?_ ?_
 · refine CW.regionL ?_
   refine OV (.int .i64 a0) rfl (x_move) ?_
   refine OV (.int .i64 a1) rfl (x_move) ?_
   refine OV (.bool (decide (a1 ≤ a0))) rfl (x_geq rfl rfl) ?_
   refine OV (.bool (decide (a1 ≤ a0))) rfl (x_move) ?_
   refine ifB_elim hm (fun hb5 hm => ?_) (fun hb5 hm => ?_)
   · refine OW.cons (OP.yes' rfl rfl hb5 (OP.val (v := (.int .i64 a0)) rfl (x_move) ?_))
     refine OW.cons (OP.yes' rfl rfl hb5 (OP.val (v := (.int .i64 a2)) rfl (x_move) ?_))
     refine OW.cons (OP.yes' rfl rfl hb5 (OP.val (v := (.bool (decide (a0 ≤ a2)))) rfl (x_leq rfl rfl) ?_))
     refine OV (.bool (decide (a0 ≤ a2))) rfl (x_pickT' rfl hb5 rfl) ?_
     refine OV (.bool (decide (a0 ≤ a2))) rfl (x_assign) ?_
     refine OW.nil ?_
     exact ⟨decide (a0 ≤ a2), hm, ⟨rfl, hL⟩⟩
   refine OW.cons (OP.no' rfl rfl hb5 rfl ?_)
   refine OW.cons (OP.no' rfl rfl hb5 rfl ?_)
   refine OW.cons (OP.no' rfl rfl hb5 rfl ?_)
   refine OV (.bool false) rfl (x_pickF' rfl hb5 rfl) ?_
   refine OV (.bool false) rfl (x_assign) ?_
   refine OW.nil ?_
   exact ⟨false, hm, ⟨rfl, hL⟩⟩
 intro s_j1 F2 wd3 hJ hm
 unfold M.impl_within_j1 at hm
 obtain ⟨f4, hL⟩ := hJ
 refine CW.ret ?_
 obtain rfl := Option.some.inj hm
 exact RR1 rfl f4 ⟨rfl, hL.fresh 0 rfl [] (by decide) (by decide) rfl⟩

theorem M.impl_CodeText_ok (w0 : World) (a0 : Int) {r : ByteArray} (hm : M.impl_CodeText a0 = some r) :
    Calls Tryd.prog 40 #[(.int .i64 a0)] w0 fun e w' => e = .returned (.string r) ∧ Fresh w0 w' [] := by
 unfold M.impl_CodeText at hm
 refine calls_CW (args := [(.int .i64 a0)]) Tryd.func40 rfl rfl rfl ?_
 have hL := Hp.start w0
 refine CSR ?_
 refine OV (.string (⟨#[]⟩ : ByteArray)) rfl (x_assign) ?_
 refine ONR ?_
 refine OV (.agg #[(.string (⟨#[70, 73, 78]⟩ : ByteArray)), (.string (⟨#[68, 78, 67]⟩ : ByteArray)), (.string (⟨#[68, 78, 83]⟩ : ByteArray)), (.string (⟨#[79, 67, 83]⟩ : ByteArray)), (.string (⟨#[68, 78, 70]⟩ : ByteArray)), (.string (⟨#[82, 69, 84]⟩ : ByteArray)), (.string (⟨#[68, 83, 81]⟩ : ByteArray)), (.string (⟨#[68, 78, 69]⟩ : ByteArray)), (.string (⟨#[66, 70, 68]⟩ : ByteArray)), (.string (⟨#[82, 68, 71]⟩ : ByteArray))]) rfl (x_buildA U78 Tryd_T78 Tryd_T9 (ps := [(0, (.string (⟨#[70, 73, 78]⟩ : ByteArray))), (1, (.string (⟨#[68, 78, 67]⟩ : ByteArray))), (2, (.string (⟨#[68, 78, 83]⟩ : ByteArray))), (3, (.string (⟨#[79, 67, 83]⟩ : ByteArray))), (4, (.string (⟨#[68, 78, 70]⟩ : ByteArray))), (5, (.string (⟨#[82, 69, 84]⟩ : ByteArray))), (6, (.string (⟨#[68, 83, 81]⟩ : ByteArray))), (7, (.string (⟨#[68, 78, 69]⟩ : ByteArray))), (8, (.string (⟨#[66, 70, 68]⟩ : ByteArray))), (9, (.string (⟨#[82, 68, 71]⟩ : ByteArray)))]) ⟨⟨rfl, rfl⟩, ⟨rfl, rfl⟩, ⟨rfl, rfl⟩, ⟨rfl, rfl⟩, ⟨rfl, rfl⟩, ⟨rfl, rfl⟩, ⟨rfl, rfl⟩, ⟨rfl, rfl⟩, ⟨rfl, rfl⟩, ⟨rfl, rfl⟩, trivial⟩ (by first | rfl | kernel_rfl | simp [Instr.fill, cells_string])) ?_
 refine OW.cons (S_alloc (cs := #[(.string ByteArray.empty), (.string ByteArray.empty), (.string ByteArray.empty), (.string ByteArray.empty), (.string ByteArray.empty), (.string ByteArray.empty), (.string ByteArray.empty), (.string ByteArray.empty), (.string ByteArray.empty), (.string ByteArray.empty)]) hL Tryd_T78 rfl rfl ?_)
 intro wd1 b2 hL
 refine OW.cons (S_storeN (l := [(.string (⟨#[70, 73, 78]⟩ : ByteArray)), (.string (⟨#[68, 78, 67]⟩ : ByteArray)), (.string (⟨#[68, 78, 83]⟩ : ByteArray)), (.string (⟨#[79, 67, 83]⟩ : ByteArray)), (.string (⟨#[68, 78, 70]⟩ : ByteArray)), (.string (⟨#[82, 69, 84]⟩ : ByteArray)), (.string (⟨#[68, 83, 81]⟩ : ByteArray)), (.string (⟨#[68, 78, 69]⟩ : ByteArray)), (.string (⟨#[66, 70, 68]⟩ : ByteArray)), (.string (⟨#[82, 68, 71]⟩ : ByteArray))]) (cs' := #[(.string (⟨#[70, 73, 78]⟩ : ByteArray)), (.string (⟨#[68, 78, 67]⟩ : ByteArray)), (.string (⟨#[68, 78, 83]⟩ : ByteArray)), (.string (⟨#[79, 67, 83]⟩ : ByteArray)), (.string (⟨#[68, 78, 70]⟩ : ByteArray)), (.string (⟨#[82, 69, 84]⟩ : ByteArray)), (.string (⟨#[68, 83, 81]⟩ : ByteArray)), (.string (⟨#[68, 78, 69]⟩ : ByteArray)), (.string (⟨#[66, 70, 68]⟩ : ByteArray)), (.string (⟨#[82, 68, 71]⟩ : ByteArray))]) hL 0 rfl Tryd_T78 rfl rfl (List.forall_mem_cons.2 ⟨rfl, (List.forall_mem_cons.2 ⟨rfl, (List.forall_mem_cons.2 ⟨rfl, (List.forall_mem_cons.2 ⟨rfl, (List.forall_mem_cons.2 ⟨rfl, (List.forall_mem_cons.2 ⟨rfl, (List.forall_mem_cons.2 ⟨rfl, (List.forall_mem_cons.2 ⟨rfl, (List.forall_mem_cons.2 ⟨rfl, (List.forall_mem_cons.2 ⟨rfl, (fun _ h => by cases h)⟩)⟩)⟩)⟩)⟩)⟩)⟩)⟩)⟩)⟩) rfl (Nat.le_of_ble_eq_true rfl) rfl ?_)
 intro wd3 hL
 refine ONS ?_
 refine CSR ?_
 refine OV (.int .i64 a0) rfl (x_move) ?_
 obtain ⟨x4, hx5, hm⟩ := bndE hm
 refine OW.cons (OP.call rfl (x_call (vs := [(.int .i64 a0), (.int .i64 0), (.int .i64 9)]) Tryd_C56 ⟨rfl, rfl, rfl, trivial⟩) (M.impl_within_ok _ a0 0 9 hx5) ?_)
 rintro e6 wd7 ⟨rfl, hF8⟩
 refine ⟨_, rfl, ?_⟩
 have hL := hL.pushAll hF8
 simp only [lA, lB, lC, lD] at hL
 refine OV (.bool (!x4)) rfl (x_not rfl) ?_
 refine OW.nil ?_
 refine CW.condM (t := !x4) rfl hm (fun hb9 hm => ?_) (fun hb9 hm => ?_)
 · refine CSR ?_
   refine OV (.string (⟨#[]⟩ : ByteArray)) rfl (x_assign) ?_
   refine OW.nil ?_
   refine CW.ret ?_
   obtain rfl := Option.some.inj hm
   exact RR1 rfl rfl ⟨rfl, hL.fresh 1 rfl [] (by decide) (by decide) rfl⟩
 refine CW.skip ?_
 refine CSR ?_
 refine OV (.int .i64 a0) rfl (x_move) ?_
 obtain ⟨x10, ha11, hm⟩ := bndE hm
 obtain ⟨hz12, ha16⟩ := idxE ha11
 obtain ⟨b13, q14, hix15⟩ := rdL_ix (hL.rdArr 0 rfl ([(⟨#[70, 73, 78]⟩ : ByteArray), (⟨#[68, 78, 67]⟩ : ByteArray), (⟨#[68, 78, 83]⟩ : ByteArray), (⟨#[79, 67, 83]⟩ : ByteArray), (⟨#[68, 78, 70]⟩ : ByteArray), (⟨#[82, 69, 84]⟩ : ByteArray), (⟨#[68, 83, 81]⟩ : ByteArray), (⟨#[68, 78, 69]⟩ : ByteArray), (⟨#[66, 70, 68]⟩ : ByteArray), (⟨#[82, 68, 71]⟩ : ByteArray)] : List ByteArray) rfl (cells_str _) (by decide)) hz12 ha16
 refine OV (.pointer (some ⟨b13, q14, none⟩)) rfl (x_ixArr U78 Tryd_T9 rfl rfl hix15) ?_
 refine OV (.string x10) rfl (x_load1 U9 rfl rfl (rdF_cells (hL.rdArr 0 rfl ([(⟨#[70, 73, 78]⟩ : ByteArray), (⟨#[68, 78, 67]⟩ : ByteArray), (⟨#[68, 78, 83]⟩ : ByteArray), (⟨#[79, 67, 83]⟩ : ByteArray), (⟨#[68, 78, 70]⟩ : ByteArray), (⟨#[82, 69, 84]⟩ : ByteArray), (⟨#[68, 83, 81]⟩ : ByteArray), (⟨#[68, 78, 69]⟩ : ByteArray), (⟨#[66, 70, 68]⟩ : ByteArray), (⟨#[82, 68, 71]⟩ : ByteArray)] : List ByteArray) rfl (cells_str _) (by decide)) hix15 ha16 0 _ rfl)) ?_
 refine OV (.string x10) rfl (x_assign) ?_
 refine OW.nil ?_
 refine CW.ret ?_
 obtain rfl := Option.some.inj hm
 exact RR1 rfl rfl ⟨rfl, hL.fresh 1 rfl [] (by decide) (by decide) rfl⟩

theorem M.impl_ReadCode_ok (w0 : World) (a0 : ByteArray) {r : Int × Bool} (hm : M.impl_ReadCode a0 = some r) :
    Calls Tryd.prog 27 #[(.string a0)] w0 fun e w' => e = .returned (.tuple #[(.int .i64 r.1), (.bool r.2)]) ∧ Fresh w0 w' [] := by
 unfold M.impl_ReadCode at hm
 refine calls_CW (args := [(.string a0)]) Tryd.func27 rfl rfl rfl ?_
 have hL := Hp.start w0
 refine CSR ?_
 refine OV (.int .i64 0) rfl (x_assign) ?_
 refine OV (.bool false) rfl (x_assign) ?_
 refine ONS ?_
 refine CSR ?_
 refine OV (.int .i64 0) rfl (x_assign) ?_
 refine OW.nil ?_
 obtain ⟨o17, ho18, hm⟩ := bndE hm
 refine CW.loopB (fun (s_l1 : Int) (F : Fr) (w : World) => F 0 = (.string a0) ∧ F 4 = (.int .i64 s_l1) ∧ Hp w0 [Ent.snap w0 w0.heap.size] w) (fun o => outc o (fun x => some x) (fun s => M.impl_ReadCode_a1 s) = some r) ho18 hm ⟨rfl, rfl, hL⟩ ?_ ?_
 · intro s_l1 F19 wd20 hJ hm
   have hm := outcE hm
   have hm : M.impl_ReadCode_a1 s_l1 = some r := hm
   unfold M.impl_ReadCode_a1 at hm
   obtain ⟨f21, f22, hL⟩ := hJ
   refine CSR ?_
   refine OV (.int .i64 0) rfl (x_assign) ?_
   refine OV (.bool false) rfl (x_assign) ?_
   refine OW.nil ?_
   refine CW.ret ?_
   obtain rfl := Option.some.inj hm
   exact RR2 rfl rfl rfl ⟨rfl, hL.fresh 0 rfl [] (by decide) (by decide) rfl⟩
 intro s_l1 F23 wd24 t15 hJ hm hr16
 unfold M.impl_ReadCode_l1 at hm
 obtain ⟨f25, f26, hL⟩ := hJ
 refine CW.seq ?_
 refine CSR ?_
 refine OV (.int .i64 s_l1) rfl (x_mv f26) ?_
 refine OV (.bool (decide (s_l1 ≤ 9))) rfl (x_leq rfl rfl) ?_
 refine OW.nil ?_
 refine CW.condM (t := decide (s_l1 ≤ 9)) rfl hm (fun hb27 hm => ?_) (fun hb27 hm => ?_)
 · refine CW.skip ?_
   refine CW.seq ?_
   refine CW.block ?_
   refine CSR ?_
   refine OV (.int .i64 s_l1) rfl (x_mv f26) ?_
   obtain ⟨x28, hx29, hm⟩ := bndE hm
   refine OW.cons (OP.call rfl (x_call (vs := [(.int .i64 s_l1)]) Tryd_C40 ⟨rfl, trivial⟩) (M.impl_CodeText_ok _ s_l1 hx29) ?_)
   rintro e30 wd31 ⟨rfl, hF32⟩
   refine ⟨_, rfl, ?_⟩
   have hL := hL.pushAll hF32
   simp only [lA, lB, lC, lD] at hL
   refine OV (.string a0) rfl (x_mv f25) ?_
   refine OV (.bool (sEq x28 a0)) rfl (x_eqlT rfl rfl) ?_
   refine OW.nil ?_
   refine CW.condM (t := sEq x28 a0) rfl hm (fun hb33 hm => ?_) (fun hb33 hm => ?_)
   · refine CSR ?_
     refine OV (.int .i64 s_l1) rfl (x_mv f26) ?_
     refine OV (.int .i64 s_l1) rfl (x_assign) ?_
     refine OV (.bool true) rfl (x_assign) ?_
     refine OW.nil ?_
     refine CW.ret ?_
     obtain rfl := Option.some.inj hm
     have hm := hr16 _ rfl
     obtain rfl := Option.some.inj hm
     exact RR2 rfl rfl rfl ⟨rfl, hL.fresh 0 rfl [] (by decide) (by decide) rfl⟩
   refine CW.skip ?_
   refine CW.regionL ?_
   refine OV (.int .i64 s_l1) rfl (x_mv f26) ?_
   refine OV (.int .i64 (w64 (s_l1 + 1))) rfl (x_add rfl rfl) ?_
   refine OV (.int .i64 (w64 (s_l1 + 1))) rfl (x_assign) ?_
   refine OW.nil ?_
   obtain rfl := Option.some.inj hm
   exact ⟨_, rfl, ⟨f25, rfl, hL⟩⟩
 refine CW.exit ?_
 refine XJ.hit ?_
 obtain rfl := Option.some.inj hm
 exact ⟨_, rfl, ⟨f25, f26, hL⟩⟩

theorem M.strconv_ParseInt_ok (w0 : World) (htab : TabsR Tryd.prog (cutLaid_ren.g 1) (parseLaid_ren.g 15) (parseLaid_ren.g 16) w0) (a0 : ByteArray) (a1 a2 : Int) {r : Int × Bool} (hm : M.strconv_ParseInt a0 a1 a2 = some r) :
    Calls Tryd.prog 50 #[(.string a0), (.int .i64 a1), (.int .i64 a2)] w0 fun e w' => ∃ rv0 : Value, e = .returned (.tuple #[.int .i64 r.1, rv0]) ∧ errV rv0 r.2 ∧ Fresh w0 w' [] := by
 obtain ⟨v1, g1, k1⟩ := htab.es
 obtain ⟨v2, g2, k2⟩ := htab.er
 exact parse_fits hm (fun v q1 q2 => Any.strconv_ParseInt_10_at64_ok parseLaid a0 q1 v q2 w0)
   (fun q1 q2 => (Any.strconv_ParseInt_10_at64_syntax parseLaid a0 q1 q2 v1 w0 g1 k1).mono fun e w' ⟨N, he, _, _, hb⟩ => ⟨_, _, he, hb⟩)
   (fun q1 q2 => (Any.strconv_ParseInt_10_at64_range parseLaid a0 q1 q2 v2 w0 g2 k2).mono fun e w' ⟨N, he, _, _, hb⟩ => ⟨_, _, he, hb⟩)

theorem M.strconv_FormatInt_ok (w0 : World) (htab : TabsR Tryd.prog (cutLaid_ren.g 1) (parseLaid_ren.g 15) (parseLaid_ren.g 16) w0) (a0 : Int) (a1 : Int) {r : ByteArray} (hm : M.strconv_FormatInt a0 a1 = some r) :
    Calls Tryd.prog 59 #[(.int .i64 a0), (.int .i64 a1)] w0 fun e w' => e = .returned (.string r) ∧ Fresh w0 w' [] := by
 unfold M.strconv_FormatInt at hm
 obtain ⟨⟨hb, h0, h1⟩, h2⟩ := chkE hm
 subst hb
 obtain rfl := Option.some.inj h2
 exact (Any.strconv_FormatInt_10 fmtLaid a0 h0 h1 w0 htab.tab).mono fun e w' h => ⟨h.1, fresh_grow h.2⟩

theorem M.impl_text_ok (w0 : World) (htab : TabsR Tryd.prog (cutLaid_ren.g 1) (parseLaid_ren.g 15) (parseLaid_ren.g 16) w0) (a0 : Int) {r : ByteArray} (hm : M.impl_text a0 = some r) :
    Calls Tryd.prog 41 #[(.int .i64 a0)] w0 fun e w' => e = .returned (.string r) ∧ Fresh w0 w' [] := by
 unfold M.impl_text at hm
 refine calls_CW (args := [(.int .i64 a0)]) Tryd.func41 rfl rfl rfl ?_
 have hL := Hp.start w0
 refine CSR ?_
 refine OV (.string (⟨#[]⟩ : ByteArray)) rfl (x_assign) ?_
 refine ONR ?_
 refine OV (.int .i64 a0) rfl (x_move) ?_
 obtain ⟨x1, hx2, hm⟩ := bndE hm
 refine OW.cons (OP.call rfl (x_call (vs := [(.int .i64 a0), (.int .i64 10)]) Tryd_C59 ⟨rfl, rfl, trivial⟩) (M.strconv_FormatInt_ok _ (hL.tabR 0 rfl rfl htab) a0 10 hx2) ?_)
 rintro e3 wd4 ⟨rfl, hF5⟩
 refine ⟨_, rfl, ?_⟩
 have hL := hL.pushAll hF5
 simp only [lA, lB, lC, lD] at hL
 refine OV (.string x1) rfl (x_assign) ?_
 refine OW.nil ?_
 refine CW.ret ?_
 obtain rfl := Option.some.inj hm
 exact RR1 rfl rfl ⟨rfl, hL.fresh 0 rfl [] (by decide) (by decide) rfl⟩

theorem M.impl_number_ok (w0 : World) (htab : TabsR Tryd.prog (cutLaid_ren.g 1) (parseLaid_ren.g 15) (parseLaid_ren.g 16) w0) (a0 : ByteArray) {r : Int × Bool} (hm : M.impl_number a0 = some r) :
    Calls Tryd.prog 28 #[(.string a0)] w0 fun e w' => e = .returned (.tuple #[(.int .i64 r.1), (.bool r.2)]) ∧ Fresh w0 w' [] := by
 unfold M.impl_number at hm
 refine calls_CW (args := [(.string a0)]) Tryd.func28 rfl rfl rfl ?_
 have hL := Hp.start w0
 refine CSR ?_
 refine OV (.int .i64 0) rfl (x_assign) ?_
 refine OV (.bool false) rfl (x_assign) ?_
 refine ONR ?_
 refine OV (.string a0) rfl (x_move) ?_
 obtain ⟨x1, hx2, hm⟩ := bndE hm
 refine OW.cons (OP.call rfl (x_call (vs := [(.string a0), (.int .i64 10), (.int .i64 64)]) Tryd_C50 ⟨rfl, rfl, rfl, trivial⟩) (M.strconv_ParseInt_ok _ (hL.tabR 0 rfl rfl htab) a0 10 64 hx2) ?_)
 rintro e5 wd6 ⟨v3, rfl, he4, hF7⟩
 refine ⟨_, rfl, ?_⟩
 have hL := hL.pushAll hF7
 simp only [lA, lB, lC, lD] at hL
 refine OV (.tuple #[(.int .i64 x1.1), v3]) rfl (x_move) ?_
 refine OV (.int .i64 x1.1) rfl (x_extract rfl rfl) ?_
 refine OV v3 rfl (x_extract rfl rfl) ?_
 refine OV (.int .i64 x1.1) rfl (x_assign) ?_
 refine OV v3 rfl (x_assign) ?_
 refine ONS ?_
 refine CW.seqJ (fun (s_j1 : Bool) (F : Fr) (w : World) => F 4 = (.int .i64 x1.1) ∧ F 23 = (.bool s_j1) ∧ Hp w0 [Ent.snap w0 w0.heap.size] w) (fun s_j1 => M.impl_number_j1 x1 s_j1 = some r) ?_ ?_
 · refine CW.regionL ?_
   refine OV v3 rfl (x_move) ?_
   refine OV (.bool x1.2) rfl (x_neqE (by kernel_rfl) rfl he4) ?_
   refine OV (.bool x1.2) rfl (x_move) ?_
   refine ifB_elim hm (fun hb20 hm => ?_) (fun hb20 hm => ?_)
   · refine OW.cons (OP.no' rfl rfl hb20 rfl ?_)
     refine OW.cons (OP.no' rfl rfl hb20 rfl ?_)
     refine OW.cons (OP.no' rfl rfl hb20 rfl ?_)
     refine OV (.bool true) rfl (x_pickT' rfl hb20 rfl) ?_
     refine OV (.bool true) rfl (x_move) ?_
     refine OW.cons (OP.no' rfl rfl rfl rfl ?_)
     refine OW.cons (OP.no' rfl rfl rfl rfl ?_)
     refine OW.cons (OP.no' rfl rfl rfl rfl ?_)
     refine OW.cons (OP.no' rfl rfl rfl rfl ?_)
     refine OV (.bool true) rfl (x_pickT' rfl rfl rfl) ?_
     refine OW.nil ?_
     exact ⟨true, hm, ⟨rfl, rfl, hL⟩⟩
   refine OW.cons (OP.yes' rfl rfl hb20 (OP.val (v := (.string a0)) rfl (x_move) ?_))
   refine OW.cons (OP.yes' rfl rfl hb20 (OP.val (v := (.int .i64 (a0.size : Int))) rfl (x_lens U9 rfl) ?_))
   refine OW.cons (OP.yes' rfl rfl hb20 (OP.val (v := (.bool (decide (19 < (a0.size : Int))))) rfl (x_gtr rfl rfl) ?_))
   refine OV (.bool (decide (19 < (a0.size : Int)))) rfl (x_pickF' rfl hb20 rfl) ?_
   refine OV (.bool (decide (19 < (a0.size : Int)))) rfl (x_move) ?_
   refine ifB_elim hm (fun hb21 hm => ?_) (fun hb21 hm => ?_)
   · refine OW.cons (OP.no' rfl rfl hb21 rfl ?_)
     refine OW.cons (OP.no' rfl rfl hb21 rfl ?_)
     refine OW.cons (OP.no' rfl rfl hb21 rfl ?_)
     refine OW.cons (OP.no' rfl rfl hb21 rfl ?_)
     refine OV (.bool true) rfl (x_pickT' rfl hb21 rfl) ?_
     refine OW.nil ?_
     exact ⟨true, hm, ⟨rfl, rfl, hL⟩⟩
   refine OW.cons (OP.yes' rfl rfl hb21 (OP.val (v := (.int .i64 x1.1)) rfl (x_move) ?_))
   obtain ⟨x22, hx23, hm⟩ := bndE hm
   refine OW.cons (OP.yes' rfl rfl hb21 (OP.call rfl (x_call (vs := [(.int .i64 x1.1)]) Tryd_C41 ⟨rfl, trivial⟩) (M.impl_text_ok _ (hL.tabR 0 rfl rfl htab) x1.1 hx23) ?_))
   rintro e24 wd25 ⟨rfl, hF26⟩
   refine ⟨_, rfl, ?_⟩
   have hL := hL.pushAll hF26
   simp only [lA, lB, lC, lD] at hL
   refine OW.cons (OP.yes' rfl rfl hb21 (OP.val (v := (.string a0)) rfl (x_move) ?_))
   refine OW.cons (OP.yes' rfl rfl hb21 (OP.val (v := (.bool (!(sEq x22 a0)))) rfl (x_neqT rfl rfl) ?_))
   refine OV (.bool (!(sEq x22 a0))) rfl (x_pickF' rfl hb21 rfl) ?_
   refine OW.nil ?_
   exact ⟨!(sEq x22 a0), hm, ⟨rfl, rfl, hL⟩⟩
 intro s_j1 F15 wd16 hJ hm
 unfold M.impl_number_j1 at hm
 obtain ⟨f17, f18, hL⟩ := hJ
 refine CW.condM (t := s_j1) f18 hm (fun hb19 hm => ?_) (fun hb19 hm => ?_)
 · refine CSR ?_
   refine OV (.int .i64 0) rfl (x_assign) ?_
   refine OV (.bool false) rfl (x_assign) ?_
   refine OW.nil ?_
   refine CW.ret ?_
   obtain rfl := Option.some.inj hm
   exact RR2 rfl rfl rfl ⟨rfl, hL.fresh 0 rfl [] (by decide) (by decide) rfl⟩
 refine CW.skip ?_
 refine CSR ?_
 refine OV (.int .i64 x1.1) rfl (x_mv f17) ?_
 refine OV (.int .i64 x1.1) rfl (x_assign) ?_
 refine OV (.bool true) rfl (x_assign) ?_
 refine OW.nil ?_
 refine CW.ret ?_
 obtain rfl := Option.some.inj hm
 exact RR2 rfl rfl rfl ⟨rfl, hL.fresh 0 rfl [] (by decide) (by decide) rfl⟩

theorem M.impl_isBoat_ok (w0 : World) (a0 : Int) {r : Bool} (hm : M.impl_isBoat a0 = some r) :
    Calls Tryd.prog 86 #[(.int .i64 a0)] w0 fun e w' => e = .returned (.bool r) ∧ Fresh w0 w' [] := by
 unfold M.impl_isBoat at hm
 refine calls_CW (args := [(.int .i64 a0)]) Tryd.func86 rfl rfl rfl ?_
 have hL := Hp.start w0
 refine CSR ?_
 refine OV (.bool false) rfl (x_assign) ?_
 refine ONR ?_
 refine OV (.int .i64 a0) rfl (x_move) ?_
 obtain ⟨x1, hx2, hm⟩ := bndE hm
 refine OW.cons (OP.call rfl (x_call (vs := [(.int .i64 a0), (.int .i64 0), (.int .i64 15)]) Tryd_C56 ⟨rfl, rfl, rfl, trivial⟩) (M.impl_within_ok _ a0 0 15 hx2) ?_)
 rintro e3 wd4 ⟨rfl, hF5⟩
 refine ⟨_, rfl, ?_⟩
 have hL := hL.pushAll hF5
 simp only [lA, lB, lC, lD] at hL
 refine OV (.bool x1) rfl (x_assign) ?_
 refine OW.nil ?_
 refine CW.ret ?_
 obtain rfl := Option.some.inj hm
 exact RR1 rfl rfl ⟨rfl, hL.fresh 0 rfl [] (by decide) (by decide) rfl⟩

theorem M.impl_IsFinish_ok (w0 : World) (a0 : Finish) {r : Bool} (hm : M.impl_IsFinish a0 = some r) :
    Calls Tryd.prog 68 #[(.agg #[(.int .i64 a0.Boat), (.int .i64 a0.Code), (.int .i64 a0.Time)])] w0 fun e w' => e = .returned (.bool r) ∧ Fresh w0 w' [] := by
 unfold M.impl_IsFinish at hm
 refine calls_CW (args := [(.agg #[(.int .i64 a0.Boat), (.int .i64 a0.Code), (.int .i64 a0.Time)])]) Tryd.func68 rfl rfl rfl ?_
 have hL := Hp.start w0
 refine CSR ?_
 refine OW.cons (S_box (cs := #[(.int .i64 a0.Boat), (.int .i64 a0.Code), (.int .i64 a0.Time)]) hL rfl rfl rfl ?_)
 intro wd1 b2 hL
 refine OV (.bool false) rfl (x_assign) ?_
 refine ONS ?_
 refine CSR ?_
 refine OV (.pointer (some ⟨b2, 1, none⟩)) rfl (x_fieldAddr (fsz := 1) 0 1 1 U46 rfl Tryd_T2 rfl rfl rfl) ?_
 refine OV (.int .i64 a0.Code) rfl (x_load1 U2 rfl rfl (hL.cellB 0 rfl rfl)) ?_
 refine OV (.bool (a0.Code == 0)) rfl (x_eql rfl rfl) ?_
 refine OW.nil ?_
 refine CW.condM (t := a0.Code == 0) rfl hm (fun hb3 hm => ?_) (fun hb3 hm => ?_)
 · refine CW.seqJ (fun (s_j1 : Bool) (F : Fr) (w : World) => F 2 = (.bool s_j1) ∧ Hp w0 [Ent.blk b2 46 #[(.int .i64 a0.Boat), (.int .i64 a0.Code), (.int .i64 a0.Time)], Ent.snap w0 w0.heap.size] w) (fun s_j1 => M.impl_IsFinish_j1 s_j1 = some r) ?_ ?_
   · refine CW.regionL ?_
     refine OV (.pointer (some ⟨b2, 0, none⟩)) rfl (x_fieldAddr (fsz := 1) 0 0 0 U46 rfl Tryd_T2 rfl rfl rfl) ?_
     refine OV (.int .i64 a0.Boat) rfl (x_load1 U2 rfl rfl (hL.cellB 0 rfl rfl)) ?_
     obtain ⟨x18, hx19, hm⟩ := bndE hm
     refine OW.cons (OP.call rfl (x_call (vs := [(.int .i64 a0.Boat)]) Tryd_C86 ⟨rfl, trivial⟩) (M.impl_isBoat_ok _ a0.Boat hx19) ?_)
     rintro e20 wd21 ⟨rfl, hF22⟩
     refine ⟨_, rfl, ?_⟩
     have hL := hL.pushAll hF22
     simp only [lA, lB, lC, lD] at hL
     refine OV (.bool x18) rfl (x_move) ?_
     refine ifB_elim hm (fun hb23 hm => ?_) (fun hb23 hm => ?_)
     · refine OW.cons (OP.yes' rfl rfl hb23 (OP.val (v := (.pointer (some ⟨b2, 2, none⟩))) rfl (x_fieldAddr (fsz := 1) 0 2 2 U46 rfl Tryd_T2 rfl rfl rfl) ?_))
       refine OW.cons (OP.yes' rfl rfl hb23 (OP.val (v := (.int .i64 a0.Time)) rfl (x_load1 U2 rfl rfl (hL.cellB 0 rfl rfl)) ?_))
       obtain ⟨x24, hx25, hm⟩ := bndE hm
       refine OW.cons (OP.yes' rfl rfl hb23 (OP.call rfl (x_call (vs := [(.int .i64 a0.Time), (.int .i64 1), (.int .i64 1000000000)]) Tryd_C56 ⟨rfl, rfl, rfl, trivial⟩) (M.impl_within_ok _ a0.Time 1 1000000000 hx25) ?_))
       rintro e26 wd27 ⟨rfl, hF28⟩
       refine ⟨_, rfl, ?_⟩
       have hL := hL.pushAll hF28
       simp only [lA, lB, lC, lD] at hL
       refine OV (.bool x24) rfl (x_pickT' rfl hb23 rfl) ?_
       refine OV (.bool x24) rfl (x_assign) ?_
       refine OW.nil ?_
       exact ⟨x24, hm, ⟨rfl, hL⟩⟩
     refine OW.cons (OP.no' rfl rfl hb23 rfl ?_)
     refine OW.cons (OP.no' rfl rfl hb23 rfl ?_)
     refine OW.cons (OP.no' rfl rfl hb23 rfl ?_)
     refine OV (.bool false) rfl (x_pickF' rfl hb23 rfl) ?_
     refine OV (.bool false) rfl (x_assign) ?_
     refine OW.nil ?_
     exact ⟨false, hm, ⟨rfl, hL⟩⟩
   intro s_j1 F15 wd16 hJ hm
   unfold M.impl_IsFinish_j1 at hm
   obtain ⟨f17, hL⟩ := hJ
   refine CW.ret ?_
   obtain rfl := Option.some.inj hm
   exact RR1 rfl f17 ⟨rfl, hL.fresh 1 rfl [] (by decide) (by decide) rfl⟩
 refine CW.skip ?_
 refine CW.seqJ (fun (s_j2 : Bool) (F : Fr) (w : World) => F 2 = (.bool s_j2) ∧ Hp w0 [Ent.blk b2 46 #[(.int .i64 a0.Boat), (.int .i64 a0.Code), (.int .i64 a0.Time)], Ent.snap w0 w0.heap.size] w) (fun s_j2 => M.impl_IsFinish_j2 s_j2 = some r) ?_ ?_
 · refine CW.regionL ?_
   refine OV (.pointer (some ⟨b2, 0, none⟩)) rfl (x_fieldAddr (fsz := 1) 0 0 0 U46 rfl Tryd_T2 rfl rfl rfl) ?_
   refine OV (.int .i64 a0.Boat) rfl (x_load1 U2 rfl rfl (hL.cellB 0 rfl rfl)) ?_
   obtain ⟨x44, hx45, hm⟩ := bndE hm
   refine OW.cons (OP.call rfl (x_call (vs := [(.int .i64 a0.Boat)]) Tryd_C86 ⟨rfl, trivial⟩) (M.impl_isBoat_ok _ a0.Boat hx45) ?_)
   rintro e46 wd47 ⟨rfl, hF48⟩
   refine ⟨_, rfl, ?_⟩
   have hL := hL.pushAll hF48
   simp only [lA, lB, lC, lD] at hL
   refine OV (.bool x44) rfl (x_move) ?_
   refine ifB_elim hm (fun hb49 hm => ?_) (fun hb49 hm => ?_)
   · refine OW.cons (OP.yes' rfl rfl hb49 (OP.val (v := (.pointer (some ⟨b2, 1, none⟩))) rfl (x_fieldAddr (fsz := 1) 0 1 1 U46 rfl Tryd_T2 rfl rfl rfl) ?_))
     refine OW.cons (OP.yes' rfl rfl hb49 (OP.val (v := (.int .i64 a0.Code)) rfl (x_load1 U2 rfl rfl (hL.cellB 0 rfl rfl)) ?_))
     obtain ⟨x50, hx51, hm⟩ := bndE hm
     refine OW.cons (OP.yes' rfl rfl hb49 (OP.call rfl (x_call (vs := [(.int .i64 a0.Code), (.int .i64 1), (.int .i64 9)]) Tryd_C56 ⟨rfl, rfl, rfl, trivial⟩) (M.impl_within_ok _ a0.Code 1 9 hx51) ?_))
     rintro e52 wd53 ⟨rfl, hF54⟩
     refine ⟨_, rfl, ?_⟩
     have hL := hL.pushAll hF54
     simp only [lA, lB, lC, lD] at hL
     refine OV (.bool x50) rfl (x_pickT' rfl hb49 rfl) ?_
     refine OV (.bool x50) rfl (x_move) ?_
     refine ifB_elim hm (fun hb55 hm => ?_) (fun hb55 hm => ?_)
     · refine OW.cons (OP.yes' rfl rfl hb55 (OP.val (v := (.pointer (some ⟨b2, 2, none⟩))) rfl (x_fieldAddr (fsz := 1) 0 2 2 U46 rfl Tryd_T2 rfl rfl rfl) ?_))
       refine OW.cons (OP.yes' rfl rfl hb55 (OP.val (v := (.int .i64 a0.Time)) rfl (x_load1 U2 rfl rfl (hL.cellB 0 rfl rfl)) ?_))
       refine OW.cons (OP.yes' rfl rfl hb55 (OP.val (v := (.bool (a0.Time == 0))) rfl (x_eql rfl rfl) ?_))
       refine OV (.bool (a0.Time == 0)) rfl (x_pickT' rfl hb55 rfl) ?_
       refine OV (.bool (a0.Time == 0)) rfl (x_assign) ?_
       refine OW.nil ?_
       exact ⟨a0.Time == 0, hm, ⟨rfl, hL⟩⟩
     refine OW.cons (OP.no' rfl rfl hb55 rfl ?_)
     refine OW.cons (OP.no' rfl rfl hb55 rfl ?_)
     refine OW.cons (OP.no' rfl rfl hb55 rfl ?_)
     refine OV (.bool false) rfl (x_pickF' rfl hb55 rfl) ?_
     refine OV (.bool false) rfl (x_assign) ?_
     refine OW.nil ?_
     exact ⟨false, hm, ⟨rfl, hL⟩⟩
   refine OW.cons (OP.no' rfl rfl hb49 rfl ?_)
   refine OW.cons (OP.no' rfl rfl hb49 rfl ?_)
   refine OW.cons (OP.no' rfl rfl hb49 rfl ?_)
   refine OV (.bool false) rfl (x_pickF' rfl hb49 rfl) ?_
   refine OV (.bool false) rfl (x_move) ?_
   refine OW.cons (OP.no' rfl rfl rfl rfl ?_)
   refine OW.cons (OP.no' rfl rfl rfl rfl ?_)
   refine OW.cons (OP.no' rfl rfl rfl rfl ?_)
   refine OV (.bool false) rfl (x_pickF' rfl rfl rfl) ?_
   refine OV (.bool false) rfl (x_assign) ?_
   refine OW.nil ?_
   exact ⟨false, hm, ⟨rfl, hL⟩⟩
 intro s_j2 F41 wd42 hJ hm
 unfold M.impl_IsFinish_j2 at hm
 obtain ⟨f43, hL⟩ := hJ
 refine CW.ret ?_
 obtain rfl := Option.some.inj hm
 exact RR1 rfl f43 ⟨rfl, hL.fresh 1 rfl [] (by decide) (by decide) rfl⟩

theorem M.impl_areFinishes_ok (w0 : World) (a0 : Int) (a1 : List Finish) {v1 : Value} (h2 : rdL (· < w0.heap.size) w0 v1 a1) {r : Bool} (hm : M.impl_areFinishes a0 a1 = some r) :
    Calls Tryd.prog 51 #[(.int .i64 a0), v1] w0 fun e w' => e = .returned (.bool r) ∧ Fresh w0 w' [] := by
 unfold M.impl_areFinishes at hm
 refine calls_CW (args := [(.int .i64 a0), v1]) Tryd.func51 rfl rfl rfl ?_
 have hL := Hp.start w0
 refine CSR ?_
 refine OV (.bool false) rfl (x_assign) ?_
 refine ONS ?_
 refine CW.seqJ (fun (s_j1 : Bool) (F : Fr) (w : World) => F 1 = v1 ∧ F 15 = (.bool s_j1) ∧ Hp w0 [Ent.snap w0 w0.heap.size] w) (fun s_j1 => M.impl_areFinishes_j1 a1 s_j1 = some r) ?_ ?_
 · refine CW.regionL ?_
   refine OV (.int .i64 a0) rfl (x_move) ?_
   obtain ⟨x118, hx119, hm⟩ := bndE hm
   refine OW.cons (OP.call rfl (x_call (vs := [(.int .i64 a0), (.int .i64 1), (.int .i64 16)]) Tryd_C56 ⟨rfl, rfl, rfl, trivial⟩) (M.impl_within_ok _ a0 1 16 hx119) ?_)
   rintro e120 wd121 ⟨rfl, hF122⟩
   refine ⟨_, rfl, ?_⟩
   have hL := hL.pushAll hF122
   simp only [lA, lB, lC, lD] at hL
   refine OV (.bool (!x118)) rfl (x_not rfl) ?_
   refine OV (.bool (!x118)) rfl (x_move) ?_
   refine ifB_elim hm (fun hb123 hm => ?_) (fun hb123 hm => ?_)
   · refine OW.cons (OP.no' rfl rfl hb123 rfl ?_)
     refine OW.cons (OP.no' rfl rfl hb123 rfl ?_)
     refine OW.cons (OP.no' rfl rfl hb123 rfl ?_)
     refine OW.cons (OP.no' rfl rfl hb123 rfl ?_)
     refine OV (.bool true) rfl (x_pickT' rfl hb123 rfl) ?_
     refine OW.nil ?_
     exact ⟨true, hm, ⟨rfl, rfl, hL⟩⟩
   refine OW.cons (OP.yes' rfl rfl hb123 (OP.val (v := v1) rfl (x_move) ?_))
   refine OW.cons (OP.yes' rfl rfl hb123 (OP.val (v := (.int .i64 (a1.length : Int))) rfl (x_lenR U22 rfl (hL.rdS 0 rfl h2)) ?_))
   refine OW.cons (OP.yes' rfl rfl hb123 (OP.val (v := (.int .i64 a0)) rfl (x_move) ?_))
   refine OW.cons (OP.yes' rfl rfl hb123 (OP.val (v := (.bool ((a1.length : Int) != a0))) rfl (x_neq rfl rfl) ?_))
   refine OV (.bool ((a1.length : Int) != a0)) rfl (x_pickF' rfl hb123 rfl) ?_
   refine OW.nil ?_
   exact ⟨(a1.length : Int) != a0, hm, ⟨rfl, rfl, hL⟩⟩
 intro s_j1 F9 wd10 hJ hm
 unfold M.impl_areFinishes_j1 at hm
 obtain ⟨f11, f12, hL⟩ := hJ
 refine CW.condM (t := s_j1) f12 hm (fun hb13 hm => ?_) (fun hb13 hm => ?_)
 · refine CSR ?_
   refine OV (.bool false) rfl (x_assign) ?_
   refine OW.nil ?_
   refine CW.ret ?_
   obtain rfl := Option.some.inj hm
   exact RR1 rfl rfl ⟨rfl, hL.fresh 0 rfl [] (by decide) (by decide) rfl⟩
 refine CW.skip ?_
 refine CW.seq ?_
 refine CSR ?_
 refine OV v1 rfl (x_mv f11) ?_
 refine OV (.int .i64 (a1.length : Int)) rfl (x_lenR U22 rfl (hL.rdS 0 rfl h2)) ?_
 refine OV (.int .i64 0) rfl (x_move) ?_
 refine OW.nil ?_
 obtain ⟨o76, ho77, hm⟩ := bndE hm
 refine CW.loopB (fun (s_l1 : Int) (F : Fr) (w : World) => F 16 = v1 ∧ F 17 = (.int .i64 (a1.length : Int)) ∧ F 18 = (.int .i64 s_l1) ∧ Hp w0 [Ent.snap w0 w0.heap.size] w) (fun o => outc o (fun x => some x) (fun s => M.impl_areFinishes_a1 s) = some r) ho77 hm ⟨rfl, rfl, rfl, hL⟩ ?_ ?_
 · intro s_l1 F78 wd79 hJ hm
   have hm := outcE hm
   have hm : M.impl_areFinishes_a1 s_l1 = some r := hm
   unfold M.impl_areFinishes_a1 at hm
   obtain ⟨f80, f81, f82, hL⟩ := hJ
   refine CSR ?_
   refine OV (.bool true) rfl (x_assign) ?_
   refine OW.nil ?_
   refine CW.ret ?_
   obtain rfl := Option.some.inj hm
   exact RR1 rfl rfl ⟨rfl, hL.fresh 0 rfl [] (by decide) (by decide) rfl⟩
 intro s_l1 F83 wd84 t74 hJ hm hr75
 unfold M.impl_areFinishes_l1 at hm
 obtain ⟨f85, f86, f87, hL⟩ := hJ
 refine CSR ?_
 refine OV (.bool (decide (s_l1 < (a1.length : Int)))) rfl (x_lss f87 f86) ?_
 refine ONS ?_
 refine CW.condM (t := decide (s_l1 < (a1.length : Int))) rfl hm (fun hb88 hm => ?_) (fun hb88 hm => ?_)
 · refine CW.skip ?_
   refine CW.seq ?_
   refine CW.block ?_
   refine CSR ?_
   refine OV (.int .i64 s_l1) rfl (x_mv f87) ?_
   obtain ⟨x89, ha90, hm⟩ := bndE hm
   obtain ⟨hz91, ha95⟩ := idxE ha90
   obtain ⟨b92, q93, hix94⟩ := rdL_ix (hL.rdS 0 rfl h2) hz91 ha95
   refine OV (.pointer (some ⟨b92, q93, none⟩)) rfl (x_ix U22 Tryd_T46 f85 f87 hix94) ?_
   refine OV (.agg #[(.int .i64 x89.Boat), (.int .i64 x89.Code), (.int .i64 x89.Time)]) rfl (x_loadN (cs := [(.int .i64 x89.Boat), (.int .i64 x89.Code), (.int .i64 x89.Time)]) U46 Tryd_T46 rfl rfl (rdF_cells (hL.rdS 0 rfl h2) hix94 ha95)) ?_
   refine OW.cons (S_alloc (cs := #[(.int .i64 0), (.int .i64 0), (.int .i64 0)]) hL Tryd_T46 rfl rfl ?_)
   intro wd96 b97 hL
   refine OV (.int .i64 s_l1) rfl (x_assign) ?_
   refine OW.cons (S_storeN (l := [(.int .i64 x89.Boat), (.int .i64 x89.Code), (.int .i64 x89.Time)]) (cs' := #[(.int .i64 x89.Boat), (.int .i64 x89.Code), (.int .i64 x89.Time)]) hL 0 rfl Tryd_T46 rfl rfl (List.forall_mem_cons.2 ⟨rfl, (List.forall_mem_cons.2 ⟨rfl, (List.forall_mem_cons.2 ⟨rfl, (fun _ h => by cases h)⟩)⟩)⟩) rfl (Nat.le_of_ble_eq_true rfl) rfl ?_)
   intro wd98 hL
   refine OW.nil ?_
   refine CW.seqJ (fun (s_j2 : Bool) (F : Fr) (w : World) => F 16 = v1 ∧ F 17 = (.int .i64 (a1.length : Int)) ∧ F 18 = (.int .i64 s_l1) ∧ F 31 = (.bool s_j2) ∧ Hp w0 [Ent.blk b97 46 #[(.int .i64 x89.Boat), (.int .i64 x89.Code), (.int .i64 x89.Time)], Ent.snap w0 w0.heap.size] w) (fun s_j2 => M.impl_areFinishes_j2 s_l1 s_j2 = some t74) ?_ ?_
   · refine CW.regionL ?_
     refine OV (.pointer (some ⟨b97, 0, none⟩)) rfl (x_fieldAddr (fsz := 1) 0 0 0 U46 rfl Tryd_T2 rfl rfl rfl) ?_
     refine OV (.int .i64 x89.Boat) rfl (x_load1 U2 rfl rfl (hL.cellB 0 rfl rfl)) ?_
     refine OV (.int .i64 s_l1) rfl (x_move) ?_
     refine OV (.bool (x89.Boat != s_l1)) rfl (x_neq rfl rfl) ?_
     refine OV (.bool (x89.Boat != s_l1)) rfl (x_move) ?_
     refine ifB_elim hm (fun hb112 hm => ?_) (fun hb112 hm => ?_)
     · refine OW.cons (OP.no' rfl rfl hb112 rfl ?_)
       refine OW.cons (OP.no' rfl rfl hb112 rfl ?_)
       refine OW.cons (OP.no' rfl rfl hb112 rfl ?_)
       refine OV (.bool true) rfl (x_pickT' rfl hb112 rfl) ?_
       refine OW.nil ?_
       exact ⟨true, hm, ⟨f85, f86, f87, rfl, hL⟩⟩
     refine OW.cons (OP.yes' rfl rfl hb112 (OP.val (v := (.agg #[(.int .i64 x89.Boat), (.int .i64 x89.Code), (.int .i64 x89.Time)])) rfl (x_loadN (cs := [(.int .i64 x89.Boat), (.int .i64 x89.Code), (.int .i64 x89.Time)]) U46 Tryd_T46 rfl rfl (hL.cellsB 0 rfl (o := 0) (l := [(.int .i64 x89.Boat), (.int .i64 x89.Code), (.int .i64 x89.Time)]) (by intro j u hj; exact (by simpa using hj)))) ?_))
     obtain ⟨x113, hx114, hm⟩ := bndE hm
     refine OW.cons (OP.yes' rfl rfl hb112 (OP.call rfl (x_call (vs := [(.agg #[(.int .i64 x89.Boat), (.int .i64 x89.Code), (.int .i64 x89.Time)])]) Tryd_C68 ⟨rfl, trivial⟩) (M.impl_IsFinish_ok _ x89 hx114) ?_))
     rintro e115 wd116 ⟨rfl, hF117⟩
     refine ⟨_, rfl, ?_⟩
     have hL := hL.pushAll hF117
     simp only [lA, lB, lC, lD] at hL
     refine OW.cons (OP.yes' rfl rfl hb112 (OP.val (v := (.bool (!x113))) rfl (x_not rfl) ?_))
     refine OV (.bool (!x113)) rfl (x_pickF' rfl hb112 rfl) ?_
     refine OW.nil ?_
     exact ⟨!x113, hm, ⟨f85, f86, f87, rfl, hL⟩⟩
   intro s_j2 F105 wd106 hJ hm
   unfold M.impl_areFinishes_j2 at hm
   obtain ⟨f107, f108, f109, f110, hL⟩ := hJ
   refine CW.condM (t := s_j2) f110 hm (fun hb111 hm => ?_) (fun hb111 hm => ?_)
   · refine CSR ?_
     refine OV (.bool false) rfl (x_assign) ?_
     refine OW.nil ?_
     refine CW.ret ?_
     obtain rfl := Option.some.inj hm
     have hm := hr75 _ rfl
     obtain rfl := Option.some.inj hm
     exact RR1 rfl rfl ⟨rfl, hL.fresh 1 rfl [] (by decide) (by decide) rfl⟩
   refine CW.skip ?_
   refine CW.regionL ?_
   refine OV (.int .i64 (w64 (s_l1 + 1))) rfl (x_add f109 rfl) ?_
   refine OV (.int .i64 (w64 (s_l1 + 1))) rfl (x_move) ?_
   refine OW.nil ?_
   have hL := hL.sel [1] (by decide) rfl
   obtain rfl := Option.some.inj hm
   exact ⟨_, rfl, ⟨f107, f108, rfl, hL⟩⟩
 refine CW.exit ?_
 refine XJ.hit ?_
 obtain rfl := Option.some.inj hm
 exact ⟨_, rfl, ⟨f85, f86, f87, hL⟩⟩

theorem M.impl_IsRace_ok (w0 : World) (a0 : Int) (a1 : Race) {v1 : Value} (h2 : rdL (· < w0.heap.size) w0 v1 a1.Finishes) {r : Bool} (hm : M.impl_IsRace a0 a1 = some r) :
    Calls Tryd.prog 29 #[(.int .i64 a0), (.agg #[v1])] w0 fun e w' => e = .returned (.bool r) ∧ Fresh w0 w' [] := by
 unfold M.impl_IsRace at hm
 refine calls_CW (args := [(.int .i64 a0), (.agg #[v1])]) Tryd.func29 rfl rfl rfl ?_
 have hL := Hp.start w0
 refine CSR ?_
 refine OW.cons (S_box (cs := #[v1]) hL rfl rfl rfl ?_)
 intro wd3 b4 hL
 refine OV (.bool false) rfl (x_assign) ?_
 refine ONR ?_
 refine OV (.int .i64 a0) rfl (x_move) ?_
 refine OV (.pointer (some ⟨b4, 0, none⟩)) rfl (x_fieldAddr (fsz := 1) 0 0 0 U24 rfl Tryd_T22 rfl rfl rfl) ?_
 refine OV v1 rfl (x_load1 U22 rfl rfl (hL.cellB 0 rfl rfl)) ?_
 obtain ⟨x5, hx6, hm⟩ := bndE hm
 refine OW.cons (OP.call rfl (x_call (vs := [(.int .i64 a0), v1]) Tryd_C51 ⟨rfl, rfl, trivial⟩) (M.impl_areFinishes_ok _ a0 a1.Finishes (hL.rdS 1 rfl h2) hx6) ?_)
 rintro e7 wd8 ⟨rfl, hF9⟩
 refine ⟨_, rfl, ?_⟩
 have hL := hL.pushAll hF9
 simp only [lA, lB, lC, lD] at hL
 refine OV (.bool x5) rfl (x_assign) ?_
 refine OW.nil ?_
 refine CW.ret ?_
 obtain rfl := Option.some.inj hm
 exact RR1 rfl rfl ⟨rfl, hL.fresh 1 rfl [] (by decide) (by decide) rfl⟩

theorem M.strings_Join_ok (w0 : World) (a0 : List ByteArray) {v1 : Value} (h2 : rdL (· < w0.heap.size) w0 v1 a0) (a1 : ByteArray) {r : ByteArray} (hm : M.strings_Join a0 a1 = some r) :
    Calls Tryd.prog 42 #[v1, (.string a1)] w0 fun e w' => e = .returned (.string r) ∧ Fresh w0 w' [] :=
  join_fits h2 hm (fun bk o c q1 q2 q3 q4 q5 => Any.strings_Join joinLaid joinX bk o c a0 a1 w0 q1 q2 q3 q4 q5) (fun a c => Any.strings_Join_none joinLaid joinX a c a1 w0)

theorem M.impl_RaceText_ok (w0 : World) (htab : TabsR Tryd.prog (cutLaid_ren.g 1) (parseLaid_ren.g 15) (parseLaid_ren.g 16) w0) (a0 : Int) (a1 : Race) {v1 : Value} (h2 : rdL (· < w0.heap.size) w0 v1 a1.Finishes) {r : ByteArray} (hm : M.impl_RaceText a0 a1 = some r) :
    Calls Tryd.prog 18 #[(.int .i64 a0), (.agg #[v1])] w0 fun e w' => e = .returned (.string r) ∧ Fresh w0 w' [] := by
 unfold M.impl_RaceText at hm
 refine calls_CW (args := [(.int .i64 a0), (.agg #[v1])]) Tryd.func18 rfl rfl rfl ?_
 have hL := Hp.start w0
 refine CSR ?_
 refine OW.cons (S_box (cs := #[v1]) hL rfl rfl rfl ?_)
 intro wd3 b4 hL
 refine OV (.string (⟨#[]⟩ : ByteArray)) rfl (x_assign) ?_
 refine ONS ?_
 refine CSR ?_
 refine OV (.int .i64 a0) rfl (x_move) ?_
 refine OV (.agg #[v1]) rfl (x_loadN (cs := [v1]) U24 Tryd_T24 rfl rfl (hL.cellsB 0 rfl (o := 0) (l := [v1]) (by intro j u hj; exact (by simpa using hj)))) ?_
 obtain ⟨x5, hx6, hm⟩ := bndE hm
 refine OW.cons (OP.call rfl (x_call (vs := [(.int .i64 a0), (.agg #[v1])]) Tryd_C29 ⟨rfl, rfl, trivial⟩) (M.impl_IsRace_ok _ a0 a1 (hL.rdS 1 rfl h2) hx6) ?_)
 rintro e7 wd8 ⟨rfl, hF9⟩
 refine ⟨_, rfl, ?_⟩
 have hL := hL.pushAll hF9
 simp only [lA, lB, lC, lD] at hL
 refine OV (.bool (!x5)) rfl (x_not rfl) ?_
 refine OW.nil ?_
 refine CW.condM (t := !x5) rfl hm (fun hb10 hm => ?_) (fun hb10 hm => ?_)
 · refine CSR ?_
   refine OV (.string (⟨#[]⟩ : ByteArray)) rfl (x_assign) ?_
   refine OW.nil ?_
   refine CW.ret ?_
   obtain rfl := Option.some.inj hm
   exact RR1 rfl rfl ⟨rfl, hL.fresh 1 rfl [] (by decide) (by decide) rfl⟩
 refine CW.skip ?_
 refine CSR ?_
 refine OW.cons (S_lit ([] : List ByteArray) hL U43 Tryd_T9 rfl (by decide) (by first | (simp [Instr.fill, madeCells, Value.cells, ev, upd, Flat.enc, Flat.sz]; done) | rfl | kernel_rfl) rfl rfl ?_)
 intro wd11 v12 S13 hL
 refine OV v12 rfl (x_assign) ?_
 refine ONS ?_
 refine CSR ?_
 refine OV (.pointer (some ⟨b4, 0, none⟩)) rfl (x_fieldAddr (fsz := 1) 0 0 0 U24 rfl Tryd_T22 rfl rfl rfl) ?_
 refine OV v1 rfl (x_load1 U22 rfl rfl (hL.cellB 1 rfl rfl)) ?_
 refine OV (.int .i64 (a1.Finishes.length : Int)) rfl (x_lenR U22 rfl (hL.rdS 2 rfl h2)) ?_
 refine OV (.int .i64 0) rfl (x_move) ?_
 refine OW.nil ?_
 obtain ⟨o112, ho113, hm⟩ := bndE hm
 refine CW.loopB (fun (s_l1 : (List ByteArray) × Int) (F : Fr) (w : World) => ∃ (v108 : Value) (S109 : Nat → Prop), F 5 = v108 ∧ F 15 = v1 ∧ F 16 = (.int .i64 (a1.Finishes.length : Int)) ∧ F 17 = (.int .i64 s_l1.2) ∧ Hp w0 [Ent.own 9 S109 v108 s_l1.1, Ent.blk b4 24 #[v1], Ent.snap w0 w0.heap.size] w) (fun o => outc o (fun x => some x) (fun s => M.impl_RaceText_a1 s) = some r) ho113 hm ⟨v12, S13, rfl, rfl, rfl, rfl, hL⟩ ?_ ?_
 · intro s_l1 F114 wd115 hJ hm
   have hm := outcE hm
   have hm : M.impl_RaceText_a1 s_l1 = some r := hm
   unfold M.impl_RaceText_a1 at hm
   obtain ⟨v108, S109, f116, f117, f118, f119, hL⟩ := hJ
   refine CSR ?_
   refine OV v108 rfl (x_mv f116) ?_
   obtain ⟨x120, hx121, hm⟩ := bndE hm
   refine OW.cons (OP.call rfl (x_call (vs := [v108, (.string (⟨#[32]⟩ : ByteArray))]) Tryd_C42 ⟨rfl, rfl, trivial⟩) (M.strings_Join_ok _ s_l1.1 (hL.rdO 0 rfl) (⟨#[32]⟩ : ByteArray) hx121) ?_)
   rintro e122 wd123 ⟨rfl, hF124⟩
   refine ⟨_, rfl, ?_⟩
   have hL := hL.pushAll hF124
   simp only [lA, lB, lC, lD] at hL
   refine OV (.string x120) rfl (x_assign) ?_
   refine OW.nil ?_
   refine CW.ret ?_
   obtain rfl := Option.some.inj hm
   exact RR1 rfl rfl ⟨rfl, hL.fresh 2 rfl [] (by decide) (by decide) rfl⟩
 intro s_l1 F125 wd126 t110 hJ hm hr111
 unfold M.impl_RaceText_l1 at hm
 obtain ⟨v108, S109, f127, f128, f129, f130, hL⟩ := hJ
 refine CSR ?_
 refine OV (.bool (decide (s_l1.2 < (a1.Finishes.length : Int)))) rfl (x_lss f130 f129) ?_
 refine ONS ?_
 refine CW.condM (t := decide (s_l1.2 < (a1.Finishes.length : Int))) rfl hm (fun hb131 hm => ?_) (fun hb131 hm => ?_)
 · refine CW.skip ?_
   refine CW.seq ?_
   refine CW.block ?_
   refine CSR ?_
   obtain ⟨x132, ha133, hm⟩ := bndE hm
   obtain ⟨hz134, ha138⟩ := idxE ha133
   obtain ⟨b135, q136, hix137⟩ := rdL_ix (hL.rdS 2 rfl h2) hz134 ha138
   refine OV (.pointer (some ⟨b135, q136, none⟩)) rfl (x_ix U22 Tryd_T46 f128 f130 hix137) ?_
   refine OV (.agg #[(.int .i64 x132.Boat), (.int .i64 x132.Code), (.int .i64 x132.Time)]) rfl (x_loadN (cs := [(.int .i64 x132.Boat), (.int .i64 x132.Code), (.int .i64 x132.Time)]) U46 Tryd_T46 rfl rfl (rdF_cells (hL.rdS 2 rfl h2) hix137 ha138)) ?_
   refine OW.cons (S_alloc (cs := #[(.int .i64 0), (.int .i64 0), (.int .i64 0)]) hL Tryd_T46 rfl rfl ?_)
   intro wd139 b140 hL
   refine OW.cons (S_storeN (l := [(.int .i64 x132.Boat), (.int .i64 x132.Code), (.int .i64 x132.Time)]) (cs' := #[(.int .i64 x132.Boat), (.int .i64 x132.Code), (.int .i64 x132.Time)]) hL 0 rfl Tryd_T46 rfl rfl (List.forall_mem_cons.2 ⟨rfl, (List.forall_mem_cons.2 ⟨rfl, (List.forall_mem_cons.2 ⟨rfl, (fun _ h => by cases h)⟩)⟩)⟩) rfl (Nat.le_of_ble_eq_true rfl) rfl ?_)
   intro wd141 hL
   refine ONR ?_
   refine OV (.pointer (some ⟨b140, 1, none⟩)) rfl (x_fieldAddr (fsz := 1) 0 1 1 U46 rfl Tryd_T2 rfl rfl rfl) ?_
   refine OV (.int .i64 x132.Code) rfl (x_load1 U2 rfl rfl (hL.cellB 0 rfl rfl)) ?_
   obtain ⟨x142, hx143, hm⟩ := bndE hm
   refine OW.cons (OP.call rfl (x_call (vs := [(.int .i64 x132.Code)]) Tryd_C40 ⟨rfl, trivial⟩) (M.impl_CodeText_ok _ x132.Code hx143) ?_)
   rintro e144 wd145 ⟨rfl, hF146⟩
   refine ⟨_, rfl, ?_⟩
   have hL := hL.pushAll hF146
   simp only [lA, lB, lC, lD] at hL
   refine OV (.string x142) rfl (x_assign) ?_
   refine OW.nil ?_
   refine CW.seqJ (fun (s_j1 : ByteArray) (F : Fr) (w : World) => F 5 = v108 ∧ F 8 = (.string s_j1) ∧ F 15 = v1 ∧ F 16 = (.int .i64 (a1.Finishes.length : Int)) ∧ F 17 = (.int .i64 s_l1.2) ∧ Hp w0 [Ent.blk b140 46 #[(.int .i64 x132.Boat), (.int .i64 x132.Code), (.int .i64 x132.Time)], Ent.own 9 S109 v108 s_l1.1, Ent.blk b4 24 #[v1], Ent.snap w0 w0.heap.size] w) (fun s_j1 => M.impl_RaceText_j1 s_l1 s_j1 = some t110) ?_ ?_
   · refine CSR ?_
     refine OV (.pointer (some ⟨b140, 1, none⟩)) rfl (x_fieldAddr (fsz := 1) 0 1 1 U46 rfl Tryd_T2 rfl rfl rfl) ?_
     refine OV (.int .i64 x132.Code) rfl (x_load1 U2 rfl rfl (hL.cellB 0 rfl rfl)) ?_
     refine OV (.bool (x132.Code == 0)) rfl (x_eql rfl rfl) ?_
     refine OW.nil ?_
     refine CW.condM (t := x132.Code == 0) rfl hm (fun hb169 hm => ?_) (fun hb169 hm => ?_)
     · refine CW.regionL ?_
       refine OV (.string x142) rfl (x_move) ?_
       refine OV (.pointer (some ⟨b140, 2, none⟩)) rfl (x_fieldAddr (fsz := 1) 0 2 2 U46 rfl Tryd_T2 rfl rfl rfl) ?_
       refine OV (.int .i64 x132.Time) rfl (x_load1 U2 rfl rfl (hL.cellB 0 rfl rfl)) ?_
       obtain ⟨x170, hx171, hm⟩ := bndE hm
       refine OW.cons (OP.call rfl (x_call (vs := [(.int .i64 x132.Time)]) Tryd_C41 ⟨rfl, trivial⟩) (M.impl_text_ok _ (hL.tabR 3 rfl rfl htab) x132.Time hx171) ?_)
       rintro e172 wd173 ⟨rfl, hF174⟩
       refine ⟨_, rfl, ?_⟩
       have hL := hL.pushAll hF174
       simp only [lA, lB, lC, lD] at hL
       obtain ⟨hc175, hm⟩ := chkE hm
       refine OV (.string ((⟨#[61]⟩ : ByteArray) ++ x170)) rfl (x_addT rfl rfl hc175) ?_
       obtain ⟨hc176, hm⟩ := chkE hm
       refine OV (.string (x142 ++ ((⟨#[61]⟩ : ByteArray) ++ x170))) rfl (x_addT rfl rfl hc176) ?_
       refine OV (.string (x142 ++ ((⟨#[61]⟩ : ByteArray) ++ x170))) rfl (x_assign) ?_
       refine OW.nil ?_
       exact ⟨x142 ++ ((⟨#[61]⟩ : ByteArray) ++ x170), hm, ⟨f127, rfl, f128, f129, f130, hL⟩⟩
     refine CW.skip ?_
     exact ⟨x142, hm, ⟨f127, rfl, f128, f129, f130, hL⟩⟩
   intro s_j1 F155 wd156 hJ hm
   unfold M.impl_RaceText_j1 at hm
   obtain ⟨f157, f158, f159, f160, f161, hL⟩ := hJ
   refine CW.regionL ?_
   refine OV v108 rfl (x_mv f157) ?_
   refine OV (.string s_j1) rfl (x_mv f158) ?_
   refine OW.cons (S_lit ([s_j1] : List ByteArray) hL U43 Tryd_T9 rfl (by decide) (by first | (simp [Instr.fill, madeCells, Value.cells, ev, upd, Flat.enc, Flat.sz]; done) | rfl | kernel_rfl) rfl rfl ?_)
   intro wd162 v163 S164 hL
   obtain ⟨hc168, hm⟩ := chkE hm
   refine OW.cons (S_append (ys := ([s_j1] : List ByteArray)) hL 2 rfl U43 Tryd_T9 rfl rfl rfl (hL.rdO 0 rfl) hc168 (by decide) rfl ?_)
   intro wd165 v166 S167 hL
   refine OV v166 rfl (x_assign) ?_
   refine OW.nil ?_
   refine CW.regionL ?_
   refine OV (.int .i64 (w64 (s_l1.2 + 1))) rfl (x_add f161 rfl) ?_
   refine OV (.int .i64 (w64 (s_l1.2 + 1))) rfl (x_move) ?_
   refine OW.nil ?_
   have hL := hL.sel [2, 3, 4] (by decide) rfl
   obtain rfl := Option.some.inj hm
   exact ⟨_, rfl, ⟨v166, S167, rfl, f159, f160, rfl, hL⟩⟩
 refine CW.exit ?_
 refine XJ.hit ?_
 obtain rfl := Option.some.inj hm
 exact ⟨_, rfl, ⟨v108, S109, f127, f128, f129, f130, hL⟩⟩

theorem M.impl_ReadRace_ok (w0 : World) (htab : TabsR Tryd.prog (cutLaid_ren.g 1) (parseLaid_ren.g 15) (parseLaid_ren.g 16) w0) (a0 : Int) (a1 : ByteArray) {r : Race × Bool} (hm : M.impl_ReadRace a0 a1 = some r) :
    Calls Tryd.prog 7 #[(.int .i64 a0), (.string a1)] w0 fun e w' => ∃ (rv0 : Value) (rS0 : Nat → Prop), e = .returned (.tuple #[(.agg #[rv0]), (.bool r.2)]) ∧ Fresh w0 w' [Ent.own 46 rS0 rv0 r.1.Finishes] := by
 unfold M.impl_ReadRace at hm
 refine calls_CW (args := [(.int .i64 a0), (.string a1)]) Tryd.func7 rfl rfl rfl ?_
 have hL := Hp.start w0
 refine CSR ?_
 refine OW.cons (S_alloc (cs := #[(.slice none 0 0)]) hL Tryd_T24 rfl rfl ?_)
 intro wd1 b2 hL
 refine OV (.bool false) rfl (x_assign) ?_
 refine ONR ?_
 refine OV (.agg #[(.slice none 0 0)]) rfl (x_build Tryd_B24 (ps := []) trivial (by simp [Instr.fill, cells_int, cells_bool, cells_string, cells_agg, cells_slice, cells_pointer])) ?_
 refine OW.cons (S_alloc (cs := #[(.slice none 0 0)]) hL Tryd_T24 rfl rfl ?_)
 intro wd3 b4 hL
 refine OW.cons (S_storeN (l := [(.slice none 0 0)]) (cs' := #[(.slice none 0 0)]) hL 0 rfl Tryd_T24 rfl rfl (List.forall_mem_cons.2 ⟨rfl, (fun _ h => by cases h)⟩) rfl (Nat.le_of_ble_eq_true rfl) rfl ?_)
 intro wd5 hL
 refine ONS ?_
 refine CSR ?_
 refine OV (.string a1) rfl (x_move) ?_
 obtain ⟨x6, hx7, hm⟩ := bndE hm
 refine OW.cons (OP.call rfl (x_call (vs := [(.string a1)]) Tryd_C25 ⟨rfl, trivial⟩) (M.impl_wordsOf_ok _ (hL.tabR 2 rfl rfl htab) a1 hx7) ?_)
 rintro e10 wd11 ⟨v9, S8, rfl, hF12⟩
 refine ⟨_, rfl, ?_⟩
 have hL := hL.pushAll hF12
 simp only [lA, lB, lC, lD] at hL
 refine OV (.int .i64 (x6.length : Int)) rfl (x_lenR U43 rfl (hL.rdO 0 rfl)) ?_
 refine OV (.int .i64 0) rfl (x_move) ?_
 refine OW.nil ?_
 obtain ⟨o81, ho82, hm⟩ := bndE hm
 have hL := hL.pushNil Finish 46
 refine CW.loopB (fun (s_l1 : (List Finish) × Int) (F : Fr) (w : World) => ∃ (v77 : Value) (S78 : Nat → Prop), F 0 = (.int .i64 a0) ∧ F 1 = (.string a1) ∧ F 4 = (.pointer (some ⟨b2, 0, none⟩)) ∧ F 6 = (.pointer (some ⟨b4, 0, none⟩)) ∧ F 18 = v9 ∧ F 19 = (.int .i64 (x6.length : Int)) ∧ F 20 = (.int .i64 s_l1.2) ∧ Hp w0 [Ent.own 46 S78 v77 s_l1.1, Ent.own 9 S8 v9 x6, Ent.blk b4 24 #[v77], Ent.blk b2 24 #[(.slice none 0 0)], Ent.snap w0 w0.heap.size] w) (fun o => outc o (fun x => some x) (fun s => M.impl_ReadRace_a1 a0 a1 s) = some r) ho82 hm ⟨(.slice none 0 0), None_, rfl, rfl, rfl, rfl, rfl, rfl, rfl, hL⟩ ?_ ?_
 · intro s_l1 F83 wd84 hJ hm
   have hm := outcE hm
   have hm : M.impl_ReadRace_a1 a0 a1 s_l1 = some r := hm
   unfold M.impl_ReadRace_a1 at hm
   obtain ⟨v77, S78, f85, f86, f87, f88, f89, f90, f91, hL⟩ := hJ
   refine CW.seq ?_
   refine CW.seqJ (fun (s_j1 : Bool) (F : Fr) (w : World) => F 4 = (.pointer (some ⟨b2, 0, none⟩)) ∧ F 6 = (.pointer (some ⟨b4, 0, none⟩)) ∧ F 61 = (.bool s_j1) ∧ Hp w0 [Ent.own 46 S78 v77 s_l1.1, Ent.blk b4 24 #[v77], Ent.blk b2 24 #[(.slice none 0 0)], Ent.snap w0 w0.heap.size] w) (fun s_j1 => M.impl_ReadRace_j1 s_l1 s_j1 = some r) ?_ ?_
   · refine CW.regionL ?_
     refine OV (.int .i64 a0) rfl (x_mv f85) ?_
     refine OV (.agg #[v77]) rfl (x_loadN (cs := [v77]) U24 Tryd_T24 rfl f88 (hL.cellsB 2 rfl (o := 0) (l := [v77]) (by intro j u hj; exact (by simpa using hj)))) ?_
     obtain ⟨x111, hx112, hm⟩ := bndE hm
     refine OW.cons (OP.call rfl (x_call (vs := [(.int .i64 a0), (.agg #[v77])]) Tryd_C29 ⟨rfl, rfl, trivial⟩) (M.impl_IsRace_ok _ a0 (Race.mk s_l1.1) (hL.rdO 0 rfl) hx112) ?_)
     rintro e113 wd114 ⟨rfl, hF115⟩
     refine ⟨_, rfl, ?_⟩
     have hL := hL.pushAll hF115
     simp only [lA, lB, lC, lD] at hL
     refine OV (.bool (!x111)) rfl (x_not rfl) ?_
     refine OV (.bool (!x111)) rfl (x_move) ?_
     refine ifB_elim hm (fun hb116 hm => ?_) (fun hb116 hm => ?_)
     · refine OW.cons (OP.no' rfl rfl hb116 rfl ?_)
       refine OW.cons (OP.no' rfl rfl hb116 rfl ?_)
       refine OW.cons (OP.no' rfl rfl hb116 rfl ?_)
       refine OW.cons (OP.no' rfl rfl hb116 rfl ?_)
       refine OW.cons (OP.no' rfl rfl hb116 rfl ?_)
       refine OV (.bool true) rfl (x_pickT' rfl hb116 rfl) ?_
       refine OW.nil ?_
       have hL := hL.sel [0, 2, 3, 4] (by decide) rfl
       exact ⟨true, hm, ⟨f87, f88, rfl, hL⟩⟩
     refine OW.cons (OP.yes' rfl rfl hb116 (OP.val (v := (.int .i64 a0)) rfl (x_mv f85) ?_))
     refine OW.cons (OP.yes' rfl rfl hb116 (OP.val (v := (.agg #[v77])) rfl (x_loadN (cs := [v77]) U24 Tryd_T24 rfl f88 (hL.cellsB 2 rfl (o := 0) (l := [v77]) (by intro j u hj; exact (by simpa using hj)))) ?_))
     obtain ⟨x117, hx118, hm⟩ := bndE hm
     refine OW.cons (OP.yes' rfl rfl hb116 (OP.call rfl (x_call (vs := [(.int .i64 a0), (.agg #[v77])]) Tryd_C18 ⟨rfl, rfl, trivial⟩) (M.impl_RaceText_ok _ (hL.tabR 4 rfl rfl htab) a0 (Race.mk s_l1.1) (hL.rdO 0 rfl) hx118) ?_))
     rintro e119 wd120 ⟨rfl, hF121⟩
     refine ⟨_, rfl, ?_⟩
     have hL := hL.pushAll hF121
     simp only [lA, lB, lC, lD] at hL
     refine OW.cons (OP.yes' rfl rfl hb116 (OP.val (v := (.string a1)) rfl (x_mv f86) ?_))
     refine OW.cons (OP.yes' rfl rfl hb116 (OP.val (v := (.bool (!(sEq x117 a1)))) rfl (x_neqT rfl rfl) ?_))
     refine OV (.bool (!(sEq x117 a1))) rfl (x_pickF' rfl hb116 rfl) ?_
     refine OW.nil ?_
     have hL := hL.sel [0, 2, 3, 4] (by decide) rfl
     exact ⟨!(sEq x117 a1), hm, ⟨f87, f88, rfl, hL⟩⟩
   intro s_j1 F103 wd104 hJ hm
   unfold M.impl_ReadRace_j1 at hm
   obtain ⟨f105, f106, f107, hL⟩ := hJ
   refine CW.condM (t := s_j1) f107 hm (fun hb108 hm => ?_) (fun hb108 hm => ?_)
   · refine CSR ?_
     refine OV (.agg #[(.slice none 0 0)]) rfl (x_build Tryd_B24 (ps := []) trivial (by simp [Instr.fill, cells_int, cells_bool, cells_string, cells_agg, cells_slice, cells_pointer])) ?_
     refine OW.cons (S_storeN (l := [(.slice none 0 0)]) (cs' := #[(.slice none 0 0)]) hL 2 rfl Tryd_T24 f105 rfl (List.forall_mem_cons.2 ⟨rfl, (fun _ h => by cases h)⟩) rfl (Nat.le_of_ble_eq_true rfl) rfl ?_)
     intro wd109 hL
     refine OV (.bool false) rfl (x_assign) ?_
     refine OW.nil ?_
     refine CW.ret ?_
     have hL := hL.pushNil Finish 46
     obtain rfl := Option.some.inj hm
     exact RRct rfl f105 (run_loadBlk U24 Tryd_T24 (hL.get 3 rfl) rfl) rfl ⟨(.slice none 0 0), None_, rfl, hL.fresh 4 rfl [0] (by decide) (by decide) rfl⟩
   refine CW.skip ?_
   refine CSR ?_
   refine OV (.agg #[v77]) rfl (x_loadN (cs := [v77]) U24 Tryd_T24 rfl f106 (hL.cellsB 1 rfl (o := 0) (l := [v77]) (by intro j u hj; exact (by simpa using hj)))) ?_
   refine OW.cons (S_storeN (l := [v77]) (cs' := #[v77]) hL 2 rfl Tryd_T24 f105 rfl (List.forall_mem_cons.2 ⟨rdL_one (hL.rdO 0 rfl), (fun _ h => by cases h)⟩) rfl (Nat.le_of_ble_eq_true rfl) rfl ?_)
   intro wd110 hL
   refine OV (.bool true) rfl (x_assign) ?_
   refine OW.nil ?_
   refine CW.ret ?_
   obtain rfl := Option.some.inj hm
   exact RRct rfl f105 (run_loadBlk U24 Tryd_T24 (hL.get 2 rfl) rfl) rfl ⟨v77, S78, rfl, hL.fresh 3 rfl [0] (by decide) (by decide) rfl⟩
 intro s_l1 F122 wd123 t79 hJ hm hr80
 unfold M.impl_ReadRace_l1 at hm
 obtain ⟨v77, S78, f124, f125, f126, f127, f128, f129, f130, hL⟩ := hJ
 refine CSR ?_
 refine OV (.bool (decide (s_l1.2 < (x6.length : Int)))) rfl (x_lss f130 f129) ?_
 refine ONS ?_
 refine CW.condM (t := decide (s_l1.2 < (x6.length : Int))) rfl hm (fun hb131 hm => ?_) (fun hb131 hm => ?_)
 · refine CW.skip ?_
   refine CW.seq ?_
   refine CW.block ?_
   refine CSR ?_
   refine OV (.int .i64 s_l1.2) rfl (x_mv f130) ?_
   obtain ⟨x132, ha133, hm⟩ := bndE hm
   obtain ⟨hz134, ha138⟩ := idxE ha133
   obtain ⟨b135, q136, hix137⟩ := rdL_ix (hL.rdO 1 rfl) hz134 ha138
   refine OV (.pointer (some ⟨b135, q136, none⟩)) rfl (x_ix U43 Tryd_T9 f128 f130 hix137) ?_
   refine OV (.string x132) rfl (x_load1 U9 rfl rfl (rdF_cells (hL.rdO 1 rfl) hix137 ha138 0 _ rfl)) ?_
   refine OV (.int .i64 s_l1.2) rfl (x_assign) ?_
   refine OV (.string x132) rfl (x_assign) ?_
   refine ONR ?_
   refine OV (.string x132) rfl (x_move) ?_
   obtain ⟨x139, hx140, hm⟩ := bndE hm
   refine OW.cons (OP.call rfl (x_call (vs := [(.string x132), (.string (⟨#[61]⟩ : ByteArray))]) Tryd_C26 ⟨rfl, rfl, trivial⟩) (M.strings_Cut_ok _ (hL.tabR 4 rfl rfl htab) x132 (⟨#[61]⟩ : ByteArray) hx140) ?_)
   rintro e141 wd142 ⟨rfl, hF143⟩
   refine ⟨_, rfl, ?_⟩
   have hL := hL.pushAll hF143
   simp only [lA, lB, lC, lD] at hL
   refine OV (.tuple #[(.string x139.1), (.string x139.2.1), (.bool x139.2.2)]) rfl (x_move) ?_
   refine OV (.string x139.1) rfl (x_extract rfl rfl) ?_
   refine OV (.string x139.2.1) rfl (x_extract rfl rfl) ?_
   refine OV (.bool x139.2.2) rfl (x_extract rfl rfl) ?_
   refine OV (.string x139.1) rfl (x_assign) ?_
   refine OV (.string x139.2.1) rfl (x_assign) ?_
   refine OV (.bool x139.2.2) rfl (x_assign) ?_
   refine ONR ?_
   refine OV (.string x139.1) rfl (x_move) ?_
   obtain ⟨x144, hx145, hm⟩ := bndE hm
   refine OW.cons (OP.call rfl (x_call (vs := [(.string x139.1)]) Tryd_C27 ⟨rfl, trivial⟩) (M.impl_ReadCode_ok _ x139.1 hx145) ?_)
   rintro e146 wd147 ⟨rfl, hF148⟩
   refine ⟨_, rfl, ?_⟩
   have hL := hL.pushAll hF148
   simp only [lA, lB, lC, lD] at hL
   refine OV (.tuple #[(.int .i64 x144.1), (.bool x144.2)]) rfl (x_move) ?_
   refine OV (.int .i64 x144.1) rfl (x_extract rfl rfl) ?_
   refine OV (.bool x144.2) rfl (x_extract rfl rfl) ?_
   refine OV (.int .i64 x144.1) rfl (x_assign) ?_
   refine OV (.bool x144.2) rfl (x_assign) ?_
   refine ONR ?_
   refine OV (.string x139.2.1) rfl (x_move) ?_
   obtain ⟨x149, hx150, hm⟩ := bndE hm
   refine OW.cons (OP.call rfl (x_call (vs := [(.string x139.2.1)]) Tryd_C28 ⟨rfl, trivial⟩) (M.impl_number_ok _ (hL.tabR 4 rfl rfl htab) x139.2.1 hx150) ?_)
   rintro e151 wd152 ⟨rfl, hF153⟩
   refine ⟨_, rfl, ?_⟩
   have hL := hL.pushAll hF153
   simp only [lA, lB, lC, lD] at hL
   refine OV (.tuple #[(.int .i64 x149.1), (.bool x149.2)]) rfl (x_move) ?_
   refine OV (.int .i64 x149.1) rfl (x_extract rfl rfl) ?_
   refine OV (.bool x149.2) rfl (x_extract rfl rfl) ?_
   refine OV (.int .i64 x149.1) rfl (x_assign) ?_
   refine OV (.bool x149.2) rfl (x_assign) ?_
   refine OW.nil ?_
   refine CW.regionL ?_
   refine OV (.pointer (some ⟨b4, 0, none⟩)) rfl (x_fieldAddr (fsz := 1) 0 0 0 U24 rfl Tryd_T22 rfl f127 rfl) ?_
   refine OV v77 rfl (x_load1 U22 rfl rfl (hL.cellB 2 rfl rfl)) ?_
   refine OV (.int .i64 s_l1.2) rfl (x_move) ?_
   refine OV (.int .i64 x144.1) rfl (x_move) ?_
   refine OV (.int .i64 x149.1) rfl (x_move) ?_
   refine OV (.agg #[(.int .i64 s_l1.2), (.int .i64 x144.1), (.int .i64 x149.1)]) rfl (x_build Tryd_B46 (ps := [(0, (.int .i64 s_l1.2)), (1, (.int .i64 x144.1)), (2, (.int .i64 x149.1))]) ⟨⟨rfl, rfl⟩, ⟨rfl, rfl⟩, ⟨rfl, rfl⟩, trivial⟩ (by simp [Instr.fill, cells_int, cells_bool, cells_string, cells_agg, cells_slice, cells_pointer])) ?_
   refine OW.cons (S_lit ([(Finish.mk s_l1.2 x144.1 x149.1)] : List Finish) hL U22 Tryd_T46 rfl (by decide) (by first | (simp [Instr.fill, madeCells, Value.cells, ev, upd, Flat.enc, Flat.sz]; done) | rfl | kernel_rfl) rfl rfl ?_)
   intro wd154 v155 S156 hL
   obtain ⟨hc160, hm⟩ := chkE hm
   refine OW.cons (S_append (ys := ([(Finish.mk s_l1.2 x144.1 x149.1)] : List Finish)) hL 1 rfl U22 Tryd_T46 rfl rfl rfl (hL.rdO 0 rfl) hc160 (by decide) rfl ?_)
   intro wd157 v158 S159 hL
   refine OV (.pointer (some ⟨b4, 0, none⟩)) rfl (x_fieldAddr (fsz := 1) 0 0 0 U24 rfl Tryd_T22 rfl f127 rfl) ?_
   refine OW.cons (S_store (cs' := #[v158]) hL 3 rfl Tryd_T22 rfl (rdL_one (hL.rdO 1 rfl)) rfl rfl rfl ?_)
   intro wd161 hL
   refine OW.nil ?_
   refine CW.regionL ?_
   refine OV (.int .i64 (w64 (s_l1.2 + 1))) rfl (x_add f130 rfl) ?_
   refine OV (.int .i64 (w64 (s_l1.2 + 1))) rfl (x_move) ?_
   refine OW.nil ?_
   have hL := hL.sel [1, 2, 3, 4, 5] (by decide) rfl
   obtain rfl := Option.some.inj hm
   exact ⟨_, rfl, ⟨v158, S159, f124, f125, f126, f127, f128, f129, rfl, hL⟩⟩
 refine CW.exit ?_
 refine XJ.hit ?_
 obtain rfl := Option.some.inj hm
 exact ⟨_, rfl, ⟨v77, S78, f124, f125, f126, f127, f128, f129, f130, hL⟩⟩

theorem M.laws_big_ok (w0 : World) (a0 : List UInt8) {v1 : Value} (h2 : rdL (· < w0.heap.size) w0 v1 a0) {r : Bool} (hm : M.laws_big a0 = some r) :
    Calls Tryd.prog 16 #[v1] w0 fun e w' => e = .returned (.bool r) ∧ Fresh w0 w' [] := by
 unfold M.laws_big at hm
 refine calls_CW (args := [v1]) Tryd.func16 rfl rfl rfl ?_
 have hL := Hp.start w0
 refine CSR ?_
 refine OV (.bool false) rfl (x_assign) ?_
 refine ONR ?_
 refine OV v1 rfl (x_move) ?_
 refine OV (.int .i64 (a0.length : Int)) rfl (x_lenR U36 rfl (hL.rdS 0 rfl h2)) ?_
 refine OV (.bool (decide (4096 < (a0.length : Int)))) rfl (x_gtr rfl rfl) ?_
 refine OV (.bool (decide (4096 < (a0.length : Int)))) rfl (x_assign) ?_
 refine OW.nil ?_
 refine CW.ret ?_
 obtain rfl := Option.some.inj hm
 exact RR1 rfl rfl ⟨rfl, hL.fresh 0 rfl [] (by decide) (by decide) rfl⟩

theorem M.spec_l01From_ok (w0 : World) (a0 : List UInt8) {v1 : Value} (h2 : rdL (· < w0.heap.size) w0 v1 a0) {r : (Int × Int)} (hm : M.spec_l01From a0 = some r) :
    Calls Tryd.prog 46 #[v1] w0 fun e w' => ∃ rb : Nat, e = .returned (.pointer (some ⟨rb, 0, none⟩)) ∧ Fresh w0 w' [Ent.blk rb 88 #[v1, .int .i64 r.1, .int .i64 r.2]] := by
 unfold M.spec_l01From at hm
 refine calls_CW (args := [v1]) Tryd.func46 rfl rfl rfl ?_
 have hL := Hp.start w0
 refine CSR ?_
 refine OV (.pointer none) rfl (x_assign) ?_
 refine ONR ?_
 refine OV v1 rfl (x_move) ?_
 refine OV (.agg #[v1, (.int .i64 0), (.int .i64 61657)]) rfl (x_build Tryd_B88 (ps := [(0, v1), (2, (.int .i64 61657))]) ⟨⟨rfl, rfl⟩, ⟨rfl, rfl⟩, trivial⟩ (by simp [Instr.fill, cells_int, cells_bool, cells_string, cells_agg, cells_slice, cells_pointer, (rdL_cells (hL.rdS 0 rfl h2))])) ?_
 refine OW.cons (S_box (cs := #[v1, (.int .i64 0), (.int .i64 61657)]) hL rfl rfl rfl ?_)
 intro wd3 b4 hL
 refine OV (.pointer (some ⟨b4, 0, none⟩)) rfl (x_assign) ?_
 refine ONS ?_
 refine CSR ?_
 refine OV (.int .i64 0) rfl (x_assign) ?_
 refine OW.nil ?_
 obtain ⟨o57, ho58, hm⟩ := bndE hm
 refine CW.loopB (fun (s_l1 : Int × Int) (F : Fr) (w : World) => F 0 = v1 ∧ F 3 = (.pointer (some ⟨b4, 0, none⟩)) ∧ F 4 = (.int .i64 s_l1.2) ∧ Hp w0 [Ent.blk b4 88 #[v1, (.int .i64 0), (.int .i64 s_l1.1)], Ent.snap w0 w0.heap.size] w) (fun o => outc o (fun x => some x) (fun s => M.spec_l01From_a1 s) = some r) ho58 hm ⟨rfl, rfl, rfl, hL⟩ ?_ ?_
 · intro s_l1 F59 wd60 hJ hm
   have hm := outcE hm
   have hm : M.spec_l01From_a1 s_l1 = some r := hm
   unfold M.spec_l01From_a1 at hm
   obtain ⟨f61, f62, f63, hL⟩ := hJ
   refine CSR ?_
   refine OV (.pointer (some ⟨b4, 0, none⟩)) rfl (x_mv f62) ?_
   refine OV (.pointer (some ⟨b4, 0, none⟩)) rfl (x_assign) ?_
   refine OW.nil ?_
   refine CW.ret ?_
   obtain rfl := Option.some.inj hm
   exact RR1 rfl rfl ⟨b4, rfl, hL.fresh 1 rfl [0] (by decide) (by decide) rfl⟩
 intro s_l1 F64 wd65 t55 hJ hm hr56
 unfold M.spec_l01From_l1 at hm
 obtain ⟨f66, f67, f68, hL⟩ := hJ
 refine CW.seq ?_
 refine CW.seqJ (fun (s_j1 : Bool) (F : Fr) (w : World) => F 0 = v1 ∧ F 3 = (.pointer (some ⟨b4, 0, none⟩)) ∧ F 4 = (.int .i64 s_l1.2) ∧ F 15 = (.bool s_j1) ∧ Hp w0 [Ent.blk b4 88 #[v1, (.int .i64 0), (.int .i64 s_l1.1)], Ent.snap w0 w0.heap.size] w) (fun s_j1 => M.spec_l01From_j1 a0 s_l1 s_j1 = some t55) ?_ ?_
 · refine CW.regionL ?_
   refine OV (.int .i64 s_l1.2) rfl (x_mv f68) ?_
   refine OV v1 rfl (x_mv f66) ?_
   refine OV (.int .i64 (a0.length : Int)) rfl (x_lenR U36 rfl (hL.rdS 1 rfl h2)) ?_
   refine OV (.bool (decide (s_l1.2 < (a0.length : Int)))) rfl (x_lss rfl rfl) ?_
   refine OV (.bool (decide (s_l1.2 < (a0.length : Int)))) rfl (x_move) ?_
   refine ifB_elim hm (fun hb93 hm => ?_) (fun hb93 hm => ?_)
   · refine OW.cons (OP.yes' rfl rfl hb93 (OP.val (v := (.int .i64 s_l1.2)) rfl (x_mv f68) ?_))
     refine OW.cons (OP.yes' rfl rfl hb93 (OP.val (v := (.bool (decide (s_l1.2 < 64)))) rfl (x_lss rfl rfl) ?_))
     refine OV (.bool (decide (s_l1.2 < 64))) rfl (x_pickT' rfl hb93 rfl) ?_
     refine OW.nil ?_
     exact ⟨decide (s_l1.2 < 64), hm, ⟨f66, f67, f68, rfl, hL⟩⟩
   refine OW.cons (OP.no' rfl rfl hb93 rfl ?_)
   refine OW.cons (OP.no' rfl rfl hb93 rfl ?_)
   refine OV (.bool false) rfl (x_pickF' rfl hb93 rfl) ?_
   refine OW.nil ?_
   exact ⟨false, hm, ⟨f66, f67, f68, rfl, hL⟩⟩
 intro s_j1 F70 wd71 hJ hm
 unfold M.spec_l01From_j1 at hm
 obtain ⟨f72, f73, f74, f75, hL⟩ := hJ
 refine CW.condM (t := s_j1) f75 hm (fun hb76 hm => ?_) (fun hb76 hm => ?_)
 · refine CW.skip ?_
   refine CW.seq ?_
   refine CW.block ?_
   refine CW.drawH (fun w' => Hp w0 [Ent.snap w0 w0.heap.size] w') Tryd_mixed ?_
   have hL := hL.call (Mod.drew _)
   have hS := (hL.sel [1] (by decide) rfl)
   refine DH.take 0 rfl (by kernel_rfl) (by kernel_rfl) (by kernel_rfl) rfl rfl hS (YH.val (v := (.pointer (some ⟨b4, 0, none⟩))) (fun w' hS' => x_mv f73)) ?_
   have hS := (hL.sel [1] (by decide) rfl)
   refine DH.take 1 rfl (by kernel_rfl) (by kernel_rfl) (by kernel_rfl) rfl rfl hS (YH.val (v := (.pointer (some ⟨b4, 0, none⟩))) (fun w' hS' => x_mv f73)) ?_
   have hS := (hL.sel [1] (by decide) rfl)
   refine DH.take 2 rfl (by kernel_rfl) (by kernel_rfl) (by kernel_rfl) rfl rfl hS (YH.val (v := (.pointer (some ⟨b4, 0, none⟩))) (fun w' hS' => x_nilCheck rfl)) ?_
   have hS := (hL.sel [1] (by decide) rfl)
   refine DH.take 3 rfl (by kernel_rfl) (by kernel_rfl) (by kernel_rfl) rfl rfl hS (YH.val (v := (.pointer (some ⟨b4, 2, none⟩))) (fun w' hS' => x_fieldAddr (fsz := 1) 0 2 2 U88 rfl Tryd_T2 rfl rfl rfl)) ?_
   have hS := (hL.sel [1] (by decide) rfl)
   refine DH.take 6 rfl (by kernel_rfl) (by kernel_rfl) (by kernel_rfl) rfl rfl hS (YH.val (v := v1) (fun w' hS' => x_mv f72)) ?_
   have hS := (hL.sel [1] (by decide) rfl)
   refine DH.take 7 rfl (by kernel_rfl) (by kernel_rfl) (by kernel_rfl) rfl rfl hS (YH.val (v := (.int .i64 s_l1.2)) (fun w' hS' => x_mv f74)) ?_
   have hS := (hL.sel [1] (by decide) rfl)
   obtain ⟨x85, ha86, hm⟩ := bndE hm
   obtain ⟨hz87, ha91⟩ := idxE ha86
   obtain ⟨b88, q89, hix90⟩ := rdL_ix (hL.rdS 1 rfl h2) hz87 ha91
   refine DH.take 8 rfl (by kernel_rfl) (by kernel_rfl) (by kernel_rfl) rfl rfl hS (YH.val (v := (.pointer (some ⟨b88, q89, none⟩))) (fun w' hS' => x_ix U36 Tryd_T5 rfl rfl hix90)) ?_
   have hS := (hL.sel [1] (by decide) rfl)
   refine DH.take 9 rfl (by kernel_rfl) (by kernel_rfl) (by kernel_rfl) rfl rfl hS (YH.val (v := (.int .u8 (x85.toNat : Int))) (fun w' hS' => x_load1 U5 rfl rfl (rdF_cells (hS'.rdS 0 rfl h2) hix90 ha91 0 _ rfl))) ?_
   have hS := (hL.sel [1] (by decide) rfl)
   refine DH.take 10 rfl (by kernel_rfl) (by kernel_rfl) (by kernel_rfl) rfl rfl hS (YH.val (v := (.int .i64 (IntKind.i64.wrap (x85.toNat : Int)))) (fun w' hS' => x_conv U5 U2 rfl)) ?_
   refine DH.only 4 rfl (by kernel_rfl) (OP.val (v := (.int .i64 s_l1.1)) rfl (x_load1 U2 rfl rfl (hL.cellB 0 rfl rfl)) ?_)
   refine ⟨(hL.sel [1] (by decide) rfl), ?_⟩
   have hS := (hL.sel [1] (by decide) rfl)
   refine DH.take 5 rfl (by kernel_rfl) (by kernel_rfl) (by kernel_rfl) rfl rfl hS (YH.val (v := (.int .i64 (w64 (s_l1.1 * 53)))) (fun w' hS' => x_mul rfl rfl)) ?_
   have hS := (hL.sel [1] (by decide) rfl)
   refine DH.take 11 rfl (by kernel_rfl) (by kernel_rfl) (by kernel_rfl) rfl rfl hS (YH.val (v := (.int .i64 (w64 ((w64 (s_l1.1 * 53)) + (IntKind.i64.wrap (x85.toNat : Int)))))) (fun w' hS' => x_add rfl rfl)) ?_
   have hS := (hL.sel [1] (by decide) rfl)
   refine DH.take 12 rfl (by kernel_rfl) (by kernel_rfl) (by kernel_rfl) rfl rfl hS (YH.val (v := (.int .i64 ((w64 ((w64 (s_l1.1 * 53)) + (IntKind.i64.wrap (x85.toNat : Int)))).tmod 2147483647))) (fun w' hS' => x_rem rfl rfl (by decide))) ?_
   have hS := (hL.sel [1] (by decide) rfl)
   refine DH.take 13 rfl (by kernel_rfl) (by kernel_rfl) (by kernel_rfl) rfl rfl hS (YH.val (v := (.pointer (some ⟨b4, 0, none⟩))) (fun w' hS' => x_nilCheck rfl)) ?_
   have hS := (hL.sel [1] (by decide) rfl)
   refine DH.take 14 rfl (by kernel_rfl) (by kernel_rfl) (by kernel_rfl) rfl rfl hS (YH.val (v := (.pointer (some ⟨b4, 2, none⟩))) (fun w' hS' => x_fieldAddr (fsz := 1) 0 2 2 U88 rfl Tryd_T2 rfl rfl rfl)) ?_
   refine DH.only 15 rfl (by kernel_rfl) (S_store (cs' := #[v1, (.int .i64 0), (.int .i64 ((w64 ((w64 (s_l1.1 * 53)) + (IntKind.i64.wrap (x85.toNat : Int)))).tmod 2147483647))]) hL 0 rfl Tryd_T2 rfl rfl rfl rfl rfl ?_)
   intro wd92 hL
   refine ⟨(hL.sel [1] (by decide) rfl), ?_⟩
   refine DH.done (by kernel_rfl) ?_
   refine CW.regionL ?_
   refine OV (.int .i64 s_l1.2) rfl (x_mv f74) ?_
   refine OV (.int .i64 (w64 (s_l1.2 + 1))) rfl (x_add rfl rfl) ?_
   refine OV (.int .i64 (w64 (s_l1.2 + 1))) rfl (x_assign) ?_
   refine OW.nil ?_
   obtain rfl := Option.some.inj hm
   exact ⟨_, rfl, ⟨f72, f73, rfl, hL⟩⟩
 refine CW.exit ?_
 refine XJ.hit ?_
 obtain rfl := Option.some.inj hm
 exact ⟨_, rfl, ⟨f72, f73, f74, hL⟩⟩

theorem M.spec_l01Next_ok (w0 : World) {b1 : Nat} {v2 : Value} (a0 : Src) (h3 : rdL (fun k => k < w0.heap.size ∧ ¬ (Ent.blk b1 88 #[v2, .int .i64 a0.at_, .int .i64 a0.seed]).S k) w0 v2 a0.code) (he4 : (Ent.blk b1 88 #[v2, .int .i64 a0.at_, .int .i64 a0.seed]).H w0) (a1 : Int) {r : (Int) × (Int × Int)} (hm : M.spec_l01Next a0 a1 = some r) :
    Calls Tryd.prog 47 #[(.pointer (some ⟨b1, 0, none⟩)), (.int .i64 a1)] w0 fun e w' => e = .returned (.int .i64 r.1) ∧ Mut w0 w' (Ent.blk b1 88 #[v2, .int .i64 a0.at_, .int .i64 a0.seed]).S [Ent.blk b1 88 #[v2, .int .i64 r.2.1, .int .i64 r.2.2]] := by
 unfold M.spec_l01Next at hm
 refine calls_CW (args := [(.pointer (some ⟨b1, 0, none⟩)), (.int .i64 a1)]) Tryd.func47 rfl rfl rfl ?_
 have hL := Hp.startIO he4
 refine CSR ?_
 refine OV (.int .i64 0) rfl (x_assign) ?_
 refine ONS ?_
 refine CSR ?_
 refine OV (.int .i64 a1) rfl (x_move) ?_
 refine OV (.bool (decide (a1 ≤ 1))) rfl (x_leq rfl rfl) ?_
 refine OW.nil ?_
 refine CW.condM (t := decide (a1 ≤ 1)) rfl hm (fun hb5 hm => ?_) (fun hb5 hm => ?_)
 · refine CSR ?_
   refine OV (.int .i64 0) rfl (x_assign) ?_
   refine OW.nil ?_
   refine CW.ret ?_
   obtain rfl := Option.some.inj hm
   exact RR1 rfl rfl ⟨rfl, hL.mutOut 1 rfl [0] (by decide) (by decide) rfl⟩
 refine CW.skip ?_
 refine CSR ?_
 refine OV (.pointer (some ⟨b1, 0, none⟩)) rfl (x_move) ?_
 refine OV (.pointer (some ⟨b1, 0, none⟩)) rfl (x_move) ?_
 refine OV (.pointer (some ⟨b1, 0, none⟩)) rfl (x_nilCheck rfl) ?_
 refine OV (.pointer (some ⟨b1, 2, none⟩)) rfl (x_fieldAddr (fsz := 1) 0 2 2 U88 rfl Tryd_T2 rfl rfl rfl) ?_
 refine OV (.int .i64 a0.seed) rfl (x_load1 U2 rfl rfl (hL.cellB 0 rfl rfl)) ?_
 refine OV (.int .i64 (w64 (a0.seed * 48271))) rfl (x_mul rfl rfl) ?_
 refine OV (.int .i64 (w64 ((w64 (a0.seed * 48271)) + 23))) rfl (x_add rfl rfl) ?_
 refine OV (.int .i64 ((w64 ((w64 (a0.seed * 48271)) + 23)).tmod 2147483647)) rfl (x_rem rfl rfl (by decide)) ?_
 refine OV (.pointer (some ⟨b1, 0, none⟩)) rfl (x_nilCheck rfl) ?_
 refine OV (.pointer (some ⟨b1, 2, none⟩)) rfl (x_fieldAddr (fsz := 1) 0 2 2 U88 rfl Tryd_T2 rfl rfl rfl) ?_
 refine OW.cons (S_store (cs' := #[v2, (.int .i64 a0.at_), (.int .i64 ((w64 ((w64 (a0.seed * 48271)) + 23)).tmod 2147483647))]) hL 0 rfl Tryd_T2 rfl rfl rfl rfl rfl ?_)
 intro wd6 hL
 refine ONR ?_
 refine OV (.pointer (some ⟨b1, 0, none⟩)) rfl (x_move) ?_
 refine OV (.pointer (some ⟨b1, 0, none⟩)) rfl (x_nilCheck rfl) ?_
 refine OV (.pointer (some ⟨b1, 2, none⟩)) rfl (x_fieldAddr (fsz := 1) 0 2 2 U88 rfl Tryd_T2 rfl rfl rfl) ?_
 refine OV (.int .i64 ((w64 ((w64 (a0.seed * 48271)) + 23)).tmod 2147483647)) rfl (x_load1 U2 rfl rfl (hL.cellB 0 rfl rfl)) ?_
 refine OV (.int .i64 (w64 (((w64 ((w64 (a0.seed * 48271)) + 23)).tmod 2147483647).tdiv 17))) rfl (x_quo rfl rfl (by decide)) ?_
 refine OV (.int .i64 (w64 (((w64 ((w64 (a0.seed * 48271)) + 23)).tmod 2147483647).tdiv 17))) rfl (x_assign) ?_
 refine OW.nil ?_
 refine CW.seqJ (fun (s_j1 : Int × Int) (F : Fr) (w : World) => F 1 = (.int .i64 a1) ∧ F 5 = (.int .i64 s_j1.2) ∧ Hp w0 [Ent.blk b1 88 #[v2, (.int .i64 s_j1.1), (.int .i64 ((w64 ((w64 (a0.seed * 48271)) + 23)).tmod 2147483647))], Ent.frz w0 (Ent.blk b1 88 #[v2, .int .i64 a0.at_, .int .i64 a0.seed]).S] w) (fun s_j1 => M.spec_l01Next_j1 a0 a1 s_j1 = some r) ?_ ?_
 · refine CW.seq ?_
   refine CW.draw Tryd_mixed ?_
   have hL := hL.call (Mod.drew _)
   refine DW.pre (fuel := 0) (fin := bma 10 1023) (C := fun w' => Mod None_ _ w') [0, 1, 2, 3, 4, 5, 6, 7, 8, 9] (Mod.refl _ _) (by kernel_rfl) (by kernel_rfl) ?_
   refine QW.cons rfl (QP.val (v := (.pointer (some ⟨b1, 0, none⟩))) rfl (fun w' hm' => x_move) ?_)
   refine QW.cons rfl (QP.val (v := (.pointer (some ⟨b1, 0, none⟩))) rfl (fun w' hm' => x_nilCheck rfl) ?_)
   refine QW.cons rfl (QP.val (v := (.pointer (some ⟨b1, 1, none⟩))) rfl (fun w' hm' => x_fieldAddr (fsz := 1) 0 1 1 U88 rfl Tryd_T3 rfl rfl rfl) ?_)
   refine QW.cons rfl (QP.val (v := (.int .i64 a0.at_)) rfl (fun w' hm' => x_load1 U3 rfl rfl ((hL.call hm').cellB 0 rfl rfl)) ?_)
   refine QW.cons rfl (QP.val (v := (.pointer (some ⟨b1, 0, none⟩))) rfl (fun w' hm' => x_move) ?_)
   refine QW.cons rfl (QP.val (v := (.pointer (some ⟨b1, 0, none⟩))) rfl (fun w' hm' => x_nilCheck rfl) ?_)
   refine QW.cons rfl (QP.val (v := (.pointer (some ⟨b1, 0, none⟩))) rfl (fun w' hm' => x_fieldAddr (fsz := 1) 0 0 0 U88 rfl Tryd_T36 rfl rfl rfl) ?_)
   refine QW.cons rfl (QP.val (v := v2) rfl (fun w' hm' => x_load1 U36 rfl rfl ((hL.call hm').cellB 0 rfl rfl)) ?_)
   refine QW.cons rfl (QP.val (v := (.int .i64 (a0.code.length : Int))) rfl (fun w' hm' => x_lenR U36 rfl ((hL.call hm').rdZ 1 rfl h3)) ?_)
   refine QW.cons rfl (QP.val (v := (.bool (decide (a0.at_ < (a0.code.length : Int))))) rfl (fun w' hm' => x_lss rfl rfl) ?_)
   refine QW.nil ?_
   intro wd40 hmod
   have hL := hL.call hmod
   refine DW.done (by kernel_rfl) ?_
   refine CW.condM (t := decide (a0.at_ < (a0.code.length : Int))) rfl hm (fun hb41 hm => ?_) (fun hb41 hm => ?_)
   · refine CW.seq ?_
     refine CW.draw Tryd_mixed ?_
     have hL := hL.call (Mod.drew _)
     refine DW.pre (fuel := 0) (fin := bma 14 16383) (C := fun w' => Mod None_ _ w') [0, 1, 2, 3, 4, 5, 6, 7, 8, 9, 10, 11, 12, 13] (Mod.refl _ _) (by kernel_rfl) (by kernel_rfl) ?_
     refine QW.cons rfl (QP.val (v := (.int .i64 (w64 (((w64 ((w64 (a0.seed * 48271)) + 23)).tmod 2147483647).tdiv 17)))) rfl (fun w' hm' => x_move) ?_)
     refine QW.cons rfl (QP.val (v := (.pointer (some ⟨b1, 0, none⟩))) rfl (fun w' hm' => x_move) ?_)
     refine QW.cons rfl (QP.val (v := (.pointer (some ⟨b1, 0, none⟩))) rfl (fun w' hm' => x_nilCheck rfl) ?_)
     refine QW.cons rfl (QP.val (v := (.pointer (some ⟨b1, 0, none⟩))) rfl (fun w' hm' => x_fieldAddr (fsz := 1) 0 0 0 U88 rfl Tryd_T36 rfl rfl rfl) ?_)
     refine QW.cons rfl (QP.val (v := v2) rfl (fun w' hm' => x_load1 U36 rfl rfl ((hL.call hm').cellB 0 rfl rfl)) ?_)
     refine QW.cons rfl (QP.val (v := (.pointer (some ⟨b1, 0, none⟩))) rfl (fun w' hm' => x_move) ?_)
     refine QW.cons rfl (QP.val (v := (.pointer (some ⟨b1, 0, none⟩))) rfl (fun w' hm' => x_nilCheck rfl) ?_)
     refine QW.cons rfl (QP.val (v := (.pointer (some ⟨b1, 1, none⟩))) rfl (fun w' hm' => x_fieldAddr (fsz := 1) 0 1 1 U88 rfl Tryd_T3 rfl rfl rfl) ?_)
     refine QW.cons rfl (QP.val (v := (.int .i64 a0.at_)) rfl (fun w' hm' => x_load1 U3 rfl rfl ((hL.call hm').cellB 0 rfl rfl)) ?_)
     obtain ⟨x42, ha43, hm⟩ := bndE hm
     obtain ⟨hz44, ha48⟩ := idxE ha43
     obtain ⟨b45, q46, hix47⟩ := rdL_ix (hL.rdZ 1 rfl h3) hz44 ha48
     refine QW.cons rfl (QP.val (v := (.pointer (some ⟨b45, q46, none⟩))) rfl (fun w' hm' => x_ix U36 Tryd_T5 rfl rfl hix47) ?_)
     refine QW.cons rfl (QP.val (v := (.int .u8 (x42.toNat : Int))) rfl (fun w' hm' => x_load1 U5 rfl rfl (rdF_cells ((hL.call hm').rdZ 1 rfl h3) hix47 ha48 0 _ rfl)) ?_)
     refine QW.cons rfl (QP.val (v := (.int .i64 (IntKind.i64.wrap (x42.toNat : Int)))) rfl (fun w' hm' => x_conv U5 U2 rfl) ?_)
     refine QW.cons rfl (QP.val (v := (.int .i64 (w64 ((w64 (((w64 ((w64 (a0.seed * 48271)) + 23)).tmod 2147483647).tdiv 17)) + (IntKind.i64.wrap (x42.toNat : Int)))))) rfl (fun w' hm' => x_add rfl rfl) ?_)
     refine QW.cons rfl (QP.val (v := (.int .i64 (w64 ((w64 (((w64 ((w64 (a0.seed * 48271)) + 23)).tmod 2147483647).tdiv 17)) + (IntKind.i64.wrap (x42.toNat : Int)))))) rfl (fun w' hm' => x_assign) ?_)
     refine QW.nil ?_
     intro wd49 hmod
     have hL := hL.call hmod
     refine DW.done (by kernel_rfl) ?_
     refine CSR ?_
     refine OV (.pointer (some ⟨b1, 0, none⟩)) rfl (x_move) ?_
     refine OV (.pointer (some ⟨b1, 0, none⟩)) rfl (x_nilCheck rfl) ?_
     refine OV (.pointer (some ⟨b1, 1, none⟩)) rfl (x_fieldAddr (fsz := 1) 0 1 1 U88 rfl Tryd_T3 rfl rfl rfl) ?_
     refine OV (.int .i64 a0.at_) rfl (x_load1 U3 rfl rfl (hL.cellB 0 rfl rfl)) ?_
     refine OV (.int .i64 (w64 (a0.at_ + 1))) rfl (x_add rfl rfl) ?_
     refine OV (.pointer (some ⟨b1, 0, none⟩)) rfl (x_nilCheck rfl) ?_
     refine OV (.pointer (some ⟨b1, 1, none⟩)) rfl (x_fieldAddr (fsz := 1) 0 1 1 U88 rfl Tryd_T3 rfl rfl rfl) ?_
     refine OW.cons (S_store (cs' := #[v2, (.int .i64 (w64 (a0.at_ + 1))), (.int .i64 ((w64 ((w64 (a0.seed * 48271)) + 23)).tmod 2147483647))]) hL 0 rfl Tryd_T3 rfl rfl rfl rfl rfl ?_)
     intro wd50 hL
     refine OW.nil ?_
     refine CW.seqJ (fun (s_j2 : Bool) (F : Fr) (w : World) => F 0 = (.pointer (some ⟨b1, 0, none⟩)) ∧ F 1 = (.int .i64 a1) ∧ F 5 = (.int .i64 (w64 ((w64 (((w64 ((w64 (a0.seed * 48271)) + 23)).tmod 2147483647).tdiv 17)) + (IntKind.i64.wrap (x42.toNat : Int))))) ∧ F 62 = (.bool s_j2) ∧ Hp w0 [Ent.blk b1 88 #[v2, (.int .i64 (w64 (a0.at_ + 1))), (.int .i64 ((w64 ((w64 (a0.seed * 48271)) + 23)).tmod 2147483647))], Ent.frz w0 (Ent.blk b1 88 #[v2, .int .i64 a0.at_, .int .i64 a0.seed]).S] w) (fun s_j2 => M.spec_l01Next_j2 a0 a1 x42 s_j2 = some r) ?_ ?_
     · refine CW.regionL ?_
       refine OV (.int .i64 a1) rfl (x_move) ?_
       refine OV (.bool (decide (a1 ≤ 256))) rfl (x_leq rfl rfl) ?_
       refine OV (.bool (decide (a1 ≤ 256))) rfl (x_move) ?_
       refine ifB_elim hm (fun hb67 hm => ?_) (fun hb67 hm => ?_)
       · refine OW.cons (OP.yes' rfl rfl hb67 (OP.val (v := (.pointer (some ⟨b1, 0, none⟩))) rfl (x_move) ?_))
         refine OW.cons (OP.yes' rfl rfl hb67 (OP.val (v := (.pointer (some ⟨b1, 0, none⟩))) rfl (x_nilCheck rfl) ?_))
         refine OW.cons (OP.yes' rfl rfl hb67 (OP.val (v := (.pointer (some ⟨b1, 1, none⟩))) rfl (x_fieldAddr (fsz := 1) 0 1 1 U88 rfl Tryd_T3 rfl rfl rfl) ?_))
         refine OW.cons (OP.yes' rfl rfl hb67 (OP.val (v := (.int .i64 (w64 (a0.at_ + 1)))) rfl (x_load1 U3 rfl rfl (hL.cellB 0 rfl rfl)) ?_))
         refine OW.cons (OP.yes' rfl rfl hb67 (OP.val (v := (.int .i64 ((w64 (a0.at_ + 1)).tmod 2))) rfl (x_rem rfl rfl (by decide)) ?_))
         refine OW.cons (OP.yes' rfl rfl hb67 (OP.val (v := (.bool (((w64 (a0.at_ + 1)).tmod 2) == 0))) rfl (x_eql rfl rfl) ?_))
         refine OV (.bool (((w64 (a0.at_ + 1)).tmod 2) == 0)) rfl (x_pickT' rfl hb67 rfl) ?_
         refine OW.nil ?_
         exact ⟨((w64 (a0.at_ + 1)).tmod 2) == 0, hm, ⟨rfl, rfl, rfl, rfl, hL⟩⟩
       refine OW.cons (OP.no' rfl rfl hb67 rfl ?_)
       refine OW.cons (OP.no' rfl rfl hb67 rfl ?_)
       refine OW.cons (OP.no' rfl rfl hb67 rfl ?_)
       refine OW.cons (OP.no' rfl rfl hb67 rfl ?_)
       refine OW.cons (OP.no' rfl rfl hb67 rfl ?_)
       refine OW.cons (OP.no' rfl rfl hb67 rfl ?_)
       refine OV (.bool false) rfl (x_pickF' rfl hb67 rfl) ?_
       refine OW.nil ?_
       exact ⟨false, hm, ⟨rfl, rfl, rfl, rfl, hL⟩⟩
     intro s_j2 F52 wd53 hJ hm
     unfold M.spec_l01Next_j2 at hm
     obtain ⟨f54, f55, f56, f57, hL⟩ := hJ
     refine CW.condM (t := s_j2) f57 hm (fun hb58 hm => ?_) (fun hb58 hm => ?_)
     · refine CW.draw Tryd_mixed ?_
       have hL := hL.call (Mod.drew _)
       refine DW.pre (fuel := 0) (fin := bma 13 8191) (C := fun w' => Mod None_ _ w') [0, 1, 2, 3, 4, 5, 6, 7, 8, 9, 10, 11, 12] (Mod.refl _ _) (by kernel_rfl) (by kernel_rfl) ?_
       refine QW.cons rfl (QP.val (v := (.pointer (some ⟨b1, 0, none⟩))) rfl (fun w' hm' => x_mv f54) ?_)
       refine QW.cons rfl (QP.val (v := (.pointer (some ⟨b1, 0, none⟩))) rfl (fun w' hm' => x_nilCheck rfl) ?_)
       refine QW.cons rfl (QP.val (v := (.pointer (some ⟨b1, 0, none⟩))) rfl (fun w' hm' => x_fieldAddr (fsz := 1) 0 0 0 U88 rfl Tryd_T36 rfl rfl rfl) ?_)
       refine QW.cons rfl (QP.val (v := v2) rfl (fun w' hm' => x_load1 U36 rfl rfl ((hL.call hm').cellB 0 rfl rfl)) ?_)
       refine QW.cons rfl (QP.val (v := (.pointer (some ⟨b1, 0, none⟩))) rfl (fun w' hm' => x_mv f54) ?_)
       refine QW.cons rfl (QP.val (v := (.pointer (some ⟨b1, 0, none⟩))) rfl (fun w' hm' => x_nilCheck rfl) ?_)
       refine QW.cons rfl (QP.val (v := (.pointer (some ⟨b1, 1, none⟩))) rfl (fun w' hm' => x_fieldAddr (fsz := 1) 0 1 1 U88 rfl Tryd_T3 rfl rfl rfl) ?_)
       refine QW.cons rfl (QP.val (v := (.int .i64 (w64 (a0.at_ + 1)))) rfl (fun w' hm' => x_load1 U3 rfl rfl ((hL.call hm').cellB 0 rfl rfl)) ?_)
       refine QW.cons rfl (QP.val (v := (.int .i64 (w64 ((w64 (a0.at_ + 1)) - 1)))) rfl (fun w' hm' => x_sub rfl rfl) ?_)
       obtain ⟨x59, ha60, hm⟩ := bndE hm
       obtain ⟨hz61, ha65⟩ := idxE ha60
       obtain ⟨b62, q63, hix64⟩ := rdL_ix (hL.rdZ 1 rfl h3) hz61 ha65
       refine QW.cons rfl (QP.val (v := (.pointer (some ⟨b62, q63, none⟩))) rfl (fun w' hm' => x_ix U36 Tryd_T5 rfl rfl hix64) ?_)
       refine QW.cons rfl (QP.val (v := (.int .u8 (x59.toNat : Int))) rfl (fun w' hm' => x_load1 U5 rfl rfl (rdF_cells ((hL.call hm').rdZ 1 rfl h3) hix64 ha65 0 _ rfl)) ?_)
       refine QW.cons rfl (QP.val (v := (.int .i64 (IntKind.i64.wrap (x59.toNat : Int)))) rfl (fun w' hm' => x_conv U5 U2 rfl) ?_)
       refine QW.cons rfl (QP.val (v := (.int .i64 (IntKind.i64.wrap (x59.toNat : Int)))) rfl (fun w' hm' => x_assign) ?_)
       refine QW.nil ?_
       intro wd66 hmod
       have hL := hL.call hmod
       refine DW.done (by kernel_rfl) ?_
       exact ⟨(w64 (a0.at_ + 1), IntKind.i64.wrap (x59.toNat : Int)), hm, ⟨f55, rfl, hL⟩⟩
     refine CW.skip ?_
     exact ⟨(w64 (a0.at_ + 1), w64 ((w64 (((w64 ((w64 (a0.seed * 48271)) + 23)).tmod 2147483647).tdiv 17)) + (IntKind.i64.wrap (x42.toNat : Int)))), hm, ⟨f55, f56, hL⟩⟩
   refine CW.skip ?_
   exact ⟨(a0.at_, w64 (((w64 ((w64 (a0.seed * 48271)) + 23)).tmod 2147483647).tdiv 17)), hm, ⟨rfl, rfl, hL⟩⟩
 intro s_j1 F35 wd36 hJ hm
 unfold M.spec_l01Next_j1 at hm
 obtain ⟨f37, f38, hL⟩ := hJ
 refine CSR ?_
 refine OV (.int .i64 s_j1.2) rfl (x_mv f38) ?_
 refine OV (.int .i64 a1) rfl (x_mv f37) ?_
 obtain ⟨hc39, hm⟩ := chkE hm
 refine OV (.int .i64 (s_j1.2.tmod a1)) rfl (x_rem rfl rfl hc39) ?_
 refine OV (.int .i64 (s_j1.2.tmod a1)) rfl (x_assign) ?_
 refine OW.nil ?_
 refine CW.ret ?_
 obtain rfl := Option.some.inj hm
 exact RR1 rfl rfl ⟨rfl, hL.mutOut 1 rfl [0] (by decide) (by decide) rfl⟩

theorem M.spec_l26DrawBoats_ok (w0 : World) {b1 : Nat} {v2 : Value} (a0 : Src) (h3 : rdL (fun k => k < w0.heap.size ∧ ¬ (Ent.blk b1 88 #[v2, .int .i64 a0.at_, .int .i64 a0.seed]).S k) w0 v2 a0.code) (he4 : (Ent.blk b1 88 #[v2, .int .i64 a0.at_, .int .i64 a0.seed]).H w0) {r : (Int) × (Int × Int)} (hm : M.spec_l26DrawBoats a0 = some r) :
    Calls Tryd.prog 57 #[(.pointer (some ⟨b1, 0, none⟩))] w0 fun e w' => e = .returned (.int .i64 r.1) ∧ Mut w0 w' (Ent.blk b1 88 #[v2, .int .i64 a0.at_, .int .i64 a0.seed]).S [Ent.blk b1 88 #[v2, .int .i64 r.2.1, .int .i64 r.2.2]] := by
 unfold M.spec_l26DrawBoats at hm
 refine calls_CW (args := [(.pointer (some ⟨b1, 0, none⟩))]) Tryd.func57 rfl rfl rfl ?_
 have hL := Hp.startIO he4
 refine CSR ?_
 refine OV (.int .i64 0) rfl (x_assign) ?_
 refine ONS ?_
 refine CSR ?_
 refine OV (.pointer (some ⟨b1, 0, none⟩)) rfl (x_move) ?_
 obtain ⟨x5, hx6, hm⟩ := bndE hm
 refine OW.cons (OP.call rfl (x_call (vs := [(.pointer (some ⟨b1, 0, none⟩)), (.int .i64 24)]) Tryd_C47 ⟨rfl, rfl, trivial⟩) (M.spec_l01Next_ok _ (Src.mk a0.code a0.at_ a0.seed) (hL.exZ 1 0 (by decide) rfl rfl h3) (hL.get 0 rfl) 24 hx6) ?_)
 rintro e7 wd8 ⟨rfl, hF9⟩
 refine ⟨_, rfl, ?_⟩
 have hL := hL.mut 0 rfl hF9
 simp only [lA, lB, lC, lD] at hL
 refine OV (.bool (x5.1 == 0)) rfl (x_eql rfl rfl) ?_
 refine OW.nil ?_
 refine CW.condM (t := x5.1 == 0) rfl hm (fun hb10 hm => ?_) (fun hb10 hm => ?_)
 · refine CSR ?_
   refine OV (.pointer (some ⟨b1, 0, none⟩)) rfl (x_move) ?_
   obtain ⟨x11, hx12, hm⟩ := bndE hm
   refine OW.cons (OP.call rfl (x_call (vs := [(.pointer (some ⟨b1, 0, none⟩)), (.int .i64 2)]) Tryd_C47 ⟨rfl, rfl, trivial⟩) (M.spec_l01Next_ok _ (Src.mk a0.code x5.2.1 x5.2.2) (hL.exZ 1 0 (by decide) rfl rfl h3) (hL.get 0 rfl) 2 hx12) ?_)
   rintro e13 wd14 ⟨rfl, hF15⟩
   refine ⟨_, rfl, ?_⟩
   have hL := hL.mut 0 rfl hF15
   simp only [lA, lB, lC, lD] at hL
   refine OV (.int .i64 (w64 (16 * x11.1))) rfl (x_mul rfl rfl) ?_
   refine OV (.int .i64 (w64 (16 * x11.1))) rfl (x_assign) ?_
   refine OW.nil ?_
   refine CW.ret ?_
   obtain rfl := Option.some.inj hm
   exact RR1 rfl rfl ⟨rfl, hL.mutOut 1 rfl [0] (by decide) (by decide) rfl⟩
 refine CW.skip ?_
 refine CSR ?_
 refine OV (.pointer (some ⟨b1, 0, none⟩)) rfl (x_move) ?_
 obtain ⟨x16, hx17, hm⟩ := bndE hm
 refine OW.cons (OP.call rfl (x_call (vs := [(.pointer (some ⟨b1, 0, none⟩)), (.int .i64 6)]) Tryd_C47 ⟨rfl, rfl, trivial⟩) (M.spec_l01Next_ok _ (Src.mk a0.code x5.2.1 x5.2.2) (hL.exZ 1 0 (by decide) rfl rfl h3) (hL.get 0 rfl) 6 hx17) ?_)
 rintro e18 wd19 ⟨rfl, hF20⟩
 refine ⟨_, rfl, ?_⟩
 have hL := hL.mut 0 rfl hF20
 simp only [lA, lB, lC, lD] at hL
 refine OV (.int .i64 (w64 (1 + x16.1))) rfl (x_add rfl rfl) ?_
 refine OV (.int .i64 (w64 (1 + x16.1))) rfl (x_assign) ?_
 refine OW.nil ?_
 refine CW.ret ?_
 obtain rfl := Option.some.inj hm
 exact RR1 rfl rfl ⟨rfl, hL.mutOut 1 rfl [0] (by decide) (by decide) rfl⟩

theorem M.spec_l26DrawRace_ok (w0 : World) {b1 : Nat} {v2 : Value} (a0 : Src) (h3 : rdL (fun k => k < w0.heap.size ∧ ¬ (Ent.blk b1 88 #[v2, .int .i64 a0.at_, .int .i64 a0.seed]).S k) w0 v2 a0.code) (he4 : (Ent.blk b1 88 #[v2, .int .i64 a0.at_, .int .i64 a0.seed]).H w0) (a1 : Int) {r : (Race) × (Int × Int)} (hm : M.spec_l26DrawRace a0 a1 = some r) :
    Calls Tryd.prog 69 #[(.pointer (some ⟨b1, 0, none⟩)), (.int .i64 a1)] w0 fun e w' => ∃ (rv0 : Value) (rS0 : Nat → Prop), e = .returned (.agg #[rv0]) ∧ Mut w0 w' (Ent.blk b1 88 #[v2, .int .i64 a0.at_, .int .i64 a0.seed]).S [Ent.blk b1 88 #[v2, .int .i64 r.2.1, .int .i64 r.2.2], Ent.own 46 rS0 rv0 r.1.Finishes] := by
 unfold M.spec_l26DrawRace at hm
 refine calls_CW (args := [(.pointer (some ⟨b1, 0, none⟩)), (.int .i64 a1)]) Tryd.func69 rfl rfl rfl ?_
 have hL := Hp.startIO he4
 refine CSR ?_
 refine OW.cons (S_alloc (cs := #[(.slice none 0 0)]) hL Tryd_T24 rfl rfl ?_)
 intro wd5 b6 hL
 refine ONR ?_
 refine OW.cons (S_lit ([] : List Finish) hL U22 Tryd_T46 rfl (by decide) (by first | (simp [Instr.fill, madeCells, Value.cells, ev, upd, Flat.enc, Flat.sz]; done) | rfl | kernel_rfl) rfl rfl ?_)
 intro wd7 v8 S9 hL
 refine OV v8 rfl (x_assign) ?_
 refine ONS ?_
 refine CSR ?_
 refine OV (.int .i64 0) rfl (x_assign) ?_
 refine OW.nil ?_
 obtain ⟨o112, ho113, hm⟩ := bndE hm
 refine CW.loopB (fun (s_l1 : Int × Int × (List Finish) × Int) (F : Fr) (w : World) => ∃ (v108 : Value) (S109 : Nat → Prop), F 0 = (.pointer (some ⟨b1, 0, none⟩)) ∧ F 1 = (.int .i64 a1) ∧ F 4 = (.pointer (some ⟨b6, 0, none⟩)) ∧ F 5 = v108 ∧ F 6 = (.int .i64 s_l1.2.2.2) ∧ Hp w0 [Ent.own 46 S109 v108 s_l1.2.2.1, Ent.blk b6 24 #[(.slice none 0 0)], Ent.blk b1 88 #[v2, (.int .i64 s_l1.1), (.int .i64 s_l1.2.1)], Ent.frz w0 (Ent.blk b1 88 #[v2, .int .i64 a0.at_, .int .i64 a0.seed]).S] w) (fun o => outc o (fun x => some x) (fun s => M.spec_l26DrawRace_a1 s) = some r) ho113 hm ⟨v8, S9, rfl, rfl, rfl, rfl, rfl, hL⟩ ?_ ?_
 · intro s_l1 F114 wd115 hJ hm
   have hm := outcE hm
   have hm : M.spec_l26DrawRace_a1 s_l1 = some r := hm
   unfold M.spec_l26DrawRace_a1 at hm
   obtain ⟨v108, S109, f116, f117, f118, f119, f120, hL⟩ := hJ
   refine CSR ?_
   refine OV v108 rfl (x_mv f119) ?_
   refine OV (.agg #[v108]) rfl (x_build Tryd_B24 (ps := [(0, v108)]) ⟨⟨rfl, rfl⟩, trivial⟩ (by simp [Instr.fill, cells_int, cells_bool, cells_string, cells_agg, cells_slice, cells_pointer, (rdL_cells (hL.rdO 0 rfl))])) ?_
   refine OW.cons (S_storeN (l := [v108]) (cs' := #[v108]) hL 1 rfl Tryd_T24 f118 rfl (List.forall_mem_cons.2 ⟨rdL_one (hL.rdO 0 rfl), (fun _ h => by cases h)⟩) rfl (Nat.le_of_ble_eq_true rfl) rfl ?_)
   intro wd121 hL
   refine OW.nil ?_
   refine CW.ret ?_
   obtain rfl := Option.some.inj hm
   exact RRc rfl f118 (run_loadBlk U24 Tryd_T24 (hL.get 1 rfl) rfl) ⟨v108, S109, rfl, hL.mutOut 3 rfl [2, 0] (by decide) (by decide) rfl⟩
 intro s_l1 F122 wd123 t110 hJ hm hr111
 unfold M.spec_l26DrawRace_l1 at hm
 obtain ⟨v108, S109, f124, f125, f126, f127, f128, hL⟩ := hJ
 refine CW.seq ?_
 refine CSR ?_
 refine OV (.int .i64 s_l1.2.2.2) rfl (x_mv f128) ?_
 refine OV (.int .i64 a1) rfl (x_mv f125) ?_
 refine OV (.bool (decide (s_l1.2.2.2 < a1))) rfl (x_lss rfl rfl) ?_
 refine OW.nil ?_
 refine CW.condM (t := decide (s_l1.2.2.2 < a1)) rfl hm (fun hb129 hm => ?_) (fun hb129 hm => ?_)
 · refine CW.skip ?_
   refine CW.seq ?_
   refine CW.block ?_
   refine CSR ?_
   refine OV (.int .i64 s_l1.2.2.2) rfl (x_mv f128) ?_
   refine OV (.pointer (some ⟨b1, 0, none⟩)) rfl (x_mv f124) ?_
   refine OV (.int .i64 a1) rfl (x_mv f125) ?_
   refine OV (.int .i64 (w64 (2 * a1))) rfl (x_mul rfl rfl) ?_
   obtain ⟨x130, hx131, hm⟩ := bndE hm
   refine OW.cons (OP.call rfl (x_call (vs := [(.pointer (some ⟨b1, 0, none⟩)), (.int .i64 (w64 (2 * a1)))]) Tryd_C47 ⟨rfl, rfl, trivial⟩) (M.spec_l01Next_ok _ (Src.mk a0.code s_l1.1 s_l1.2.1) (hL.exZ 3 2 (by decide) rfl rfl h3) (hL.get 2 rfl) (w64 (2 * a1)) hx131) ?_)
   rintro e132 wd133 ⟨rfl, hF134⟩
   refine ⟨_, rfl, ?_⟩
   have hL := hL.mut 2 rfl hF134
   simp only [lA, lB, lC, lD] at hL
   refine OV (.int .i64 (w64 (1 + x130.1))) rfl (x_add rfl rfl) ?_
   refine OV (.agg #[(.int .i64 s_l1.2.2.2), (.int .i64 0), (.int .i64 (w64 (1 + x130.1)))]) rfl (x_build Tryd_B46 (ps := [(0, (.int .i64 s_l1.2.2.2)), (2, (.int .i64 (w64 (1 + x130.1))))]) ⟨⟨rfl, rfl⟩, ⟨rfl, rfl⟩, trivial⟩ (by simp [Instr.fill, cells_int, cells_bool, cells_string, cells_agg, cells_slice, cells_pointer])) ?_
   refine OW.cons (S_alloc (cs := #[(.int .i64 0), (.int .i64 0), (.int .i64 0)]) hL Tryd_T46 rfl rfl ?_)
   intro wd135 b136 hL
   refine OW.cons (S_storeN (l := [(.int .i64 s_l1.2.2.2), (.int .i64 0), (.int .i64 (w64 (1 + x130.1)))]) (cs' := #[(.int .i64 s_l1.2.2.2), (.int .i64 0), (.int .i64 (w64 (1 + x130.1)))]) hL 0 rfl Tryd_T46 rfl rfl (List.forall_mem_cons.2 ⟨rfl, (List.forall_mem_cons.2 ⟨rfl, (List.forall_mem_cons.2 ⟨rfl, (fun _ h => by cases h)⟩)⟩)⟩) rfl (Nat.le_of_ble_eq_true rfl) rfl ?_)
   intro wd137 hL
   refine OW.nil ?_
   refine CW.seqJ (fun (s_j1 : Int × Int × Int × Int) (F : Fr) (w : World) => F 0 = (.pointer (some ⟨b1, 0, none⟩)) ∧ F 1 = (.int .i64 a1) ∧ F 4 = (.pointer (some ⟨b6, 0, none⟩)) ∧ F 5 = v108 ∧ F 6 = (.int .i64 s_l1.2.2.2) ∧ F 7 = (.pointer (some ⟨b136, 0, none⟩)) ∧ Hp w0 [Ent.blk b136 46 #[(.int .i64 s_l1.2.2.2), (.int .i64 s_j1.2.2.1), (.int .i64 s_j1.2.2.2)], Ent.own 46 S109 v108 s_l1.2.2.1, Ent.blk b6 24 #[(.slice none 0 0)], Ent.blk b1 88 #[v2, (.int .i64 s_j1.1), (.int .i64 s_j1.2.1)], Ent.frz w0 (Ent.blk b1 88 #[v2, .int .i64 a0.at_, .int .i64 a0.seed]).S] w) (fun s_j1 => M.spec_l26DrawRace_j1 s_l1 s_j1 = some t110) ?_ ?_
   · refine CSR ?_
     refine OV (.pointer (some ⟨b1, 0, none⟩)) rfl (x_mv f124) ?_
     obtain ⟨x165, hx166, hm⟩ := bndE hm
     refine OW.cons (OP.call rfl (x_call (vs := [(.pointer (some ⟨b1, 0, none⟩)), (.int .i64 4)]) Tryd_C47 ⟨rfl, rfl, trivial⟩) (M.spec_l01Next_ok _ (Src.mk a0.code x130.2.1 x130.2.2) (hL.exZ 4 3 (by decide) rfl rfl h3) (hL.get 3 rfl) 4 hx166) ?_)
     rintro e167 wd168 ⟨rfl, hF169⟩
     refine ⟨_, rfl, ?_⟩
     have hL := hL.mut 3 rfl hF169
     simp only [lA, lB, lC, lD] at hL
     refine OV (.bool (x165.1 == 0)) rfl (x_eql rfl rfl) ?_
     refine OW.nil ?_
     refine CW.condM (t := x165.1 == 0) rfl hm (fun hb170 hm => ?_) (fun hb170 hm => ?_)
     · refine CW.regionL ?_
       refine OV (.int .i64 s_l1.2.2.2) rfl (x_mv f128) ?_
       refine OV (.pointer (some ⟨b1, 0, none⟩)) rfl (x_mv f124) ?_
       obtain ⟨x171, hx172, hm⟩ := bndE hm
       refine OW.cons (OP.call rfl (x_call (vs := [(.pointer (some ⟨b1, 0, none⟩)), (.int .i64 9)]) Tryd_C47 ⟨rfl, rfl, trivial⟩) (M.spec_l01Next_ok _ (Src.mk a0.code x165.2.1 x165.2.2) (hL.exZ 4 3 (by decide) rfl rfl h3) (hL.get 3 rfl) 9 hx172) ?_)
       rintro e173 wd174 ⟨rfl, hF175⟩
       refine ⟨_, rfl, ?_⟩
       have hL := hL.mut 3 rfl hF175
       simp only [lA, lB, lC, lD] at hL
       refine OV (.int .i64 (w64 (1 + x171.1))) rfl (x_add rfl rfl) ?_
       refine OV (.agg #[(.int .i64 s_l1.2.2.2), (.int .i64 (w64 (1 + x171.1))), (.int .i64 0)]) rfl (x_build Tryd_B46 (ps := [(0, (.int .i64 s_l1.2.2.2)), (1, (.int .i64 (w64 (1 + x171.1))))]) ⟨⟨rfl, rfl⟩, ⟨rfl, rfl⟩, trivial⟩ (by simp [Instr.fill, cells_int, cells_bool, cells_string, cells_agg, cells_slice, cells_pointer])) ?_
       refine OW.cons (S_storeN (l := [(.int .i64 s_l1.2.2.2), (.int .i64 (w64 (1 + x171.1))), (.int .i64 0)]) (cs' := #[(.int .i64 s_l1.2.2.2), (.int .i64 (w64 (1 + x171.1))), (.int .i64 0)]) hL 0 rfl Tryd_T46 rfl rfl (List.forall_mem_cons.2 ⟨rfl, (List.forall_mem_cons.2 ⟨rfl, (List.forall_mem_cons.2 ⟨rfl, (fun _ h => by cases h)⟩)⟩)⟩) rfl (Nat.le_of_ble_eq_true rfl) rfl ?_)
       intro wd176 hL
       refine OW.nil ?_
       exact ⟨(x171.2.1, x171.2.2, w64 (1 + x171.1), 0), hm, ⟨f124, f125, f126, f127, f128, rfl, hL⟩⟩
     refine CW.skip ?_
     exact ⟨(x165.2.1, x165.2.2, 0, w64 (1 + x130.1)), hm, ⟨f124, f125, f126, f127, f128, rfl, hL⟩⟩
   intro s_j1 F150 wd151 hJ hm
   unfold M.spec_l26DrawRace_j1 at hm
   obtain ⟨f152, f153, f154, f155, f156, f157, hL⟩ := hJ
   refine CW.regionL ?_
   refine OV v108 rfl (x_mv f155) ?_
   refine OV (.agg #[(.int .i64 s_l1.2.2.2), (.int .i64 s_j1.2.2.1), (.int .i64 s_j1.2.2.2)]) rfl (x_loadN (cs := [(.int .i64 s_l1.2.2.2), (.int .i64 s_j1.2.2.1), (.int .i64 s_j1.2.2.2)]) U46 Tryd_T46 rfl f157 (hL.cellsB 0 rfl (o := 0) (l := [(.int .i64 s_l1.2.2.2), (.int .i64 s_j1.2.2.1), (.int .i64 s_j1.2.2.2)]) (by intro j u hj; exact (by simpa using hj)))) ?_
   refine OW.cons (S_lit ([(Finish.mk s_l1.2.2.2 s_j1.2.2.1 s_j1.2.2.2)] : List Finish) hL U22 Tryd_T46 rfl (by decide) (by first | (simp [Instr.fill, madeCells, Value.cells, ev, upd, Flat.enc, Flat.sz]; done) | rfl | kernel_rfl) rfl rfl ?_)
   intro wd158 v159 S160 hL
   obtain ⟨hc164, hm⟩ := chkE hm
   refine OW.cons (S_append (ys := ([(Finish.mk s_l1.2.2.2 s_j1.2.2.1 s_j1.2.2.2)] : List Finish)) hL 2 rfl U22 Tryd_T46 rfl rfl rfl (hL.rdO 0 rfl) hc164 (by decide) rfl ?_)
   intro wd161 v162 S163 hL
   refine OV v162 rfl (x_assign) ?_
   refine OW.nil ?_
   refine CW.regionL ?_
   refine OV (.int .i64 s_l1.2.2.2) rfl (x_mv f156) ?_
   refine OV (.int .i64 (w64 (s_l1.2.2.2 + 1))) rfl (x_add rfl rfl) ?_
   refine OV (.int .i64 (w64 (s_l1.2.2.2 + 1))) rfl (x_assign) ?_
   refine OW.nil ?_
   have hL := hL.sel [2, 3, 4, 5] (by decide) rfl
   obtain rfl := Option.some.inj hm
   exact ⟨_, rfl, ⟨v162, S163, f152, f153, f154, rfl, rfl, hL⟩⟩
 refine CW.exit ?_
 refine XJ.hit ?_
 obtain rfl := Option.some.inj hm
 exact ⟨_, rfl, ⟨v108, S109, f124, f125, f126, f127, f128, hL⟩⟩

theorem M.spec_l26DrawAny_ok (w0 : World) {b1 : Nat} {v2 : Value} (a0 : Src) (h3 : rdL (fun k => k < w0.heap.size ∧ ¬ (Ent.blk b1 88 #[v2, .int .i64 a0.at_, .int .i64 a0.seed]).S k) w0 v2 a0.code) (he4 : (Ent.blk b1 88 #[v2, .int .i64 a0.at_, .int .i64 a0.seed]).H w0) (a1 : Int) {r : (Race) × (Int × Int)} (hm : M.spec_l26DrawAny a0 a1 = some r) :
    Calls Tryd.prog 58 #[(.pointer (some ⟨b1, 0, none⟩)), (.int .i64 a1)] w0 fun e w' => ∃ (rv0 : Value) (rS0 : Nat → Prop), e = .returned (.agg #[rv0]) ∧ Mut w0 w' (Ent.blk b1 88 #[v2, .int .i64 a0.at_, .int .i64 a0.seed]).S [Ent.blk b1 88 #[v2, .int .i64 r.2.1, .int .i64 r.2.2], Ent.own 46 rS0 rv0 r.1.Finishes] := by
 unfold M.spec_l26DrawAny at hm
 refine calls_CW (args := [(.pointer (some ⟨b1, 0, none⟩)), (.int .i64 a1)]) Tryd.func58 rfl rfl rfl ?_
 have hL := Hp.startIO he4
 refine CSR ?_
 refine OW.cons (S_alloc (cs := #[(.slice none 0 0)]) hL Tryd_T24 rfl rfl ?_)
 intro wd5 b6 hL
 refine ONR ?_
 refine OV (.pointer (some ⟨b1, 0, none⟩)) rfl (x_move) ?_
 refine OV (.int .i64 a1) rfl (x_move) ?_
 obtain ⟨x7, hx8, hm⟩ := bndE hm
 refine OW.cons (OP.call rfl (x_call (vs := [(.pointer (some ⟨b1, 0, none⟩)), (.int .i64 a1)]) Tryd_C69 ⟨rfl, rfl, trivial⟩) (M.spec_l26DrawRace_ok _ (Src.mk a0.code a0.at_ a0.seed) (hL.exZ 2 1 (by decide) rfl rfl h3) (hL.get 1 rfl) a1 hx8) ?_)
 rintro e11 wd12 ⟨v10, S9, rfl, hF13⟩
 refine ⟨_, rfl, ?_⟩
 have hL := hL.mut 1 rfl hF13
 simp only [lA, lB, lC, lD] at hL
 refine OW.cons (S_alloc (cs := #[(.slice none 0 0)]) hL Tryd_T24 rfl rfl ?_)
 intro wd14 b15 hL
 refine OW.cons (S_storeN (l := [v10]) (cs' := #[v10]) hL 0 rfl Tryd_T24 rfl rfl (List.forall_mem_cons.2 ⟨rdL_one (hL.rdO 1 rfl), (fun _ h => by cases h)⟩) rfl (Nat.le_of_ble_eq_true rfl) rfl ?_)
 intro wd16 hL
 refine ONS ?_
 refine CSR ?_
 refine OV (.int .i64 a1) rfl (x_move) ?_
 refine OV (.bool (decide (a1 < 1))) rfl (x_lss rfl rfl) ?_
 refine OW.nil ?_
 refine CW.condM (t := decide (a1 < 1)) rfl hm (fun hb17 hm => ?_) (fun hb17 hm => ?_)
 · refine CSR ?_
   refine OV (.agg #[v10]) rfl (x_loadN (cs := [v10]) U24 Tryd_T24 rfl rfl (hL.cellsB 0 rfl (o := 0) (l := [v10]) (by intro j u hj; exact (by simpa using hj)))) ?_
   refine OW.cons (S_storeN (l := [v10]) (cs' := #[v10]) hL 2 rfl Tryd_T24 rfl rfl (List.forall_mem_cons.2 ⟨rdL_one (hL.rdO 1 rfl), (fun _ h => by cases h)⟩) rfl (Nat.le_of_ble_eq_true rfl) rfl ?_)
   intro wd18 hL
   refine OW.nil ?_
   refine CW.ret ?_
   obtain rfl := Option.some.inj hm
   exact RRc rfl rfl (run_loadBlk U24 Tryd_T24 (hL.get 2 rfl) rfl) ⟨v10, S9, rfl, hL.mutOut 4 rfl [3, 1] (by decide) (by decide) rfl⟩
 refine CW.skip ?_
 refine CSR ?_
 refine OV (.pointer (some ⟨b1, 0, none⟩)) rfl (x_move) ?_
 refine OV (.int .i64 a1) rfl (x_move) ?_
 obtain ⟨x19, hx20, hm⟩ := bndE hm
 refine OW.cons (OP.call rfl (x_call (vs := [(.pointer (some ⟨b1, 0, none⟩)), (.int .i64 a1)]) Tryd_C47 ⟨rfl, rfl, trivial⟩) (M.spec_l01Next_ok _ (Src.mk a0.code x7.2.1 x7.2.2) (hL.exZ 4 3 (by decide) rfl rfl h3) (hL.get 3 rfl) a1 hx20) ?_)
 rintro e21 wd22 ⟨rfl, hF23⟩
 refine ⟨_, rfl, ?_⟩
 have hL := hL.mut 3 rfl hF23
 simp only [lA, lB, lC, lD] at hL
 refine OV (.int .i64 x19.1) rfl (x_assign) ?_
 refine OW.nil ?_
 refine CW.seqJ (fun (s_j1 : Int × Int × (List Finish)) (F : Fr) (w : World) => ∃ (S178 : Nat → Prop), F 4 = (.pointer (some ⟨b6, 0, none⟩)) ∧ F 5 = (.pointer (some ⟨b15, 0, none⟩)) ∧ Hp w0 [Ent.blk b15 24 #[v10], Ent.own 46 S178 v10 s_j1.2.2, Ent.blk b6 24 #[(.slice none 0 0)], Ent.blk b1 88 #[v2, (.int .i64 s_j1.1), (.int .i64 s_j1.2.1)], Ent.frz w0 (Ent.blk b1 88 #[v2, .int .i64 a0.at_, .int .i64 a0.seed]).S] w) (fun s_j1 => M.spec_l26DrawAny_j1 s_j1 = some r) ?_ ?_
 · refine CSR ?_
   refine OV (.pointer (some ⟨b1, 0, none⟩)) rfl (x_move) ?_
   obtain ⟨x184, hx185, hm⟩ := bndE hm
   refine OW.cons (OP.call rfl (x_call (vs := [(.pointer (some ⟨b1, 0, none⟩)), (.int .i64 24)]) Tryd_C47 ⟨rfl, rfl, trivial⟩) (M.spec_l01Next_ok _ (Src.mk a0.code x19.2.1 x19.2.2) (hL.exZ 4 3 (by decide) rfl rfl h3) (hL.get 3 rfl) 24 hx185) ?_)
   rintro e186 wd187 ⟨rfl, hF188⟩
   refine ⟨_, rfl, ?_⟩
   have hL := hL.mut 3 rfl hF188
   simp only [lA, lB, lC, lD] at hL
   refine OW.nil ?_
   refine CW.blockJ (fun (s_j2 : Int × Int × (List Finish)) (F : Fr) (w : World) => ∃ (S261 : Nat → Prop), F 4 = (.pointer (some ⟨b6, 0, none⟩)) ∧ F 5 = (.pointer (some ⟨b15, 0, none⟩)) ∧ Hp w0 [Ent.blk b15 24 #[v10], Ent.own 46 S261 v10 s_j2.2.2, Ent.blk b6 24 #[(.slice none 0 0)], Ent.blk b1 88 #[v2, (.int .i64 s_j2.1), (.int .i64 s_j2.2.1)], Ent.frz w0 (Ent.blk b1 88 #[v2, .int .i64 a0.at_, .int .i64 a0.seed]).S] w) (fun s_j2 => M.spec_l26DrawAny_j2 s_j2 = some r) ?_ ?_
   · refine CSR ?_
     refine OV (.bool (x184.1 == 0)) rfl (x_eql rfl rfl) ?_
     refine OV (.bool (x184.1 == 0)) rfl (x_assign) ?_
     refine OW.nil ?_
     refine CW.condM (t := x184.1 == 0) rfl hm (fun hb266 hm => ?_) (fun hb266 hm => ?_)
     · refine CW.regionL ?_
       refine OV (.pointer (some ⟨b15, 0, none⟩)) rfl (x_fieldAddr (fsz := 1) 0 0 0 U24 rfl Tryd_T22 rfl rfl rfl) ?_
       refine OV v10 rfl (x_load1 U22 rfl rfl (hL.cellB 0 rfl rfl)) ?_
       refine OV (.int .i64 x19.1) rfl (x_move) ?_
       obtain ⟨x267, ha268, hm⟩ := bndE hm
       obtain ⟨hz269, ha273⟩ := idxE ha268
       obtain ⟨b270, q271, hix272⟩ := rdL_ix (hL.rdO 1 rfl) hz269 ha273
       refine OV (.pointer (some ⟨b270, q271, none⟩)) rfl (x_ix U22 Tryd_T46 rfl rfl hix272) ?_
       refine OV (.pointer (some ⟨b270, q271 + 2, none⟩)) rfl (x_fieldAddr (fsz := 1) q271 2 (q271 + 2) U46 rfl Tryd_T2 rfl rfl rfl) ?_
       refine OW.cons (S_storeX (j := 2) (Finish.mk x267.Boat x267.Code 0) hL 1 rfl Tryd_T2 hix272 ha273 rfl rfl rfl rfl rfl rfl ?_)
       intro wd274 hL
       refine OW.nil ?_
       exact ⟨(x184.2.1, x184.2.2, x7.1.Finishes.set (x19.1 : Int).toNat (Finish.mk x267.Boat x267.Code 0)), hm, ⟨S9, rfl, rfl, hL⟩⟩
     refine CSR ?_
     refine OV (.bool (x184.1 == 1)) rfl (x_eql rfl rfl) ?_
     refine OV (.bool (x184.1 == 1)) rfl (x_assign) ?_
     refine OW.nil ?_
     refine CW.condM (t := x184.1 == 1) rfl hm (fun hb275 hm => ?_) (fun hb275 hm => ?_)
     · refine CW.drawH (fun w' => Hp w0 [Ent.blk b15 24 #[v10], Ent.blk b6 24 #[(.slice none 0 0)], Ent.frz w0 (Ent.blk b1 88 #[v2, .int .i64 a0.at_, .int .i64 a0.seed]).S] w') Tryd_mixed ?_
       have hL := hL.call (Mod.drew _)
       have hS := (hL.sel [0, 2, 4] (by decide) rfl)
       refine DH.take 0 rfl (by kernel_rfl) (by kernel_rfl) (by kernel_rfl) rfl rfl hS (YH.val (v := (.pointer (some ⟨b15, 0, none⟩))) (fun w' hS' => x_fieldAddr (fsz := 1) 0 0 0 U24 rfl Tryd_T22 rfl rfl rfl)) ?_
       have hS := (hL.sel [0, 2, 4] (by decide) rfl)
       refine DH.take 1 rfl (by kernel_rfl) (by kernel_rfl) (by kernel_rfl) rfl rfl hS (YH.val (v := v10) (fun w' hS' => x_load1 U22 rfl rfl (hS'.cellB 0 rfl rfl))) ?_
       have hS := (hL.sel [0, 2, 4] (by decide) rfl)
       refine DH.take 2 rfl (by kernel_rfl) (by kernel_rfl) (by kernel_rfl) rfl rfl hS (YH.val (v := (.int .i64 x19.1)) (fun w' hS' => x_move)) ?_
       have hS := (hL.sel [0, 2, 4] (by decide) rfl)
       refine DH.take 3 rfl (by kernel_rfl) (by kernel_rfl) (by kernel_rfl) rfl rfl hS (YH.val (v := (.pointer (some ⟨b1, 0, none⟩))) (fun w' hS' => x_move)) ?_
       obtain ⟨x289, hx290, hm⟩ := bndE hm
       refine DH.only 4 rfl (by kernel_rfl) (OP.call rfl (x_call (vs := [(.pointer (some ⟨b1, 0, none⟩)), (.int .i64 2)]) Tryd_C47 ⟨rfl, rfl, trivial⟩) (M.spec_l01Next_ok _ (Src.mk a0.code x184.2.1 x184.2.2) (hL.exZ 4 3 (by decide) rfl rfl h3) (hL.get 3 rfl) 2 hx290) ?_)
       rintro e291 wd292 ⟨rfl, hF293⟩
       refine ⟨_, rfl, ?_⟩
       have hL := hL.mut 3 rfl hF293
       simp only [lA, lB, lC, lD] at hL
       refine ⟨(hL.sel [0, 2, 4] (by decide) rfl), ?_⟩
       have hS := (hL.sel [0, 2, 4] (by decide) rfl)
       refine DH.take 5 rfl (by kernel_rfl) (by kernel_rfl) (by kernel_rfl) rfl rfl hS (YH.val (v := (.int .i64 (w64 (10 * x289.1)))) (fun w' hS' => x_mul rfl rfl)) ?_
       have hS := (hL.sel [0, 2, 4] (by decide) rfl)
       obtain ⟨x294, ha295, hm⟩ := bndE hm
       obtain ⟨hz296, ha300⟩ := idxE ha295
       obtain ⟨b297, q298, hix299⟩ := rdL_ix (hL.rdO 1 rfl) hz296 ha300
       refine DH.take 6 rfl (by kernel_rfl) (by kernel_rfl) (by kernel_rfl) rfl rfl hS (YH.val (v := (.pointer (some ⟨b297, q298, none⟩))) (fun w' hS' => x_ix U22 Tryd_T46 rfl rfl hix299)) ?_
       have hS := (hL.sel [0, 2, 4] (by decide) rfl)
       refine DH.take 7 rfl (by kernel_rfl) (by kernel_rfl) (by kernel_rfl) rfl rfl hS (YH.val (v := (.pointer (some ⟨b297, q298 + 1, none⟩))) (fun w' hS' => x_fieldAddr (fsz := 1) q298 1 (q298 + 1) U46 rfl Tryd_T2 rfl rfl rfl)) ?_
       refine DH.only 8 rfl (by kernel_rfl) (S_storeX (j := 1) (Finish.mk x294.Boat (w64 (10 * x289.1)) x294.Time) hL 1 rfl Tryd_T2 hix299 ha300 rfl rfl rfl rfl rfl rfl ?_)
       intro wd301 hL
       refine ⟨(hL.sel [0, 2, 4] (by decide) rfl), ?_⟩
       refine DH.done (by kernel_rfl) ?_
       exact ⟨(x289.2.1, x289.2.2, x7.1.Finishes.set (x19.1 : Int).toNat (Finish.mk x294.Boat (w64 (10 * x289.1)) x294.Time)), hm, ⟨S9, rfl, rfl, hL⟩⟩
     refine CSR ?_
     refine OV (.bool (x184.1 == 2)) rfl (x_eql rfl rfl) ?_
     refine OV (.bool (x184.1 == 2)) rfl (x_assign) ?_
     refine OW.nil ?_
     refine CW.condM (t := x184.1 == 2) rfl hm (fun hb302 hm => ?_) (fun hb302 hm => ?_)
     · refine CW.regionL ?_
       refine OV (.pointer (some ⟨b15, 0, none⟩)) rfl (x_fieldAddr (fsz := 1) 0 0 0 U24 rfl Tryd_T22 rfl rfl rfl) ?_
       refine OV v10 rfl (x_load1 U22 rfl rfl (hL.cellB 0 rfl rfl)) ?_
       refine OV (.int .i64 x19.1) rfl (x_move) ?_
       refine OV (.int .i64 a1) rfl (x_move) ?_
       obtain ⟨x303, ha304, hm⟩ := bndE hm
       obtain ⟨hz305, ha309⟩ := idxE ha304
       obtain ⟨b306, q307, hix308⟩ := rdL_ix (hL.rdO 1 rfl) hz305 ha309
       refine OV (.pointer (some ⟨b306, q307, none⟩)) rfl (x_ix U22 Tryd_T46 rfl rfl hix308) ?_
       refine OV (.pointer (some ⟨b306, q307, none⟩)) rfl (x_fieldAddr (fsz := 1) q307 0 q307 U46 rfl Tryd_T2 rfl rfl rfl) ?_
       refine OW.cons (S_storeX (j := 0) (Finish.mk a1 x303.Code x303.Time) hL 1 rfl Tryd_T2 hix308 ha309 rfl rfl rfl rfl rfl rfl ?_)
       intro wd310 hL
       refine OW.nil ?_
       exact ⟨(x184.2.1, x184.2.2, x7.1.Finishes.set (x19.1 : Int).toNat (Finish.mk a1 x303.Code x303.Time)), hm, ⟨S9, rfl, rfl, hL⟩⟩
     refine CSR ?_
     refine OV (.bool (x184.1 == 3)) rfl (x_eql rfl rfl) ?_
     refine OV (.bool (x184.1 == 3)) rfl (x_assign) ?_
     refine OW.nil ?_
     refine CW.condM (t := x184.1 == 3) rfl hm (fun hb311 hm => ?_) (fun hb311 hm => ?_)
     · refine CW.drawH (fun w' => Hp w0 [Ent.blk b15 24 #[v10], Ent.blk b6 24 #[(.slice none 0 0)], Ent.frz w0 (Ent.blk b1 88 #[v2, .int .i64 a0.at_, .int .i64 a0.seed]).S] w') Tryd_mixed ?_
       have hL := hL.call (Mod.drew _)
       have hS := (hL.sel [0, 2, 4] (by decide) rfl)
       refine DH.take 0 rfl (by kernel_rfl) (by kernel_rfl) (by kernel_rfl) rfl rfl hS (YH.val (v := (.pointer (some ⟨b15, 0, none⟩))) (fun w' hS' => x_fieldAddr (fsz := 1) 0 0 0 U24 rfl Tryd_T22 rfl rfl rfl)) ?_
       have hS := (hL.sel [0, 2, 4] (by decide) rfl)
       refine DH.take 1 rfl (by kernel_rfl) (by kernel_rfl) (by kernel_rfl) rfl rfl hS (YH.val (v := v10) (fun w' hS' => x_load1 U22 rfl rfl (hS'.cellB 0 rfl rfl))) ?_
       have hS := (hL.sel [0, 2, 4] (by decide) rfl)
       refine DH.take 2 rfl (by kernel_rfl) (by kernel_rfl) (by kernel_rfl) rfl rfl hS (YH.val (v := (.int .i64 x19.1)) (fun w' hS' => x_move)) ?_
       have hS := (hL.sel [0, 2, 4] (by decide) rfl)
       refine DH.take 3 rfl (by kernel_rfl) (by kernel_rfl) (by kernel_rfl) rfl rfl hS (YH.val (v := (.pointer (some ⟨b1, 0, none⟩))) (fun w' hS' => x_move)) ?_
       obtain ⟨x325, hx326, hm⟩ := bndE hm
       refine DH.only 4 rfl (by kernel_rfl) (OP.call rfl (x_call (vs := [(.pointer (some ⟨b1, 0, none⟩)), (.int .i64 2)]) Tryd_C47 ⟨rfl, rfl, trivial⟩) (M.spec_l01Next_ok _ (Src.mk a0.code x184.2.1 x184.2.2) (hL.exZ 4 3 (by decide) rfl rfl h3) (hL.get 3 rfl) 2 hx326) ?_)
       rintro e327 wd328 ⟨rfl, hF329⟩
       refine ⟨_, rfl, ?_⟩
       have hL := hL.mut 3 rfl hF329
       simp only [lA, lB, lC, lD] at hL
       refine ⟨(hL.sel [0, 2, 4] (by decide) rfl), ?_⟩
       have hS := (hL.sel [0, 2, 4] (by decide) rfl)
       refine DH.take 5 rfl (by kernel_rfl) (by kernel_rfl) (by kernel_rfl) rfl rfl hS (YH.val (v := (.int .i64 (w64 (1000000000 + x325.1)))) (fun w' hS' => x_add rfl rfl)) ?_
       have hS := (hL.sel [0, 2, 4] (by decide) rfl)
       obtain ⟨x330, ha331, hm⟩ := bndE hm
       obtain ⟨hz332, ha336⟩ := idxE ha331
       obtain ⟨b333, q334, hix335⟩ := rdL_ix (hL.rdO 1 rfl) hz332 ha336
       refine DH.take 6 rfl (by kernel_rfl) (by kernel_rfl) (by kernel_rfl) rfl rfl hS (YH.val (v := (.pointer (some ⟨b333, q334, none⟩))) (fun w' hS' => x_ix U22 Tryd_T46 rfl rfl hix335)) ?_
       have hS := (hL.sel [0, 2, 4] (by decide) rfl)
       refine DH.take 7 rfl (by kernel_rfl) (by kernel_rfl) (by kernel_rfl) rfl rfl hS (YH.val (v := (.pointer (some ⟨b333, q334 + 2, none⟩))) (fun w' hS' => x_fieldAddr (fsz := 1) q334 2 (q334 + 2) U46 rfl Tryd_T2 rfl rfl rfl)) ?_
       refine DH.only 8 rfl (by kernel_rfl) (S_storeX (j := 2) (Finish.mk x330.Boat x330.Code (w64 (1000000000 + x325.1))) hL 1 rfl Tryd_T2 hix335 ha336 rfl rfl rfl rfl rfl rfl ?_)
       intro wd337 hL
       refine ⟨(hL.sel [0, 2, 4] (by decide) rfl), ?_⟩
       refine DH.done (by kernel_rfl) ?_
       exact ⟨(x325.2.1, x325.2.2, x7.1.Finishes.set (x19.1 : Int).toNat (Finish.mk x330.Boat x330.Code (w64 (1000000000 + x325.1)))), hm, ⟨S9, rfl, rfl, hL⟩⟩
     refine CW.skip ?_
     exact ⟨(x184.2.1, x184.2.2, x7.1.Finishes), hm, ⟨S9, rfl, rfl, hL⟩⟩
   intro s_j2 F262 wd263 hJ hm
   unfold M.spec_l26DrawAny_j2 at hm
   obtain ⟨S261, f264, f265, hL⟩ := hJ
   exact ⟨(s_j2.1, s_j2.2.1, s_j2.2.2), hm, ⟨S261, f264, f265, hL⟩⟩
 intro s_j1 F179 wd180 hJ hm
 unfold M.spec_l26DrawAny_j1 at hm
 obtain ⟨S178, f181, f182, hL⟩ := hJ
 refine CSR ?_
 refine OV (.agg #[v10]) rfl (x_loadN (cs := [v10]) U24 Tryd_T24 rfl f182 (hL.cellsB 0 rfl (o := 0) (l := [v10]) (by intro j u hj; exact (by simpa using hj)))) ?_
 refine OW.cons (S_storeN (l := [v10]) (cs' := #[v10]) hL 2 rfl Tryd_T24 f181 rfl (List.forall_mem_cons.2 ⟨rdL_one (hL.rdO 1 rfl), (fun _ h => by cases h)⟩) rfl (Nat.le_of_ble_eq_true rfl) rfl ?_)
 intro wd183 hL
 refine OW.nil ?_
 refine CW.ret ?_
 obtain rfl := Option.some.inj hm
 exact RRc rfl f181 (run_loadBlk U24 Tryd_T24 (hL.get 2 rfl) rfl) ⟨v10, S178, rfl, hL.mutOut 4 rfl [3, 1] (by decide) (by decide) rfl⟩

theorem M.spec_DrawIsRace_ok (w0 : World) (a0 : List UInt8) {v1 : Value} (h2 : rdL (· < w0.heap.size) w0 v1 a0) {r : Int × Race} (hm : M.spec_DrawIsRace a0 = some r) :
    Calls Tryd.prog 39 #[v1] w0 fun e w' => ∃ (rv0 : Value) (rS0 : Nat → Prop), e = .returned (.tuple #[(.int .i64 r.1), (.agg #[rv0])]) ∧ Fresh w0 w' [Ent.own 46 rS0 rv0 r.2.Finishes] := by
 unfold M.spec_DrawIsRace at hm
 refine calls_CW (args := [v1]) Tryd.func39 rfl rfl rfl ?_
 have hL := Hp.start w0
 refine CSR ?_
 refine OV (.int .i64 0) rfl (x_assign) ?_
 refine OW.cons (S_alloc (cs := #[(.slice none 0 0)]) hL Tryd_T24 rfl rfl ?_)
 intro wd3 b4 hL
 refine ONR ?_
 refine OV v1 rfl (x_move) ?_
 obtain ⟨x5, hx6, hm⟩ := bndE hm
 refine OW.cons (OP.call rfl (x_call (vs := [v1]) Tryd_C46 ⟨rfl, trivial⟩) (M.spec_l01From_ok _ a0 (hL.rdS 1 rfl h2) hx6) ?_)
 rintro e8 wd9 ⟨b7, rfl, hF10⟩
 refine ⟨_, rfl, ?_⟩
 have hL := hL.pushAll hF10
 simp only [lA, lB, lC, lD] at hL
 refine OV (.pointer (some ⟨b7, 0, none⟩)) rfl (x_assign) ?_
 refine ONR ?_
 refine OV (.pointer (some ⟨b7, 0, none⟩)) rfl (x_move) ?_
 obtain ⟨x11, hx12, hm⟩ := bndE hm
 refine OW.cons (OP.call rfl (x_call (vs := [(.pointer (some ⟨b7, 0, none⟩))]) Tryd_C57 ⟨rfl, trivial⟩) (M.spec_l26DrawBoats_ok _ (Src.mk a0 x5.1 x5.2) (hL.exS 2 0 (by decide) rfl rfl h2) (hL.get 0 rfl) hx12) ?_)
 rintro e13 wd14 ⟨rfl, hF15⟩
 refine ⟨_, rfl, ?_⟩
 have hL := hL.mut 0 rfl hF15
 simp only [lA, lB, lC, lD] at hL
 refine OV (.int .i64 x11.1) rfl (x_assign) ?_
 refine ONR ?_
 refine OV (.pointer (some ⟨b7, 0, none⟩)) rfl (x_move) ?_
 refine OV (.int .i64 x11.1) rfl (x_move) ?_
 obtain ⟨x16, hx17, hm⟩ := bndE hm
 refine OW.cons (OP.call rfl (x_call (vs := [(.pointer (some ⟨b7, 0, none⟩)), (.int .i64 x11.1)]) Tryd_C58 ⟨rfl, rfl, trivial⟩) (M.spec_l26DrawAny_ok _ (Src.mk a0 x11.2.1 x11.2.2) (hL.exS 2 0 (by decide) rfl rfl h2) (hL.get 0 rfl) x11.1 hx17) ?_)
 rintro e20 wd21 ⟨v19, S18, rfl, hF22⟩
 refine ⟨_, rfl, ?_⟩
 have hL := hL.mut 0 rfl hF22
 simp only [lA, lB, lC, lD] at hL
 refine OW.cons (S_alloc (cs := #[(.slice none 0 0)]) hL Tryd_T24 rfl rfl ?_)
 intro wd23 b24 hL
 refine OW.cons (S_storeN (l := [v19]) (cs' := #[v19]) hL 0 rfl Tryd_T24 rfl rfl (List.forall_mem_cons.2 ⟨rdL_one (hL.rdO 1 rfl), (fun _ h => by cases h)⟩) rfl (Nat.le_of_ble_eq_true rfl) rfl ?_)
 intro wd25 hL
 refine ONS ?_
 refine CW.drawH (fun w' => Hp w0 [Ent.blk b24 24 #[v19], Ent.own 46 S18 v19 x16.1.Finishes, Ent.snap w0 w0.heap.size] w') Tryd_mixed ?_
 have hL := hL.call (Mod.drew _)
 have hS := (hL.sel [0, 1, 4] (by decide) rfl)
 refine DH.take 0 rfl (by kernel_rfl) (by kernel_rfl) (by kernel_rfl) rfl rfl hS (YH.val (v := (.int .i64 x11.1)) (fun w' hS' => x_move)) ?_
 have hS := (hL.sel [0, 1, 4] (by decide) rfl)
 refine DH.take 1 rfl (by kernel_rfl) (by kernel_rfl) (by kernel_rfl) rfl rfl hS (YH.val (v := (.pointer (some ⟨b7, 0, none⟩))) (fun w' hS' => x_move)) ?_
 have hS := (hL.sel [0, 1, 4] (by decide) rfl)
 refine DH.take 5 rfl (by kernel_rfl) (by kernel_rfl) (by kernel_rfl) rfl rfl hS (YH.val (v := (.agg #[v19])) (fun w' hS' => x_loadN (cs := [v19]) U24 Tryd_T24 rfl rfl (hS'.cellsB 0 rfl (o := 0) (l := [v19]) (by intro j u hj; exact (by simpa using hj))))) ?_
 obtain ⟨x32, hx33, hm⟩ := bndE hm
 refine DH.only 2 rfl (by kernel_rfl) (OP.call rfl (x_call (vs := [(.pointer (some ⟨b7, 0, none⟩)), (.int .i64 24)]) Tryd_C47 ⟨rfl, rfl, trivial⟩) (M.spec_l01Next_ok _ (Src.mk a0 x16.2.1 x16.2.2) (hL.exS 4 2 (by decide) rfl rfl h2) (hL.get 2 rfl) 24 hx33) ?_)
 rintro e34 wd35 ⟨rfl, hF36⟩
 refine ⟨_, rfl, ?_⟩
 have hL := hL.mut 2 rfl hF36
 simp only [lA, lB, lC, lD] at hL
 refine ⟨(hL.sel [0, 1, 4] (by decide) rfl), ?_⟩
 have hS := (hL.sel [0, 1, 4] (by decide) rfl)
 refine DH.take 3 rfl (by kernel_rfl) (by kernel_rfl) (by kernel_rfl) rfl rfl hS (YH.val (v := (.int .i64 (w64 (x32.1.tdiv 23)))) (fun w' hS' => x_quo rfl rfl (by decide))) ?_
 have hS := (hL.sel [0, 1, 4] (by decide) rfl)
 refine DH.take 4 rfl (by kernel_rfl) (by kernel_rfl) (by kernel_rfl) rfl rfl hS (YH.val (v := (.int .i64 (w64 (x11.1 + (w64 (x32.1.tdiv 23)))))) (fun w' hS' => x_add rfl rfl)) ?_
 have hS := (hL.sel [0, 1, 4] (by decide) rfl)
 refine DH.take 6 rfl (by kernel_rfl) (by kernel_rfl) (by kernel_rfl) rfl rfl hS (YH.val (v := (.int .i64 (w64 (x11.1 + (w64 (x32.1.tdiv 23)))))) (fun w' hS' => x_assign)) ?_
 refine DH.only 7 rfl (by kernel_rfl) (S_storeN (l := [v19]) (cs' := #[v19]) hL 3 rfl Tryd_T24 rfl rfl (List.forall_mem_cons.2 ⟨rdL_one (hL.rdO 1 rfl), (fun _ h => by cases h)⟩) rfl (Nat.le_of_ble_eq_true rfl) rfl ?_)
 intro wd37 hL
 refine ⟨(hL.sel [0, 1, 4] (by decide) rfl), ?_⟩
 refine DH.done (by kernel_rfl) ?_
 refine CW.ret ?_
 obtain rfl := Option.some.inj hm
 exact RRs (v := (.int .i64 (w64 (x11.1 + (w64 (x32.1.tdiv 23)))))) (v2 := (.agg #[v19])) (vs := []) (rs := [.tmp 2, .cell 3 24]) rfl ⟨resTmp rfl, resCell rfl (run_loadBlk U24 Tryd_T24 (hL.get 3 rfl) rfl), trivial⟩ ⟨v19, S18, rfl, hL.fresh 4 rfl [1] (by decide) (by decide) rfl⟩

theorem M.spec_DrawRaceText_ok (w0 : World) (a0 : List UInt8) {v1 : Value} (h2 : rdL (· < w0.heap.size) w0 v1 a0) {r : Int × Race} (hm : M.spec_DrawRaceText a0 = some r) :
    Calls Tryd.prog 17 #[v1] w0 fun e w' => ∃ (rv0 : Value) (rS0 : Nat → Prop), e = .returned (.tuple #[(.int .i64 r.1), (.agg #[rv0])]) ∧ Fresh w0 w' [Ent.own 46 rS0 rv0 r.2.Finishes] := by
 unfold M.spec_DrawRaceText at hm
 refine calls_CW (args := [v1]) Tryd.func17 rfl rfl rfl ?_
 have hL := Hp.start w0
 refine CSR ?_
 refine OV (.int .i64 0) rfl (x_assign) ?_
 refine OW.cons (S_alloc (cs := #[(.slice none 0 0)]) hL Tryd_T24 rfl rfl ?_)
 intro wd3 b4 hL
 refine ONR ?_
 refine OV v1 rfl (x_move) ?_
 obtain ⟨x5, hx6, hm⟩ := bndE hm
 refine OW.cons (OP.call rfl (x_call (vs := [v1]) Tryd_C39 ⟨rfl, trivial⟩) (M.spec_DrawIsRace_ok _ a0 (hL.rdS 1 rfl h2) hx6) ?_)
 rintro e9 wd10 ⟨v8, S7, rfl, hF11⟩
 refine ⟨_, rfl, ?_⟩
 have hL := hL.pushAll hF11
 simp only [lA, lB, lC, lD] at hL
 refine OV (.int .i64 x5.1) rfl (x_extract rfl rfl) ?_
 refine OV (.agg #[v8]) rfl (x_extract rfl rfl) ?_
 refine OV (.int .i64 x5.1) rfl (x_assign) ?_
 refine OW.cons (S_storeN (l := [v8]) (cs' := #[v8]) hL 1 rfl Tryd_T24 rfl rfl (List.forall_mem_cons.2 ⟨rdL_one (hL.rdO 0 rfl), (fun _ h => by cases h)⟩) rfl (Nat.le_of_ble_eq_true rfl) rfl ?_)
 intro wd12 hL
 refine OW.nil ?_
 refine CW.ret ?_
 obtain rfl := Option.some.inj hm
 exact RRs (v := (.int .i64 x5.1)) (v2 := (.agg #[v8])) (vs := []) (rs := [.tmp 2, .cell 3 24]) rfl ⟨resTmp rfl, resCell rfl (run_loadBlk U24 Tryd_T24 (hL.get 1 rfl) rfl), trivial⟩ ⟨v8, S7, rfl, hL.fresh 2 rfl [0] (by decide) (by decide) rfl⟩

theorem M.spec_DrawReadRace_ok (w0 : World) (a0 : List UInt8) {v1 : Value} (h2 : rdL (· < w0.heap.size) w0 v1 a0) {r : Int × ByteArray} (hm : M.spec_DrawReadRace a0 = some r) :
    Calls Tryd.prog 20 #[v1] w0 fun e w' => e = .returned (.tuple #[(.int .i64 r.1), (.string r.2)]) ∧ Fresh w0 w' [] := by
 unfold M.spec_DrawReadRace at hm
 refine calls_CW (args := [v1]) Tryd.func20 rfl rfl rfl ?_
 have hL := Hp.start w0
 refine CSR ?_
 refine OV (.int .i64 0) rfl (x_assign) ?_
 refine OV (.string (⟨#[]⟩ : ByteArray)) rfl (x_assign) ?_
 refine ONR ?_
 refine OV v1 rfl (x_move) ?_
 obtain ⟨x3, hx4, hm⟩ := bndE hm
 refine OW.cons (OP.call rfl (x_call (vs := [v1]) Tryd_C39 ⟨rfl, trivial⟩) (M.spec_DrawIsRace_ok _ a0 (hL.rdS 0 rfl h2) hx4) ?_)
 rintro e7 wd8 ⟨v6, S5, rfl, hF9⟩
 refine ⟨_, rfl, ?_⟩
 have hL := hL.pushAll hF9
 simp only [lA, lB, lC, lD] at hL
 refine OV (.tuple #[(.int .i64 x3.1), (.agg #[v6])]) rfl (x_move) ?_
 refine OV (.int .i64 x3.1) rfl (x_extract rfl rfl) ?_
 refine OV (.agg #[v6]) rfl (x_extract rfl rfl) ?_
 refine OW.cons (S_alloc (cs := #[(.slice none 0 0)]) hL Tryd_T24 rfl rfl ?_)
 intro wd10 b11 hL
 refine OV (.int .i64 x3.1) rfl (x_assign) ?_
 refine OW.cons (S_storeN (l := [v6]) (cs' := #[v6]) hL 0 rfl Tryd_T24 rfl rfl (List.forall_mem_cons.2 ⟨rdL_one (hL.rdO 1 rfl), (fun _ h => by cases h)⟩) rfl (Nat.le_of_ble_eq_true rfl) rfl ?_)
 intro wd12 hL
 refine ONR ?_
 refine OW.cons (S_lit ([(UInt8.ofNat (2 : Int).toNat)] : List UInt8) hL U36 Tryd_T5 rfl (by decide) (by first | (simp [Instr.fill, madeCells, Value.cells, ev, upd, Flat.enc, Flat.sz]; done) | rfl | kernel_rfl) rfl rfl ?_)
 intro wd13 v14 S15 hL
 refine OV v1 rfl (x_move) ?_
 obtain ⟨hc19, hm⟩ := chkE hm
 refine OW.cons (S_append (ys := a0) hL 0 rfl U36 Tryd_T5 rfl rfl rfl (hL.rdS 3 rfl h2) hc19 (by decide) rfl ?_)
 intro wd16 v17 S18 hL
 obtain ⟨x20, hx21, hm⟩ := bndE hm
 refine OW.cons (OP.call rfl (x_call (vs := [v17]) Tryd_C46 ⟨rfl, trivial⟩) (M.spec_l01From_ok _ (([(UInt8.ofNat (2 : Int).toNat)] : List UInt8) ++ a0) (hL.rdO 0 rfl) hx21) ?_)
 rintro e23 wd24 ⟨b22, rfl, hF25⟩
 refine ⟨_, rfl, ?_⟩
 have hL := hL.pushAll hF25
 simp only [lA, lB, lC, lD] at hL
 refine OV (.pointer (some ⟨b22, 0, none⟩)) rfl (x_assign) ?_
 refine ONR ?_
 refine OV (.int .i64 x3.1) rfl (x_move) ?_
 refine OV (.agg #[v6]) rfl (x_loadN (cs := [v6]) U24 Tryd_T24 rfl rfl (hL.cellsB 2 rfl (o := 0) (l := [v6]) (by intro j u hj; exact (by simpa using hj)))) ?_
 obtain ⟨x26, hx27, hm⟩ := bndE hm
 refine OW.cons (OP.call rfl (x_call (vs := [(.int .i64 x3.1), (.agg #[v6])]) Tryd_C19 ⟨rfl, rfl, trivial⟩) (M.spec_RaceText_ok _ x3.1 x3.2 (hL.rdO 3 rfl) hx27) ?_)
 rintro e28 wd29 ⟨rfl, hF30⟩
 refine ⟨_, rfl, ?_⟩
 have hL := hL.pushAll hF30
 simp only [lA, lB, lC, lD] at hL
 obtain ⟨hc31, hm⟩ := chkE hm
 refine OW.cons (S_sb hL U9 U36 U5 rfl hc31 rfl ?_)
 intro wd32 v33 S34 hL
 refine OV v33 rfl (x_assign) ?_
 refine OW.nil ?_
 refine CW.seqJ (fun (s_j1 : Int × Int × (List UInt8)) (F : Fr) (w : World) => ∃ (S74 : Nat → Prop), F 4 = (.int .i64 x3.1) ∧ F 7 = v33 ∧ Hp w0 [Ent.bys 5 S74 v33 s_j1.2.2, Ent.blk b22 88 #[v17, (.int .i64 s_j1.1), (.int .i64 s_j1.2.1)], Ent.own 5 S18 v17 (([(UInt8.ofNat (2 : Int).toNat)] : List UInt8) ++ a0), Ent.blk b11 24 #[v6], Ent.own 46 S5 v6 x3.2.Finishes, Ent.snap w0 w0.heap.size] w) (fun s_j1 => M.spec_DrawReadRace_j1 x3 s_j1 = some r) ?_ ?_
 · refine CW.seqJ (fun (s_j2 : Int × Int × Bool) (F : Fr) (w : World) => F 4 = (.int .i64 x3.1) ∧ F 6 = (.pointer (some ⟨b22, 0, none⟩)) ∧ F 7 = v33 ∧ F 28 = (.bool s_j2.2.2) ∧ Hp w0 [Ent.bys 5 S34 v33 x26.data.toList, Ent.blk b22 88 #[v17, (.int .i64 s_j2.1), (.int .i64 s_j2.2.1)], Ent.own 5 S18 v17 (([(UInt8.ofNat (2 : Int).toNat)] : List UInt8) ++ a0), Ent.blk b11 24 #[v6], Ent.own 46 S5 v6 x3.2.Finishes, Ent.snap w0 w0.heap.size] w) (fun s_j2 => M.spec_DrawReadRace_j2 a0 x3 x26 s_j2 = some r) ?_ ?_
   · refine CW.regionL ?_
     refine OV v33 rfl (x_move) ?_
     refine OV (.int .i64 (x26.data.toList.length : Int)) rfl (x_lenR U36 rfl (hL.rdY 0 rfl)) ?_
     refine OV (.bool (decide (0 < (x26.data.toList.length : Int)))) rfl (x_gtr rfl rfl) ?_
     refine OV (.bool (decide (0 < (x26.data.toList.length : Int)))) rfl (x_move) ?_
     refine ifB_elim hm (fun hb113 hm => ?_) (fun hb113 hm => ?_)
     · refine OW.cons (OP.yes' rfl rfl hb113 (OP.val (v := (.pointer (some ⟨b22, 0, none⟩))) rfl (x_move) ?_))
       obtain ⟨x114, hx115, hm⟩ := bndE hm
       refine OW.cons (OP.yes' rfl rfl hb113 (OP.call rfl (x_call (vs := [(.pointer (some ⟨b22, 0, none⟩)), (.int .i64 4)]) Tryd_C47 ⟨rfl, rfl, trivial⟩) (M.spec_l01Next_ok _ (Src.mk (([(UInt8.ofNat (2 : Int).toNat)] : List UInt8) ++ a0) x20.1 x20.2) (hL.exO 2 1 (by decide) rfl rfl) (hL.get 1 rfl) 4 hx115) ?_))
       rintro e116 wd117 ⟨rfl, hF118⟩
       refine ⟨_, rfl, ?_⟩
       have hL := hL.mut 1 rfl hF118
       simp only [lA, lB, lC, lD] at hL
       refine OW.cons (OP.yes' rfl rfl hb113 (OP.val (v := (.bool (x114.1 == 0))) rfl (x_eql rfl rfl) ?_))
       refine OV (.bool (x114.1 == 0)) rfl (x_pickT' rfl hb113 rfl) ?_
       refine OW.nil ?_
       exact ⟨(x114.2.1, x114.2.2, x114.1 == 0), hm, ⟨rfl, rfl, rfl, rfl, hL⟩⟩
     refine OW.cons (OP.no' rfl rfl hb113 rfl ?_)
     refine OW.cons (OP.no' rfl rfl hb113 rfl ?_)
     refine OW.cons (OP.no' rfl rfl hb113 rfl ?_)
     refine OV (.bool false) rfl (x_pickF' rfl hb113 rfl) ?_
     refine OW.nil ?_
     exact ⟨(x20.1, x20.2, false), hm, ⟨rfl, rfl, rfl, rfl, hL⟩⟩
   intro s_j2 F86 wd87 hJ hm
   unfold M.spec_DrawReadRace_j2 at hm
   obtain ⟨f88, f89, f90, f91, hL⟩ := hJ
   refine CW.condM (t := s_j2.2.2) f91 hm (fun hb92 hm => ?_) (fun hb92 hm => ?_)
   · refine CW.regionL ?_
     refine OV v33 rfl (x_mv f90) ?_
     refine OV (.pointer (some ⟨b22, 0, none⟩)) rfl (x_mv f89) ?_
     refine OV v33 rfl (x_mv f90) ?_
     refine OV (.int .i64 (x26.data.toList.length : Int)) rfl (x_lenR U36 rfl (hL.rdY 0 rfl)) ?_
     obtain ⟨x93, hx94, hm⟩ := bndE hm
     refine OW.cons (OP.call rfl (x_call (vs := [(.pointer (some ⟨b22, 0, none⟩)), (.int .i64 (x26.data.toList.length : Int))]) Tryd_C47 ⟨rfl, rfl, trivial⟩) (M.spec_l01Next_ok _ (Src.mk (([(UInt8.ofNat (2 : Int).toNat)] : List UInt8) ++ a0) s_j2.1 s_j2.2.1) (hL.exO 2 1 (by decide) rfl rfl) (hL.get 1 rfl) (x26.data.toList.length : Int) hx94) ?_)
     rintro e95 wd96 ⟨rfl, hF97⟩
     refine ⟨_, rfl, ?_⟩
     have hL := hL.mut 1 rfl hF97
     simp only [lA, lB, lC, lD] at hL
     refine OV (.pointer (some ⟨b22, 0, none⟩)) rfl (x_mv f89) ?_
     obtain ⟨x98, hx99, hm⟩ := bndE hm
     refine OW.cons (OP.call rfl (x_call (vs := [(.pointer (some ⟨b22, 0, none⟩)), (.int .i64 6)]) Tryd_C47 ⟨rfl, rfl, trivial⟩) (M.spec_l01Next_ok _ (Src.mk (([(UInt8.ofNat (2 : Int).toNat)] : List UInt8) ++ a0) x93.2.1 x93.2.2) (hL.exO 2 1 (by decide) rfl rfl) (hL.get 1 rfl) 6 hx99) ?_)
     rintro e100 wd101 ⟨rfl, hF102⟩
     refine ⟨_, rfl, ?_⟩
     have hL := hL.mut 1 rfl hF102
     simp only [lA, lB, lC, lD] at hL
     obtain ⟨x103, hx104, hm⟩ := bndE hm
     refine OV (.int .u8 x103) rfl (x_strAt U9 rfl rfl hx104) ?_
     obtain ⟨x105, ha106, hm⟩ := bndE hm
     obtain ⟨hz107, ha111⟩ := idxE ha106
     obtain ⟨b108, q109, hix110⟩ := rdL_ix (hL.rdY 0 rfl) hz107 ha111
     refine OV (.pointer (some ⟨b108, q109, none⟩)) rfl (x_ix U36 Tryd_T5 rfl rfl hix110) ?_
     refine OW.cons (S_storeY (UInt8.ofNat (x103).toNat) hL 0 rfl Tryd_T5 hix110 ha111 rfl rfl (u8b (by assumption)) ?_)
     intro wd112 hL
     refine OW.nil ?_
     exact ⟨(x98.2.1, x98.2.2, x26.data.toList.set (x93.1 : Int).toNat (UInt8.ofNat (x103).toNat)), hm, ⟨S34, f88, f90, hL⟩⟩
   refine CW.skip ?_
   exact ⟨(s_j2.1, s_j2.2.1, x26.data.toList), hm, ⟨S34, f88, f90, hL⟩⟩
 intro s_j1 F75 wd76 hJ hm
 unfold M.spec_DrawReadRace_j1 at hm
 obtain ⟨S74, f77, f78, hL⟩ := hJ
 refine CW.seq ?_
 refine CW.draw Tryd_mixed ?_
 have hL := hL.call (Mod.drew _)
 refine DW.pre (fuel := 0) (fin := bma 5 31) (C := fun w' => Mod None_ _ w') [0, 1, 2, 3, 4] (Mod.refl _ _) (by kernel_rfl) (by kernel_rfl) ?_
 refine QW.cons rfl (QP.val (v := (.int .i64 x3.1)) rfl (fun w' hm' => x_mv f77) ?_)
 refine QW.cons rfl (QP.val (v := v33) rfl (fun w' hm' => x_mv f78) ?_)
 refine QW.cons rfl (QP.val (v := (.string (bts s_j1.2.2))) rfl (fun w' hm' => x_bts U36 U5 U9 rfl ((hL.call hm').rdY 0 rfl)) ?_)
 refine QW.cons rfl (QP.val (v := (.int .i64 x3.1)) rfl (fun w' hm' => x_assign) ?_)
 refine QW.cons rfl (QP.val (v := (.string (bts s_j1.2.2))) rfl (fun w' hm' => x_assign) ?_)
 refine QW.nil ?_
 intro wd79 hmod
 have hL := hL.call hmod
 refine DW.done (by kernel_rfl) ?_
 refine CW.ret ?_
 obtain rfl := Option.some.inj hm
 exact RR2 rfl rfl rfl ⟨rfl, hL.fresh 5 rfl [] (by decide) (by decide) rfl⟩

theorem M.laws_w6Races_ok (w0 : World) (a0 : Race) {v1 : Value} (h2 : rdL (· < w0.heap.size) w0 v1 a0.Finishes) (a1 : Race) {v3 : Value} (h4 : rdL (· < w0.heap.size) w0 v3 a1.Finishes) {r : Bool} (hm : M.laws_w6Races a0 a1 = some r) :
    Calls Tryd.prog 21 #[(.agg #[v1]), (.agg #[v3])] w0 fun e w' => e = .returned (.bool r) ∧ Fresh w0 w' [] := by
 unfold M.laws_w6Races at hm
 refine calls_CW (args := [(.agg #[v1]), (.agg #[v3])]) Tryd.func21 rfl rfl rfl ?_
 have hL := Hp.start w0
 refine CSR ?_
 refine OW.cons (S_box (cs := #[v1]) hL rfl rfl rfl ?_)
 intro wd5 b6 hL
 refine OW.cons (S_box (cs := #[v3]) hL rfl rfl rfl ?_)
 intro wd7 b8 hL
 refine OV (.bool false) rfl (x_assign) ?_
 refine ONS ?_
 refine CSR ?_
 refine OV (.pointer (some ⟨b6, 0, none⟩)) rfl (x_fieldAddr (fsz := 1) 0 0 0 U24 rfl Tryd_T22 rfl rfl rfl) ?_
 refine OV v1 rfl (x_load1 U22 rfl rfl (hL.cellB 1 rfl rfl)) ?_
 refine OV (.int .i64 (a0.Finishes.length : Int)) rfl (x_lenR U22 rfl (hL.rdS 2 rfl h2)) ?_
 refine OV (.pointer (some ⟨b8, 0, none⟩)) rfl (x_fieldAddr (fsz := 1) 0 0 0 U24 rfl Tryd_T22 rfl rfl rfl) ?_
 refine OV v3 rfl (x_load1 U22 rfl rfl (hL.cellB 0 rfl rfl)) ?_
 refine OV (.int .i64 (a1.Finishes.length : Int)) rfl (x_lenR U22 rfl (hL.rdS 2 rfl h4)) ?_
 refine OV (.bool ((a0.Finishes.length : Int) != (a1.Finishes.length : Int))) rfl (x_neq rfl rfl) ?_
 refine OW.nil ?_
 refine CW.condM (t := (a0.Finishes.length : Int) != (a1.Finishes.length : Int)) rfl hm (fun hb9 hm => ?_) (fun hb9 hm => ?_)
 · refine CSR ?_
   refine OV (.bool false) rfl (x_assign) ?_
   refine OW.nil ?_
   refine CW.ret ?_
   obtain rfl := Option.some.inj hm
   exact RR1 rfl rfl ⟨rfl, hL.fresh 2 rfl [] (by decide) (by decide) rfl⟩
 refine CW.skip ?_
 refine CW.seq ?_
 refine CSR ?_
 refine OV (.int .i64 0) rfl (x_assign) ?_
 refine OW.nil ?_
 obtain ⟨o46, ho47, hm⟩ := bndE hm
 refine CW.loopB (fun (s_l1 : Int) (F : Fr) (w : World) => F 2 = (.pointer (some ⟨b6, 0, none⟩)) ∧ F 3 = (.pointer (some ⟨b8, 0, none⟩)) ∧ F 5 = (.int .i64 s_l1) ∧ Hp w0 [Ent.blk b8 24 #[v3], Ent.blk b6 24 #[v1], Ent.snap w0 w0.heap.size] w) (fun o => outc o (fun x => some x) (fun s => M.laws_w6Races_a1 s) = some r) ho47 hm ⟨rfl, rfl, rfl, hL⟩ ?_ ?_
 · intro s_l1 F48 wd49 hJ hm
   have hm := outcE hm
   have hm : M.laws_w6Races_a1 s_l1 = some r := hm
   unfold M.laws_w6Races_a1 at hm
   obtain ⟨f50, f51, f52, hL⟩ := hJ
   refine CSR ?_
   refine OV (.bool true) rfl (x_assign) ?_
   refine OW.nil ?_
   refine CW.ret ?_
   obtain rfl := Option.some.inj hm
   exact RR1 rfl rfl ⟨rfl, hL.fresh 2 rfl [] (by decide) (by decide) rfl⟩
 intro s_l1 F53 wd54 t44 hJ hm hr45
 unfold M.laws_w6Races_l1 at hm
 obtain ⟨f55, f56, f57, hL⟩ := hJ
 refine CW.seq ?_
 refine CSR ?_
 refine OV (.int .i64 s_l1) rfl (x_mv f57) ?_
 refine OV (.pointer (some ⟨b6, 0, none⟩)) rfl (x_fieldAddr (fsz := 1) 0 0 0 U24 rfl Tryd_T22 rfl f55 rfl) ?_
 refine OV v1 rfl (x_load1 U22 rfl rfl (hL.cellB 1 rfl rfl)) ?_
 refine OV (.int .i64 (a0.Finishes.length : Int)) rfl (x_lenR U22 rfl (hL.rdS 2 rfl h2)) ?_
 refine OV (.bool (decide (s_l1 < (a0.Finishes.length : Int)))) rfl (x_lss rfl rfl) ?_
 refine OW.nil ?_
 refine CW.condM (t := decide (s_l1 < (a0.Finishes.length : Int))) rfl hm (fun hb58 hm => ?_) (fun hb58 hm => ?_)
 · refine CW.skip ?_
   refine CW.seq ?_
   refine CW.block ?_
   refine CW.seq ?_
   refine CW.draw Tryd_mixed ?_
   have hL := hL.call (Mod.drew _)
   refine DW.pre (fuel := 0) (fin := bma 11 2047) (C := fun w' => Mod None_ _ w') [0, 1, 2, 3, 4, 5, 6, 7, 8, 9, 10] (Mod.refl _ _) (by kernel_rfl) (by kernel_rfl) ?_
   refine QW.cons rfl (QP.val (v := (.pointer (some ⟨b6, 0, none⟩))) rfl (fun w' hm' => x_fieldAddr (fsz := 1) 0 0 0 U24 rfl Tryd_T22 rfl f55 rfl) ?_)
   refine QW.cons rfl (QP.val (v := v1) rfl (fun w' hm' => x_load1 U22 rfl rfl ((hL.call hm').cellB 1 rfl rfl)) ?_)
   refine QW.cons rfl (QP.val (v := (.int .i64 s_l1)) rfl (fun w' hm' => x_mv f57) ?_)
   obtain ⟨x59, ha60, hm⟩ := bndE hm
   obtain ⟨hz61, ha65⟩ := idxE ha60
   obtain ⟨b62, q63, hix64⟩ := rdL_ix (hL.rdS 2 rfl h2) hz61 ha65
   refine QW.cons rfl (QP.val (v := (.pointer (some ⟨b62, q63, none⟩))) rfl (fun w' hm' => x_ix U22 Tryd_T46 rfl rfl hix64) ?_)
   refine QW.cons rfl (QP.val (v := (.agg #[(.int .i64 x59.Boat), (.int .i64 x59.Code), (.int .i64 x59.Time)])) rfl (fun w' hm' => x_loadN (cs := [(.int .i64 x59.Boat), (.int .i64 x59.Code), (.int .i64 x59.Time)]) U46 Tryd_T46 rfl rfl (rdF_cells ((hL.call hm').rdS 2 rfl h2) hix64 ha65)) ?_)
   refine QW.cons rfl (QP.val (v := (.pointer (some ⟨b8, 0, none⟩))) rfl (fun w' hm' => x_fieldAddr (fsz := 1) 0 0 0 U24 rfl Tryd_T22 rfl f56 rfl) ?_)
   refine QW.cons rfl (QP.val (v := v3) rfl (fun w' hm' => x_load1 U22 rfl rfl ((hL.call hm').cellB 0 rfl rfl)) ?_)
   refine QW.cons rfl (QP.val (v := (.int .i64 s_l1)) rfl (fun w' hm' => x_mv f57) ?_)
   obtain ⟨x66, ha67, hm⟩ := bndE hm
   obtain ⟨hz68, ha72⟩ := idxE ha67
   obtain ⟨b69, q70, hix71⟩ := rdL_ix (hL.rdS 2 rfl h4) hz68 ha72
   refine QW.cons rfl (QP.val (v := (.pointer (some ⟨b69, q70, none⟩))) rfl (fun w' hm' => x_ix U22 Tryd_T46 rfl rfl hix71) ?_)
   refine QW.cons rfl (QP.val (v := (.agg #[(.int .i64 x66.Boat), (.int .i64 x66.Code), (.int .i64 x66.Time)])) rfl (fun w' hm' => x_loadN (cs := [(.int .i64 x66.Boat), (.int .i64 x66.Code), (.int .i64 x66.Time)]) U46 Tryd_T46 rfl rfl (rdF_cells ((hL.call hm').rdS 2 rfl h4) hix71 ha72)) ?_)
   refine QW.cons rfl (QP.val (v := (.bool (!(eqL [x59.Boat, x59.Code, x59.Time] [x66.Boat, x66.Code, x66.Time])))) rfl (fun w' hm' => (x_eqS (xs := [x59.Boat, x59.Code, x59.Time]) (ys := [x66.Boat, x66.Code, x66.Time]) (by kernel_rfl) rfl (by kernel_rfl) rfl rfl).2) ?_)
   refine QW.nil ?_
   intro wd73 hmod
   have hL := hL.call hmod
   refine DW.done (by kernel_rfl) ?_
   refine CW.condM (t := !(eqL [x59.Boat, x59.Code, x59.Time] [x66.Boat, x66.Code, x66.Time])) rfl hm (fun hb74 hm => ?_) (fun hb74 hm => ?_)
   · refine CSR ?_
     refine OV (.bool false) rfl (x_assign) ?_
     refine OW.nil ?_
     refine CW.ret ?_
     obtain rfl := Option.some.inj hm
     have hm := hr45 _ rfl
     obtain rfl := Option.some.inj hm
     exact RR1 rfl rfl ⟨rfl, hL.fresh 2 rfl [] (by decide) (by decide) rfl⟩
   refine CW.skip ?_
   refine CW.regionL ?_
   refine OV (.int .i64 s_l1) rfl (x_mv f57) ?_
   refine OV (.int .i64 (w64 (s_l1 + 1))) rfl (x_add rfl rfl) ?_
   refine OV (.int .i64 (w64 (s_l1 + 1))) rfl (x_assign) ?_
   refine OW.nil ?_
   obtain rfl := Option.some.inj hm
   exact ⟨_, rfl, ⟨f55, f56, rfl, hL⟩⟩
 refine CW.exit ?_
 refine XJ.hit ?_
 obtain rfl := Option.some.inj hm
 exact ⟨_, rfl, ⟨f55, f56, f57, hL⟩⟩

theorem M.laws_FnRaceText_ok (w0 : World) (htab : TabsR Tryd.prog (cutLaid_ren.g 1) (parseLaid_ren.g 15) (parseLaid_ren.g 16) w0) (a0 : List UInt8) {v1 : Value} (h2 : rdL (· < w0.heap.size) w0 v1 a0) {r : Bool} (hm : M.laws_FnRaceText a0 = some r) :
    Calls Tryd.prog 5 #[v1] w0 fun e w' => e = .returned (.bool r) ∧ Fresh w0 w' [] := by
 unfold M.laws_FnRaceText at hm
 refine calls_CW (args := [v1]) Tryd.func5 rfl rfl rfl ?_
 have hL := Hp.start w0
 refine CSR ?_
 refine OV (.bool false) rfl (x_assign) ?_
 refine ONS ?_
 refine CSR ?_
 refine OV v1 rfl (x_move) ?_
 obtain ⟨x3, hx4, hm⟩ := bndE hm
 refine OW.cons (OP.call rfl (x_call (vs := [v1]) Tryd_C16 ⟨rfl, trivial⟩) (M.laws_big_ok _ a0 (hL.rdS 0 rfl h2) hx4) ?_)
 rintro e5 wd6 ⟨rfl, hF7⟩
 refine ⟨_, rfl, ?_⟩
 have hL := hL.pushAll hF7
 simp only [lA, lB, lC, lD] at hL
 refine OW.nil ?_
 refine CW.condM (t := x3) rfl hm (fun hb8 hm => ?_) (fun hb8 hm => ?_)
 · refine CSR ?_
   refine OV (.bool true) rfl (x_assign) ?_
   refine OW.nil ?_
   refine CW.ret ?_
   obtain rfl := Option.some.inj hm
   exact RR1 rfl rfl ⟨rfl, hL.fresh 0 rfl [] (by decide) (by decide) rfl⟩
 refine CW.skip ?_
 refine CSR ?_
 refine OV v1 rfl (x_move) ?_
 obtain ⟨x9, hx10, hm⟩ := bndE hm
 refine OW.cons (OP.call rfl (x_call (vs := [v1]) Tryd_C17 ⟨rfl, trivial⟩) (M.spec_DrawRaceText_ok _ a0 (hL.rdS 0 rfl h2) hx10) ?_)
 rintro e13 wd14 ⟨v12, S11, rfl, hF15⟩
 refine ⟨_, rfl, ?_⟩
 have hL := hL.pushAll hF15
 simp only [lA, lB, lC, lD] at hL
 refine OV (.tuple #[(.int .i64 x9.1), (.agg #[v12])]) rfl (x_move) ?_
 refine OV (.int .i64 x9.1) rfl (x_extract rfl rfl) ?_
 refine OV (.agg #[v12]) rfl (x_extract rfl rfl) ?_
 refine OW.cons (S_alloc (cs := #[(.slice none 0 0)]) hL Tryd_T24 rfl rfl ?_)
 intro wd16 b17 hL
 refine OV (.int .i64 x9.1) rfl (x_assign) ?_
 refine OW.cons (S_storeN (l := [v12]) (cs' := #[v12]) hL 0 rfl Tryd_T24 rfl rfl (List.forall_mem_cons.2 ⟨rdL_one (hL.rdO 1 rfl), (fun _ h => by cases h)⟩) rfl (Nat.le_of_ble_eq_true rfl) rfl ?_)
 intro wd18 hL
 refine ONR ?_
 refine OV (.int .i64 x9.1) rfl (x_move) ?_
 refine OV (.agg #[v12]) rfl (x_loadN (cs := [v12]) U24 Tryd_T24 rfl rfl (hL.cellsB 0 rfl (o := 0) (l := [v12]) (by intro j u hj; exact (by simpa using hj)))) ?_
 obtain ⟨x19, hx20, hm⟩ := bndE hm
 refine OW.cons (OP.call rfl (x_call (vs := [(.int .i64 x9.1), (.agg #[v12])]) Tryd_C18 ⟨rfl, rfl, trivial⟩) (M.impl_RaceText_ok _ (hL.tabR 2 rfl rfl htab) x9.1 x9.2 (hL.rdO 1 rfl) hx20) ?_)
 rintro e21 wd22 ⟨rfl, hF23⟩
 refine ⟨_, rfl, ?_⟩
 have hL := hL.pushAll hF23
 simp only [lA, lB, lC, lD] at hL
 refine OV (.string x19) rfl (x_assign) ?_
 refine ONR ?_
 refine OV v1 rfl (x_move) ?_
 obtain ⟨x24, hx25, hm⟩ := bndE hm
 refine OW.cons (OP.call rfl (x_call (vs := [v1]) Tryd_C17 ⟨rfl, trivial⟩) (M.spec_DrawRaceText_ok _ a0 (hL.rdS 2 rfl h2) hx25) ?_)
 rintro e28 wd29 ⟨v27, S26, rfl, hF30⟩
 refine ⟨_, rfl, ?_⟩
 have hL := hL.pushAll hF30
 simp only [lA, lB, lC, lD] at hL
 refine OV (.tuple #[(.int .i64 x24.1), (.agg #[v27])]) rfl (x_move) ?_
 refine OV (.int .i64 x24.1) rfl (x_extract rfl rfl) ?_
 refine OV (.agg #[v27]) rfl (x_extract rfl rfl) ?_
 refine OV (.int .i64 x24.1) rfl (x_assign) ?_
 refine OW.cons (S_storeN (l := [v27]) (cs' := #[v27]) hL 1 rfl Tryd_T24 rfl rfl (List.forall_mem_cons.2 ⟨rdL_one (hL.rdO 0 rfl), (fun _ h => by cases h)⟩) rfl (Nat.le_of_ble_eq_true rfl) rfl ?_)
 intro wd31 hL
 refine ONS ?_
 refine CSR ?_
 refine OV (.string x19) rfl (x_move) ?_
 refine OV (.int .i64 x24.1) rfl (x_move) ?_
 refine OV (.agg #[v27]) rfl (x_loadN (cs := [v27]) U24 Tryd_T24 rfl rfl (hL.cellsB 1 rfl (o := 0) (l := [v27]) (by intro j u hj; exact (by simpa using hj)))) ?_
 obtain ⟨x32, hx33, hm⟩ := bndE hm
 refine OW.cons (OP.call rfl (x_call (vs := [(.int .i64 x24.1), (.agg #[v27])]) Tryd_C19 ⟨rfl, rfl, trivial⟩) (M.spec_RaceText_ok _ x24.1 x24.2 (hL.rdO 0 rfl) hx33) ?_)
 rintro e34 wd35 ⟨rfl, hF36⟩
 refine ⟨_, rfl, ?_⟩
 have hL := hL.pushAll hF36
 simp only [lA, lB, lC, lD] at hL
 refine OV (.bool (!(sEq x19 x32))) rfl (x_neqT rfl rfl) ?_
 refine OW.nil ?_
 refine CW.condM (t := !(sEq x19 x32)) rfl hm (fun hb37 hm => ?_) (fun hb37 hm => ?_)
 · refine CSR ?_
   refine OV (.bool false) rfl (x_assign) ?_
   refine OW.nil ?_
   refine CW.ret ?_
   obtain rfl := Option.some.inj hm
   exact RR1 rfl rfl ⟨rfl, hL.fresh 3 rfl [] (by decide) (by decide) rfl⟩
 refine CW.skip ?_
 refine CSR ?_
 refine OV v1 rfl (x_move) ?_
 obtain ⟨x38, hx39, hm⟩ := bndE hm
 refine OW.cons (OP.call rfl (x_call (vs := [v1]) Tryd_C20 ⟨rfl, trivial⟩) (M.spec_DrawReadRace_ok _ a0 (hL.rdS 3 rfl h2) hx39) ?_)
 rintro e40 wd41 ⟨rfl, hF42⟩
 refine ⟨_, rfl, ?_⟩
 have hL := hL.pushAll hF42
 simp only [lA, lB, lC, lD] at hL
 refine OV (.tuple #[(.int .i64 x38.1), (.string x38.2)]) rfl (x_move) ?_
 refine OV (.int .i64 x38.1) rfl (x_extract rfl rfl) ?_
 refine OV (.string x38.2) rfl (x_extract rfl rfl) ?_
 refine OV (.int .i64 x38.1) rfl (x_assign) ?_
 refine OV (.string x38.2) rfl (x_assign) ?_
 refine ONR ?_
 refine OV (.int .i64 x38.1) rfl (x_move) ?_
 refine OV (.string x38.2) rfl (x_move) ?_
 obtain ⟨x43, hx44, hm⟩ := bndE hm
 refine OW.cons (OP.call rfl (x_call (vs := [(.int .i64 x38.1), (.string x38.2)]) Tryd_C7 ⟨rfl, rfl, trivial⟩) (M.impl_ReadRace_ok _ (hL.tabR 3 rfl rfl htab) x38.1 x38.2 hx44) ?_)
 rintro e47 wd48 ⟨v46, S45, rfl, hF49⟩
 refine ⟨_, rfl, ?_⟩
 have hL := hL.pushAll hF49
 simp only [lA, lB, lC, lD] at hL
 refine OV (.tuple #[(.agg #[v46]), (.bool x43.2)]) rfl (x_move) ?_
 refine OV (.agg #[v46]) rfl (x_extract rfl rfl) ?_
 refine OV (.bool x43.2) rfl (x_extract rfl rfl) ?_
 refine OW.cons (S_alloc (cs := #[(.slice none 0 0)]) hL Tryd_T24 rfl rfl ?_)
 intro wd50 b51 hL
 refine OW.cons (S_storeN (l := [v46]) (cs' := #[v46]) hL 0 rfl Tryd_T24 rfl rfl (List.forall_mem_cons.2 ⟨rdL_one (hL.rdO 1 rfl), (fun _ h => by cases h)⟩) rfl (Nat.le_of_ble_eq_true rfl) rfl ?_)
 intro wd52 hL
 refine OV (.bool x43.2) rfl (x_assign) ?_
 refine ONR ?_
 refine OV (.int .i64 x38.1) rfl (x_move) ?_
 refine OV (.string x38.2) rfl (x_move) ?_
 obtain ⟨x53, hx54, hm⟩ := bndE hm
 refine OW.cons (OP.call rfl (x_call (vs := [(.int .i64 x38.1), (.string x38.2)]) Tryd_C6 ⟨rfl, rfl, trivial⟩) (M.spec_ReadRace_ok _ x38.1 x38.2 hx54) ?_)
 rintro e57 wd58 ⟨v56, S55, rfl, hF59⟩
 refine ⟨_, rfl, ?_⟩
 have hL := hL.pushAll hF59
 simp only [lA, lB, lC, lD] at hL
 refine OV (.tuple #[(.agg #[v56]), (.bool x53.2)]) rfl (x_move) ?_
 refine OV (.agg #[v56]) rfl (x_extract rfl rfl) ?_
 refine OV (.bool x53.2) rfl (x_extract rfl rfl) ?_
 refine OW.cons (S_alloc (cs := #[(.slice none 0 0)]) hL Tryd_T24 rfl rfl ?_)
 intro wd60 b61 hL
 refine OW.cons (S_storeN (l := [v56]) (cs' := #[v56]) hL 0 rfl Tryd_T24 rfl rfl (List.forall_mem_cons.2 ⟨rdL_one (hL.rdO 1 rfl), (fun _ h => by cases h)⟩) rfl (Nat.le_of_ble_eq_true rfl) rfl ?_)
 intro wd62 hL
 refine OV (.bool x53.2) rfl (x_assign) ?_
 refine ONS ?_
 refine CW.seqJ (fun (s_j1 : Bool) (F : Fr) (w : World) => F 3 = (.int .i64 x24.1) ∧ F 4 = (.pointer (some ⟨b17, 0, none⟩)) ∧ F 5 = (.string x19) ∧ F 69 = (.bool s_j1) ∧ Hp w0 [Ent.blk b61 24 #[v56], Ent.own 46 S55 v56 x53.1.Finishes, Ent.blk b51 24 #[v46], Ent.own 46 S45 v46 x43.1.Finishes, Ent.own 46 S26 v27 x24.2.Finishes, Ent.blk b17 24 #[v27], Ent.snap w0 w0.heap.size] w) (fun s_j1 => M.laws_FnRaceText_j1 x19 x24 s_j1 = some r) ?_ ?_
 · refine CW.regionL ?_
   refine OV (.bool x43.2) rfl (x_move) ?_
   refine OV (.bool x53.2) rfl (x_move) ?_
   refine OV (.bool (x43.2 != x53.2)) rfl (x_neqB U4 rfl rfl) ?_
   refine OV (.bool (x43.2 != x53.2)) rfl (x_move) ?_
   refine ifB_elim hm (fun hb109 hm => ?_) (fun hb109 hm => ?_)
   · refine OW.cons (OP.no' rfl rfl hb109 rfl ?_)
     refine OW.cons (OP.no' rfl rfl hb109 rfl ?_)
     refine OW.cons (OP.no' rfl rfl hb109 rfl ?_)
     refine OW.cons (OP.no' rfl rfl hb109 rfl ?_)
     refine OV (.bool true) rfl (x_pickT' rfl hb109 rfl) ?_
     refine OV (.bool true) rfl (x_move) ?_
     refine OW.cons (OP.no' rfl rfl rfl rfl ?_)
     refine OW.cons (OP.no' rfl rfl rfl rfl ?_)
     refine OW.cons (OP.noU rfl rfl rfl ?_)
     refine OW.cons (OP.noU rfl rfl rfl ?_)
     refine OW.cons (OP.noU rfl rfl rfl ?_)
     refine OW.cons (OP.noU rfl rfl rfl ?_)
     refine OW.cons (OP.noU rfl rfl rfl ?_)
     refine OW.cons (OP.no' rfl rfl rfl rfl ?_)
     refine OV (.bool true) rfl (x_pickT' rfl rfl rfl) ?_
     refine OW.nil ?_
     have hL := hL.sel [0, 1, 2, 3, 4, 5, 7] (by decide) rfl
     exact ⟨true, hm, ⟨rfl, rfl, rfl, rfl, hL⟩⟩
   refine OW.cons (OP.yes' rfl rfl hb109 (OP.val (v := (.agg #[v46])) rfl (x_loadN (cs := [v46]) U24 Tryd_T24 rfl rfl (hL.cellsB 2 rfl (o := 0) (l := [v46]) (by intro j u hj; exact (by simpa using hj)))) ?_))
   refine OW.cons (OP.yes' rfl rfl hb109 (OP.val (v := (.agg #[v56])) rfl (x_loadN (cs := [v56]) U24 Tryd_T24 rfl rfl (hL.cellsB 0 rfl (o := 0) (l := [v56]) (by intro j u hj; exact (by simpa using hj)))) ?_))
   obtain ⟨x110, hx111, hm⟩ := bndE hm
   refine OW.cons (OP.yes' rfl rfl hb109 (OP.call rfl (x_call (vs := [(.agg #[v46]), (.agg #[v56])]) Tryd_C21 ⟨rfl, rfl, trivial⟩) (M.laws_w6Races_ok _ x43.1 (hL.rdO 3 rfl) x53.1 (hL.rdO 1 rfl) hx111) ?_))
   rintro e112 wd113 ⟨rfl, hF114⟩
   refine ⟨_, rfl, ?_⟩
   have hL := hL.pushAll hF114
   simp only [lA, lB, lC, lD] at hL
   refine OW.cons (OP.yes' rfl rfl hb109 (OP.val (v := (.bool (!x110))) rfl (x_not rfl) ?_))
   refine OV (.bool (!x110)) rfl (x_pickF' rfl hb109 rfl) ?_
   refine OV (.bool (!x110)) rfl (x_move) ?_
   refine ifB_elim hm (fun hb115 hm => ?_) (fun hb115 hm => ?_)
   · refine OW.cons (OP.no' rfl rfl hb115 rfl ?_)
     refine OW.cons (OP.no' rfl rfl hb115 rfl ?_)
     refine OW.cons (OP.noU rfl rfl rfl ?_)
     refine OW.cons (OP.noU rfl rfl rfl ?_)
     refine OW.cons (OP.noU rfl rfl rfl ?_)
     refine OW.cons (OP.noU rfl rfl rfl ?_)
     refine OW.cons (OP.noU rfl rfl rfl ?_)
     refine OW.cons (OP.no' rfl rfl hb115 rfl ?_)
     refine OV (.bool true) rfl (x_pickT' rfl hb115 rfl) ?_
     refine OW.nil ?_
     have hL := hL.sel [0, 1, 2, 3, 4, 5, 7] (by decide) rfl
     exact ⟨true, hm, ⟨rfl, rfl, rfl, rfl, hL⟩⟩
   refine OW.cons (OP.yes' rfl rfl hb115 (OP.val (v := (.bool x43.2)) rfl (x_move) ?_))
   refine OW.cons (OP.yes' rfl rfl hb115 (OP.val (v := (.bool x43.2)) rfl (x_move) ?_))
   refine ifB_elim hm (fun hb116 hm => ?_) (fun hb116 hm => ?_)
   · refine OW.cons (OP.yes' rfl rfl hb116 (OP.val (v := (.int .i64 x38.1)) rfl (x_move) ?_))
     refine OW.cons (OP.yes' rfl rfl hb116 (OP.val (v := (.agg #[v46])) rfl (x_loadN (cs := [v46]) U24 Tryd_T24 rfl rfl (hL.cellsB 2 rfl (o := 0) (l := [v46]) (by intro j u hj; exact (by simpa using hj)))) ?_))
     obtain ⟨x117, hx118, hm⟩ := bndE hm
     refine OW.cons (OP.yes' rfl rfl hb116 (OP.call rfl (x_call (vs := [(.int .i64 x38.1), (.agg #[v46])]) Tryd_C18 ⟨rfl, rfl, trivial⟩) (M.impl_RaceText_ok _ (hL.tabR 7 rfl rfl htab) x38.1 x43.1 (hL.rdO 3 rfl) hx118) ?_))
     rintro e119 wd120 ⟨rfl, hF121⟩
     refine ⟨_, rfl, ?_⟩
     have hL := hL.pushAll hF121
     simp only [lA, lB, lC, lD] at hL
     refine OW.cons (OP.yes' rfl rfl hb116 (OP.val (v := (.string x38.2)) rfl (x_move) ?_))
     refine OW.cons (OP.yes' rfl rfl hb116 (OP.val (v := (.bool (!(sEq x117 x38.2)))) rfl (x_neqT rfl rfl) ?_))
     refine OW.cons (OP.yes' rfl rfl hb115 (OP.val (v := (.bool (!(sEq x117 x38.2)))) rfl (x_pickT' rfl hb116 rfl) ?_))
     refine OV (.bool (!(sEq x117 x38.2))) rfl (x_pickF' rfl hb115 rfl) ?_
     refine OW.nil ?_
     have hL := hL.sel [0, 1, 2, 3, 4, 5, 7] (by decide) rfl
     exact ⟨!(sEq x117 x38.2), hm, ⟨rfl, rfl, rfl, rfl, hL⟩⟩
   refine OW.cons (OP.no' rfl rfl hb116 rfl ?_)
   refine OW.cons (OP.no' rfl rfl hb116 rfl ?_)
   refine OW.cons (OP.no' rfl rfl hb116 rfl ?_)
   refine OW.cons (OP.no' rfl rfl hb116 rfl ?_)
   refine OW.cons (OP.no' rfl rfl hb116 rfl ?_)
   refine OW.cons (OP.yes' rfl rfl hb115 (OP.val (v := (.bool false)) rfl (x_pickF' rfl hb116 rfl) ?_))
   refine OV (.bool false) rfl (x_pickF' rfl hb115 rfl) ?_
   refine OW.nil ?_
   have hL := hL.sel [0, 1, 2, 3, 4, 5, 7] (by decide) rfl
   exact ⟨false, hm, ⟨rfl, rfl, rfl, rfl, hL⟩⟩
 intro s_j1 F76 wd77 hJ hm
 unfold M.laws_FnRaceText_j1 at hm
 obtain ⟨f78, f79, f80, f81, hL⟩ := hJ
 refine CW.condM (t := s_j1) f81 hm (fun hb82 hm => ?_) (fun hb82 hm => ?_)
 · refine CSR ?_
   refine OV (.bool false) rfl (x_assign) ?_
   refine OW.nil ?_
   refine CW.ret ?_
   obtain rfl := Option.some.inj hm
   exact RR1 rfl rfl ⟨rfl, hL.fresh 6 rfl [] (by decide) (by decide) rfl⟩
 refine CW.skip ?_
 refine CW.seq ?_
 refine CSR ?_
 refine OV (.string x19) rfl (x_mv f80) ?_
 refine OV (.bool (sEq x19 (⟨#[]⟩ : ByteArray))) rfl (x_eqlT rfl rfl) ?_
 refine OW.nil ?_
 refine CW.condM (t := sEq x19 (⟨#[]⟩ : ByteArray)) rfl hm (fun hb83 hm => ?_) (fun hb83 hm => ?_)
 · refine CSR ?_
   refine OV (.bool true) rfl (x_assign) ?_
   refine OW.nil ?_
   refine CW.ret ?_
   obtain rfl := Option.some.inj hm
   exact RR1 rfl rfl ⟨rfl, hL.fresh 6 rfl [] (by decide) (by decide) rfl⟩
 refine CW.skip ?_
 refine CSR ?_
 refine OV (.int .i64 x24.1) rfl (x_mv f78) ?_
 refine OV (.string x19) rfl (x_mv f80) ?_
 obtain ⟨x84, hx85, hm⟩ := bndE hm
 refine OW.cons (OP.call rfl (x_call (vs := [(.int .i64 x24.1), (.string x19)]) Tryd_C7 ⟨rfl, rfl, trivial⟩) (M.impl_ReadRace_ok _ (hL.tabR 6 rfl rfl htab) x24.1 x19 hx85) ?_)
 rintro e88 wd89 ⟨v87, S86, rfl, hF90⟩
 refine ⟨_, rfl, ?_⟩
 have hL := hL.pushAll hF90
 simp only [lA, lB, lC, lD] at hL
 refine OV (.tuple #[(.agg #[v87]), (.bool x84.2)]) rfl (x_move) ?_
 refine OV (.agg #[v87]) rfl (x_extract rfl rfl) ?_
 refine OV (.bool x84.2) rfl (x_extract rfl rfl) ?_
 refine OW.cons (S_alloc (cs := #[(.slice none 0 0)]) hL Tryd_T24 rfl rfl ?_)
 intro wd91 b92 hL
 refine OW.cons (S_storeN (l := [v87]) (cs' := #[v87]) hL 0 rfl Tryd_T24 rfl rfl (List.forall_mem_cons.2 ⟨rdL_one (hL.rdO 1 rfl), (fun _ h => by cases h)⟩) rfl (Nat.le_of_ble_eq_true rfl) rfl ?_)
 intro wd93 hL
 refine OV (.bool x84.2) rfl (x_assign) ?_
 refine OW.nil ?_
 refine CW.seqJ (fun (s_j2 : Bool) (F : Fr) (w : World) => F 2 = (.bool s_j2) ∧ Hp w0 [Ent.blk b92 24 #[v87], Ent.own 46 S86 v87 x84.1.Finishes, Ent.blk b61 24 #[v56], Ent.own 46 S55 v56 x53.1.Finishes, Ent.blk b51 24 #[v46], Ent.own 46 S45 v46 x43.1.Finishes, Ent.own 46 S26 v27 x24.2.Finishes, Ent.blk b17 24 #[v27], Ent.snap w0 w0.heap.size] w) (fun s_j2 => M.laws_FnRaceText_j2 s_j2 = some r) ?_ ?_
 · refine CW.regionL ?_
   refine OV (.bool x84.2) rfl (x_move) ?_
   refine OV (.bool x84.2) rfl (x_move) ?_
   refine ifB_elim hm (fun hb103 hm => ?_) (fun hb103 hm => ?_)
   · refine OW.cons (OP.yes' rfl rfl hb103 (OP.val (v := (.agg #[v87])) rfl (x_loadN (cs := [v87]) U24 Tryd_T24 rfl rfl (hL.cellsB 0 rfl (o := 0) (l := [v87]) (by intro j u hj; exact (by simpa using hj)))) ?_))
     refine OW.cons (OP.yes' rfl rfl hb103 (OP.val (v := (.agg #[v27])) rfl (x_loadN (cs := [v27]) U24 Tryd_T24 rfl f79 (hL.cellsB 7 rfl (o := 0) (l := [v27]) (by intro j u hj; exact (by simpa using hj)))) ?_))
     obtain ⟨x104, hx105, hm⟩ := bndE hm
     refine OW.cons (OP.yes' rfl rfl hb103 (OP.call rfl (x_call (vs := [(.agg #[v87]), (.agg #[v27])]) Tryd_C21 ⟨rfl, rfl, trivial⟩) (M.laws_w6Races_ok _ x84.1 (hL.rdO 1 rfl) x24.2 (hL.rdO 6 rfl) hx105) ?_))
     rintro e106 wd107 ⟨rfl, hF108⟩
     refine ⟨_, rfl, ?_⟩
     have hL := hL.pushAll hF108
     simp only [lA, lB, lC, lD] at hL
     refine OV (.bool x104) rfl (x_pickT' rfl hb103 rfl) ?_
     refine OV (.bool x104) rfl (x_assign) ?_
     refine OW.nil ?_
     exact ⟨x104, hm, ⟨rfl, hL⟩⟩
   refine OW.cons (OP.no' rfl rfl hb103 rfl ?_)
   refine OW.cons (OP.no' rfl rfl hb103 rfl ?_)
   refine OW.cons (OP.no' rfl rfl hb103 rfl ?_)
   refine OV (.bool false) rfl (x_pickF' rfl hb103 rfl) ?_
   refine OV (.bool false) rfl (x_assign) ?_
   refine OW.nil ?_
   exact ⟨false, hm, ⟨rfl, hL⟩⟩
 intro s_j2 F100 wd101 hJ hm
 unfold M.laws_FnRaceText_j2 at hm
 obtain ⟨f102, hL⟩ := hJ
 refine CW.ret ?_
 obtain rfl := Option.some.inj hm
 exact RR1 rfl f102 ⟨rfl, hL.fresh 8 rfl [] (by decide) (by decide) rfl⟩

end Go.Proofs.YthkcfjlmblfipaaDoor
