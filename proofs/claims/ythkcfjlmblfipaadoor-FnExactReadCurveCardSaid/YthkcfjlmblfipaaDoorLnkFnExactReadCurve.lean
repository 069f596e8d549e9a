/- Links: each Go function returns what its model computes and leaves what was there. Printed by my generator. -/
import Derived.Test.YthkcfjlmblfipaaDoorMod4
import Derived.Test.YthkcfjlmblfipaaDoorBase11
import Derived.Test.YthkcfjlmblfipaaDoorProg
import Derived.KernelRfl
import Derived.Test.YthkcfjlmblfipaaDoorLayFtz
namespace Go.Proofs.YthkcfjlmblfipaaDoor
set_option maxRecDepth 10000
open Go Go.RowKit Go.ChangeShapes Go.WideShapes
set_option linter.unusedVariables false
set_option linter.unusedSimpArgs false

theorem Tryd_mixed : Tryd.prog.follows .mixedOrders = true := by kernel_rfl
theorem Tryd_T2 : TyI Tryd.prog 2 1 8 (.int .i64 0) := by unfold TyI; kernel_rfl
theorem Tryd_T3 : TyI Tryd.prog 3 1 8 (.int .i64 0) := by unfold TyI; kernel_rfl
theorem Tryd_T5 : TyI Tryd.prog 5 1 1 (.int .u8 0) := by unfold TyI; kernel_rfl
theorem Tryd_T9 : TyI Tryd.prog 9 1 16 (.string ByteArray.empty) := by unfold TyI; kernel_rfl
theorem Tryd_T22 : TyI Tryd.prog 22 1 24 (.slice none 0 0) := by unfold TyI; kernel_rfl
theorem Tryd_T24 : TyI Tryd.prog 24 1 24 (.agg #[.slice none 0 0]) := by unfold TyI; kernel_rfl
theorem Tryd_T36 : TyI Tryd.prog 36 1 24 (.slice none 0 0) := by unfold TyI; kernel_rfl
theorem Tryd_T46 : TyI Tryd.prog 46 3 24 (.agg #[.int .i64 0, .int .i64 0, .int .i64 0]) := by unfold TyI; kernel_rfl
theorem Tryd_T58 : TyI Tryd.prog 58 2 16 (.agg #[.int .i64 0, .int .i64 0]) := by unfold TyI; kernel_rfl
theorem Tryd_T78 : TyI Tryd.prog 78 10 160 (.agg #[.string ByteArray.empty, .string ByteArray.empty, .string ByteArray.empty, .string ByteArray.empty, .string ByteArray.empty, .string ByteArray.empty, .string ByteArray.empty, .string ByteArray.empty, .string ByteArray.empty, .string ByteArray.empty]) := by unfold TyI; kernel_rfl
theorem Tryd_B24 : BuildI Tryd.prog 24 [(0, 1)] #[.slice none 0 0] := by unfold BuildI; kernel_rfl
theorem Tryd_B46 : BuildI Tryd.prog 46 [(0, 1), (1, 1), (2, 1)] #[.int .i64 0, .int .i64 0, .int .i64 0] := by unfold BuildI; kernel_rfl
theorem Tryd_B58 : BuildI Tryd.prog 58 [(0, 1), (1, 1)] #[.int .i64 0, .int .i64 0] := by unfold BuildI; kernel_rfl
theorem Tryd_B88 : BuildI Tryd.prog 88 [(0, 1), (1, 1), (2, 1)] #[.slice none 0 0, .int .i64 0, .int .i64 0] := by unfold BuildI; kernel_rfl
theorem Tryd_C6 : CallOK Tryd.prog 6 := ⟨_, _, Tryd.func6, rfl, by kernel_rfl⟩
theorem Tryd_C7 : CallOK Tryd.prog 7 := ⟨_, _, Tryd.func7, rfl, by kernel_rfl⟩
theorem Tryd_C8 : CallOK Tryd.prog 8 := ⟨_, _, Tryd.func8, rfl, by kernel_rfl⟩
theorem Tryd_C9 : CallOK Tryd.prog 9 := ⟨_, _, Tryd.func9, rfl, by kernel_rfl⟩
theorem Tryd_C10 : CallOK Tryd.prog 10 := ⟨_, _, Tryd.func10, rfl, by kernel_rfl⟩
theorem Tryd_C11 : CallOK Tryd.prog 11 := ⟨_, _, Tryd.func11, rfl, by kernel_rfl⟩
theorem Tryd_C12 : CallOK Tryd.prog 12 := ⟨_, _, Tryd.func12, rfl, by kernel_rfl⟩
theorem Tryd_C13 : CallOK Tryd.prog 13 := ⟨_, _, Tryd.func13, rfl, by kernel_rfl⟩
theorem Tryd_C14 : CallOK Tryd.prog 14 := ⟨_, _, Tryd.func14, rfl, by kernel_rfl⟩
theorem Tryd_C15 : CallOK Tryd.prog 15 := ⟨_, _, Tryd.func15, rfl, by kernel_rfl⟩
theorem Tryd_C16 : CallOK Tryd.prog 16 := ⟨_, _, Tryd.func16, rfl, by kernel_rfl⟩
theorem Tryd_C17 : CallOK Tryd.prog 17 := ⟨_, _, Tryd.func17, rfl, by kernel_rfl⟩
theorem Tryd_C18 : CallOK Tryd.prog 18 := ⟨_, _, Tryd.func18, rfl, by kernel_rfl⟩
theorem Tryd_C19 : CallOK Tryd.prog 19 := ⟨_, _, Tryd.func19, rfl, by kernel_rfl⟩
theorem Tryd_C22 : CallOK Tryd.prog 22 := ⟨_, _, Tryd.func22, rfl, by kernel_rfl⟩
theorem Tryd_C23 : CallOK Tryd.prog 23 := ⟨_, _, Tryd.func23, rfl, by kernel_rfl⟩
theorem Tryd_C24 : CallOK Tryd.prog 24 := ⟨_, _, Tryd.func24, rfl, by kernel_rfl⟩
theorem Tryd_C25 : CallOK Tryd.prog 25 := ⟨_, _, Tryd.func25, rfl, by kernel_rfl⟩
theorem Tryd_C26 : CallOK Tryd.prog 26 := ⟨_, _, Tryd.func26, rfl, by kernel_rfl⟩
theorem Tryd_C27 : CallOK Tryd.prog 27 := ⟨_, _, Tryd.func27, rfl, by kernel_rfl⟩
theorem Tryd_C28 : CallOK Tryd.prog 28 := ⟨_, _, Tryd.func28, rfl, by kernel_rfl⟩
theorem Tryd_C29 : CallOK Tryd.prog 29 := ⟨_, _, Tryd.func29, rfl, by kernel_rfl⟩
theorem Tryd_C30 : CallOK Tryd.prog 30 := ⟨_, _, Tryd.func30, rfl, by kernel_rfl⟩
theorem Tryd_C31 : CallOK Tryd.prog 31 := ⟨_, _, Tryd.func31, rfl, by kernel_rfl⟩
theorem Tryd_C32 : CallOK Tryd.prog 32 := ⟨_, _, Tryd.func32, rfl, by kernel_rfl⟩
theorem Tryd_C33 : CallOK Tryd.prog 33 := ⟨_, _, Tryd.func33, rfl, by kernel_rfl⟩
theorem Tryd_C34 : CallOK Tryd.prog 34 := ⟨_, _, Tryd.func34, rfl, by kernel_rfl⟩
theorem Tryd_C35 : CallOK Tryd.prog 35 := ⟨_, _, Tryd.func35, rfl, by kernel_rfl⟩
theorem Tryd_C36 : CallOK Tryd.prog 36 := ⟨_, _, Tryd.func36, rfl, by kernel_rfl⟩
theorem Tryd_C37 : CallOK Tryd.prog 37 := ⟨_, _, Tryd.func37, rfl, by kernel_rfl⟩
theorem Tryd_C38 : CallOK Tryd.prog 38 := ⟨_, _, Tryd.func38, rfl, by kernel_rfl⟩
theorem Tryd_C39 : CallOK Tryd.prog 39 := ⟨_, _, Tryd.func39, rfl, by kernel_rfl⟩
theorem Tryd_C40 : CallOK Tryd.prog 40 := ⟨_, _, Tryd.func40, rfl, by kernel_rfl⟩
theorem Tryd_C41 : CallOK Tryd.prog 41 := ⟨_, _, Tryd.func41, rfl, by kernel_rfl⟩
theorem Tryd_C42 : CallOK Tryd.prog 42 := ⟨_, _, Tryd.func42, rfl, by kernel_rfl⟩
theorem Tryd_C43 : CallOK Tryd.prog 43 := ⟨_, _, Tryd.func43, rfl, by kernel_rfl⟩
theorem Tryd_C44 : CallOK Tryd.prog 44 := ⟨_, _, Tryd.func44, rfl, by kernel_rfl⟩
theorem Tryd_C45 : CallOK Tryd.prog 45 := ⟨_, _, Tryd.func45, rfl, by kernel_rfl⟩
theorem Tryd_C46 : CallOK Tryd.prog 46 := ⟨_, _, Tryd.func46, rfl, by kernel_rfl⟩
theorem Tryd_C47 : CallOK Tryd.prog 47 := ⟨_, _, Tryd.func47, rfl, by kernel_rfl⟩
theorem Tryd_C48 : CallOK Tryd.prog 48 := ⟨_, _, Tryd.func48, rfl, by kernel_rfl⟩
theorem Tryd_C50 : CallOK Tryd.prog 50 := ⟨_, _, Tryd.func50, rfl, by kernel_rfl⟩
theorem Tryd_C51 : CallOK Tryd.prog 51 := ⟨_, _, Tryd.func51, rfl, by kernel_rfl⟩
theorem Tryd_C52 : CallOK Tryd.prog 52 := ⟨_, _, Tryd.func52, rfl, by kernel_rfl⟩
theorem Tryd_C53 : CallOK Tryd.prog 53 := ⟨_, _, Tryd.func53, rfl, by kernel_rfl⟩
theorem Tryd_C54 : CallOK Tryd.prog 54 := ⟨_, _, Tryd.func54, rfl, by kernel_rfl⟩
theorem Tryd_C55 : CallOK Tryd.prog 55 := ⟨_, _, Tryd.func55, rfl, by kernel_rfl⟩
theorem Tryd_C56 : CallOK Tryd.prog 56 := ⟨_, _, Tryd.func56, rfl, by kernel_rfl⟩
theorem Tryd_C57 : CallOK Tryd.prog 57 := ⟨_, _, Tryd.func57, rfl, by kernel_rfl⟩
theorem Tryd_C58 : CallOK Tryd.prog 58 := ⟨_, _, Tryd.func58, rfl, by kernel_rfl⟩
theorem Tryd_C59 : CallOK Tryd.prog 59 := ⟨_, _, Tryd.func59, rfl, by kernel_rfl⟩
theorem Tryd_C63 : CallOK Tryd.prog 63 := ⟨_, _, Tryd.func63, rfl, by kernel_rfl⟩
theorem Tryd_C68 : CallOK Tryd.prog 68 := ⟨_, _, Tryd.func68, rfl, by kernel_rfl⟩
theorem Tryd_C69 : CallOK Tryd.prog 69 := ⟨_, _, Tryd.func69, rfl, by kernel_rfl⟩
theorem Tryd_C73 : CallOK Tryd.prog 73 := ⟨_, _, Tryd.func73, rfl, by kernel_rfl⟩
theorem Tryd_C86 : CallOK Tryd.prog 86 := ⟨_, _, Tryd.func86, rfl, by kernel_rfl⟩
abbrev U2 := @Tryd.underlying2
abbrev U4 := @Tryd.underlying4
abbrev U5 := @Tryd.underlying5
abbrev U9 := @Tryd.underlying9
abbrev U30 := @Tryd.underlying30
abbrev U36 := @Tryd.underlying36
abbrev U43 := @Tryd.underlying43
abbrev U58 := @Tryd.underlying58

theorem M.spec_l01In_ok (w0 : World) (a0 : Int) (a1 : Int) (a2 : Int) {r : Bool} (hm : M.spec_l01In a0 a1 a2 = some r) :
    Calls Tryd.prog 54 #[(.int .i64 a0), (.int .i64 a1), (.int .i64 a2)] w0 fun e w' => e = .returned (.bool r) ∧ Fresh w0 w' [] := by
 unfold M.spec_l01In at hm
 refine calls_CW (args := [(.int .i64 a0), (.int .i64 a1), (.int .i64 a2)]) Tryd.func54 rfl rfl rfl ?_
 have hL := Hp.start w0
 refine CSR ?_
 refine OV (.bool false) rfl (x_assign) ?_
 refine OW.nil ?_
 refine CW.seqJ (fun (s_j1 : Bool) (F : Fr) (w : World) => F 6 = (.bool s_j1) ∧ Hp w0 [Ent.snap w0 w0.heap.size] w) (fun s_j1 => M.spec_l01In_j1 s_j1 = some r) ?_ ?_
 · refine CW.regionL ?_
   refine OV (.int .i64 a0) rfl (x_move) ?_
   refine OV (.int .i64 a1) rfl (x_move) ?_
   refine OV (.bool (decide (a1 ≤ a0))) rfl (x_geq rfl rfl) ?_
   refine OV (.bool (decide (a1 ≤ a0))) rfl (x_move) ?_
   refine ifB_elim hm (fun hb5 hm => ?_) (fun hb5 hm => ?_)
   · refine OW.cons (OP.yes' rfl rfl hb5 (OP.val (v := (.int .i64 a0)) rfl (x_move) ?_))
     refine OW.cons (OP.yes' rfl rfl hb5 (OP.val (v := (.int .i64 a2)) rfl (x_move) ?_))
     refine OW.cons (OP.yes' rfl rfl hb5 (OP.val (v := (.bool (decide (a0 ≤ a2)))) rfl (x_leq rfl rfl) ?_))
     refine OV (.bool (decide (a0 ≤ a2))) rfl (x_pickT' rfl hb5 rfl) ?_
     refine OV (.bool (decide (a0 ≤ a2))) rfl (x_assign) ?_
     refine OW.nil ?_
     exact ⟨decide (a0 ≤ a2), hm, ⟨rfl, hL⟩⟩
   refine OW.cons (OP.no' rfl rfl hb5 rfl ?_)
   refine OW.cons (OP.no' rfl rfl hb5 rfl ?_)
   refine OW.cons (OP.no' rfl rfl hb5 rfl ?_)
   refine OV (.bool false) rfl (x_pickF' rfl hb5 rfl) ?_
   refine OV (.bool false) rfl (x_assign) ?_
   refine OW.nil ?_
   exact ⟨false, hm, ⟨rfl, hL⟩⟩
 intro s_j1 F2 wd3 hJ hm
 unfold M.spec_l01In_j1 at hm
 obtain ⟨f4, hL⟩ := hJ
 refine CW.ret ?_
 obtain rfl := Option.some.inj hm
 exact RR1 rfl f4 ⟨rfl, hL.fresh 0 rfl [] (by decide) (by decide) rfl⟩

theorem M.strings_Split_ok (w0 : World) (htab : TabsR Tryd.prog (cutLaid_ren.g 1) (parseLaid_ren.g 15) (parseLaid_ren.g 16) w0) (a0 a1 : ByteArray) {r : List ByteArray} (hm : M.strings_Split a0 a1 = some r) :
    Calls Tryd.prog 48 #[(.string a0), (.string a1)] w0 fun e w' => ∃ (rv0 : Value) (rS0 : Nat → Prop), e = .returned rv0 ∧ Fresh w0 w' [Ent.own 9 rS0 rv0 r] := by
 obtain ⟨m, hx⟩ := htab.mx
 exact split_fits hm (fun q1 q2 => Any.strings_Split splitLaid (by kernel_rfl) a0 a1 m w0 q1 hx q2)

theorem M.impl_wordsOf_ok (w0 : World) (htab : TabsR Tryd.prog (cutLaid_ren.g 1) (parseLaid_ren.g 15) (parseLaid_ren.g 16) w0) (a0 : ByteArray) {r : (List ByteArray)} (hm : M.impl_wordsOf a0 = some r) :
    Calls Tryd.prog 25 #[(.string a0)] w0 fun e w' => ∃ (rv0 : Value) (rS0 : Nat → Prop), e = .returned rv0 ∧ Fresh w0 w' [Ent.own 9 rS0 rv0 r] := by
 unfold M.impl_wordsOf at hm
 refine calls_CW (args := [(.string a0)]) Tryd.func25 rfl rfl rfl ?_
 have hL := Hp.start w0
 refine CSR ?_
 refine OV (.slice none 0 0) rfl (x_assign) ?_
 refine ONR ?_
 refine OV (.string a0) rfl (x_move) ?_
 obtain ⟨x1, hx2, hm⟩ := bndE hm
 refine OW.cons (OP.call rfl (x_call (vs := [(.string a0), (.string (⟨#[32]⟩ : ByteArray))]) Tryd_C48 ⟨rfl, rfl, trivial⟩) (M.strings_Split_ok _ (hL.tabR 0 rfl rfl htab) a0 (⟨#[32]⟩ : ByteArray) hx2) ?_)
 rintro e5 wd6 ⟨v4, S3, rfl, hF7⟩
 refine ⟨_, rfl, ?_⟩
 have hL := hL.pushAll hF7
 simp only [lA, lB, lC, lD] at hL
 refine OV v4 rfl (x_assign) ?_
 refine OW.nil ?_
 refine CW.ret ?_
 obtain rfl := Option.some.inj hm
 exact RR1 rfl rfl ⟨v4, S3, rfl, hL.fresh 1 rfl [0] (by decide) (by decide) rfl⟩

theorem M.strings_Cut_ok (w0 : World) (htab : TabsR Tryd.prog (cutLaid_ren.g 1) (parseLaid_ren.g 15) (parseLaid_ren.g 16) w0) (a0 a1 : ByteArray) {r : ByteArray × ByteArray × Bool} (hm : M.strings_Cut a0 a1 = some r) :
    Calls Tryd.prog 26 #[(.string a0), (.string a1)] w0 fun e w' => e = .returned (.tuple #[.string r.1, .string r.2.1, .bool r.2.2]) ∧ Fresh w0 w' [] := by
 obtain ⟨m, hx⟩ := htab.mx
 exact cut_fits hm (fun q1 => Any.strings_Cut { cutLaid with } a0 a1 m w0 q1 hx)

theorem M.impl_within_ok (w0 : World) (a0 : Int) (a1 : Int) (a2 : Int) {r : Bool} (hm : M.impl_within a0 a1 a2 = some r) :
    Calls Tryd.prog 56 #[(.int .i64 a0), (.int .i64 a1), (.int .i64 a2)] w0 fun e w' => e = .returned (.bool r) ∧ Fresh w0 w' [] := by
 unfold M.impl_within at hm
 refine calls_CW (args := [(.int .i64 a0), (.int .i64 a1), (.int .i64 a2)]) Tryd.func56 rfl rfl rfl ?_
 have hL := Hp.start w0
 refine CSR ?_
 refine OV (.bool false) rfl (x_assign) ?_
 refine OW.nil ?_
 refine CW.seqJ (fun (s_j1 : Bool) (F : Fr) (w : World) => F 6 = (.bool s_j1) ∧ Hp w0 [Ent.snap w0 w0.heap.size] w) (fun s_j1 => M.impl_within_j1 s_j1 = some r) ?_ ?_
 · refine CW.regionL ?_
   refine OV (.int .i64 a0) rfl (x_move) ?_
   refine OV (.int .i64 a1) rfl (x_move) ?_
   refine OV (.bool (decide (a1 ≤ a0))) rfl (x_geq rfl rfl) ?_
   refine OV (.bool (decide (a1 ≤ a0))) rfl (x_move) ?_
   refine ifB_elim hm (fun hb5 hm => ?_) (fun hb5 hm => ?_)
   · refine OW.cons (OP.yes' rfl rfl hb5 (OP.val (v := (.int .i64 a0)) rfl (x_move) ?_))
     refine OW.cons (OP.yes' rfl rfl hb5 (OP.val (v := (.int .i64 a2)) rfl (x_move) ?_))
     refine OW.cons (OP.yes' rfl rfl hb5 (OP.val (v := (.bool (decide (a0 ≤ a2)))) rfl (x_leq rfl rfl) ?_))
     refine OV (.bool (decide (a0 ≤ a2))) rfl (x_pickT' rfl hb5 rfl) ?_
     refine OV (.bool (decide (a0 ≤ a2))) rfl (x_assign) ?_
     refine OW.nil ?_
     exact ⟨decide (a0 ≤ a2), hm, ⟨rfl, hL⟩⟩
   refine OW.cons (OP.no' rfl rfl hb5 rfl ?_)
   refine OW.cons (OP.no' rfl rfl hb5 rfl ?_)
   refine OW.cons (OP.no' rfl rfl hb5 rfl ?_)
   refine OV (.bool false) rfl (x_pickF' rfl hb5 rfl) ?_
   refine OV (.bool false) rfl (x_assign) ?_
   refine OW.nil ?_
   exact ⟨false, hm, ⟨rfl, hL⟩⟩
 intro s_j1 F2 wd3 hJ hm
 unfold M.impl_within_j1 at hm
 obtain ⟨f4, hL⟩ := hJ
 refine CW.ret ?_
 obtain rfl := Option.some.inj hm
 exact RR1 rfl f4 ⟨rfl, hL.fresh 0 rfl [] (by decide) (by decide) rfl⟩

theorem M.strconv_ParseInt_ok (w0 : World) (htab : TabsR Tryd.prog (cutLaid_ren.g 1) (parseLaid_ren.g 15) (parseLaid_ren.g 16) w0) (a0 : ByteArray) (a1 a2 : Int) {r : Int × Bool} (hm : M.strconv_ParseInt a0 a1 a2 = some r) :
    Calls Tryd.prog 50 #[(.string a0), (.int .i64 a1), (.int .i64 a2)] w0 fun e w' => ∃ rv0 : Value, e = .returned (.tuple #[.int .i64 r.1, rv0]) ∧ errV rv0 r.2 ∧ Fresh w0 w' [] := by
 obtain ⟨v1, g1, k1⟩ := htab.es
 obtain ⟨v2, g2, k2⟩ := htab.er
 exact parse_fits hm (fun v q1 q2 => Any.strconv_ParseInt_10_at64_ok parseLaid a0 q1 v q2 w0)
   (fun q1 q2 => (Any.strconv_ParseInt_10_at64_syntax parseLaid a0 q1 q2 v1 w0 g1 k1).mono fun e w' ⟨N, he, _, _, hb⟩ => ⟨_, _, he, hb⟩)
   (fun q1 q2 => (Any.strconv_ParseInt_10_at64_range parseLaid a0 q1 q2 v2 w0 g2 k2).mono fun e w' ⟨N, he, _, _, hb⟩ => ⟨_, _, he, hb⟩)

theorem M.strconv_FormatInt_ok (w0 : World) (htab : TabsR Tryd.prog (cutLaid_ren.g 1) (parseLaid_ren.g 15) (parseLaid_ren.g 16) w0) (a0 : Int) (a1 : Int) {r : ByteArray} (hm : M.strconv_FormatInt a0 a1 = some r) :
    Calls Tryd.prog 59 #[(.int .i64 a0), (.int .i64 a1)] w0 fun e w' => e = .returned (.string r) ∧ Fresh w0 w' [] := by
 unfold M.strconv_FormatInt at hm
 obtain ⟨⟨hb, h0, h1⟩, h2⟩ := chkE hm
 subst hb
 obtain rfl := Option.some.inj h2
 exact (Any.strconv_FormatInt_10 fmtLaid a0 h0 h1 w0 htab.tab).mono fun e w' h => ⟨h.1, fresh_grow h.2⟩

theorem M.impl_text_ok (w0 : World) (htab : TabsR Tryd.prog (cutLaid_ren.g 1) (parseLaid_ren.g 15) (parseLaid_ren.g 16) w0) (a0 : Int) {r : ByteArray} (hm : M.impl_text a0 = some r) :
    Calls Tryd.prog 41 #[(.int .i64 a0)] w0 fun e w' => e = .returned (.string r) ∧ Fresh w0 w' [] := by
 unfold M.impl_text at hm
 refine calls_CW (args := [(.int .i64 a0)]) Tryd.func41 rfl rfl rfl ?_
 have hL := Hp.start w0
 refine CSR ?_
 refine OV (.string (⟨#[]⟩ : ByteArray)) rfl (x_assign) ?_
 refine ONR ?_
 refine OV (.int .i64 a0) rfl (x_move) ?_
 obtain ⟨x1, hx2, hm⟩ := bndE hm
 refine OW.cons (OP.call rfl (x_call (vs := [(.int .i64 a0), (.int .i64 10)]) Tryd_C59 ⟨rfl, rfl, trivial⟩) (M.strconv_FormatInt_ok _ (hL.tabR 0 rfl rfl htab) a0 10 hx2) ?_)
 rintro e3 wd4 ⟨rfl, hF5⟩
 refine ⟨_, rfl, ?_⟩
 have hL := hL.pushAll hF5
 simp only [lA, lB, lC, lD] at hL
 refine OV (.string x1) rfl (x_assign) ?_
 refine OW.nil ?_
 refine CW.ret ?_
 obtain rfl := Option.some.inj hm
 exact RR1 rfl rfl ⟨rfl, hL.fresh 0 rfl [] (by decide) (by decide) rfl⟩

theorem M.impl_number_ok (w0 : World) (htab : TabsR Tryd.prog (cutLaid_ren.g 1) (parseLaid_ren.g 15) (parseLaid_ren.g 16) w0) (a0 : ByteArray) {r : Int × Bool} (hm : M.impl_number a0 = some r) :
    Calls Tryd.prog 28 #[(.string a0)] w0 fun e w' => e = .returned (.tuple #[(.int .i64 r.1), (.bool r.2)]) ∧ Fresh w0 w' [] := by
 unfold M.impl_number at hm
 refine calls_CW (args := [(.string a0)]) Tryd.func28 rfl rfl rfl ?_
 have hL := Hp.start w0
 refine CSR ?_
 refine OV (.int .i64 0) rfl (x_assign) ?_
 refine OV (.bool false) rfl (x_assign) ?_
 refine ONR ?_
 refine OV (.string a0) rfl (x_move) ?_
 obtain ⟨x1, hx2, hm⟩ := bndE hm
 refine OW.cons (OP.call rfl (x_call (vs := [(.string a0), (.int .i64 10), (.int .i64 64)]) Tryd_C50 ⟨rfl, rfl, rfl, trivial⟩) (M.strconv_ParseInt_ok _ (hL.tabR 0 rfl rfl htab) a0 10 64 hx2) ?_)
 rintro e5 wd6 ⟨v3, rfl, he4, hF7⟩
 refine ⟨_, rfl, ?_⟩
 have hL := hL.pushAll hF7
 simp only [lA, lB, lC, lD] at hL
 refine OV (.tuple #[(.int .i64 x1.1), v3]) rfl (x_move) ?_
 refine OV (.int .i64 x1.1) rfl (x_extract rfl rfl) ?_
 refine OV v3 rfl (x_extract rfl rfl) ?_
 refine OV (.int .i64 x1.1) rfl (x_assign) ?_
 refine OV v3 rfl (x_assign) ?_
 refine ONS ?_
 refine CW.seqJ (fun (s_j1 : Bool) (F : Fr) (w : World) => F 4 = (.int .i64 x1.1) ∧ F 23 = (.bool s_j1) ∧ Hp w0 [Ent.snap w0 w0.heap.size] w) (fun s_j1 => M.impl_number_j1 x1 s_j1 = some r) ?_ ?_
 · refine CW.regionL ?_
   refine OV v3 rfl (x_move) ?_
   refine OV (.bool x1.2) rfl (x_neqE (by kernel_rfl) rfl he4) ?_
   refine OV (.bool x1.2) rfl (x_move) ?_
   refine ifB_elim hm (fun hb20 hm => ?_) (fun hb20 hm => ?_)
   · refine OW.cons (OP.no' rfl rfl hb20 rfl ?_)
     refine OW.cons (OP.no' rfl rfl hb20 rfl ?_)
     refine OW.cons (OP.no' rfl rfl hb20 rfl ?_)
     refine OV (.bool true) rfl (x_pickT' rfl hb20 rfl) ?_
     refine OV (.bool true) rfl (x_move) ?_
     refine OW.cons (OP.no' rfl rfl rfl rfl ?_)
     refine OW.cons (OP.no' rfl rfl rfl rfl ?_)
     refine OW.cons (OP.no' rfl rfl rfl rfl ?_)
     refine OW.cons (OP.no' rfl rfl rfl rfl ?_)
     refine OV (.bool true) rfl (x_pickT' rfl rfl rfl) ?_
     refine OW.nil ?_
     exact ⟨true, hm, ⟨rfl, rfl, hL⟩⟩
   refine OW.cons (OP.yes' rfl rfl hb20 (OP.val (v := (.string a0)) rfl (x_move) ?_))
   refine OW.cons (OP.yes' rfl rfl hb20 (OP.val (v := (.int .i64 (a0.size : Int))) rfl (x_lens U9 rfl) ?_))
   refine OW.cons (OP.yes' rfl rfl hb20 (OP.val (v := (.bool (decide (19 < (a0.size : Int))))) rfl (x_gtr rfl rfl) ?_))
   refine OV (.bool (decide (19 < (a0.size : Int)))) rfl (x_pickF' rfl hb20 rfl) ?_
   refine OV (.bool (decide (19 < (a0.size : Int)))) rfl (x_move) ?_
   refine ifB_elim hm (fun hb21 hm => ?_) (fun hb21 hm => ?_)
   · refine OW.cons (OP.no' rfl rfl hb21 rfl ?_)
     refine OW.cons (OP.no' rfl rfl hb21 rfl ?_)
     refine OW.cons (OP.no' rfl rfl hb21 rfl ?_)
     refine OW.cons (OP.no' rfl rfl hb21 rfl ?_)
     refine OV (.bool true) rfl (x_pickT' rfl hb21 rfl) ?_
     refine OW.nil ?_
     exact ⟨true, hm, ⟨rfl, rfl, hL⟩⟩
   refine OW.cons (OP.yes' rfl rfl hb21 (OP.val (v := (.int .i64 x1.1)) rfl (x_move) ?_))
   obtain ⟨x22, hx23, hm⟩ := bndE hm
   refine OW.cons (OP.yes' rfl rfl hb21 (OP.call rfl (x_call (vs := [(.int .i64 x1.1)]) Tryd_C41 ⟨rfl, trivial⟩) (M.impl_text_ok _ (hL.tabR 0 rfl rfl htab) x1.1 hx23) ?_))
   rintro e24 wd25 ⟨rfl, hF26⟩
   refine ⟨_, rfl, ?_⟩
   have hL := hL.pushAll hF26
   simp only [lA, lB, lC, lD] at hL
   refine OW.cons (OP.yes' rfl rfl hb21 (OP.val (v := (.string a0)) rfl (x_move) ?_))
   refine OW.cons (OP.yes' rfl rfl hb21 (OP.val (v := (.bool (!(sEq x22 a0)))) rfl (x_neqT rfl rfl) ?_))
   refine OV (.bool (!(sEq x22 a0))) rfl (x_pickF' rfl hb21 rfl) ?_
   refine OW.nil ?_
   exact ⟨!(sEq x22 a0), hm, ⟨rfl, rfl, hL⟩⟩
 intro s_j1 F15 wd16 hJ hm
 unfold M.impl_number_j1 at hm
 obtain ⟨f17, f18, hL⟩ := hJ
 refine CW.condM (t := s_j1) f18 hm (fun hb19 hm => ?_) (fun hb19 hm => ?_)
 · refine CSR ?_
   refine OV (.int .i64 0) rfl (x_assign) ?_
   refine OV (.bool false) rfl (x_assign) ?_
   refine OW.nil ?_
   refine CW.ret ?_
   obtain rfl := Option.some.inj hm
   exact RR2 rfl rfl rfl ⟨rfl, hL.fresh 0 rfl [] (by decide) (by decide) rfl⟩
 refine CW.skip ?_
 refine CSR ?_
 refine OV (.int .i64 x1.1) rfl (x_mv f17) ?_
 refine OV (.int .i64 x1.1) rfl (x_assign) ?_
 refine OV (.bool true) rfl (x_assign) ?_
 refine OW.nil ?_
 refine CW.ret ?_
 obtain rfl := Option.some.inj hm
 exact RR2 rfl rfl rfl ⟨rfl, hL.fresh 0 rfl [] (by decide) (by decide) rfl⟩

theorem M.spec_l01Split_ok (w0 : World) (a0 : ByteArray) (a1 : UInt8) {r : (List ByteArray)} (hm : M.spec_l01Split a0 a1 = some r) :
    Calls Tryd.prog 33 #[(.string a0), (.int .u8 (a1.toNat : Int))] w0 fun e w' => ∃ (rv0 : Value) (rS0 : Nat → Prop), e = .returned rv0 ∧ Fresh w0 w' [Ent.own 9 rS0 rv0 r] := by
 unfold M.spec_l01Split at hm
 refine calls_CW (args := [(.string a0), (.int .u8 (a1.toNat : Int))]) Tryd.func33 rfl rfl rfl ?_
 have hL := Hp.start w0
 refine CSR ?_
 refine OV (.slice none 0 0) rfl (x_assign) ?_
 refine ONR ?_
 refine OW.cons (S_lit ([] : List ByteArray) hL U43 Tryd_T9 rfl (by decide) (by first | (simp [Instr.fill, madeCells, Value.cells, ev, upd, Flat.enc, Flat.sz]; done) | rfl | kernel_rfl) rfl rfl ?_)
 intro wd1 v2 S3 hL
 refine OV v2 rfl (x_assign) ?_
 refine ONR ?_
 refine OV (.int .i64 0) rfl (x_assign) ?_
 refine ONS ?_
 refine CSR ?_
 refine OV (.int .i64 0) rfl (x_assign) ?_
 refine OW.nil ?_
 obtain ⟨o250, ho251, hm⟩ := bndE hm
 refine CW.loopB (fun (s_l1 : (List ByteArray) × Int × Int) (F : Fr) (w : World) => ∃ (v246 : Value) (S247 : Nat → Prop), F 0 = (.string a0) ∧ F 1 = (.int .u8 (a1.toNat : Int)) ∧ F 5 = v246 ∧ F 6 = (.int .i64 s_l1.2.1) ∧ F 7 = (.int .i64 s_l1.2.2) ∧ Hp w0 [Ent.own 9 S247 v246 s_l1.1, Ent.snap w0 w0.heap.size] w) (fun o => outc o (fun x => some x) (fun s => M.spec_l01Split_a1 s) = some r) ho251 hm ⟨v2, S3, rfl, rfl, rfl, rfl, rfl, hL⟩ ?_ ?_
 · intro s_l1 F252 wd253 hJ hm
   have hm := outcE hm
   have hm : M.spec_l01Split_a1 s_l1 = some r := hm
   unfold M.spec_l01Split_a1 at hm
   obtain ⟨v246, S247, f254, f255, f256, f257, f258, hL⟩ := hJ
   refine CSR ?_
   refine OV v246 rfl (x_mv f256) ?_
   refine OV v246 rfl (x_assign) ?_
   refine OW.nil ?_
   refine CW.ret ?_
   obtain rfl := Option.some.inj hm
   exact RR1 rfl rfl ⟨v246, S247, rfl, hL.fresh 1 rfl [0] (by decide) (by decide) rfl⟩
 intro s_l1 F259 wd260 t248 hJ hm hr249
 unfold M.spec_l01Split_l1 at hm
 obtain ⟨v246, S247, f261, f262, f263, f264, f265, hL⟩ := hJ
 refine CW.seq ?_
 refine CSR ?_
 refine OV (.int .i64 s_l1.2.2) rfl (x_mv f265) ?_
 refine OV (.string a0) rfl (x_mv f261) ?_
 refine OV (.int .i64 (a0.size : Int)) rfl (x_lens U9 rfl) ?_
 refine OV (.bool (decide (s_l1.2.2 ≤ (a0.size : Int)))) rfl (x_leq rfl rfl) ?_
 refine OW.nil ?_
 refine CW.condM (t := decide (s_l1.2.2 ≤ (a0.size : Int))) rfl hm (fun hb266 hm => ?_) (fun hb266 hm => ?_)
 · refine CW.skip ?_
   refine CW.seqJ (fun (s_j1 : (List ByteArray) × Int) (F : Fr) (w : World) => ∃ (v322 : Value) (S323 : Nat → Prop), F 0 = (.string a0) ∧ F 1 = (.int .u8 (a1.toNat : Int)) ∧ F 5 = v322 ∧ F 6 = (.int .i64 s_j1.2) ∧ F 7 = (.int .i64 s_l1.2.2) ∧ Hp w0 [Ent.own 9 S323 v322 s_j1.1, Ent.snap w0 w0.heap.size] w) (fun s_j1 => M.spec_l01Split_j1 s_l1 s_j1 = some t248) ?_ ?_
   · refine CW.blockJ (fun (s_j2 : (List ByteArray) × Int) (F : Fr) (w : World) => ∃ (v354 : Value) (S355 : Nat → Prop), F 0 = (.string a0) ∧ F 1 = (.int .u8 (a1.toNat : Int)) ∧ F 5 = v354 ∧ F 6 = (.int .i64 s_j2.2) ∧ F 7 = (.int .i64 s_l1.2.2) ∧ Hp w0 [Ent.own 9 S355 v354 s_j2.1, Ent.snap w0 w0.heap.size] w) (fun s_j2 => M.spec_l01Split_j2 s_l1 s_j2 = some t248) ?_ ?_
     · refine CW.seqJ (fun (s_j3 : Bool) (F : Fr) (w : World) => F 0 = (.string a0) ∧ F 1 = (.int .u8 (a1.toNat : Int)) ∧ F 5 = v246 ∧ F 6 = (.int .i64 s_l1.2.1) ∧ F 7 = (.int .i64 s_l1.2.2) ∧ F 25 = (.bool s_j3) ∧ Hp w0 [Ent.own 9 S247 v246 s_l1.1, Ent.snap w0 w0.heap.size] w) (fun s_j3 => M.spec_l01Split_j3 a0 s_l1 s_j3 = some t248) ?_ ?_
       · refine CW.regionL ?_
         refine OV (.int .i64 s_l1.2.2) rfl (x_mv f265) ?_
         refine OV (.string a0) rfl (x_mv f261) ?_
         refine OV (.int .i64 (a0.size : Int)) rfl (x_lens U9 rfl) ?_
         refine OV (.bool (s_l1.2.2 == (a0.size : Int))) rfl (x_eql rfl rfl) ?_
         refine OV (.bool (s_l1.2.2 == (a0.size : Int))) rfl (x_move) ?_
         refine ifB_elim hm (fun hb383 hm => ?_) (fun hb383 hm => ?_)
         · refine OW.cons (OP.no' rfl rfl hb383 rfl ?_)
           refine OW.cons (OP.no' rfl rfl hb383 rfl ?_)
           refine OW.cons (OP.no' rfl rfl hb383 rfl ?_)
           refine OW.cons (OP.no' rfl rfl hb383 rfl ?_)
           refine OW.cons (OP.no' rfl rfl hb383 rfl ?_)
           refine OV (.bool true) rfl (x_pickT' rfl hb383 rfl) ?_
           refine OW.nil ?_
           exact ⟨true, hm, ⟨f261, f262, f263, f264, f265, rfl, hL⟩⟩
         refine OW.cons (OP.yes' rfl rfl hb383 (OP.val (v := (.string a0)) rfl (x_mv f261) ?_))
         refine OW.cons (OP.yes' rfl rfl hb383 (OP.val (v := (.int .i64 s_l1.2.2)) rfl (x_mv f265) ?_))
         obtain ⟨x384, hx385, hm⟩ := bndE hm
         refine OW.cons (OP.yes' rfl rfl hb383 (OP.val (v := (.int .u8 x384)) rfl (x_strAt U9 rfl rfl hx385) ?_))
         refine OW.cons (OP.yes' rfl rfl hb383 (OP.val (v := (.int .u8 (a1.toNat : Int))) rfl (x_mv f262) ?_))
         refine OW.cons (OP.yes' rfl rfl hb383 (OP.val (v := (.bool (x384 == (a1.toNat : Int)))) rfl (x_eql rfl rfl) ?_))
         refine OV (.bool (x384 == (a1.toNat : Int))) rfl (x_pickF' rfl hb383 rfl) ?_
         refine OW.nil ?_
         exact ⟨x384 == (a1.toNat : Int), hm, ⟨f261, f262, f263, f264, f265, rfl, hL⟩⟩
       intro s_j3 F366 wd367 hJ hm
       unfold M.spec_l01Split_j3 at hm
       obtain ⟨f368, f369, f370, f371, f372, f373, hL⟩ := hJ
       refine CW.condM (t := s_j3) f373 hm (fun hb374 hm => ?_) (fun hb374 hm => ?_)
       · refine CSR ?_
         refine OV v246 rfl (x_mv f370) ?_
         refine OV (.string a0) rfl (x_mv f368) ?_
         refine OV (.int .i64 s_l1.2.1) rfl (x_mv f371) ?_
         refine OV (.int .i64 s_l1.2.2) rfl (x_mv f372) ?_
         obtain ⟨hc375, hm⟩ := chkE hm
         refine OV (.string (subB a0 s_l1.2.1 s_l1.2.2)) rfl (x_sliceT2 U9 rfl rfl rfl hc375) ?_
         refine OW.cons (S_lit ([subB a0 s_l1.2.1 s_l1.2.2] : List ByteArray) hL U43 Tryd_T9 rfl (by decide) (by first | (simp [Instr.fill, madeCells, Value.cells, ev, upd, Flat.enc, Flat.sz]; done) | rfl | kernel_rfl) rfl rfl ?_)
         intro wd376 v377 S378 hL
         obtain ⟨hc382, hm⟩ := chkE hm
         refine OW.cons (S_append (ys := ([subB a0 s_l1.2.1 s_l1.2.2] : List ByteArray)) hL 1 rfl U43 Tryd_T9 rfl rfl rfl (hL.rdO 0 rfl) hc382 (by decide) rfl ?_)
         intro wd379 v380 S381 hL
         refine OV v380 rfl (x_assign) ?_
         refine OW.nil ?_
         refine CW.regionL ?_
         refine OV (.int .i64 s_l1.2.2) rfl (x_mv f372) ?_
         refine OV (.int .i64 (w64 (s_l1.2.2 + 1))) rfl (x_add rfl rfl) ?_
         refine OV (.int .i64 (w64 (s_l1.2.2 + 1))) rfl (x_assign) ?_
         refine OW.nil ?_
         have hL := hL.sel [1, 2] (by decide) rfl
         exact ⟨(s_l1.1 ++ ([subB a0 s_l1.2.1 s_l1.2.2] : List ByteArray), w64 (s_l1.2.2 + 1)), hm, ⟨v380, S381, f368, f369, rfl, rfl, f372, hL⟩⟩
       refine CW.skip ?_
       exact ⟨(s_l1.1, s_l1.2.1), hm, ⟨v246, S247, f368, f369, f370, f371, f372, hL⟩⟩
     intro s_j2 F356 wd357 hJ hm
     unfold M.spec_l01Split_j2 at hm
     obtain ⟨v354, S355, f358, f359, f360, f361, f362, hL⟩ := hJ
     exact ⟨(s_j2.1, s_j2.2), hm, ⟨v354, S355, f358, f359, f360, f361, f362, hL⟩⟩
   intro s_j1 F324 wd325 hJ hm
   unfold M.spec_l01Split_j1 at hm
   obtain ⟨v322, S323, f326, f327, f328, f329, f330, hL⟩ := hJ
   refine CW.regionL ?_
   refine OV (.int .i64 s_l1.2.2) rfl (x_mv f330) ?_
   refine OV (.int .i64 (w64 (s_l1.2.2 + 1))) rfl (x_add rfl rfl) ?_
   refine OV (.int .i64 (w64 (s_l1.2.2 + 1))) rfl (x_assign) ?_
   refine OW.nil ?_
   obtain rfl := Option.some.inj hm
   exact ⟨_, rfl, ⟨v322, S323, f326, f327, f328, f329, rfl, hL⟩⟩
 refine CW.exit ?_
 refine XJ.hit ?_
 obtain rfl := Option.some.inj hm
 exact ⟨_, rfl, ⟨v246, S247, f261, f262, f263, f264, f265, hL⟩⟩

theorem M.spec_l01NumberS_ok (R : Int → Option ByteArray) (ih : ∀ (w : World) (x : Int) {r : ByteArray}, R x = some r → Calls Tryd.prog 55 #[(.int .i64 x)] w fun e w' => e = .returned (.string r) ∧ Fresh w w' []) (w0 : World) (a0 : Int) {r : ByteArray} (hm : M.spec_l01NumberS R a0 = some r) :
    Calls Tryd.prog 55 #[(.int .i64 a0)] w0 fun e w' => e = .returned (.string r) ∧ Fresh w0 w' [] := by
 unfold M.spec_l01NumberS at hm
 refine calls_CW (args := [(.int .i64 a0)]) Tryd.func55 rfl rfl rfl ?_
 have hL := Hp.start w0
 refine CSR ?_
 refine OV (.string (⟨#[]⟩ : ByteArray)) rfl (x_assign) ?_
 refine ONS ?_
 refine CSR ?_
 refine OV (.int .i64 a0) rfl (x_move) ?_
 refine OV (.bool (decide (a0 < 10))) rfl (x_lss rfl rfl) ?_
 refine OW.nil ?_
 refine CW.condM (t := decide (a0 < 10)) rfl hm (fun hb1 hm => ?_) (fun hb1 hm => ?_)
 · refine CSR ?_
   refine OV (.int .i64 a0) rfl (x_move) ?_
   refine OV (.int .i64 (w64 (48 + a0))) rfl (x_add rfl rfl) ?_
   refine OV (.int .u8 (IntKind.u8.wrap (w64 (48 + a0)))) rfl (x_conv U2 U5 rfl) ?_
   refine OW.cons (S_lit ([(UInt8.ofNat (IntKind.u8.wrap (w64 (48 + a0))).toNat)] : List UInt8) hL U36 Tryd_T5 rfl (by decide) (by simp only [Flat.enc, List.flatMap_cons, List.flatMap_nil, u8w]; first | rfl | kernel_rfl) rfl rfl ?_)
   intro wd2 v3 S4 hL
   refine OV (.string (bts ([(UInt8.ofNat (IntKind.u8.wrap (w64 (48 + a0))).toNat)] : List UInt8))) rfl (x_bts U36 U5 U9 rfl (hL.rdO 0 rfl)) ?_
   refine OV (.string (bts ([(UInt8.ofNat (IntKind.u8.wrap (w64 (48 + a0))).toNat)] : List UInt8))) rfl (x_assign) ?_
   refine OW.nil ?_
   refine CW.ret ?_
   obtain rfl := Option.some.inj hm
   exact RR1 rfl rfl ⟨rfl, hL.fresh 1 rfl [] (by decide) (by decide) rfl⟩
 refine CW.skip ?_
 refine CW.seq ?_
 refine CW.drawH (fun w' => Hp w0 [Ent.snap w0 w0.heap.size] w') Tryd_mixed ?_
 have hL := hL.call (Mod.drew _)
 have hS := (hL.sel [0] (by decide) rfl)
 refine DH.take 0 rfl (by kernel_rfl) (by kernel_rfl) (by kernel_rfl) rfl rfl hS (YH.val (v := (.int .i64 a0)) (fun w' hS' => x_move)) ?_
 have hS := (hL.sel [0] (by decide) rfl)
 refine DH.take 1 rfl (by kernel_rfl) (by kernel_rfl) (by kernel_rfl) rfl rfl hS (YH.val (v := (.int .i64 (w64 (a0.tdiv 10)))) (fun w' hS' => x_quo rfl rfl (by decide))) ?_
 have hS := (hL.sel [0] (by decide) rfl)
 refine DH.take 3 rfl (by kernel_rfl) (by kernel_rfl) (by kernel_rfl) rfl rfl hS (YH.val (v := (.int .i64 a0)) (fun w' hS' => x_move)) ?_
 have hS := (hL.sel [0] (by decide) rfl)
 refine DH.take 4 rfl (by kernel_rfl) (by kernel_rfl) (by kernel_rfl) rfl rfl hS (YH.val (v := (.int .i64 (a0.tmod 10))) (fun w' hS' => x_rem rfl rfl (by decide))) ?_
 have hS := (hL.sel [0] (by decide) rfl)
 refine DH.take 5 rfl (by kernel_rfl) (by kernel_rfl) (by kernel_rfl) rfl rfl hS (YH.val (v := (.int .i64 (w64 (48 + (a0.tmod 10))))) (fun w' hS' => x_add rfl rfl)) ?_
 have hS := (hL.sel [0] (by decide) rfl)
 refine DH.take 6 rfl (by kernel_rfl) (by kernel_rfl) (by kernel_rfl) rfl rfl hS (YH.val (v := (.int .u8 (IntKind.u8.wrap (w64 (48 + (a0.tmod 10)))))) (fun w' hS' => x_conv U2 U5 rfl)) ?_
 obtain ⟨x14, hx15, hm⟩ := bndE hm
 obtain ⟨hc22, hm⟩ := chkE hm
 refine DH.node (listed' := (bma 11 2047)) (fuel' := 0) (fun (F : Fr) (w : World) => ∃ (v43 : Value) (S44 : Nat → Prop), F 2 = (.string (x14 ++ (bts ([(UInt8.ofNat (IntKind.u8.wrap (w64 (48 + (a0.tmod 10)))).toNat)] : List UInt8)))) ∧ Hp w0 [Ent.own 5 S44 v43 ([(UInt8.ofNat (IntKind.u8.wrap (w64 (48 + (a0.tmod 10)))).toNat)] : List UInt8), Ent.snap w0 w0.heap.size] w) ?_ (fun hN38 => ?_)
 · intro F51 wd52 hJ
   obtain ⟨v43, S44, f53, hL⟩ := hJ
   refine DH.done (by kernel_rfl) ?_
   refine CW.ret ?_
   obtain rfl := Option.some.inj hm
   exact RR1 rfl f53 ⟨rfl, hL.fresh 1 rfl [] (by decide) (by decide) rfl⟩
 refine DH.node (listed' := (bma 11 255)) (fuel' := 3) (fun (F : Fr) (w : World) => ∃ (v45 : Value) (S46 : Nat → Prop), F 2 = (.string (⟨#[]⟩ : ByteArray)) ∧ F 12 = (.string x14) ∧ F 17 = v45 ∧ Hp w0 [Ent.own 5 S46 v45 ([(UInt8.ofNat (IntKind.u8.wrap (w64 (48 + (a0.tmod 10)))).toNat)] : List UInt8), Ent.snap w0 w0.heap.size] w) ?_ (fun hN39 => ?_)
 · intro F54 wd55 hJ
   obtain ⟨v45, S46, f56, f57, f58, hL⟩ := hJ
   refine DH.only 8 rfl (by kernel_rfl) (OP.val (v := (.string (bts ([(UInt8.ofNat (IntKind.u8.wrap (w64 (48 + (a0.tmod 10)))).toNat)] : List UInt8)))) rfl (x_bts U36 U5 U9 f58 (hL.rdO 0 rfl)) ?_)
   refine ⟨(hL.sel [1] (by decide) rfl), ?_⟩
   have hS := (hL.sel [1] (by decide) rfl)
   refine DH.take 9 rfl (by kernel_rfl) (by kernel_rfl) (by kernel_rfl) rfl rfl hS (YH.val (v := (.string (x14 ++ (bts ([(UInt8.ofNat (IntKind.u8.wrap (w64 (48 + (a0.tmod 10)))).toNat)] : List UInt8))))) (fun w' hS' => x_addT f57 rfl hc22)) ?_
   have hS := (hL.sel [1] (by decide) rfl)
   refine DH.take 10 rfl (by kernel_rfl) (by kernel_rfl) (by kernel_rfl) rfl rfl hS (YH.val (v := (.string (x14 ++ (bts ([(UInt8.ofNat (IntKind.u8.wrap (w64 (48 + (a0.tmod 10)))).toNat)] : List UInt8))))) (fun w' hS' => x_assign)) ?_
   exact DH.relist (listed' := (bma 11 2047)) (by kernel_rfl) (hN38 _ _ ⟨v45, S46, rfl, hL⟩)
 refine DH.node (listed' := (bma 11 507)) (fuel' := 3) (fun (F : Fr) (w : World) => ∃ (v47 : Value) (S48 : Nat → Prop), F 2 = (.string (⟨#[]⟩ : ByteArray)) ∧ F 11 = (.int .i64 (w64 (a0.tdiv 10))) ∧ F 18 = (.string (bts ([(UInt8.ofNat (IntKind.u8.wrap (w64 (48 + (a0.tmod 10)))).toNat)] : List UInt8))) ∧ Hp w0 [Ent.own 5 S48 v47 ([(UInt8.ofNat (IntKind.u8.wrap (w64 (48 + (a0.tmod 10)))).toNat)] : List UInt8), Ent.snap w0 w0.heap.size] w) ?_ (fun hN40 => ?_)
 · intro F59 wd60 hJ
   obtain ⟨v47, S48, f61, f62, f63, hL⟩ := hJ
   refine DH.only 2 rfl (by kernel_rfl) (OP.call rfl (x_call (vs := [(.int .i64 (w64 (a0.tdiv 10)))]) Tryd_C55 ⟨f62, trivial⟩) (ih _ (w64 (a0.tdiv 10)) hx15) ?_)
   rintro e64 wd65 ⟨rfl, hF66⟩
   refine ⟨_, rfl, ?_⟩
   have hL := hL.pushAll hF66
   simp only [lA, lB, lC, lD] at hL
   refine ⟨(hL.sel [1] (by decide) rfl), ?_⟩
   have hS := (hL.sel [1] (by decide) rfl)
   refine DH.take 9 rfl (by kernel_rfl) (by kernel_rfl) (by kernel_rfl) rfl rfl hS (YH.val (v := (.string (x14 ++ (bts ([(UInt8.ofNat (IntKind.u8.wrap (w64 (48 + (a0.tmod 10)))).toNat)] : List UInt8))))) (fun w' hS' => x_addT rfl f63 hc22)) ?_
   have hS := (hL.sel [1] (by decide) rfl)
   refine DH.take 10 rfl (by kernel_rfl) (by kernel_rfl) (by kernel_rfl) rfl rfl hS (YH.val (v := (.string (x14 ++ (bts ([(UInt8.ofNat (IntKind.u8.wrap (w64 (48 + (a0.tmod 10)))).toNat)] : List UInt8))))) (fun w' hS' => x_assign)) ?_
   exact DH.relist (listed' := (bma 11 2047)) (by kernel_rfl) (hN38 _ _ ⟨v47, S48, rfl, hL⟩)
 refine DH.node (listed' := (bma 11 127)) (fuel' := 4) (fun (F : Fr) (w : World) => F 2 = (.string (⟨#[]⟩ : ByteArray)) ∧ F 12 = (.string x14) ∧ F 16 = (.int .u8 (IntKind.u8.wrap (w64 (48 + (a0.tmod 10))))) ∧ Hp w0 [Ent.snap w0 w0.heap.size] w) ?_ (fun hN41 => ?_)
 · intro F67 wd68 hJ
   obtain ⟨f69, f70, f71, hL⟩ := hJ
   refine DH.only 7 rfl (by kernel_rfl) (S_lit ([(UInt8.ofNat (IntKind.u8.wrap (w64 (48 + (a0.tmod 10)))).toNat)] : List UInt8) hL U36 Tryd_T5 rfl (by decide) (by simp only [Flat.enc, List.flatMap_cons, List.flatMap_nil, u8w]; simp [Instr.fill, madeCells, Value.cells, ev, upd, Flat.sz, f71]; try (first | rfl | kernel_rfl)) rfl rfl ?_)
   intro wd72 v73 S74 hL
   refine ⟨(hL.sel [1] (by decide) rfl), ?_⟩
   exact DH.relist (listed' := (bma 11 255)) (by kernel_rfl) (hN39 _ _ ⟨v73, S74, f69, f70, rfl, hL⟩)
 refine DH.node (listed' := (bma 11 251)) (fuel' := 4) (fun (F : Fr) (w : World) => ∃ (v49 : Value) (S50 : Nat → Prop), F 2 = (.string (⟨#[]⟩ : ByteArray)) ∧ F 11 = (.int .i64 (w64 (a0.tdiv 10))) ∧ F 17 = v49 ∧ Hp w0 [Ent.own 5 S50 v49 ([(UInt8.ofNat (IntKind.u8.wrap (w64 (48 + (a0.tmod 10)))).toNat)] : List UInt8), Ent.snap w0 w0.heap.size] w) ?_ (fun hN42 => ?_)
 · intro F75 wd76 hJ
   obtain ⟨v49, S50, f77, f78, f79, hL⟩ := hJ
   refine DH.all (rs := [2, 8]) (by kernel_rfl) (by simp) ?_
   intro i80 hi81
   simp only [List.mem_cons, List.not_mem_nil, or_false] at hi81
   rcases hi81 with rfl | rfl
   · refine ⟨_, rfl, ?_⟩
     refine OP.call rfl (x_call (vs := [(.int .i64 (w64 (a0.tdiv 10)))]) Tryd_C55 ⟨f78, trivial⟩) (ih _ (w64 (a0.tdiv 10)) hx15) ?_
     rintro e82 wd83 ⟨rfl, hF84⟩
     refine ⟨_, rfl, ?_⟩
     have hL := hL.pushAll hF84
     simp only [lA, lB, lC, lD] at hL
     refine ⟨(hL.sel [1] (by decide) rfl), ?_⟩
     exact DH.relist (listed' := (bma 11 255)) (by kernel_rfl) (hN39 _ _ ⟨v49, S50, f77, rfl, f79, hL⟩)
   refine ⟨_, rfl, ?_⟩
   refine OP.val (v := (.string (bts ([(UInt8.ofNat (IntKind.u8.wrap (w64 (48 + (a0.tmod 10)))).toNat)] : List UInt8)))) rfl (x_bts U36 U5 U9 f79 (hL.rdO 0 rfl)) ?_
   refine ⟨(hL.sel [1] (by decide) rfl), ?_⟩
   exact DH.relist (listed' := (bma 11 507)) (by kernel_rfl) (hN40 _ _ ⟨v49, S50, f77, f78, rfl, hL⟩)
 refine DH.all (rs := [2, 7]) (by kernel_rfl) (by simp) ?_
 intro i85 hi86
 simp only [List.mem_cons, List.not_mem_nil, or_false] at hi86
 rcases hi86 with rfl | rfl
 · refine ⟨_, rfl, ?_⟩
   refine OP.call rfl (x_call (vs := [(.int .i64 (w64 (a0.tdiv 10)))]) Tryd_C55 ⟨rfl, trivial⟩) (ih _ (w64 (a0.tdiv 10)) hx15) ?_
   rintro e87 wd88 ⟨rfl, hF89⟩
   refine ⟨_, rfl, ?_⟩
   have hL := hL.pushAll hF89
   simp only [lA, lB, lC, lD] at hL
   refine ⟨(hL.sel [0] (by decide) rfl), ?_⟩
   exact DH.relist (listed' := (bma 11 127)) (by kernel_rfl) (hN41 _ _ ⟨rfl, rfl, rfl, hL⟩)
 refine ⟨_, rfl, ?_⟩
 refine S_lit ([(UInt8.ofNat (IntKind.u8.wrap (w64 (48 + (a0.tmod 10)))).toNat)] : List UInt8) hL U36 Tryd_T5 rfl (by decide) (by simp only [Flat.enc, List.flatMap_cons, List.flatMap_nil, u8w]; first | rfl | kernel_rfl) rfl rfl ?_
 intro wd90 v91 S92 hL
 refine ⟨(hL.sel [1] (by decide) rfl), ?_⟩
 exact DH.relist (listed' := (bma 11 251)) (by kernel_rfl) (hN42 _ _ ⟨v91, S92, rfl, rfl, rfl, hL⟩)
theorem M.spec_l01NumberN_ok : ∀ (n : Nat) (w : World) (x : Int) {r : ByteArray}, M.spec_l01NumberN n x = some r → Calls Tryd.prog 55 #[(.int .i64 x)] w fun e w' => e = .returned (.string r) ∧ Fresh w w' []
  | 0, _, _, _, hm => nomatch hm
  | n + 1, w, x, _, hm => M.spec_l01NumberS_ok (M.spec_l01NumberN n) (M.spec_l01NumberN_ok n) w x hm

theorem M.spec_l01Number_ok (w0 : World) (a0 : Int) {r : ByteArray} (hm : M.spec_l01Number a0 = some r) :
    Calls Tryd.prog 55 #[(.int .i64 a0)] w0 fun e w' => e = .returned (.string r) ∧ Fresh w0 w' [] := M.spec_l01NumberN_ok 64 w0 a0 hm

theorem M.spec_l01Signed_ok (w0 : World) (a0 : Int) {r : ByteArray} (hm : M.spec_l01Signed a0 = some r) :
    Calls Tryd.prog 53 #[(.int .i64 a0)] w0 fun e w' => e = .returned (.string r) ∧ Fresh w0 w' [] := by
 unfold M.spec_l01Signed at hm
 refine calls_CW (args := [(.int .i64 a0)]) Tryd.func53 rfl rfl rfl ?_
 have hL := Hp.start w0
 refine CSR ?_
 refine OV (.string (⟨#[]⟩ : ByteArray)) rfl (x_assign) ?_
 refine ONS ?_
 refine CSR ?_
 refine OV (.int .i64 a0) rfl (x_move) ?_
 refine OV (.bool (decide (a0 < 0))) rfl (x_lss rfl rfl) ?_
 refine OW.nil ?_
 refine CW.condM (t := decide (a0 < 0)) rfl hm (fun hb1 hm => ?_) (fun hb1 hm => ?_)
 · refine CSR ?_
   refine OV (.int .i64 a0) rfl (x_move) ?_
   refine OV (.int .i64 (w64 (0 - a0))) rfl (x_neg rfl) ?_
   obtain ⟨x2, hx3, hm⟩ := bndE hm
   refine OW.cons (OP.call rfl (x_call (vs := [(.int .i64 (w64 (0 - a0)))]) Tryd_C55 ⟨rfl, trivial⟩) (M.spec_l01Number_ok _ (w64 (0 - a0)) hx3) ?_)
   rintro e4 wd5 ⟨rfl, hF6⟩
   refine ⟨_, rfl, ?_⟩
   have hL := hL.pushAll hF6
   simp only [lA, lB, lC, lD] at hL
   obtain ⟨hc7, hm⟩ := chkE hm
   refine OV (.string ((⟨#[45]⟩ : ByteArray) ++ x2)) rfl (x_addT rfl rfl hc7) ?_
   refine OV (.string ((⟨#[45]⟩ : ByteArray) ++ x2)) rfl (x_assign) ?_
   refine OW.nil ?_
   refine CW.ret ?_
   obtain rfl := Option.some.inj hm
   exact RR1 rfl rfl ⟨rfl, hL.fresh 0 rfl [] (by decide) (by decide) rfl⟩
 refine CW.skip ?_
 refine CSR ?_
 refine OV (.int .i64 a0) rfl (x_move) ?_
 obtain ⟨x8, hx9, hm⟩ := bndE hm
 refine OW.cons (OP.call rfl (x_call (vs := [(.int .i64 a0)]) Tryd_C55 ⟨rfl, trivial⟩) (M.spec_l01Number_ok _ a0 hx9) ?_)
 rintro e10 wd11 ⟨rfl, hF12⟩
 refine ⟨_, rfl, ?_⟩
 have hL := hL.pushAll hF12
 simp only [lA, lB, lC, lD] at hL
 refine OV (.string x8) rfl (x_assign) ?_
 refine OW.nil ?_
 refine CW.ret ?_
 obtain rfl := Option.some.inj hm
 exact RR1 rfl rfl ⟨rfl, hL.fresh 0 rfl [] (by decide) (by decide) rfl⟩

theorem M.spec_l01Value_ok (w0 : World) (a0 : ByteArray) {r : Int × Bool} (hm : M.spec_l01Value a0 = some r) :
    Calls Tryd.prog 34 #[(.string a0)] w0 fun e w' => e = .returned (.tuple #[(.int .i64 r.1), (.bool r.2)]) ∧ Fresh w0 w' [] := by
 unfold M.spec_l01Value at hm
 refine calls_CW (args := [(.string a0)]) Tryd.func34 rfl rfl rfl ?_
 have hL := Hp.start w0
 refine CSR ?_
 refine OV (.int .i64 0) rfl (x_assign) ?_
 refine OV (.bool false) rfl (x_assign) ?_
 refine ONR ?_
 refine OV (.string a0) rfl (x_move) ?_
 refine OV (.string a0) rfl (x_assign) ?_
 refine OW.nil ?_
 refine CW.seqJ (fun (s_j1 : ByteArray) (F : Fr) (w : World) => F 0 = (.string a0) ∧ F 4 = (.string s_j1) ∧ Hp w0 [Ent.snap w0 w0.heap.size] w) (fun s_j1 => M.spec_l01Value_j1 a0 s_j1 = some r) ?_ ?_
 · refine CW.seqJ (fun (s_j5 : Bool) (F : Fr) (w : World) => F 0 = (.string a0) ∧ F 4 = (.string a0) ∧ F 15 = (.bool s_j5) ∧ Hp w0 [Ent.snap w0 w0.heap.size] w) (fun s_j5 => M.spec_l01Value_j5 a0 s_j5 = some r) ?_ ?_
   · refine CW.regionL ?_
     refine OV (.string a0) rfl (x_move) ?_
     refine OV (.int .i64 (a0.size : Int)) rfl (x_lens U9 rfl) ?_
     refine OV (.bool (decide (0 < (a0.size : Int)))) rfl (x_gtr rfl rfl) ?_
     refine OV (.bool (decide (0 < (a0.size : Int)))) rfl (x_move) ?_
     refine ifB_elim hm (fun hb127 hm => ?_) (fun hb127 hm => ?_)
     · refine OW.cons (OP.yes' rfl rfl hb127 (OP.val (v := (.string a0)) rfl (x_move) ?_))
       obtain ⟨x128, hx129, hm⟩ := bndE hm
       refine OW.cons (OP.yes' rfl rfl hb127 (OP.val (v := (.int .u8 x128)) rfl (x_strAt U9 rfl rfl hx129) ?_))
       refine OW.cons (OP.yes' rfl rfl hb127 (OP.val (v := (.bool (x128 == 45))) rfl (x_eql rfl rfl) ?_))
       refine OV (.bool (x128 == 45)) rfl (x_pickT' rfl hb127 rfl) ?_
       refine OW.nil ?_
       exact ⟨x128 == 45, hm, ⟨rfl, rfl, rfl, hL⟩⟩
     refine OW.cons (OP.no' rfl rfl hb127 rfl ?_)
     refine OW.cons (OP.no' rfl rfl hb127 rfl ?_)
     refine OW.cons (OP.no' rfl rfl hb127 rfl ?_)
     refine OV (.bool false) rfl (x_pickF' rfl hb127 rfl) ?_
     refine OW.nil ?_
     exact ⟨false, hm, ⟨rfl, rfl, rfl, hL⟩⟩
   intro s_j5 F120 wd121 hJ hm
   unfold M.spec_l01Value_j5 at hm
   obtain ⟨f122, f123, f124, hL⟩ := hJ
   refine CW.condM (t := s_j5) f124 hm (fun hb125 hm => ?_) (fun hb125 hm => ?_)
   · refine CW.regionL ?_
     refine OV (.string a0) rfl (x_mv f122) ?_
     obtain ⟨hc126, hm⟩ := chkE hm
     refine OV (.string (subB a0 1 (a0.size : Int))) rfl (x_sliceT1 U9 rfl rfl hc126) ?_
     refine OV (.string (subB a0 1 (a0.size : Int))) rfl (x_assign) ?_
     refine OW.nil ?_
     exact ⟨subB a0 1 (a0.size : Int), hm, ⟨f122, rfl, hL⟩⟩
   refine CW.skip ?_
   exact ⟨a0, hm, ⟨f122, f123, hL⟩⟩
 intro s_j1 F14 wd15 hJ hm
 unfold M.spec_l01Value_j1 at hm
 obtain ⟨f16, f17, hL⟩ := hJ
 refine CW.seq ?_
 refine CW.seqJ (fun (s_j2 : Bool) (F : Fr) (w : World) => F 0 = (.string a0) ∧ F 4 = (.string s_j1) ∧ F 25 = (.bool s_j2) ∧ Hp w0 [Ent.snap w0 w0.heap.size] w) (fun s_j2 => M.spec_l01Value_j2 a0 s_j1 s_j2 = some r) ?_ ?_
 · refine CW.regionL ?_
   refine OV (.string s_j1) rfl (x_mv f17) ?_
   refine OV (.int .i64 (s_j1.size : Int)) rfl (x_lens U9 rfl) ?_
   refine OV (.bool (decide ((s_j1.size : Int) < 1))) rfl (x_lss rfl rfl) ?_
   refine OV (.bool (decide ((s_j1.size : Int) < 1))) rfl (x_move) ?_
   refine ifB_elim hm (fun hb116 hm => ?_) (fun hb116 hm => ?_)
   · refine OW.cons (OP.no' rfl rfl hb116 rfl ?_)
     refine OW.cons (OP.no' rfl rfl hb116 rfl ?_)
     refine OW.cons (OP.no' rfl rfl hb116 rfl ?_)
     refine OV (.bool true) rfl (x_pickT' rfl hb116 rfl) ?_
     refine OW.nil ?_
     exact ⟨true, hm, ⟨f16, f17, rfl, hL⟩⟩
   refine OW.cons (OP.yes' rfl rfl hb116 (OP.val (v := (.string s_j1)) rfl (x_mv f17) ?_))
   refine OW.cons (OP.yes' rfl rfl hb116 (OP.val (v := (.int .i64 (s_j1.size : Int))) rfl (x_lens U9 rfl) ?_))
   refine OW.cons (OP.yes' rfl rfl hb116 (OP.val (v := (.bool (decide (15 < (s_j1.size : Int))))) rfl (x_gtr rfl rfl) ?_))
   refine OV (.bool (decide (15 < (s_j1.size : Int)))) rfl (x_pickF' rfl hb116 rfl) ?_
   refine OW.nil ?_
   exact ⟨decide (15 < (s_j1.size : Int)), hm, ⟨f16, f17, rfl, hL⟩⟩
 intro s_j2 F19 wd20 hJ hm
 unfold M.spec_l01Value_j2 at hm
 obtain ⟨f21, f22, f23, hL⟩ := hJ
 refine CW.condM (t := s_j2) f23 hm (fun hb24 hm => ?_) (fun hb24 hm => ?_)
 · refine CSR ?_
   refine OV (.int .i64 0) rfl (x_assign) ?_
   refine OV (.bool false) rfl (x_assign) ?_
   refine OW.nil ?_
   refine CW.ret ?_
   obtain rfl := Option.some.inj hm
   exact RR2 rfl rfl rfl ⟨rfl, hL.fresh 0 rfl [] (by decide) (by decide) rfl⟩
 refine CW.skip ?_
 refine CSR ?_
 refine OV (.int .i64 0) rfl (x_assign) ?_
 refine ONS ?_
 refine CSR ?_
 refine OV (.int .i64 0) rfl (x_assign) ?_
 refine OW.nil ?_
 obtain ⟨o69, ho70, hm⟩ := bndE hm
 refine CW.loopB (fun (s_l1 : Int × Int) (F : Fr) (w : World) => F 0 = (.string a0) ∧ F 4 = (.string s_j1) ∧ F 5 = (.int .i64 s_l1.1) ∧ F 6 = (.int .i64 s_l1.2) ∧ Hp w0 [Ent.snap w0 w0.heap.size] w) (fun o => outc o (fun x => some x) (fun s => M.spec_l01Value_a1 a0 s_j1 s) = some r) ho70 hm ⟨f21, f22, rfl, rfl, hL⟩ ?_ ?_
 · intro s_l1 F71 wd72 hJ hm
   have hm := outcE hm
   have hm : M.spec_l01Value_a1 a0 s_j1 s_l1 = some r := hm
   unfold M.spec_l01Value_a1 at hm
   obtain ⟨f73, f74, f75, f76, hL⟩ := hJ
   refine CW.seqJ (fun (s_j3 : Int) (F : Fr) (w : World) => F 0 = (.string a0) ∧ F 5 = (.int .i64 s_j3) ∧ Hp w0 [Ent.snap w0 w0.heap.size] w) (fun s_j3 => M.spec_l01Value_j3 a0 s_j3 = some r) ?_ ?_
   · refine CSR ?_
     refine OV (.string s_j1) rfl (x_mv f74) ?_
     refine OV (.int .i64 (s_j1.size : Int)) rfl (x_lens U9 rfl) ?_
     refine OV (.string a0) rfl (x_mv f73) ?_
     refine OV (.int .i64 (a0.size : Int)) rfl (x_lens U9 rfl) ?_
     refine OV (.bool (decide ((s_j1.size : Int) < (a0.size : Int)))) rfl (x_lss rfl rfl) ?_
     refine OW.nil ?_
     refine CW.condM (t := decide ((s_j1.size : Int) < (a0.size : Int))) rfl hm (fun hb88 hm => ?_) (fun hb88 hm => ?_)
     · refine CW.regionL ?_
       refine OV (.int .i64 s_l1.1) rfl (x_mv f75) ?_
       refine OV (.int .i64 (w64 (0 - s_l1.1))) rfl (x_neg rfl) ?_
       refine OV (.int .i64 (w64 (0 - s_l1.1))) rfl (x_assign) ?_
       refine OW.nil ?_
       exact ⟨w64 (0 - s_l1.1), hm, ⟨f73, rfl, hL⟩⟩
     refine CW.skip ?_
     exact ⟨s_l1.1, hm, ⟨f73, f75, hL⟩⟩
   intro s_j3 F78 wd79 hJ hm
   unfold M.spec_l01Value_j3 at hm
   obtain ⟨f80, f81, hL⟩ := hJ
   refine CW.seq ?_
   refine CSR ?_
   refine OV (.int .i64 s_j3) rfl (x_mv f81) ?_
   obtain ⟨x82, hx83, hm⟩ := bndE hm
   refine OW.cons (OP.call rfl (x_call (vs := [(.int .i64 s_j3)]) Tryd_C53 ⟨rfl, trivial⟩) (M.spec_l01Signed_ok _ s_j3 hx83) ?_)
   rintro e84 wd85 ⟨rfl, hF86⟩
   refine ⟨_, rfl, ?_⟩
   have hL := hL.pushAll hF86
   simp only [lA, lB, lC, lD] at hL
   refine OV (.string a0) rfl (x_mv f80) ?_
   refine OV (.bool (!(sEq x82 a0))) rfl (x_neqT rfl rfl) ?_
   refine OW.nil ?_
   refine CW.condM (t := !(sEq x82 a0)) rfl hm (fun hb87 hm => ?_) (fun hb87 hm => ?_)
   · refine CSR ?_
     refine OV (.int .i64 0) rfl (x_assign) ?_
     refine OV (.bool false) rfl (x_assign) ?_
     refine OW.nil ?_
     refine CW.ret ?_
     obtain rfl := Option.some.inj hm
     exact RR2 rfl rfl rfl ⟨rfl, hL.fresh 0 rfl [] (by decide) (by decide) rfl⟩
   refine CW.skip ?_
   refine CSR ?_
   refine OV (.int .i64 s_j3) rfl (x_mv f81) ?_
   refine OV (.int .i64 s_j3) rfl (x_assign) ?_
   refine OV (.bool true) rfl (x_assign) ?_
   refine OW.nil ?_
   refine CW.ret ?_
   obtain rfl := Option.some.inj hm
   exact RR2 rfl rfl rfl ⟨rfl, hL.fresh 0 rfl [] (by decide) (by decide) rfl⟩
 intro s_l1 F89 wd90 t67 hJ hm hr68
 unfold M.spec_l01Value_l1 at hm
 obtain ⟨f91, f92, f93, f94, hL⟩ := hJ
 refine CW.seq ?_
 refine CSR ?_
 refine OV (.int .i64 s_l1.2) rfl (x_mv f94) ?_
 refine OV (.string s_j1) rfl (x_mv f92) ?_
 refine OV (.int .i64 (s_j1.size : Int)) rfl (x_lens U9 rfl) ?_
 refine OV (.bool (decide (s_l1.2 < (s_j1.size : Int)))) rfl (x_lss rfl rfl) ?_
 refine OW.nil ?_
 refine CW.condM (t := decide (s_l1.2 < (s_j1.size : Int))) rfl hm (fun hb95 hm => ?_) (fun hb95 hm => ?_)
 · refine CW.skip ?_
   refine CW.seq ?_
   refine CW.block ?_
   refine CW.seq ?_
   refine CW.seqJ (fun (s_j4 : Bool) (F : Fr) (w : World) => F 0 = (.string a0) ∧ F 4 = (.string s_j1) ∧ F 5 = (.int .i64 s_l1.1) ∧ F 6 = (.int .i64 s_l1.2) ∧ F 41 = (.bool s_j4) ∧ Hp w0 [Ent.snap w0 w0.heap.size] w) (fun s_j4 => M.spec_l01Value_j4 s_j1 s_l1 s_j4 = some t67) ?_ ?_
   · refine CW.regionL ?_
     refine OV (.string s_j1) rfl (x_mv f92) ?_
     refine OV (.int .i64 s_l1.2) rfl (x_mv f94) ?_
     obtain ⟨x111, hx112, hm⟩ := bndE hm
     refine OV (.int .u8 x111) rfl (x_strAt U9 rfl rfl hx112) ?_
     refine OV (.bool (decide (x111 < 48))) rfl (x_lss rfl rfl) ?_
     refine OV (.bool (decide (x111 < 48))) rfl (x_move) ?_
     refine ifB_elim hm (fun hb113 hm => ?_) (fun hb113 hm => ?_)
     · refine OW.cons (OP.no' rfl rfl hb113 rfl ?_)
       refine OW.cons (OP.no' rfl rfl hb113 rfl ?_)
       refine OW.cons (OP.no' rfl rfl hb113 rfl ?_)
       refine OW.cons (OP.no' rfl rfl hb113 rfl ?_)
       refine OV (.bool true) rfl (x_pickT' rfl hb113 rfl) ?_
       refine OW.nil ?_
       exact ⟨true, hm, ⟨f91, f92, f93, f94, rfl, hL⟩⟩
     refine OW.cons (OP.yes' rfl rfl hb113 (OP.val (v := (.string s_j1)) rfl (x_mv f92) ?_))
     refine OW.cons (OP.yes' rfl rfl hb113 (OP.val (v := (.int .i64 s_l1.2)) rfl (x_mv f94) ?_))
     obtain ⟨x114, hx115, hm⟩ := bndE hm
     refine OW.cons (OP.yes' rfl rfl hb113 (OP.val (v := (.int .u8 x114)) rfl (x_strAt U9 rfl rfl hx115) ?_))
     refine OW.cons (OP.yes' rfl rfl hb113 (OP.val (v := (.bool (decide (57 < x114)))) rfl (x_gtr rfl rfl) ?_))
     refine OV (.bool (decide (57 < x114))) rfl (x_pickF' rfl hb113 rfl) ?_
     refine OW.nil ?_
     exact ⟨decide (57 < x114), hm, ⟨f91, f92, f93, f94, rfl, hL⟩⟩
   intro s_j4 F101 wd102 hJ hm
   unfold M.spec_l01Value_j4 at hm
   obtain ⟨f103, f104, f105, f106, f107, hL⟩ := hJ
   refine CW.condM (t := s_j4) f107 hm (fun hb108 hm => ?_) (fun hb108 hm => ?_)
   · refine CSR ?_
     refine OV (.int .i64 0) rfl (x_assign) ?_
     refine OV (.bool false) rfl (x_assign) ?_
     refine OW.nil ?_
     refine CW.ret ?_
     obtain rfl := Option.some.inj hm
     have hm := hr68 _ rfl
     obtain rfl := Option.some.inj hm
     exact RR2 rfl rfl rfl ⟨rfl, hL.fresh 0 rfl [] (by decide) (by decide) rfl⟩
   refine CW.skip ?_
   refine CW.regionL ?_
   refine OV (.int .i64 s_l1.1) rfl (x_mv f105) ?_
   refine OV (.int .i64 (w64 (10 * s_l1.1))) rfl (x_mul rfl rfl) ?_
   refine OV (.string s_j1) rfl (x_mv f104) ?_
   refine OV (.int .i64 s_l1.2) rfl (x_mv f106) ?_
   obtain ⟨x109, hx110, hm⟩ := bndE hm
   refine OV (.int .u8 x109) rfl (x_strAt U9 rfl rfl hx110) ?_
   refine OV (.int .u8 (IntKind.u8.wrap (x109 - 48))) rfl (x_sub rfl rfl) ?_
   refine OV (.int .i64 (IntKind.i64.wrap (IntKind.u8.wrap (x109 - 48)))) rfl (x_conv U5 U2 rfl) ?_
   refine OV (.int .i64 (w64 ((w64 (10 * s_l1.1)) + (IntKind.i64.wrap (IntKind.u8.wrap (x109 - 48)))))) rfl (x_add rfl rfl) ?_
   refine OV (.int .i64 (w64 ((w64 (10 * s_l1.1)) + (IntKind.i64.wrap (IntKind.u8.wrap (x109 - 48)))))) rfl (x_assign) ?_
   refine OW.nil ?_
   refine CW.regionL ?_
   refine OV (.int .i64 s_l1.2) rfl (x_mv f106) ?_
   refine OV (.int .i64 (w64 (s_l1.2 + 1))) rfl (x_add rfl rfl) ?_
   refine OV (.int .i64 (w64 (s_l1.2 + 1))) rfl (x_assign) ?_
   refine OW.nil ?_
   obtain rfl := Option.some.inj hm
   exact ⟨_, rfl, ⟨f103, f104, rfl, rfl, hL⟩⟩
 refine CW.exit ?_
 refine XJ.hit ?_
 obtain rfl := Option.some.inj hm
 exact ⟨_, rfl, ⟨f91, f92, f93, f94, hL⟩⟩

theorem M.spec_IsCurve_ok (w0 : World) (a0 : List CurvePoint) {v1 : Value} (h2 : rdL (· < w0.heap.size) w0 v1 a0) {r : Bool} (hm : M.spec_IsCurve a0 = some r) :
    Calls Tryd.prog 35 #[v1] w0 fun e w' => e = .returned (.bool r) ∧ Fresh w0 w' [] := by
 unfold M.spec_IsCurve at hm
 refine calls_CW (args := [v1]) Tryd.func35 rfl rfl rfl ?_
 have hL := Hp.start w0
 refine CSR ?_
 refine OV (.bool false) rfl (x_assign) ?_
 refine ONS ?_
 refine CW.seqJ (fun (s_j1 : Bool) (F : Fr) (w : World) => F 0 = v1 ∧ F 11 = (.bool s_j1) ∧ Hp w0 [Ent.snap w0 w0.heap.size] w) (fun s_j1 => M.spec_IsCurve_j1 a0 s_j1 = some r) ?_ ?_
 · refine CW.regionL ?_
   refine OV v1 rfl (x_move) ?_
   refine OV (.int .i64 (a0.length : Int)) rfl (x_lenR U30 rfl (hL.rdS 0 rfl h2)) ?_
   refine OV (.bool (decide ((a0.length : Int) < 2))) rfl (x_lss rfl rfl) ?_
   refine OV (.bool (decide ((a0.length : Int) < 2))) rfl (x_move) ?_
   refine ifB_elim hm (fun hb408 hm => ?_) (fun hb408 hm => ?_)
   · refine OW.cons (OP.no' rfl rfl hb408 rfl ?_)
     refine OW.cons (OP.no' rfl rfl hb408 rfl ?_)
     refine OW.cons (OP.no' rfl rfl hb408 rfl ?_)
     refine OV (.bool true) rfl (x_pickT' rfl hb408 rfl) ?_
     refine OW.nil ?_
     exact ⟨true, hm, ⟨rfl, rfl, hL⟩⟩
   refine OW.cons (OP.yes' rfl rfl hb408 (OP.val (v := v1) rfl (x_move) ?_))
   refine OW.cons (OP.yes' rfl rfl hb408 (OP.val (v := (.int .i64 (a0.length : Int))) rfl (x_lenR U30 rfl (hL.rdS 0 rfl h2)) ?_))
   refine OW.cons (OP.yes' rfl rfl hb408 (OP.val (v := (.bool (decide (12 < (a0.length : Int))))) rfl (x_gtr rfl rfl) ?_))
   refine OV (.bool (decide (12 < (a0.length : Int)))) rfl (x_pickF' rfl hb408 rfl) ?_
   refine OW.nil ?_
   exact ⟨decide (12 < (a0.length : Int)), hm, ⟨rfl, rfl, hL⟩⟩
 intro s_j1 F4 wd5 hJ hm
 unfold M.spec_IsCurve_j1 at hm
 obtain ⟨f6, f7, hL⟩ := hJ
 refine CW.condM (t := s_j1) f7 hm (fun hb8 hm => ?_) (fun hb8 hm => ?_)
 · refine CSR ?_
   refine OV (.bool false) rfl (x_assign) ?_
   refine OW.nil ?_
   refine CW.ret ?_
   obtain rfl := Option.some.inj hm
   exact RR1 rfl rfl ⟨rfl, hL.fresh 0 rfl [] (by decide) (by decide) rfl⟩
 refine CW.skip ?_
 refine CW.seq ?_
 refine CSR ?_
 refine OV (.int .i64 0) rfl (x_assign) ?_
 refine OW.nil ?_
 obtain ⟨o269, ho270, hm⟩ := bndE hm
 refine CW.loopB (fun (s_l1 : Int) (F : Fr) (w : World) => F 0 = v1 ∧ F 3 = (.int .i64 s_l1) ∧ Hp w0 [Ent.snap w0 w0.heap.size] w) (fun o => outc o (fun x => some x) (fun s => M.spec_IsCurve_a1 s) = some r) ho270 hm ⟨f6, rfl, hL⟩ ?_ ?_
 · intro s_l1 F271 wd272 hJ hm
   have hm := outcE hm
   have hm : M.spec_IsCurve_a1 s_l1 = some r := hm
   unfold M.spec_IsCurve_a1 at hm
   obtain ⟨f273, f274, hL⟩ := hJ
   refine CSR ?_
   refine OV (.bool true) rfl (x_assign) ?_
   refine OW.nil ?_
   refine CW.ret ?_
   obtain rfl := Option.some.inj hm
   exact RR1 rfl rfl ⟨rfl, hL.fresh 0 rfl [] (by decide) (by decide) rfl⟩
 intro s_l1 F275 wd276 t267 hJ hm hr268
 unfold M.spec_IsCurve_l1 at hm
 obtain ⟨f277, f278, hL⟩ := hJ
 refine CW.seq ?_
 refine CSR ?_
 refine OV (.int .i64 s_l1) rfl (x_mv f278) ?_
 refine OV v1 rfl (x_mv f277) ?_
 refine OV (.int .i64 (a0.length : Int)) rfl (x_lenR U30 rfl (hL.rdS 0 rfl h2)) ?_
 refine OV (.bool (decide (s_l1 < (a0.length : Int)))) rfl (x_lss rfl rfl) ?_
 refine OW.nil ?_
 refine CW.condM (t := decide (s_l1 < (a0.length : Int))) rfl hm (fun hb279 hm => ?_) (fun hb279 hm => ?_)
 · refine CW.skip ?_
   refine CW.seq ?_
   refine CW.block ?_
   refine CW.seq ?_
   refine CW.seqJ (fun (s_j2 : Bool) (F : Fr) (w : World) => F 0 = v1 ∧ F 3 = (.int .i64 s_l1) ∧ F 33 = (.bool s_j2) ∧ Hp w0 [Ent.snap w0 w0.heap.size] w) (fun s_j2 => M.spec_IsCurve_j2 a0 s_l1 s_j2 = some t267) ?_ ?_
   · refine CW.regionL ?_
     refine OV v1 rfl (x_mv f277) ?_
     refine OV (.int .i64 s_l1) rfl (x_mv f278) ?_
     obtain ⟨x383, ha384, hm⟩ := bndE hm
     obtain ⟨hz385, ha389⟩ := idxE ha384
     obtain ⟨b386, q387, hix388⟩ := rdL_ix (hL.rdS 0 rfl h2) hz385 ha389
     refine OV (.pointer (some ⟨b386, q387, none⟩)) rfl (x_ix U30 Tryd_T58 rfl rfl hix388) ?_
     refine OV (.pointer (some ⟨b386, q387, none⟩)) rfl (x_fieldAddr (fsz := 1) q387 0 q387 U58 rfl Tryd_T2 rfl rfl rfl) ?_
     refine OV (.int .i64 x383.Wind) rfl (x_load1 U2 rfl rfl (rdF_cells (hL.rdS 0 rfl h2) hix388 ha389 0 _ rfl)) ?_
     obtain ⟨x390, hx391, hm⟩ := bndE hm
     refine OW.cons (OP.call rfl (x_call (vs := [(.int .i64 x383.Wind), (.int .i64 0), (.int .i64 1000)]) Tryd_C54 ⟨rfl, rfl, rfl, trivial⟩) (M.spec_l01In_ok _ x383.Wind 0 1000 hx391) ?_)
     rintro e392 wd393 ⟨rfl, hF394⟩
     refine ⟨_, rfl, ?_⟩
     have hL := hL.pushAll hF394
     simp only [lA, lB, lC, lD] at hL
     refine OV (.bool (!x390)) rfl (x_not rfl) ?_
     refine OV (.bool (!x390)) rfl (x_move) ?_
     refine ifB_elim hm (fun hb395 hm => ?_) (fun hb395 hm => ?_)
     · refine OW.cons (OP.no' rfl rfl hb395 rfl ?_)
       refine OW.cons (OP.no' rfl rfl hb395 rfl ?_)
       refine OW.cons (OP.no' rfl rfl hb395 rfl ?_)
       refine OW.cons (OP.no' rfl rfl hb395 rfl ?_)
       refine OW.cons (OP.no' rfl rfl hb395 rfl ?_)
       refine OW.cons (OP.no' rfl rfl hb395 rfl ?_)
       refine OW.cons (OP.no' rfl rfl hb395 rfl ?_)
       refine OV (.bool true) rfl (x_pickT' rfl hb395 rfl) ?_
       refine OW.nil ?_
       exact ⟨true, hm, ⟨f277, f278, rfl, hL⟩⟩
     refine OW.cons (OP.yes' rfl rfl hb395 (OP.val (v := v1) rfl (x_mv f277) ?_))
     refine OW.cons (OP.yes' rfl rfl hb395 (OP.val (v := (.int .i64 s_l1)) rfl (x_mv f278) ?_))
     obtain ⟨x396, ha397, hm⟩ := bndE hm
     obtain ⟨hz398, ha402⟩ := idxE ha397
     obtain ⟨b399, q400, hix401⟩ := rdL_ix (hL.rdS 0 rfl h2) hz398 ha402
     refine OW.cons (OP.yes' rfl rfl hb395 (OP.val (v := (.pointer (some ⟨b399, q400, none⟩))) rfl (x_ix U30 Tryd_T58 rfl rfl hix401) ?_))
     refine OW.cons (OP.yes' rfl rfl hb395 (OP.val (v := (.pointer (some ⟨b399, q400 + 1, none⟩))) rfl (x_fieldAddr (fsz := 1) q400 1 (q400 + 1) U58 rfl Tryd_T2 rfl rfl rfl) ?_))
     refine OW.cons (OP.yes' rfl rfl hb395 (OP.val (v := (.int .i64 x396.Pace)) rfl (x_load1 U2 rfl rfl (rdF_cells (hL.rdS 0 rfl h2) hix401 ha402 1 _ rfl)) ?_))
     obtain ⟨x403, hx404, hm⟩ := bndE hm
     refine OW.cons (OP.yes' rfl rfl hb395 (OP.call rfl (x_call (vs := [(.int .i64 x396.Pace), (.int .i64 1), (.int .i64 1000000)]) Tryd_C54 ⟨rfl, rfl, rfl, trivial⟩) (M.spec_l01In_ok _ x396.Pace 1 1000000 hx404) ?_))
     rintro e405 wd406 ⟨rfl, hF407⟩
     refine ⟨_, rfl, ?_⟩
     have hL := hL.pushAll hF407
     simp only [lA, lB, lC, lD] at hL
     refine OW.cons (OP.yes' rfl rfl hb395 (OP.val (v := (.bool (!x403))) rfl (x_not rfl) ?_))
     refine OV (.bool (!x403)) rfl (x_pickF' rfl hb395 rfl) ?_
     refine OW.nil ?_
     exact ⟨!x403, hm, ⟨f277, f278, rfl, hL⟩⟩
   intro s_j2 F305 wd306 hJ hm
   unfold M.spec_IsCurve_j2 at hm
   obtain ⟨f307, f308, f309, hL⟩ := hJ
   refine CW.condM (t := s_j2) f309 hm (fun hb310 hm => ?_) (fun hb310 hm => ?_)
   · refine CSR ?_
     refine OV (.bool false) rfl (x_assign) ?_
     refine OW.nil ?_
     refine CW.ret ?_
     obtain rfl := Option.some.inj hm
     have hm := hr268 _ rfl
     obtain rfl := Option.some.inj hm
     exact RR1 rfl rfl ⟨rfl, hL.fresh 0 rfl [] (by decide) (by decide) rfl⟩
   refine CW.skip ?_
   refine CW.seqJ (fun (s_j3 : Bool) (F : Fr) (w : World) => F 0 = v1 ∧ F 3 = (.int .i64 s_l1) ∧ F 63 = (.bool s_j3) ∧ Hp w0 [Ent.snap w0 w0.heap.size] w) (fun s_j3 => M.spec_IsCurve_j3 s_l1 s_j3 = some t267) ?_ ?_
   · refine CW.draw Tryd_mixed ?_
     have hL := hL.call (Mod.drew _)
     refine DW.pre (fuel := 0) (fin := bma 30 1073741823) (C := fun w' => Mod None_ _ w') [0, 1, 2, 3, 4, 5, 6, 7, 8, 9, 10, 11, 12, 13, 14, 15, 16, 17, 18, 19, 20, 21, 22, 23, 24, 25, 26, 27, 28, 29] (Mod.refl _ _) (by kernel_rfl) (by kernel_rfl) ?_
     refine QW.cons rfl (QP.val (v := (.int .i64 s_l1)) rfl (fun w' hm' => x_mv f308) ?_)
     refine QW.cons rfl (QP.val (v := (.bool (decide (0 < s_l1)))) rfl (fun w' hm' => x_gtr rfl rfl) ?_)
     refine QW.cons rfl (QP.val (v := (.bool (decide (0 < s_l1)))) rfl (fun w' hm' => x_move) ?_)
     refine ifB_elim hm (fun hb350 hm => ?_) (fun hb350 hm => ?_)
     · refine QW.cons rfl (QP.yes' rfl rfl hb350 (QP.val (v := v1) rfl (fun w' hm' => x_mv f307) ?_))
       refine QW.cons rfl (QP.yes' rfl rfl hb350 (QP.val (v := (.int .i64 s_l1)) rfl (fun w' hm' => x_mv f308) ?_))
       obtain ⟨x351, ha352, hm⟩ := bndE hm
       obtain ⟨hz353, ha357⟩ := idxE ha352
       obtain ⟨b354, q355, hix356⟩ := rdL_ix (hL.rdS 0 rfl h2) hz353 ha357
       refine QW.cons rfl (QP.yes' rfl rfl hb350 (QP.val (v := (.pointer (some ⟨b354, q355, none⟩))) rfl (fun w' hm' => x_ix U30 Tryd_T58 rfl rfl hix356) ?_))
       refine QW.cons rfl (QP.yes' rfl rfl hb350 (QP.val (v := (.pointer (some ⟨b354, q355, none⟩))) rfl (fun w' hm' => x_fieldAddr (fsz := 1) q355 0 q355 U58 rfl Tryd_T2 rfl rfl rfl) ?_))
       refine QW.cons rfl (QP.yes' rfl rfl hb350 (QP.val (v := (.int .i64 x351.Wind)) rfl (fun w' hm' => x_load1 U2 rfl rfl (rdF_cells ((hL.call hm').rdS 0 rfl h2) hix356 ha357 0 _ rfl)) ?_))
       refine QW.cons rfl (QP.yes' rfl rfl hb350 (QP.val (v := v1) rfl (fun w' hm' => x_mv f307) ?_))
       refine QW.cons rfl (QP.yes' rfl rfl hb350 (QP.val (v := (.int .i64 s_l1)) rfl (fun w' hm' => x_mv f308) ?_))
       refine QW.cons rfl (QP.yes' rfl rfl hb350 (QP.val (v := (.int .i64 (w64 (s_l1 - 1)))) rfl (fun w' hm' => x_sub rfl rfl) ?_))
       obtain ⟨x358, ha359, hm⟩ := bndE hm
       obtain ⟨hz360, ha364⟩ := idxE ha359
       obtain ⟨b361, q362, hix363⟩ := rdL_ix (hL.rdS 0 rfl h2) hz360 ha364
       refine QW.cons rfl (QP.yes' rfl rfl hb350 (QP.val (v := (.pointer (some ⟨b361, q362, none⟩))) rfl (fun w' hm' => x_ix U30 Tryd_T58 rfl rfl hix363) ?_))
       refine QW.cons rfl (QP.yes' rfl rfl hb350 (QP.val (v := (.pointer (some ⟨b361, q362, none⟩))) rfl (fun w' hm' => x_fieldAddr (fsz := 1) q362 0 q362 U58 rfl Tryd_T2 rfl rfl rfl) ?_))
       refine QW.cons rfl (QP.yes' rfl rfl hb350 (QP.val (v := (.int .i64 x358.Wind)) rfl (fun w' hm' => x_load1 U2 rfl rfl (rdF_cells ((hL.call hm').rdS 0 rfl h2) hix363 ha364 0 _ rfl)) ?_))
       refine QW.cons rfl (QP.yes' rfl rfl hb350 (QP.val (v := (.bool (decide (x351.Wind ≤ x358.Wind)))) rfl (fun w' hm' => x_leq rfl rfl) ?_))
       refine QW.cons rfl (QP.yes' rfl rfl hb350 (QP.val (v := (.bool (decide (x351.Wind ≤ x358.Wind)))) rfl (fun w' hm' => x_move) ?_))
       refine ifB_elim hm (fun hb365 hm => ?_) (fun hb365 hm => ?_)
       · refine QW.cons rfl (QP.no' rfl rfl hb365 rfl ?_)
         refine QW.cons rfl (QP.no' rfl rfl hb365 rfl ?_)
         refine QW.cons rfl (QP.no' rfl rfl hb365 rfl ?_)
         refine QW.cons rfl (QP.no' rfl rfl hb365 rfl ?_)
         refine QW.cons rfl (QP.no' rfl rfl hb365 rfl ?_)
         refine QW.cons rfl (QP.no' rfl rfl hb365 rfl ?_)
         refine QW.cons rfl (QP.no' rfl rfl hb365 rfl ?_)
         refine QW.cons rfl (QP.no' rfl rfl hb365 rfl ?_)
         refine QW.cons rfl (QP.no' rfl rfl hb365 rfl ?_)
         refine QW.cons rfl (QP.no' rfl rfl hb365 rfl ?_)
         refine QW.cons rfl (QP.no' rfl rfl hb365 rfl ?_)
         refine QW.cons rfl (QP.no' rfl rfl hb365 rfl ?_)
         refine QW.cons rfl (QP.yes' rfl rfl hb350 (QP.val (v := (.bool true)) rfl (fun w' hm' => x_pickT' rfl hb365 rfl) ?_))
         refine QW.cons rfl (QP.val (v := (.bool true)) rfl (fun w' hm' => x_pickT' rfl hb350 rfl) ?_)
         refine QW.nil ?_
         intro wd366 hmod
         have hL := hL.call hmod
         refine DW.done (by kernel_rfl) ?_
         exact ⟨true, hm, ⟨f307, f308, rfl, hL⟩⟩
       refine QW.cons rfl (QP.yes' rfl rfl hb365 (QP.val (v := v1) rfl (fun w' hm' => x_mv f307) ?_))
       refine QW.cons rfl (QP.yes' rfl rfl hb365 (QP.val (v := (.int .i64 s_l1)) rfl (fun w' hm' => x_mv f308) ?_))
       obtain ⟨x367, ha368, hm⟩ := bndE hm
       obtain ⟨hz369, ha373⟩ := idxE ha368
       obtain ⟨b370, q371, hix372⟩ := rdL_ix (hL.rdS 0 rfl h2) hz369 ha373
       refine QW.cons rfl (QP.yes' rfl rfl hb365 (QP.val (v := (.pointer (some ⟨b370, q371, none⟩))) rfl (fun w' hm' => x_ix U30 Tryd_T58 rfl rfl hix372) ?_))
       refine QW.cons rfl (QP.yes' rfl rfl hb365 (QP.val (v := (.pointer (some ⟨b370, q371 + 1, none⟩))) rfl (fun w' hm' => x_fieldAddr (fsz := 1) q371 1 (q371 + 1) U58 rfl Tryd_T2 rfl rfl rfl) ?_))
       refine QW.cons rfl (QP.yes' rfl rfl hb365 (QP.val (v := (.int .i64 x367.Pace)) rfl (fun w' hm' => x_load1 U2 rfl rfl (rdF_cells ((hL.call hm').rdS 0 rfl h2) hix372 ha373 1 _ rfl)) ?_))
       refine QW.cons rfl (QP.yes' rfl rfl hb365 (QP.val (v := v1) rfl (fun w' hm' => x_mv f307) ?_))
       refine QW.cons rfl (QP.yes' rfl rfl hb365 (QP.val (v := (.int .i64 s_l1)) rfl (fun w' hm' => x_mv f308) ?_))
       refine QW.cons rfl (QP.yes' rfl rfl hb365 (QP.val (v := (.int .i64 (w64 (s_l1 - 1)))) rfl (fun w' hm' => x_sub rfl rfl) ?_))
       obtain ⟨x374, ha375, hm⟩ := bndE hm
       obtain ⟨hz376, ha380⟩ := idxE ha375
       obtain ⟨b377, q378, hix379⟩ := rdL_ix (hL.rdS 0 rfl h2) hz376 ha380
       refine QW.cons rfl (QP.yes' rfl rfl hb365 (QP.val (v := (.pointer (some ⟨b377, q378, none⟩))) rfl (fun w' hm' => x_ix U30 Tryd_T58 rfl rfl hix379) ?_))
       refine QW.cons rfl (QP.yes' rfl rfl hb365 (QP.val (v := (.pointer (some ⟨b377, q378 + 1, none⟩))) rfl (fun w' hm' => x_fieldAddr (fsz := 1) q378 1 (q378 + 1) U58 rfl Tryd_T2 rfl rfl rfl) ?_))
       refine QW.cons rfl (QP.yes' rfl rfl hb365 (QP.val (v := (.int .i64 x374.Pace)) rfl (fun w' hm' => x_load1 U2 rfl rfl (rdF_cells ((hL.call hm').rdS 0 rfl h2) hix379 ha380 1 _ rfl)) ?_))
       refine QW.cons rfl (QP.yes' rfl rfl hb365 (QP.val (v := (.bool (decide (x374.Pace ≤ x367.Pace)))) rfl (fun w' hm' => x_geq rfl rfl) ?_))
       refine QW.cons rfl (QP.yes' rfl rfl hb350 (QP.val (v := (.bool (decide (x374.Pace ≤ x367.Pace)))) rfl (fun w' hm' => x_pickF' rfl hb365 rfl) ?_))
       refine QW.cons rfl (QP.val (v := (.bool (decide (x374.Pace ≤ x367.Pace)))) rfl (fun w' hm' => x_pickT' rfl hb350 rfl) ?_)
       refine QW.nil ?_
       intro wd381 hmod
       have hL := hL.call hmod
       refine DW.done (by kernel_rfl) ?_
       exact ⟨decide (x374.Pace ≤ x367.Pace), hm, ⟨f307, f308, rfl, hL⟩⟩
     refine QW.cons rfl (QP.no' rfl rfl hb350 rfl ?_)
     refine QW.cons rfl (QP.no' rfl rfl hb350 rfl ?_)
     refine QW.cons rfl (QP.no' rfl rfl hb350 rfl ?_)
     refine QW.cons rfl (QP.no' rfl rfl hb350 rfl ?_)
     refine QW.cons rfl (QP.no' rfl rfl hb350 rfl ?_)
     refine QW.cons rfl (QP.no' rfl rfl hb350 rfl ?_)
     refine QW.cons rfl (QP.no' rfl rfl hb350 rfl ?_)
     refine QW.cons rfl (QP.no' rfl rfl hb350 rfl ?_)
     refine QW.cons rfl (QP.no' rfl rfl hb350 rfl ?_)
     refine QW.cons rfl (QP.no' rfl rfl hb350 rfl ?_)
     refine QW.cons rfl (QP.no' rfl rfl hb350 rfl ?_)
     refine QW.cons rfl (QP.no' rfl rfl hb350 rfl ?_)
     refine QW.cons rfl (QP.no' rfl rfl hb350 rfl ?_)
     refine QW.cons rfl (QP.noU rfl rfl rfl ?_)
     refine QW.cons rfl (QP.noU rfl rfl rfl ?_)
     refine QW.cons rfl (QP.noU rfl rfl rfl ?_)
     refine QW.cons rfl (QP.noU rfl rfl rfl ?_)
     refine QW.cons rfl (QP.noU rfl rfl rfl ?_)
     refine QW.cons rfl (QP.noU rfl rfl rfl ?_)
     refine QW.cons rfl (QP.noU rfl rfl rfl ?_)
     refine QW.cons rfl (QP.noU rfl rfl rfl ?_)
     refine QW.cons rfl (QP.noU rfl rfl rfl ?_)
     refine QW.cons rfl (QP.noU rfl rfl rfl ?_)
     refine QW.cons rfl (QP.noU rfl rfl rfl ?_)
     refine QW.cons rfl (QP.noU rfl rfl rfl ?_)
     refine QW.cons rfl (QP.no' rfl rfl hb350 rfl ?_)
     refine QW.cons rfl (QP.val (v := (.bool false)) rfl (fun w' hm' => x_pickF' rfl hb350 rfl) ?_)
     refine QW.nil ?_
     intro wd382 hmod
     have hL := hL.call hmod
     refine DW.done (by kernel_rfl) ?_
     exact ⟨false, hm, ⟨f307, f308, rfl, hL⟩⟩
   intro s_j3 F344 wd345 hJ hm
   unfold M.spec_IsCurve_j3 at hm
   obtain ⟨f346, f347, f348, hL⟩ := hJ
   refine CW.condM (t := s_j3) f348 hm (fun hb349 hm => ?_) (fun hb349 hm => ?_)
   · refine CSR ?_
     refine OV (.bool false) rfl (x_assign) ?_
     refine OW.nil ?_
     refine CW.ret ?_
     obtain rfl := Option.some.inj hm
     have hm := hr268 _ rfl
     obtain rfl := Option.some.inj hm
     exact RR1 rfl rfl ⟨rfl, hL.fresh 0 rfl [] (by decide) (by decide) rfl⟩
   refine CW.skip ?_
   refine CW.regionL ?_
   refine OV (.int .i64 s_l1) rfl (x_mv f347) ?_
   refine OV (.int .i64 (w64 (s_l1 + 1))) rfl (x_add rfl rfl) ?_
   refine OV (.int .i64 (w64 (s_l1 + 1))) rfl (x_assign) ?_
   refine OW.nil ?_
   obtain rfl := Option.some.inj hm
   exact ⟨_, rfl, ⟨f346, rfl, hL⟩⟩
 refine CW.exit ?_
 refine XJ.hit ?_
 obtain rfl := Option.some.inj hm
 exact ⟨_, rfl, ⟨f277, f278, hL⟩⟩

theorem M.spec_CurveText_ok (w0 : World) (a0 : List CurvePoint) {v1 : Value} (h2 : rdL (· < w0.heap.size) w0 v1 a0) {r : ByteArray} (hm : M.spec_CurveText a0 = some r) :
    Calls Tryd.prog 36 #[v1] w0 fun e w' => e = .returned (.string r) ∧ Fresh w0 w' [] := by
 unfold M.spec_CurveText at hm
 refine calls_CW (args := [v1]) Tryd.func36 rfl rfl rfl ?_
 have hL := Hp.start w0
 refine CSR ?_
 refine OV (.string (⟨#[]⟩ : ByteArray)) rfl (x_assign) ?_
 refine ONR ?_
 refine OV (.string (⟨#[]⟩ : ByteArray)) rfl (x_assign) ?_
 refine ONS ?_
 refine CSR ?_
 refine OV (.int .i64 0) rfl (x_assign) ?_
 refine OW.nil ?_
 obtain ⟨o105, ho106, hm⟩ := bndE hm
 refine CW.loopB (fun (s_l1 : ByteArray × Int) (F : Fr) (w : World) => F 0 = v1 ∧ F 3 = (.string s_l1.1) ∧ F 4 = (.int .i64 s_l1.2) ∧ Hp w0 [Ent.snap w0 w0.heap.size] w) (fun o => outc o (fun x => some x) (fun s => M.spec_CurveText_a1 s) = some r) ho106 hm ⟨rfl, rfl, rfl, hL⟩ ?_ ?_
 · intro s_l1 F107 wd108 hJ hm
   have hm := outcE hm
   have hm : M.spec_CurveText_a1 s_l1 = some r := hm
   unfold M.spec_CurveText_a1 at hm
   obtain ⟨f109, f110, f111, hL⟩ := hJ
   refine CSR ?_
   refine OV (.string s_l1.1) rfl (x_mv f110) ?_
   refine OV (.string s_l1.1) rfl (x_assign) ?_
   refine OW.nil ?_
   refine CW.ret ?_
   obtain rfl := Option.some.inj hm
   exact RR1 rfl rfl ⟨rfl, hL.fresh 0 rfl [] (by decide) (by decide) rfl⟩
 intro s_l1 F112 wd113 t103 hJ hm hr104
 unfold M.spec_CurveText_l1 at hm
 obtain ⟨f114, f115, f116, hL⟩ := hJ
 refine CW.seq ?_
 refine CW.seqJ (fun (s_j1 : Bool) (F : Fr) (w : World) => F 0 = v1 ∧ F 3 = (.string s_l1.1) ∧ F 4 = (.int .i64 s_l1.2) ∧ F 12 = (.bool s_j1) ∧ Hp w0 [Ent.snap w0 w0.heap.size] w) (fun s_j1 => M.spec_CurveText_j1 a0 s_l1 s_j1 = some t103) ?_ ?_
 · refine CW.regionL ?_
   refine OV (.int .i64 s_l1.2) rfl (x_mv f116) ?_
   refine OV v1 rfl (x_mv f114) ?_
   refine OV (.int .i64 (a0.length : Int)) rfl (x_lenR U30 rfl (hL.rdS 0 rfl h2)) ?_
   refine OV (.bool (decide (s_l1.2 < (a0.length : Int)))) rfl (x_lss rfl rfl) ?_
   refine OV (.bool (decide (s_l1.2 < (a0.length : Int)))) rfl (x_move) ?_
   refine ifB_elim hm (fun hb161 hm => ?_) (fun hb161 hm => ?_)
   · refine OW.cons (OP.yes' rfl rfl hb161 (OP.val (v := v1) rfl (x_mv f114) ?_))
     obtain ⟨x162, hx163, hm⟩ := bndE hm
     refine OW.cons (OP.yes' rfl rfl hb161 (OP.call rfl (x_call (vs := [v1]) Tryd_C35 ⟨rfl, trivial⟩) (M.spec_IsCurve_ok _ a0 (hL.rdS 0 rfl h2) hx163) ?_))
     rintro e164 wd165 ⟨rfl, hF166⟩
     refine ⟨_, rfl, ?_⟩
     have hL := hL.pushAll hF166
     simp only [lA, lB, lC, lD] at hL
     refine OV (.bool x162) rfl (x_pickT' rfl hb161 rfl) ?_
     refine OW.nil ?_
     exact ⟨x162, hm, ⟨f114, f115, f116, rfl, hL⟩⟩
   refine OW.cons (OP.no' rfl rfl hb161 rfl ?_)
   refine OW.cons (OP.no' rfl rfl hb161 rfl ?_)
   refine OV (.bool false) rfl (x_pickF' rfl hb161 rfl) ?_
   refine OW.nil ?_
   exact ⟨false, hm, ⟨f114, f115, f116, rfl, hL⟩⟩
 intro s_j1 F123 wd124 hJ hm
 unfold M.spec_CurveText_j1 at hm
 obtain ⟨f125, f126, f127, f128, hL⟩ := hJ
 refine CW.condM (t := s_j1) f128 hm (fun hb129 hm => ?_) (fun hb129 hm => ?_)
 · refine CW.skip ?_
   refine CW.seq ?_
   refine CW.block ?_
   refine CW.seqJ (fun (s_j2 : ByteArray) (F : Fr) (w : World) => F 0 = v1 ∧ F 3 = (.string s_j2) ∧ F 4 = (.int .i64 s_l1.2) ∧ Hp w0 [Ent.snap w0 w0.heap.size] w) (fun s_j2 => M.spec_CurveText_j2 a0 s_l1 s_j2 = some t103) ?_ ?_
   · refine CSR ?_
     refine OV (.int .i64 s_l1.2) rfl (x_mv f127) ?_
     refine OV (.bool (decide (0 < s_l1.2))) rfl (x_gtr rfl rfl) ?_
     refine OW.nil ?_
     refine CW.condM (t := decide (0 < s_l1.2)) rfl hm (fun hb159 hm => ?_) (fun hb159 hm => ?_)
     · refine CW.regionL ?_
       refine OV (.string s_l1.1) rfl (x_mv f126) ?_
       obtain ⟨hc160, hm⟩ := chkE hm
       refine OV (.string (s_l1.1 ++ (⟨#[32]⟩ : ByteArray))) rfl (x_addT rfl rfl hc160) ?_
       refine OV (.string (s_l1.1 ++ (⟨#[32]⟩ : ByteArray))) rfl (x_assign) ?_
       refine OW.nil ?_
       exact ⟨s_l1.1 ++ (⟨#[32]⟩ : ByteArray), hm, ⟨f125, rfl, f127, hL⟩⟩
     refine CW.skip ?_
     exact ⟨s_l1.1, hm, ⟨f125, f126, f127, hL⟩⟩
   intro s_j2 F132 wd133 hJ hm
   unfold M.spec_CurveText_j2 at hm
   obtain ⟨f134, f135, f136, hL⟩ := hJ
   refine CW.draw Tryd_mixed ?_
   have hL := hL.call (Mod.drew _)
   refine DW.pre (fuel := 0) (fin := bma 17 131071) (C := fun w' => Mod None_ _ w') [0, 1, 2, 3, 4, 5, 6, 7, 8, 9, 10, 11, 12, 13, 14, 15, 16] (Mod.refl _ _) (by kernel_rfl) (by kernel_rfl) ?_
   refine QW.cons rfl (QP.val (v := (.string s_j2)) rfl (fun w' hm' => x_mv f135) ?_)
   refine QW.cons rfl (QP.val (v := v1) rfl (fun w' hm' => x_mv f134) ?_)
   refine QW.cons rfl (QP.val (v := (.int .i64 s_l1.2)) rfl (fun w' hm' => x_mv f136) ?_)
   obtain ⟨x137, ha138, hm⟩ := bndE hm
   obtain ⟨hz139, ha143⟩ := idxE ha138
   obtain ⟨b140, q141, hix142⟩ := rdL_ix (hL.rdS 0 rfl h2) hz139 ha143
   refine QW.cons rfl (QP.val (v := (.pointer (some ⟨b140, q141, none⟩))) rfl (fun w' hm' => x_ix U30 Tryd_T58 rfl rfl hix142) ?_)
   refine QW.cons rfl (QP.val (v := (.pointer (some ⟨b140, q141, none⟩))) rfl (fun w' hm' => x_fieldAddr (fsz := 1) q141 0 q141 U58 rfl Tryd_T2 rfl rfl rfl) ?_)
   refine QW.cons rfl (QP.val (v := (.int .i64 x137.Wind)) rfl (fun w' hm' => x_load1 U2 rfl rfl (rdF_cells ((hL.call hm').rdS 0 rfl h2) hix142 ha143 0 _ rfl)) ?_)
   obtain ⟨x144, hx145, hm⟩ := bndE hm
   refine QW.cons rfl (QP.call (v := (.string x144)) rfl (fun w' hm' => x_call (vs := [(.int .i64 x137.Wind)]) Tryd_C55 ⟨rfl, trivial⟩) (fun w' hm' => (M.spec_l01Number_ok w' x137.Wind hx145).mono (fun e w'' h => ⟨h.1, hm'.trans h.2.mod⟩)) ?_)
   obtain ⟨hc146, hm⟩ := chkE hm
   refine QW.cons rfl (QP.val (v := (.string (s_j2 ++ x144))) rfl (fun w' hm' => x_addT rfl rfl hc146) ?_)
   obtain ⟨hc147, hm⟩ := chkE hm
   refine QW.cons rfl (QP.val (v := (.string ((s_j2 ++ x144) ++ (⟨#[58]⟩ : ByteArray)))) rfl (fun w' hm' => x_addT rfl rfl hc147) ?_)
   refine QW.cons rfl (QP.val (v := v1) rfl (fun w' hm' => x_mv f134) ?_)
   refine QW.cons rfl (QP.val (v := (.int .i64 s_l1.2)) rfl (fun w' hm' => x_mv f136) ?_)
   obtain ⟨x148, ha149, hm⟩ := bndE hm
   obtain ⟨hz150, ha154⟩ := idxE ha149
   obtain ⟨b151, q152, hix153⟩ := rdL_ix (hL.rdS 0 rfl h2) hz150 ha154
   refine QW.cons rfl (QP.val (v := (.pointer (some ⟨b151, q152, none⟩))) rfl (fun w' hm' => x_ix U30 Tryd_T58 rfl rfl hix153) ?_)
   refine QW.cons rfl (QP.val (v := (.pointer (some ⟨b151, q152 + 1, none⟩))) rfl (fun w' hm' => x_fieldAddr (fsz := 1) q152 1 (q152 + 1) U58 rfl Tryd_T2 rfl rfl rfl) ?_)
   refine QW.cons rfl (QP.val (v := (.int .i64 x148.Pace)) rfl (fun w' hm' => x_load1 U2 rfl rfl (rdF_cells ((hL.call hm').rdS 0 rfl h2) hix153 ha154 1 _ rfl)) ?_)
   obtain ⟨x155, hx156, hm⟩ := bndE hm
   refine QW.cons rfl (QP.call (v := (.string x155)) rfl (fun w' hm' => x_call (vs := [(.int .i64 x148.Pace)]) Tryd_C55 ⟨rfl, trivial⟩) (fun w' hm' => (M.spec_l01Number_ok w' x148.Pace hx156).mono (fun e w'' h => ⟨h.1, hm'.trans h.2.mod⟩)) ?_)
   obtain ⟨hc157, hm⟩ := chkE hm
   refine QW.cons rfl (QP.val (v := (.string (((s_j2 ++ x144) ++ (⟨#[58]⟩ : ByteArray)) ++ x155))) rfl (fun w' hm' => x_addT rfl rfl hc157) ?_)
   refine QW.cons rfl (QP.val (v := (.string (((s_j2 ++ x144) ++ (⟨#[58]⟩ : ByteArray)) ++ x155))) rfl (fun w' hm' => x_assign) ?_)
   refine QW.nil ?_
   intro wd158 hmod
   have hL := hL.call hmod
   refine DW.done (by kernel_rfl) ?_
   refine CW.regionL ?_
   refine OV (.int .i64 s_l1.2) rfl (x_mv f136) ?_
   refine OV (.int .i64 (w64 (s_l1.2 + 1))) rfl (x_add rfl rfl) ?_
   refine OV (.int .i64 (w64 (s_l1.2 + 1))) rfl (x_assign) ?_
   refine OW.nil ?_
   obtain rfl := Option.some.inj hm
   exact ⟨_, rfl, ⟨f134, rfl, rfl, hL⟩⟩
 refine CW.exit ?_
 refine XJ.hit ?_
 obtain rfl := Option.some.inj hm
 exact ⟨_, rfl, ⟨f125, f126, f127, hL⟩⟩

theorem M.spec_ReadCurve_ok (w0 : World) (a0 : ByteArray) {r : (List CurvePoint) × Bool} (hm : M.spec_ReadCurve a0 = some r) :
    Calls Tryd.prog 11 #[(.string a0)] w0 fun e w' => ∃ (rv0 : Value) (rS0 : Nat → Prop), e = .returned (.tuple #[rv0, (.bool r.2)]) ∧ Fresh w0 w' [Ent.own 58 rS0 rv0 r.1] := by
 unfold M.spec_ReadCurve at hm
 refine calls_CW (args := [(.string a0)]) Tryd.func11 rfl rfl rfl ?_
 have hL := Hp.start w0
 refine CSR ?_
 refine OV (.slice none 0 0) rfl (x_assign) ?_
 refine OV (.bool false) rfl (x_assign) ?_
 refine ONR ?_
 refine OV (.string a0) rfl (x_move) ?_
 obtain ⟨x1, hx2, hm⟩ := bndE hm
 refine OW.cons (OP.call rfl (x_call (vs := [(.string a0), (.int .u8 32)]) Tryd_C33 ⟨rfl, rfl, trivial⟩) (M.spec_l01Split_ok _ a0 32 hx2) ?_)
 rintro e5 wd6 ⟨v4, S3, rfl, hF7⟩
 refine ⟨_, rfl, ?_⟩
 have hL := hL.pushAll hF7
 simp only [lA, lB, lC, lD] at hL
 refine OV v4 rfl (x_assign) ?_
 refine ONS ?_
 refine CSR ?_
 refine OV v4 rfl (x_move) ?_
 refine OV (.int .i64 (x1.length : Int)) rfl (x_lenR U43 rfl (hL.rdO 0 rfl)) ?_
 refine OV (.bool (decide (12 < (x1.length : Int)))) rfl (x_gtr rfl rfl) ?_
 refine OW.nil ?_
 refine CW.condM (t := decide (12 < (x1.length : Int))) rfl hm (fun hb8 hm => ?_) (fun hb8 hm => ?_)
 · refine CSR ?_
   refine OV (.slice none 0 0) rfl (x_assign) ?_
   refine OV (.bool false) rfl (x_assign) ?_
   refine OW.nil ?_
   refine CW.ret ?_
   have hL := hL.pushNil CurvePoint 58
   obtain rfl := Option.some.inj hm
   exact RR2 rfl rfl rfl ⟨(.slice none 0 0), None_, rfl, hL.fresh 2 rfl [0] (by decide) (by decide) rfl⟩
 refine CW.skip ?_
 refine CSR ?_
 refine OW.cons (S_lit ([] : List CurvePoint) hL U30 Tryd_T58 rfl (by decide) (by first | (simp [Instr.fill, madeCells, Value.cells, ev, upd, Flat.enc, Flat.sz]; done) | rfl | kernel_rfl) rfl rfl ?_)
 intro wd9 v10 S11 hL
 refine OV v10 rfl (x_assign) ?_
 refine ONS ?_
 refine CSR ?_
 refine OV (.int .i64 0) rfl (x_assign) ?_
 refine OW.nil ?_
 obtain ⟨o136, ho137, hm⟩ := bndE hm
 refine CW.loopB (fun (s_l1 : (List CurvePoint) × Int) (F : Fr) (w : World) => ∃ (v132 : Value) (S133 : Nat → Prop), F 0 = (.string a0) ∧ F 4 = v4 ∧ F 5 = v132 ∧ F 6 = (.int .i64 s_l1.2) ∧ Hp w0 [Ent.own 58 S133 v132 s_l1.1, Ent.own 9 S3 v4 x1, Ent.snap w0 w0.heap.size] w) (fun o => outc o (fun x => some x) (fun s => M.spec_ReadCurve_a1 a0 s) = some r) ho137 hm ⟨v10, S11, rfl, rfl, rfl, rfl, hL⟩ ?_ ?_
 · intro s_l1 F138 wd139 hJ hm
   have hm := outcE hm
   have hm : M.spec_ReadCurve_a1 a0 s_l1 = some r := hm
   unfold M.spec_ReadCurve_a1 at hm
   obtain ⟨v132, S133, f140, f141, f142, f143, hL⟩ := hJ
   refine CW.seq ?_
   refine CW.seqJ (fun (s_j1 : Bool) (F : Fr) (w : World) => F 5 = v132 ∧ F 66 = (.bool s_j1) ∧ Hp w0 [Ent.own 58 S133 v132 s_l1.1, Ent.snap w0 w0.heap.size] w) (fun s_j1 => M.spec_ReadCurve_j1 s_l1 s_j1 = some r) ?_ ?_
   · refine CW.regionL ?_
     refine OV v132 rfl (x_mv f142) ?_
     obtain ⟨x160, hx161, hm⟩ := bndE hm
     refine OW.cons (OP.call rfl (x_call (vs := [v132]) Tryd_C35 ⟨rfl, trivial⟩) (M.spec_IsCurve_ok _ s_l1.1 (hL.rdO 0 rfl) hx161) ?_)
     rintro e162 wd163 ⟨rfl, hF164⟩
     refine ⟨_, rfl, ?_⟩
     have hL := hL.pushAll hF164
     simp only [lA, lB, lC, lD] at hL
     refine OV (.bool (!x160)) rfl (x_not rfl) ?_
     refine OV (.bool (!x160)) rfl (x_move) ?_
     refine ifB_elim hm (fun hb165 hm => ?_) (fun hb165 hm => ?_)
     · refine OW.cons (OP.no' rfl rfl hb165 rfl ?_)
       refine OW.cons (OP.no' rfl rfl hb165 rfl ?_)
       refine OW.cons (OP.no' rfl rfl hb165 rfl ?_)
       refine OW.cons (OP.no' rfl rfl hb165 rfl ?_)
       refine OV (.bool true) rfl (x_pickT' rfl hb165 rfl) ?_
       refine OW.nil ?_
       have hL := hL.sel [0, 2] (by decide) rfl
       exact ⟨true, hm, ⟨f142, rfl, hL⟩⟩
     refine OW.cons (OP.yes' rfl rfl hb165 (OP.val (v := v132) rfl (x_mv f142) ?_))
     obtain ⟨x166, hx167, hm⟩ := bndE hm
     refine OW.cons (OP.yes' rfl rfl hb165 (OP.call rfl (x_call (vs := [v132]) Tryd_C36 ⟨rfl, trivial⟩) (M.spec_CurveText_ok _ s_l1.1 (hL.rdO 0 rfl) hx167) ?_))
     rintro e168 wd169 ⟨rfl, hF170⟩
     refine ⟨_, rfl, ?_⟩
     have hL := hL.pushAll hF170
     simp only [lA, lB, lC, lD] at hL
     refine OW.cons (OP.yes' rfl rfl hb165 (OP.val (v := (.string a0)) rfl (x_mv f140) ?_))
     refine OW.cons (OP.yes' rfl rfl hb165 (OP.val (v := (.bool (!(sEq x166 a0)))) rfl (x_neqT rfl rfl) ?_))
     refine OV (.bool (!(sEq x166 a0))) rfl (x_pickF' rfl hb165 rfl) ?_
     refine OW.nil ?_
     have hL := hL.sel [0, 2] (by decide) rfl
     exact ⟨!(sEq x166 a0), hm, ⟨f142, rfl, hL⟩⟩
   intro s_j1 F155 wd156 hJ hm
   unfold M.spec_ReadCurve_j1 at hm
   obtain ⟨f157, f158, hL⟩ := hJ
   refine CW.condM (t := s_j1) f158 hm (fun hb159 hm => ?_) (fun hb159 hm => ?_)
   · refine CSR ?_
     refine OV (.slice none 0 0) rfl (x_assign) ?_
     refine OV (.bool false) rfl (x_assign) ?_
     refine OW.nil ?_
     refine CW.ret ?_
     have hL := hL.pushNil CurvePoint 58
     obtain rfl := Option.some.inj hm
     exact RR2 rfl rfl rfl ⟨(.slice none 0 0), None_, rfl, hL.fresh 2 rfl [0] (by decide) (by decide) rfl⟩
   refine CW.skip ?_
   refine CSR ?_
   refine OV v132 rfl (x_mv f157) ?_
   refine OV v132 rfl (x_assign) ?_
   refine OV (.bool true) rfl (x_assign) ?_
   refine OW.nil ?_
   refine CW.ret ?_
   obtain rfl := Option.some.inj hm
   exact RR2 rfl rfl rfl ⟨v132, S133, rfl, hL.fresh 1 rfl [0] (by decide) (by decide) rfl⟩
 intro s_l1 F171 wd172 t134 hJ hm hr135
 unfold M.spec_ReadCurve_l1 at hm
 obtain ⟨v132, S133, f173, f174, f175, f176, hL⟩ := hJ
 refine CW.seq ?_
 refine CSR ?_
 refine OV (.int .i64 s_l1.2) rfl (x_mv f176) ?_
 refine OV v4 rfl (x_mv f174) ?_
 refine OV (.int .i64 (x1.length : Int)) rfl (x_lenR U43 rfl (hL.rdO 1 rfl)) ?_
 refine OV (.bool (decide (s_l1.2 < (x1.length : Int)))) rfl (x_lss rfl rfl) ?_
 refine OW.nil ?_
 refine CW.condM (t := decide (s_l1.2 < (x1.length : Int))) rfl hm (fun hb177 hm => ?_) (fun hb177 hm => ?_)
 · refine CW.skip ?_
   refine CW.seq ?_
   refine CW.block ?_
   refine CSR ?_
   refine OV v4 rfl (x_mv f174) ?_
   refine OV (.int .i64 s_l1.2) rfl (x_mv f176) ?_
   obtain ⟨x178, ha179, hm⟩ := bndE hm
   obtain ⟨hz180, ha184⟩ := idxE ha179
   obtain ⟨b181, q182, hix183⟩ := rdL_ix (hL.rdO 1 rfl) hz180 ha184
   refine OV (.pointer (some ⟨b181, q182, none⟩)) rfl (x_ix U43 Tryd_T9 rfl rfl hix183) ?_
   refine OV (.string x178) rfl (x_load1 U9 rfl rfl (rdF_cells (hL.rdO 1 rfl) hix183 ha184 0 _ rfl)) ?_
   obtain ⟨x185, hx186, hm⟩ := bndE hm
   refine OW.cons (OP.call rfl (x_call (vs := [(.string x178), (.int .u8 58)]) Tryd_C33 ⟨rfl, rfl, trivial⟩) (M.spec_l01Split_ok _ x178 58 hx186) ?_)
   rintro e189 wd190 ⟨v188, S187, rfl, hF191⟩
   refine ⟨_, rfl, ?_⟩
   have hL := hL.pushAll hF191
   simp only [lA, lB, lC, lD] at hL
   refine OV v188 rfl (x_assign) ?_
   refine ONS ?_
   refine CSR ?_
   refine OV v188 rfl (x_move) ?_
   refine OV (.int .i64 (x185.length : Int)) rfl (x_lenR U43 rfl (hL.rdO 0 rfl)) ?_
   refine OV (.bool ((x185.length : Int) != 2)) rfl (x_neq rfl rfl) ?_
   refine OW.nil ?_
   refine CW.condM (t := (x185.length : Int) != 2) rfl hm (fun hb192 hm => ?_) (fun hb192 hm => ?_)
   · refine CSR ?_
     refine OV (.slice none 0 0) rfl (x_assign) ?_
     refine OV (.bool false) rfl (x_assign) ?_
     refine OW.nil ?_
     refine CW.ret ?_
     have hL := hL.pushNil CurvePoint 58
     obtain rfl := Option.some.inj hm
     have hm := hr135 _ rfl
     obtain rfl := Option.some.inj hm
     exact RR2 rfl rfl rfl ⟨(.slice none 0 0), None_, rfl, hL.fresh 4 rfl [0] (by decide) (by decide) rfl⟩
   refine CW.skip ?_
   refine CSR ?_
   refine OV v188 rfl (x_move) ?_
   obtain ⟨x193, ha194, hm⟩ := bndE hm
   obtain ⟨hz195, ha199⟩ := idxE ha194
   obtain ⟨b196, q197, hix198⟩ := rdL_ix (hL.rdO 0 rfl) hz195 ha199
   refine OV (.pointer (some ⟨b196, q197, none⟩)) rfl (x_ix U43 Tryd_T9 rfl rfl hix198) ?_
   refine OV (.string x193) rfl (x_load1 U9 rfl rfl (rdF_cells (hL.rdO 0 rfl) hix198 ha199 0 _ rfl)) ?_
   obtain ⟨x200, hx201, hm⟩ := bndE hm
   refine OW.cons (OP.call rfl (x_call (vs := [(.string x193)]) Tryd_C34 ⟨rfl, trivial⟩) (M.spec_l01Value_ok _ x193 hx201) ?_)
   rintro e202 wd203 ⟨rfl, hF204⟩
   refine ⟨_, rfl, ?_⟩
   have hL := hL.pushAll hF204
   simp only [lA, lB, lC, lD] at hL
   refine OV (.tuple #[(.int .i64 x200.1), (.bool x200.2)]) rfl (x_move) ?_
   refine OV (.int .i64 x200.1) rfl (x_extract rfl rfl) ?_
   refine OV (.bool x200.2) rfl (x_extract rfl rfl) ?_
   refine OV (.int .i64 x200.1) rfl (x_assign) ?_
   refine OV (.bool x200.2) rfl (x_assign) ?_
   refine ONR ?_
   refine OV v188 rfl (x_move) ?_
   obtain ⟨x205, ha206, hm⟩ := bndE hm
   obtain ⟨hz207, ha211⟩ := idxE ha206
   obtain ⟨b208, q209, hix210⟩ := rdL_ix (hL.rdO 0 rfl) hz207 ha211
   refine OV (.pointer (some ⟨b208, q209, none⟩)) rfl (x_ix U43 Tryd_T9 rfl rfl hix210) ?_
   refine OV (.string x205) rfl (x_load1 U9 rfl rfl (rdF_cells (hL.rdO 0 rfl) hix210 ha211 0 _ rfl)) ?_
   obtain ⟨x212, hx213, hm⟩ := bndE hm
   refine OW.cons (OP.call rfl (x_call (vs := [(.string x205)]) Tryd_C34 ⟨rfl, trivial⟩) (M.spec_l01Value_ok _ x205 hx213) ?_)
   rintro e214 wd215 ⟨rfl, hF216⟩
   refine ⟨_, rfl, ?_⟩
   have hL := hL.pushAll hF216
   simp only [lA, lB, lC, lD] at hL
   refine OV (.tuple #[(.int .i64 x212.1), (.bool x212.2)]) rfl (x_move) ?_
   refine OV (.int .i64 x212.1) rfl (x_extract rfl rfl) ?_
   refine OV (.bool x212.2) rfl (x_extract rfl rfl) ?_
   refine OV (.int .i64 x212.1) rfl (x_assign) ?_
   refine OV (.bool x212.2) rfl (x_assign) ?_
   refine ONS ?_
   refine CW.seqJ (fun (s_j2 : Bool) (F : Fr) (w : World) => F 0 = (.string a0) ∧ F 4 = v4 ∧ F 5 = v132 ∧ F 6 = (.int .i64 s_l1.2) ∧ F 8 = (.int .i64 x200.1) ∧ F 10 = (.int .i64 x212.1) ∧ F 51 = (.bool s_j2) ∧ Hp w0 [Ent.own 58 S133 v132 s_l1.1, Ent.own 9 S3 v4 x1, Ent.snap w0 w0.heap.size] w) (fun s_j2 => M.spec_ReadCurve_j2 s_l1 x200 x212 s_j2 = some t134) ?_ ?_
   · refine CW.regionL ?_
     refine OV (.bool x200.2) rfl (x_move) ?_
     refine OV (.bool (!x200.2)) rfl (x_not rfl) ?_
     refine OV (.bool (!x200.2)) rfl (x_move) ?_
     refine ifB_elim hm (fun hb235 hm => ?_) (fun hb235 hm => ?_)
     · refine OW.cons (OP.no' rfl rfl hb235 rfl ?_)
       refine OW.cons (OP.no' rfl rfl hb235 rfl ?_)
       refine OV (.bool true) rfl (x_pickT' rfl hb235 rfl) ?_
       refine OW.nil ?_
       have hL := hL.sel [1, 2, 3] (by decide) rfl
       exact ⟨true, hm, ⟨f173, f174, f175, f176, rfl, rfl, rfl, hL⟩⟩
     refine OW.cons (OP.yes' rfl rfl hb235 (OP.val (v := (.bool x212.2)) rfl (x_move) ?_))
     refine OW.cons (OP.yes' rfl rfl hb235 (OP.val (v := (.bool (!x212.2))) rfl (x_not rfl) ?_))
     refine OV (.bool (!x212.2)) rfl (x_pickF' rfl hb235 rfl) ?_
     refine OW.nil ?_
     have hL := hL.sel [1, 2, 3] (by decide) rfl
     exact ⟨!x212.2, hm, ⟨f173, f174, f175, f176, rfl, rfl, rfl, hL⟩⟩
   intro s_j2 F218 wd219 hJ hm
   unfold M.spec_ReadCurve_j2 at hm
   obtain ⟨f220, f221, f222, f223, f224, f225, f226, hL⟩ := hJ
   refine CW.condM (t := s_j2) f226 hm (fun hb227 hm => ?_) (fun hb227 hm => ?_)
   · refine CSR ?_
     refine OV (.slice none 0 0) rfl (x_assign) ?_
     refine OV (.bool false) rfl (x_assign) ?_
     refine OW.nil ?_
     refine CW.ret ?_
     have hL := hL.pushNil CurvePoint 58
     obtain rfl := Option.some.inj hm
     have hm := hr135 _ rfl
     obtain rfl := Option.some.inj hm
     exact RR2 rfl rfl rfl ⟨(.slice none 0 0), None_, rfl, hL.fresh 3 rfl [0] (by decide) (by decide) rfl⟩
   refine CW.skip ?_
   refine CW.regionL ?_
   refine OV v132 rfl (x_mv f222) ?_
   refine OV (.int .i64 x200.1) rfl (x_mv f224) ?_
   refine OV (.int .i64 x212.1) rfl (x_mv f225) ?_
   refine OV (.agg #[(.int .i64 x200.1), (.int .i64 x212.1)]) rfl (x_build Tryd_B58 (ps := [(0, (.int .i64 x200.1)), (1, (.int .i64 x212.1))]) ⟨⟨rfl, rfl⟩, ⟨rfl, rfl⟩, trivial⟩ (by simp [Instr.fill, cells_int, cells_bool, cells_string, cells_agg, cells_slice, cells_pointer])) ?_
   refine OW.cons (S_lit ([(CurvePoint.mk x200.1 x212.1)] : List CurvePoint) hL U30 Tryd_T58 rfl (by decide) (by first | (simp [Instr.fill, madeCells, Value.cells, ev, upd, Flat.enc, Flat.sz]; done) | rfl | kernel_rfl) rfl rfl ?_)
   intro wd228 v229 S230 hL
   obtain ⟨hc234, hm⟩ := chkE hm
   refine OW.cons (S_append (ys := ([(CurvePoint.mk x200.1 x212.1)] : List CurvePoint)) hL 1 rfl U30 Tryd_T58 rfl rfl rfl (hL.rdO 0 rfl) hc234 (by decide) rfl ?_)
   intro wd231 v232 S233 hL
   refine OV v232 rfl (x_assign) ?_
   refine OW.nil ?_
   refine CW.regionL ?_
   refine OV (.int .i64 s_l1.2) rfl (x_mv f223) ?_
   refine OV (.int .i64 (w64 (s_l1.2 + 1))) rfl (x_add rfl rfl) ?_
   refine OV (.int .i64 (w64 (s_l1.2 + 1))) rfl (x_assign) ?_
   refine OW.nil ?_
   have hL := hL.sel [1, 2, 3] (by decide) rfl
   obtain rfl := Option.some.inj hm
   exact ⟨_, rfl, ⟨v232, S233, f220, f221, rfl, rfl, hL⟩⟩
 refine CW.exit ?_
 refine XJ.hit ?_
 obtain rfl := Option.some.inj hm
 exact ⟨_, rfl, ⟨v132, S133, f173, f174, f175, f176, hL⟩⟩

theorem M.impl_IsCurve_ok (w0 : World) (a0 : List CurvePoint) {v1 : Value} (h2 : rdL (· < w0.heap.size) w0 v1 a0) {r : Bool} (hm : M.impl_IsCurve a0 = some r) :
    Calls Tryd.prog 37 #[v1] w0 fun e w' => e = .returned (.bool r) ∧ Fresh w0 w' [] := by
 unfold M.impl_IsCurve at hm
 refine calls_CW (args := [v1]) Tryd.func37 rfl rfl rfl ?_
 have hL := Hp.start w0
 refine CSR ?_
 refine OV (.bool false) rfl (x_assign) ?_
 refine ONS ?_
 refine CSR ?_
 refine OV v1 rfl (x_move) ?_
 refine OV (.int .i64 (a0.length : Int)) rfl (x_lenR U30 rfl (hL.rdS 0 rfl h2)) ?_
 refine OV (.int .i64 0) rfl (x_move) ?_
 refine OW.nil ?_
 obtain ⟨o151, ho152, hm⟩ := bndE hm
 refine CW.loopB (fun (s_l1 : Int) (F : Fr) (w : World) => F 0 = v1 ∧ F 5 = v1 ∧ F 6 = (.int .i64 (a0.length : Int)) ∧ F 7 = (.int .i64 s_l1) ∧ Hp w0 [Ent.snap w0 w0.heap.size] w) (fun o => outc o (fun x => some x) (fun s => M.impl_IsCurve_a1 a0 s) = some r) ho152 hm ⟨rfl, rfl, rfl, rfl, hL⟩ ?_ ?_
 · intro s_l1 F153 wd154 hJ hm
   have hm := outcE hm
   have hm : M.impl_IsCurve_a1 a0 s_l1 = some r := hm
   unfold M.impl_IsCurve_a1 at hm
   obtain ⟨f155, f156, f157, f158, hL⟩ := hJ
   refine CW.seqJ (fun (s_j1 : Bool) (F : Fr) (w : World) => F 2 = (.bool s_j1) ∧ Hp w0 [Ent.snap w0 w0.heap.size] w) (fun s_j1 => M.impl_IsCurve_j1 s_j1 = some r) ?_ ?_
   · refine CW.regionL ?_
     refine OV v1 rfl (x_mv f155) ?_
     refine OV (.int .i64 (a0.length : Int)) rfl (x_lenR U30 rfl (hL.rdS 0 rfl h2)) ?_
     refine OV (.bool (decide (2 ≤ (a0.length : Int)))) rfl (x_geq rfl rfl) ?_
     refine OV (.bool (decide (2 ≤ (a0.length : Int)))) rfl (x_move) ?_
     refine ifB_elim hm (fun hb163 hm => ?_) (fun hb163 hm => ?_)
     · refine OW.cons (OP.yes' rfl rfl hb163 (OP.val (v := v1) rfl (x_mv f155) ?_))
       refine OW.cons (OP.yes' rfl rfl hb163 (OP.val (v := (.int .i64 (a0.length : Int))) rfl (x_lenR U30 rfl (hL.rdS 0 rfl h2)) ?_))
       refine OW.cons (OP.yes' rfl rfl hb163 (OP.val (v := (.bool (decide ((a0.length : Int) ≤ 12)))) rfl (x_leq rfl rfl) ?_))
       refine OV (.bool (decide ((a0.length : Int) ≤ 12))) rfl (x_pickT' rfl hb163 rfl) ?_
       refine OV (.bool (decide ((a0.length : Int) ≤ 12))) rfl (x_assign) ?_
       refine OW.nil ?_
       exact ⟨decide ((a0.length : Int) ≤ 12), hm, ⟨rfl, hL⟩⟩
     refine OW.cons (OP.no' rfl rfl hb163 rfl ?_)
     refine OW.cons (OP.no' rfl rfl hb163 rfl ?_)
     refine OW.cons (OP.no' rfl rfl hb163 rfl ?_)
     refine OV (.bool false) rfl (x_pickF' rfl hb163 rfl) ?_
     refine OV (.bool false) rfl (x_assign) ?_
     refine OW.nil ?_
     exact ⟨false, hm, ⟨rfl, hL⟩⟩
   intro s_j1 F160 wd161 hJ hm
   unfold M.impl_IsCurve_j1 at hm
   obtain ⟨f162, hL⟩ := hJ
   refine CW.ret ?_
   obtain rfl := Option.some.inj hm
   exact RR1 rfl f162 ⟨rfl, hL.fresh 0 rfl [] (by decide) (by decide) rfl⟩
 intro s_l1 F164 wd165 t149 hJ hm hr150
 unfold M.impl_IsCurve_l1 at hm
 obtain ⟨f166, f167, f168, f169, hL⟩ := hJ
 refine CSR ?_
 refine OV (.bool (decide (s_l1 < (a0.length : Int)))) rfl (x_lss f169 f168) ?_
 refine ONS ?_
 refine CW.condM (t := decide (s_l1 < (a0.length : Int))) rfl hm (fun hb170 hm => ?_) (fun hb170 hm => ?_)
 · refine CW.skip ?_
   refine CW.seq ?_
   refine CW.block ?_
   refine CSR ?_
   refine OV (.int .i64 s_l1) rfl (x_mv f169) ?_
   obtain ⟨x171, ha172, hm⟩ := bndE hm
   obtain ⟨hz173, ha177⟩ := idxE ha172
   obtain ⟨b174, q175, hix176⟩ := rdL_ix (hL.rdS 0 rfl h2) hz173 ha177
   refine OV (.pointer (some ⟨b174, q175, none⟩)) rfl (x_ix U30 Tryd_T58 f167 f169 hix176) ?_
   refine OV (.agg #[(.int .i64 x171.Wind), (.int .i64 x171.Pace)]) rfl (x_loadN (cs := [(.int .i64 x171.Wind), (.int .i64 x171.Pace)]) U58 Tryd_T58 rfl rfl (rdF_cells (hL.rdS 0 rfl h2) hix176 ha177)) ?_
   refine OW.cons (S_alloc (cs := #[(.int .i64 0), (.int .i64 0)]) hL Tryd_T58 rfl rfl ?_)
   intro wd178 b179 hL
   refine OV (.int .i64 s_l1) rfl (x_assign) ?_
   refine OW.cons (S_storeN (l := [(.int .i64 x171.Wind), (.int .i64 x171.Pace)]) (cs' := #[(.int .i64 x171.Wind), (.int .i64 x171.Pace)]) hL 0 rfl Tryd_T58 rfl rfl (List.forall_mem_cons.2 ⟨rfl, (List.forall_mem_cons.2 ⟨rfl, (fun _ h => by cases h)⟩)⟩) rfl (Nat.le_of_ble_eq_true rfl) rfl ?_)
   intro wd180 hL
   refine OW.nil ?_
   refine CW.seqJ (fun (s_j2 : Bool) (F : Fr) (w : World) => F 0 = v1 ∧ F 5 = v1 ∧ F 6 = (.int .i64 (a0.length : Int)) ∧ F 7 = (.int .i64 s_l1) ∧ F 47 = (.bool s_j2) ∧ Hp w0 [Ent.blk b179 58 #[(.int .i64 x171.Wind), (.int .i64 x171.Pace)], Ent.snap w0 w0.heap.size] w) (fun s_j2 => M.impl_IsCurve_j2 s_l1 s_j2 = some t149) ?_ ?_
   · refine CW.draw Tryd_mixed ?_
     have hL := hL.call (Mod.drew _)
     refine DW.pre (fuel := 0) (fin := bma 36 68719476735) (C := fun w' => Mod None_ _ w') [0, 1, 2, 3, 4, 5, 6, 7, 8, 9, 10, 11, 12, 13, 14, 15, 16, 17, 18, 19, 20, 21, 22, 23, 24, 25, 26, 27, 28, 29, 30, 31, 32, 33, 34, 35] (Mod.refl _ _) (by kernel_rfl) (by kernel_rfl) ?_
     refine QW.cons rfl (QP.val (v := (.pointer (some ⟨b179, 0, none⟩))) rfl (fun w' hm' => x_fieldAddr (fsz := 1) 0 0 0 U58 rfl Tryd_T2 rfl rfl rfl) ?_)
     refine QW.cons rfl (QP.val (v := (.int .i64 x171.Wind)) rfl (fun w' hm' => x_load1 U2 rfl rfl ((hL.call hm').cellB 0 rfl rfl)) ?_)
     obtain ⟨x216, hx217, hm⟩ := bndE hm
     refine QW.cons rfl (QP.call (v := (.bool x216)) rfl (fun w' hm' => x_call (vs := [(.int .i64 x171.Wind), (.int .i64 0), (.int .i64 1000)]) Tryd_C56 ⟨rfl, rfl, rfl, trivial⟩) (fun w' hm' => (M.impl_within_ok w' x171.Wind 0 1000 hx217).mono (fun e w'' h => ⟨h.1, hm'.trans h.2.mod⟩)) ?_)
     refine QW.cons rfl (QP.val (v := (.bool (!x216))) rfl (fun w' hm' => x_not rfl) ?_)
     refine QW.cons rfl (QP.val (v := (.bool (!x216))) rfl (fun w' hm' => x_move) ?_)
     refine ifB_elim hm (fun hb218 hm => ?_) (fun hb218 hm => ?_)
     · refine QW.cons rfl (QP.no' rfl rfl hb218 rfl ?_)
       refine QW.cons rfl (QP.no' rfl rfl hb218 rfl ?_)
       refine QW.cons rfl (QP.no' rfl rfl hb218 rfl ?_)
       refine QW.cons rfl (QP.no' rfl rfl hb218 rfl ?_)
       refine QW.cons rfl (QP.val (v := (.bool true)) rfl (fun w' hm' => x_pickT' rfl hb218 rfl) ?_)
       refine QW.cons rfl (QP.val (v := (.bool true)) rfl (fun w' hm' => x_move) ?_)
       refine QW.cons rfl (QP.no' rfl rfl rfl rfl ?_)
       refine QW.cons rfl (QP.no' rfl rfl rfl rfl ?_)
       refine QW.cons rfl (QP.no' rfl rfl rfl rfl ?_)
       refine QW.cons rfl (QP.noU rfl rfl rfl ?_)
       refine QW.cons rfl (QP.noU rfl rfl rfl ?_)
       refine QW.cons rfl (QP.noU rfl rfl rfl ?_)
       refine QW.cons rfl (QP.noU rfl rfl rfl ?_)
       refine QW.cons rfl (QP.noU rfl rfl rfl ?_)
       refine QW.cons rfl (QP.noU rfl rfl rfl ?_)
       refine QW.cons rfl (QP.noU rfl rfl rfl ?_)
       refine QW.cons rfl (QP.noU rfl rfl rfl ?_)
       refine QW.cons rfl (QP.noU rfl rfl rfl ?_)
       refine QW.cons rfl (QP.noU rfl rfl rfl ?_)
       refine QW.cons rfl (QP.noU rfl rfl rfl ?_)
       refine QW.cons rfl (QP.noU rfl rfl rfl ?_)
       refine QW.cons rfl (QP.noU rfl rfl rfl ?_)
       refine QW.cons rfl (QP.noU rfl rfl rfl ?_)
       refine QW.cons rfl (QP.noU rfl rfl rfl ?_)
       refine QW.cons rfl (QP.noU rfl rfl rfl ?_)
       refine QW.cons rfl (QP.noU rfl rfl rfl ?_)
       refine QW.cons rfl (QP.noU rfl rfl rfl ?_)
       refine QW.cons rfl (QP.noU rfl rfl rfl ?_)
       refine QW.cons rfl (QP.noU rfl rfl rfl ?_)
       refine QW.cons rfl (QP.no' rfl rfl rfl rfl ?_)
       refine QW.cons rfl (QP.val (v := (.bool true)) rfl (fun w' hm' => x_pickT' rfl rfl rfl) ?_)
       refine QW.nil ?_
       intro wd219 hmod
       have hL := hL.call hmod
       refine DW.done (by kernel_rfl) ?_
       exact ⟨true, hm, ⟨f166, f167, f168, f169, rfl, hL⟩⟩
     refine QW.cons rfl (QP.yes' rfl rfl hb218 (QP.val (v := (.pointer (some ⟨b179, 1, none⟩))) rfl (fun w' hm' => x_fieldAddr (fsz := 1) 0 1 1 U58 rfl Tryd_T2 rfl rfl rfl) ?_))
     refine QW.cons rfl (QP.yes' rfl rfl hb218 (QP.val (v := (.int .i64 x171.Pace)) rfl (fun w' hm' => x_load1 U2 rfl rfl ((hL.call hm').cellB 0 rfl rfl)) ?_))
     obtain ⟨x220, hx221, hm⟩ := bndE hm
     refine QW.cons rfl (QP.yes' rfl rfl hb218 (QP.call (v := (.bool x220)) rfl (fun w' hm' => x_call (vs := [(.int .i64 x171.Pace), (.int .i64 1), (.int .i64 1000000)]) Tryd_C56 ⟨rfl, rfl, rfl, trivial⟩) (fun w' hm' => (M.impl_within_ok w' x171.Pace 1 1000000 hx221).mono (fun e w'' h => ⟨h.1, hm'.trans h.2.mod⟩)) ?_))
     refine QW.cons rfl (QP.yes' rfl rfl hb218 (QP.val (v := (.bool (!x220))) rfl (fun w' hm' => x_not rfl) ?_))
     refine QW.cons rfl (QP.val (v := (.bool (!x220))) rfl (fun w' hm' => x_pickF' rfl hb218 rfl) ?_)
     refine QW.cons rfl (QP.val (v := (.bool (!x220))) rfl (fun w' hm' => x_move) ?_)
     refine ifB_elim hm (fun hb222 hm => ?_) (fun hb222 hm => ?_)
     · refine QW.cons rfl (QP.no' rfl rfl hb222 rfl ?_)
       refine QW.cons rfl (QP.no' rfl rfl hb222 rfl ?_)
       refine QW.cons rfl (QP.no' rfl rfl hb222 rfl ?_)
       refine QW.cons rfl (QP.noU rfl rfl rfl ?_)
       refine QW.cons rfl (QP.noU rfl rfl rfl ?_)
       refine QW.cons rfl (QP.noU rfl rfl rfl ?_)
       refine QW.cons rfl (QP.noU rfl rfl rfl ?_)
       refine QW.cons rfl (QP.noU rfl rfl rfl ?_)
       refine QW.cons rfl (QP.noU rfl rfl rfl ?_)
       refine QW.cons rfl (QP.noU rfl rfl rfl ?_)
       refine QW.cons rfl (QP.noU rfl rfl rfl ?_)
       refine QW.cons rfl (QP.noU rfl rfl rfl ?_)
       refine QW.cons rfl (QP.noU rfl rfl rfl ?_)
       refine QW.cons rfl (QP.noU rfl rfl rfl ?_)
       refine QW.cons rfl (QP.noU rfl rfl rfl ?_)
       refine QW.cons rfl (QP.noU rfl rfl rfl ?_)
       refine QW.cons rfl (QP.noU rfl rfl rfl ?_)
       refine QW.cons rfl (QP.noU rfl rfl rfl ?_)
       refine QW.cons rfl (QP.noU rfl rfl rfl ?_)
       refine QW.cons rfl (QP.noU rfl rfl rfl ?_)
       refine QW.cons rfl (QP.noU rfl rfl rfl ?_)
       refine QW.cons rfl (QP.noU rfl rfl rfl ?_)
       refine QW.cons rfl (QP.noU rfl rfl rfl ?_)
       refine QW.cons rfl (QP.no' rfl rfl hb222 rfl ?_)
       refine QW.cons rfl (QP.val (v := (.bool true)) rfl (fun w' hm' => x_pickT' rfl hb222 rfl) ?_)
       refine QW.nil ?_
       intro wd223 hmod
       have hL := hL.call hmod
       refine DW.done (by kernel_rfl) ?_
       exact ⟨true, hm, ⟨f166, f167, f168, f169, rfl, hL⟩⟩
     refine QW.cons rfl (QP.yes' rfl rfl hb222 (QP.val (v := (.int .i64 s_l1)) rfl (fun w' hm' => x_move) ?_))
     refine QW.cons rfl (QP.yes' rfl rfl hb222 (QP.val (v := (.bool (decide (0 < s_l1)))) rfl (fun w' hm' => x_gtr rfl rfl) ?_))
     refine QW.cons rfl (QP.yes' rfl rfl hb222 (QP.val (v := (.bool (decide (0 < s_l1)))) rfl (fun w' hm' => x_move) ?_))
     refine ifB_elim hm (fun hb224 hm => ?_) (fun hb224 hm => ?_)
     · refine QW.cons rfl (QP.yes' rfl rfl hb224 (QP.val (v := v1) rfl (fun w' hm' => x_mv f166) ?_))
       refine QW.cons rfl (QP.yes' rfl rfl hb224 (QP.val (v := (.int .i64 s_l1)) rfl (fun w' hm' => x_move) ?_))
       refine QW.cons rfl (QP.yes' rfl rfl hb224 (QP.val (v := (.int .i64 (w64 (s_l1 - 1)))) rfl (fun w' hm' => x_sub rfl rfl) ?_))
       obtain ⟨x225, ha226, hm⟩ := bndE hm
       obtain ⟨hz227, ha231⟩ := idxE ha226
       obtain ⟨b228, q229, hix230⟩ := rdL_ix (hL.rdS 1 rfl h2) hz227 ha231
       refine QW.cons rfl (QP.yes' rfl rfl hb224 (QP.val (v := (.pointer (some ⟨b228, q229, none⟩))) rfl (fun w' hm' => x_ix U30 Tryd_T58 rfl rfl hix230) ?_))
       refine QW.cons rfl (QP.yes' rfl rfl hb224 (QP.val (v := (.pointer (some ⟨b228, q229, none⟩))) rfl (fun w' hm' => x_fieldAddr (fsz := 1) q229 0 q229 U58 rfl Tryd_T2 rfl rfl rfl) ?_))
       refine QW.cons rfl (QP.yes' rfl rfl hb224 (QP.val (v := (.int .i64 x225.Wind)) rfl (fun w' hm' => x_load1 U2 rfl rfl (rdF_cells ((hL.call hm').rdS 1 rfl h2) hix230 ha231 0 _ rfl)) ?_))
       refine QW.cons rfl (QP.yes' rfl rfl hb224 (QP.val (v := (.pointer (some ⟨b179, 0, none⟩))) rfl (fun w' hm' => x_fieldAddr (fsz := 1) 0 0 0 U58 rfl Tryd_T2 rfl rfl rfl) ?_))
       refine QW.cons rfl (QP.yes' rfl rfl hb224 (QP.val (v := (.int .i64 x171.Wind)) rfl (fun w' hm' => x_load1 U2 rfl rfl ((hL.call hm').cellB 0 rfl rfl)) ?_))
       refine QW.cons rfl (QP.yes' rfl rfl hb224 (QP.val (v := (.bool (decide (x171.Wind ≤ x225.Wind)))) rfl (fun w' hm' => x_geq rfl rfl) ?_))
       refine QW.cons rfl (QP.yes' rfl rfl hb224 (QP.val (v := (.bool (decide (x171.Wind ≤ x225.Wind)))) rfl (fun w' hm' => x_move) ?_))
       refine ifB_elim hm (fun hb232 hm => ?_) (fun hb232 hm => ?_)
       · refine QW.cons rfl (QP.no' rfl rfl hb232 rfl ?_)
         refine QW.cons rfl (QP.no' rfl rfl hb232 rfl ?_)
         refine QW.cons rfl (QP.no' rfl rfl hb232 rfl ?_)
         refine QW.cons rfl (QP.no' rfl rfl hb232 rfl ?_)
         refine QW.cons rfl (QP.no' rfl rfl hb232 rfl ?_)
         refine QW.cons rfl (QP.no' rfl rfl hb232 rfl ?_)
         refine QW.cons rfl (QP.no' rfl rfl hb232 rfl ?_)
         refine QW.cons rfl (QP.no' rfl rfl hb232 rfl ?_)
         refine QW.cons rfl (QP.no' rfl rfl hb232 rfl ?_)
         refine QW.cons rfl (QP.yes' rfl rfl hb224 (QP.val (v := (.bool true)) rfl (fun w' hm' => x_pickT' rfl hb232 rfl) ?_))
         refine QW.cons rfl (QP.yes' rfl rfl hb222 (QP.val (v := (.bool true)) rfl (fun w' hm' => x_pickT' rfl hb224 rfl) ?_))
         refine QW.cons rfl (QP.val (v := (.bool true)) rfl (fun w' hm' => x_pickF' rfl hb222 rfl) ?_)
         refine QW.nil ?_
         intro wd233 hmod
         have hL := hL.call hmod
         refine DW.done (by kernel_rfl) ?_
         exact ⟨true, hm, ⟨f166, f167, f168, f169, rfl, hL⟩⟩
       refine QW.cons rfl (QP.yes' rfl rfl hb232 (QP.val (v := v1) rfl (fun w' hm' => x_mv f166) ?_))
       refine QW.cons rfl (QP.yes' rfl rfl hb232 (QP.val (v := (.int .i64 s_l1)) rfl (fun w' hm' => x_move) ?_))
       refine QW.cons rfl (QP.yes' rfl rfl hb232 (QP.val (v := (.int .i64 (w64 (s_l1 - 1)))) rfl (fun w' hm' => x_sub rfl rfl) ?_))
       obtain ⟨x234, ha235, hm⟩ := bndE hm
       obtain ⟨hz236, ha240⟩ := idxE ha235
       obtain ⟨b237, q238, hix239⟩ := rdL_ix (hL.rdS 1 rfl h2) hz236 ha240
       refine QW.cons rfl (QP.yes' rfl rfl hb232 (QP.val (v := (.pointer (some ⟨b237, q238, none⟩))) rfl (fun w' hm' => x_ix U30 Tryd_T58 rfl rfl hix239) ?_))
       refine QW.cons rfl (QP.yes' rfl rfl hb232 (QP.val (v := (.pointer (some ⟨b237, q238 + 1, none⟩))) rfl (fun w' hm' => x_fieldAddr (fsz := 1) q238 1 (q238 + 1) U58 rfl Tryd_T2 rfl rfl rfl) ?_))
       refine QW.cons rfl (QP.yes' rfl rfl hb232 (QP.val (v := (.int .i64 x234.Pace)) rfl (fun w' hm' => x_load1 U2 rfl rfl (rdF_cells ((hL.call hm').rdS 1 rfl h2) hix239 ha240 1 _ rfl)) ?_))
       refine QW.cons rfl (QP.yes' rfl rfl hb232 (QP.val (v := (.pointer (some ⟨b179, 1, none⟩))) rfl (fun w' hm' => x_fieldAddr (fsz := 1) 0 1 1 U58 rfl Tryd_T2 rfl rfl rfl) ?_))
       refine QW.cons rfl (QP.yes' rfl rfl hb232 (QP.val (v := (.int .i64 x171.Pace)) rfl (fun w' hm' => x_load1 U2 rfl rfl ((hL.call hm').cellB 0 rfl rfl)) ?_))
       refine QW.cons rfl (QP.yes' rfl rfl hb232 (QP.val (v := (.bool (decide (x234.Pace ≤ x171.Pace)))) rfl (fun w' hm' => x_leq rfl rfl) ?_))
       refine QW.cons rfl (QP.yes' rfl rfl hb224 (QP.val (v := (.bool (decide (x234.Pace ≤ x171.Pace)))) rfl (fun w' hm' => x_pickF' rfl hb232 rfl) ?_))
       refine QW.cons rfl (QP.yes' rfl rfl hb222 (QP.val (v := (.bool (decide (x234.Pace ≤ x171.Pace)))) rfl (fun w' hm' => x_pickT' rfl hb224 rfl) ?_))
       refine QW.cons rfl (QP.val (v := (.bool (decide (x234.Pace ≤ x171.Pace)))) rfl (fun w' hm' => x_pickF' rfl hb222 rfl) ?_)
       refine QW.nil ?_
       intro wd241 hmod
       have hL := hL.call hmod
       refine DW.done (by kernel_rfl) ?_
       exact ⟨decide (x234.Pace ≤ x171.Pace), hm, ⟨f166, f167, f168, f169, rfl, hL⟩⟩
     refine QW.cons rfl (QP.no' rfl rfl hb224 rfl ?_)
     refine QW.cons rfl (QP.no' rfl rfl hb224 rfl ?_)
     refine QW.cons rfl (QP.no' rfl rfl hb224 rfl ?_)
     refine QW.cons rfl (QP.no' rfl rfl hb224 rfl ?_)
     refine QW.cons rfl (QP.no' rfl rfl hb224 rfl ?_)
     refine QW.cons rfl (QP.no' rfl rfl hb224 rfl ?_)
     refine QW.cons rfl (QP.no' rfl rfl hb224 rfl ?_)
     refine QW.cons rfl (QP.no' rfl rfl hb224 rfl ?_)
     refine QW.cons rfl (QP.no' rfl rfl hb224 rfl ?_)
     refine QW.cons rfl (QP.no' rfl rfl hb224 rfl ?_)
     refine QW.cons rfl (QP.noU rfl rfl rfl ?_)
     refine QW.cons rfl (QP.noU rfl rfl rfl ?_)
     refine QW.cons rfl (QP.noU rfl rfl rfl ?_)
     refine QW.cons rfl (QP.noU rfl rfl rfl ?_)
     refine QW.cons rfl (QP.noU rfl rfl rfl ?_)
     refine QW.cons rfl (QP.noU rfl rfl rfl ?_)
     refine QW.cons rfl (QP.noU rfl rfl rfl ?_)
     refine QW.cons rfl (QP.noU rfl rfl rfl ?_)
     refine QW.cons rfl (QP.noU rfl rfl rfl ?_)
     refine QW.cons rfl (QP.no' rfl rfl hb224 rfl ?_)
     refine QW.cons rfl (QP.yes' rfl rfl hb222 (QP.val (v := (.bool false)) rfl (fun w' hm' => x_pickF' rfl hb224 rfl) ?_))
     refine QW.cons rfl (QP.val (v := (.bool false)) rfl (fun w' hm' => x_pickF' rfl hb222 rfl) ?_)
     refine QW.nil ?_
     intro wd242 hmod
     have hL := hL.call hmod
     refine DW.done (by kernel_rfl) ?_
     exact ⟨false, hm, ⟨f166, f167, f168, f169, rfl, hL⟩⟩
   intro s_j2 F208 wd209 hJ hm
   unfold M.impl_IsCurve_j2 at hm
   obtain ⟨f210, f211, f212, f213, f214, hL⟩ := hJ
   refine CW.condM (t := s_j2) f214 hm (fun hb215 hm => ?_) (fun hb215 hm => ?_)
   · refine CSR ?_
     refine OV (.bool false) rfl (x_assign) ?_
     refine OW.nil ?_
     refine CW.ret ?_
     obtain rfl := Option.some.inj hm
     have hm := hr150 _ rfl
     obtain rfl := Option.some.inj hm
     exact RR1 rfl rfl ⟨rfl, hL.fresh 1 rfl [] (by decide) (by decide) rfl⟩
   refine CW.skip ?_
   refine CW.regionL ?_
   refine OV (.int .i64 (w64 (s_l1 + 1))) rfl (x_add f213 rfl) ?_
   refine OV (.int .i64 (w64 (s_l1 + 1))) rfl (x_move) ?_
   refine OW.nil ?_
   have hL := hL.sel [1] (by decide) rfl
   obtain rfl := Option.some.inj hm
   exact ⟨_, rfl, ⟨f210, f211, f212, rfl, hL⟩⟩
 refine CW.exit ?_
 refine XJ.hit ?_
 obtain rfl := Option.some.inj hm
 exact ⟨_, rfl, ⟨f166, f167, f168, f169, hL⟩⟩

theorem M.impl_ReadCurve_ok (w0 : World) (htab : TabsR Tryd.prog (cutLaid_ren.g 1) (parseLaid_ren.g 15) (parseLaid_ren.g 16) w0) (a0 : ByteArray) {r : (List CurvePoint) × Bool} (hm : M.impl_ReadCurve a0 = some r) :
    Calls Tryd.prog 12 #[(.string a0)] w0 fun e w' => ∃ (rv0 : Value) (rS0 : Nat → Prop), e = .returned (.tuple #[rv0, (.bool r.2)]) ∧ Fresh w0 w' [Ent.own 58 rS0 rv0 r.1] := by
 unfold M.impl_ReadCurve at hm
 refine calls_CW (args := [(.string a0)]) Tryd.func12 rfl rfl rfl ?_
 have hL := Hp.start w0
 refine CSR ?_
 refine OV (.slice none 0 0) rfl (x_assign) ?_
 refine OV (.bool false) rfl (x_assign) ?_
 refine ONR ?_
 refine OW.cons (S_lit ([] : List CurvePoint) hL U30 Tryd_T58 rfl (by decide) (by first | (simp [Instr.fill, madeCells, Value.cells, ev, upd, Flat.enc, Flat.sz]; done) | rfl | kernel_rfl) rfl rfl ?_)
 intro wd1 v2 S3 hL
 refine OV v2 rfl (x_assign) ?_
 refine ONS ?_
 refine CSR ?_
 refine OV (.string a0) rfl (x_move) ?_
 obtain ⟨x4, hx5, hm⟩ := bndE hm
 refine OW.cons (OP.call rfl (x_call (vs := [(.string a0)]) Tryd_C25 ⟨rfl, trivial⟩) (M.impl_wordsOf_ok _ (hL.tabR 1 rfl rfl htab) a0 hx5) ?_)
 rintro e8 wd9 ⟨v7, S6, rfl, hF10⟩
 refine ⟨_, rfl, ?_⟩
 have hL := hL.pushAll hF10
 simp only [lA, lB, lC, lD] at hL
 refine OV (.int .i64 (x4.length : Int)) rfl (x_lenR U43 rfl (hL.rdO 0 rfl)) ?_
 refine OV (.int .i64 0) rfl (x_move) ?_
 refine OW.nil ?_
 obtain ⟨o101, ho102, hm⟩ := bndE hm
 have hL := hL.sel [1, 0, 2] (by decide) rfl
 refine CW.loopB (fun (s_l1 : (List CurvePoint) × Int) (F : Fr) (w : World) => ∃ (v97 : Value) (S98 : Nat → Prop), F 4 = v97 ∧ F 16 = v7 ∧ F 17 = (.int .i64 (x4.length : Int)) ∧ F 18 = (.int .i64 s_l1.2) ∧ Hp w0 [Ent.own 58 S98 v97 s_l1.1, Ent.own 9 S6 v7 x4, Ent.snap w0 w0.heap.size] w) (fun o => outc o (fun x => some x) (fun s => M.impl_ReadCurve_a1 s) = some r) ho102 hm ⟨v2, S3, rfl, rfl, rfl, rfl, hL⟩ ?_ ?_
 · intro s_l1 F103 wd104 hJ hm
   have hm := outcE hm
   have hm : M.impl_ReadCurve_a1 s_l1 = some r := hm
   unfold M.impl_ReadCurve_a1 at hm
   obtain ⟨v97, S98, f105, f106, f107, f108, hL⟩ := hJ
   refine CW.seq ?_
   refine CSR ?_
   refine OV v97 rfl (x_mv f105) ?_
   obtain ⟨x109, hx110, hm⟩ := bndE hm
   refine OW.cons (OP.call rfl (x_call (vs := [v97]) Tryd_C37 ⟨rfl, trivial⟩) (M.impl_IsCurve_ok _ s_l1.1 (hL.rdO 0 rfl) hx110) ?_)
   rintro e111 wd112 ⟨rfl, hF113⟩
   refine ⟨_, rfl, ?_⟩
   have hL := hL.pushAll hF113
   simp only [lA, lB, lC, lD] at hL
   refine OV (.bool (!x109)) rfl (x_not rfl) ?_
   refine OW.nil ?_
   refine CW.condM (t := !x109) rfl hm (fun hb114 hm => ?_) (fun hb114 hm => ?_)
   · refine CSR ?_
     refine OV (.slice none 0 0) rfl (x_assign) ?_
     refine OV (.bool false) rfl (x_assign) ?_
     refine OW.nil ?_
     refine CW.ret ?_
     have hL := hL.pushNil CurvePoint 58
     obtain rfl := Option.some.inj hm
     exact RR2 rfl rfl rfl ⟨(.slice none 0 0), None_, rfl, hL.fresh 3 rfl [0] (by decide) (by decide) rfl⟩
   refine CW.skip ?_
   refine CSR ?_
   refine OV v97 rfl (x_mv f105) ?_
   refine OV v97 rfl (x_assign) ?_
   refine OV (.bool true) rfl (x_assign) ?_
   refine OW.nil ?_
   refine CW.ret ?_
   obtain rfl := Option.some.inj hm
   exact RR2 rfl rfl rfl ⟨v97, S98, rfl, hL.fresh 2 rfl [0] (by decide) (by decide) rfl⟩
 intro s_l1 F115 wd116 t99 hJ hm hr100
 unfold M.impl_ReadCurve_l1 at hm
 obtain ⟨v97, S98, f117, f118, f119, f120, hL⟩ := hJ
 refine CSR ?_
 refine OV (.bool (decide (s_l1.2 < (x4.length : Int)))) rfl (x_lss f120 f119) ?_
 refine ONS ?_
 refine CW.condM (t := decide (s_l1.2 < (x4.length : Int))) rfl hm (fun hb121 hm => ?_) (fun hb121 hm => ?_)
 · refine CW.skip ?_
   refine CW.seq ?_
   refine CW.block ?_
   refine CSR ?_
   obtain ⟨x122, ha123, hm⟩ := bndE hm
   obtain ⟨hz124, ha128⟩ := idxE ha123
   obtain ⟨b125, q126, hix127⟩ := rdL_ix (hL.rdO 1 rfl) hz124 ha128
   refine OV (.pointer (some ⟨b125, q126, none⟩)) rfl (x_ix U43 Tryd_T9 f118 f120 hix127) ?_
   refine OV (.string x122) rfl (x_load1 U9 rfl rfl (rdF_cells (hL.rdO 1 rfl) hix127 ha128 0 _ rfl)) ?_
   refine OV (.string x122) rfl (x_assign) ?_
   refine ONR ?_
   refine OV (.string x122) rfl (x_move) ?_
   obtain ⟨x129, hx130, hm⟩ := bndE hm
   refine OW.cons (OP.call rfl (x_call (vs := [(.string x122), (.string (⟨#[58]⟩ : ByteArray))]) Tryd_C26 ⟨rfl, rfl, trivial⟩) (M.strings_Cut_ok _ (hL.tabR 2 rfl rfl htab) x122 (⟨#[58]⟩ : ByteArray) hx130) ?_)
   rintro e131 wd132 ⟨rfl, hF133⟩
   refine ⟨_, rfl, ?_⟩
   have hL := hL.pushAll hF133
   simp only [lA, lB, lC, lD] at hL
   refine OV (.tuple #[(.string x129.1), (.string x129.2.1), (.bool x129.2.2)]) rfl (x_move) ?_
   refine OV (.string x129.1) rfl (x_extract rfl rfl) ?_
   refine OV (.string x129.2.1) rfl (x_extract rfl rfl) ?_
   refine OV (.bool x129.2.2) rfl (x_extract rfl rfl) ?_
   refine OV (.string x129.1) rfl (x_assign) ?_
   refine OV (.string x129.2.1) rfl (x_assign) ?_
   refine OV (.bool x129.2.2) rfl (x_assign) ?_
   refine ONR ?_
   refine OV (.string x129.1) rfl (x_move) ?_
   obtain ⟨x134, hx135, hm⟩ := bndE hm
   refine OW.cons (OP.call rfl (x_call (vs := [(.string x129.1)]) Tryd_C28 ⟨rfl, trivial⟩) (M.impl_number_ok _ (hL.tabR 2 rfl rfl htab) x129.1 hx135) ?_)
   rintro e136 wd137 ⟨rfl, hF138⟩
   refine ⟨_, rfl, ?_⟩
   have hL := hL.pushAll hF138
   simp only [lA, lB, lC, lD] at hL
   refine OV (.tuple #[(.int .i64 x134.1), (.bool x134.2)]) rfl (x_move) ?_
   refine OV (.int .i64 x134.1) rfl (x_extract rfl rfl) ?_
   refine OV (.bool x134.2) rfl (x_extract rfl rfl) ?_
   refine OV (.int .i64 x134.1) rfl (x_assign) ?_
   refine OV (.bool x134.2) rfl (x_assign) ?_
   refine ONR ?_
   refine OV (.string x129.2.1) rfl (x_move) ?_
   obtain ⟨x139, hx140, hm⟩ := bndE hm
   refine OW.cons (OP.call rfl (x_call (vs := [(.string x129.2.1)]) Tryd_C28 ⟨rfl, trivial⟩) (M.impl_number_ok _ (hL.tabR 2 rfl rfl htab) x129.2.1 hx140) ?_)
   rintro e141 wd142 ⟨rfl, hF143⟩
   refine ⟨_, rfl, ?_⟩
   have hL := hL.pushAll hF143
   simp only [lA, lB, lC, lD] at hL
   refine OV (.tuple #[(.int .i64 x139.1), (.bool x139.2)]) rfl (x_move) ?_
   refine OV (.int .i64 x139.1) rfl (x_extract rfl rfl) ?_
   refine OV (.bool x139.2) rfl (x_extract rfl rfl) ?_
   refine OV (.int .i64 x139.1) rfl (x_assign) ?_
   refine OV (.bool x139.2) rfl (x_assign) ?_
   refine ONS ?_
   refine CW.seqJ (fun (s_j1 : Bool) (F : Fr) (w : World) => F 4 = v97 ∧ F 10 = (.int .i64 x134.1) ∧ F 12 = (.int .i64 x139.1) ∧ F 16 = v7 ∧ F 17 = (.int .i64 (x4.length : Int)) ∧ F 18 = (.int .i64 s_l1.2) ∧ F 43 = (.bool s_j1) ∧ Hp w0 [Ent.own 58 S98 v97 s_l1.1, Ent.own 9 S6 v7 x4, Ent.snap w0 w0.heap.size] w) (fun s_j1 => M.impl_ReadCurve_j1 s_l1 x134 x139 s_j1 = some t99) ?_ ?_
   · refine CW.regionL ?_
     refine OV (.bool x134.2) rfl (x_move) ?_
     refine OV (.bool (!x134.2)) rfl (x_not rfl) ?_
     refine OV (.bool (!x134.2)) rfl (x_move) ?_
     refine ifB_elim hm (fun hb162 hm => ?_) (fun hb162 hm => ?_)
     · refine OW.cons (OP.no' rfl rfl hb162 rfl ?_)
       refine OW.cons (OP.no' rfl rfl hb162 rfl ?_)
       refine OV (.bool true) rfl (x_pickT' rfl hb162 rfl) ?_
       refine OW.nil ?_
       exact ⟨true, hm, ⟨f117, rfl, rfl, f118, f119, f120, rfl, hL⟩⟩
     refine OW.cons (OP.yes' rfl rfl hb162 (OP.val (v := (.bool x139.2)) rfl (x_move) ?_))
     refine OW.cons (OP.yes' rfl rfl hb162 (OP.val (v := (.bool (!x139.2))) rfl (x_not rfl) ?_))
     refine OV (.bool (!x139.2)) rfl (x_pickF' rfl hb162 rfl) ?_
     refine OW.nil ?_
     exact ⟨!x139.2, hm, ⟨f117, rfl, rfl, f118, f119, f120, rfl, hL⟩⟩
   intro s_j1 F145 wd146 hJ hm
   unfold M.impl_ReadCurve_j1 at hm
   obtain ⟨f147, f148, f149, f150, f151, f152, f153, hL⟩ := hJ
   refine CW.condM (t := s_j1) f153 hm (fun hb154 hm => ?_) (fun hb154 hm => ?_)
   · refine CSR ?_
     refine OV (.slice none 0 0) rfl (x_assign) ?_
     refine OV (.bool false) rfl (x_assign) ?_
     refine OW.nil ?_
     refine CW.ret ?_
     have hL := hL.pushNil CurvePoint 58
     obtain rfl := Option.some.inj hm
     have hm := hr100 _ rfl
     obtain rfl := Option.some.inj hm
     exact RR2 rfl rfl rfl ⟨(.slice none 0 0), None_, rfl, hL.fresh 3 rfl [0] (by decide) (by decide) rfl⟩
   refine CW.skip ?_
   refine CW.regionL ?_
   refine OV v97 rfl (x_mv f147) ?_
   refine OV (.int .i64 x134.1) rfl (x_mv f148) ?_
   refine OV (.int .i64 x139.1) rfl (x_mv f149) ?_
   refine OV (.agg #[(.int .i64 x134.1), (.int .i64 x139.1)]) rfl (x_build Tryd_B58 (ps := [(0, (.int .i64 x134.1)), (1, (.int .i64 x139.1))]) ⟨⟨rfl, rfl⟩, ⟨rfl, rfl⟩, trivial⟩ (by simp [Instr.fill, cells_int, cells_bool, cells_string, cells_agg, cells_slice, cells_pointer])) ?_
   refine OW.cons (S_lit ([(CurvePoint.mk x134.1 x139.1)] : List CurvePoint) hL U30 Tryd_T58 rfl (by decide) (by first | (simp [Instr.fill, madeCells, Value.cells, ev, upd, Flat.enc, Flat.sz]; done) | rfl | kernel_rfl) rfl rfl ?_)
   intro wd155 v156 S157 hL
   obtain ⟨hc161, hm⟩ := chkE hm
   refine OW.cons (S_append (ys := ([(CurvePoint.mk x134.1 x139.1)] : List CurvePoint)) hL 1 rfl U30 Tryd_T58 rfl rfl rfl (hL.rdO 0 rfl) hc161 (by decide) rfl ?_)
   intro wd158 v159 S160 hL
   refine OV v159 rfl (x_assign) ?_
   refine OW.nil ?_
   refine CW.regionL ?_
   refine OV (.int .i64 (w64 (s_l1.2 + 1))) rfl (x_add f152 rfl) ?_
   refine OV (.int .i64 (w64 (s_l1.2 + 1))) rfl (x_move) ?_
   refine OW.nil ?_
   have hL := hL.sel [1, 2, 3] (by decide) rfl
   obtain rfl := Option.some.inj hm
   exact ⟨_, rfl, ⟨v159, S160, rfl, f150, f151, rfl, hL⟩⟩
 refine CW.exit ?_
 refine XJ.hit ?_
 obtain rfl := Option.some.inj hm
 exact ⟨_, rfl, ⟨v97, S98, f117, f118, f119, f120, hL⟩⟩

theorem M.laws_eqCurvePoint_ok (w0 : World) (a0 : CurvePoint) (a1 : CurvePoint) {r : Bool} (hm : M.laws_eqCurvePoint a0 a1 = some r) :
    Calls Tryd.prog 38 #[(.agg #[(.int .i64 a0.Wind), (.int .i64 a0.Pace)]), (.agg #[(.int .i64 a1.Wind), (.int .i64 a1.Pace)])] w0 fun e w' => e = .returned (.bool r) ∧ Fresh w0 w' [] := by
 unfold M.laws_eqCurvePoint at hm
 refine calls_CW (args := [(.agg #[(.int .i64 a0.Wind), (.int .i64 a0.Pace)]), (.agg #[(.int .i64 a1.Wind), (.int .i64 a1.Pace)])]) Tryd.func38 rfl rfl rfl ?_
 have hL := Hp.start w0
 refine CSR ?_
 refine OW.cons (S_box (cs := #[(.int .i64 a0.Wind), (.int .i64 a0.Pace)]) hL rfl rfl rfl ?_)
 intro wd1 b2 hL
 refine OW.cons (S_box (cs := #[(.int .i64 a1.Wind), (.int .i64 a1.Pace)]) hL rfl rfl rfl ?_)
 intro wd3 b4 hL
 refine OV (.bool false) rfl (x_assign) ?_
 refine ONS ?_
 refine CSR ?_
 refine OV (.pointer (some ⟨b2, 0, none⟩)) rfl (x_fieldAddr (fsz := 1) 0 0 0 U58 rfl Tryd_T2 rfl rfl rfl) ?_
 refine OV (.int .i64 a0.Wind) rfl (x_load1 U2 rfl rfl (hL.cellB 1 rfl rfl)) ?_
 refine OV (.pointer (some ⟨b4, 0, none⟩)) rfl (x_fieldAddr (fsz := 1) 0 0 0 U58 rfl Tryd_T2 rfl rfl rfl) ?_
 refine OV (.int .i64 a1.Wind) rfl (x_load1 U2 rfl rfl (hL.cellB 0 rfl rfl)) ?_
 refine OV (.bool (a0.Wind != a1.Wind)) rfl (x_neq rfl rfl) ?_
 refine OW.nil ?_
 refine CW.condM (t := a0.Wind != a1.Wind) rfl hm (fun hb5 hm => ?_) (fun hb5 hm => ?_)
 · refine CSR ?_
   refine OV (.bool false) rfl (x_assign) ?_
   refine OW.nil ?_
   refine CW.ret ?_
   obtain rfl := Option.some.inj hm
   exact RR1 rfl rfl ⟨rfl, hL.fresh 2 rfl [] (by decide) (by decide) rfl⟩
 refine CW.skip ?_
 refine CW.seq ?_
 refine CSR ?_
 refine OV (.pointer (some ⟨b2, 1, none⟩)) rfl (x_fieldAddr (fsz := 1) 0 1 1 U58 rfl Tryd_T2 rfl rfl rfl) ?_
 refine OV (.int .i64 a0.Pace) rfl (x_load1 U2 rfl rfl (hL.cellB 1 rfl rfl)) ?_
 refine OV (.pointer (some ⟨b4, 1, none⟩)) rfl (x_fieldAddr (fsz := 1) 0 1 1 U58 rfl Tryd_T2 rfl rfl rfl) ?_
 refine OV (.int .i64 a1.Pace) rfl (x_load1 U2 rfl rfl (hL.cellB 0 rfl rfl)) ?_
 refine OV (.bool (a0.Pace != a1.Pace)) rfl (x_neq rfl rfl) ?_
 refine OW.nil ?_
 refine CW.condM (t := a0.Pace != a1.Pace) rfl hm (fun hb6 hm => ?_) (fun hb6 hm => ?_)
 · refine CSR ?_
   refine OV (.bool false) rfl (x_assign) ?_
   refine OW.nil ?_
   refine CW.ret ?_
   obtain rfl := Option.some.inj hm
   exact RR1 rfl rfl ⟨rfl, hL.fresh 2 rfl [] (by decide) (by decide) rfl⟩
 refine CW.skip ?_
 refine CSR ?_
 refine OV (.bool true) rfl (x_assign) ?_
 refine OW.nil ?_
 refine CW.ret ?_
 obtain rfl := Option.some.inj hm
 exact RR1 rfl rfl ⟨rfl, hL.fresh 2 rfl [] (by decide) (by decide) rfl⟩

theorem M.laws_eqCurvePointS_ok (w0 : World) (a0 : List CurvePoint) {v1 : Value} (h2 : rdL (· < w0.heap.size) w0 v1 a0) (a1 : List CurvePoint) {v3 : Value} (h4 : rdL (· < w0.heap.size) w0 v3 a1) {r : Bool} (hm : M.laws_eqCurvePointS a0 a1 = some r) :
    Calls Tryd.prog 13 #[v1, v3] w0 fun e w' => e = .returned (.bool r) ∧ Fresh w0 w' [] := by
 unfold M.laws_eqCurvePointS at hm
 refine calls_CW (args := [v1, v3]) Tryd.func13 rfl rfl rfl ?_
 have hL := Hp.start w0
 refine CSR ?_
 refine OV (.bool false) rfl (x_assign) ?_
 refine ONS ?_
 refine CSR ?_
 refine OV v1 rfl (x_move) ?_
 refine OV (.int .i64 (a0.length : Int)) rfl (x_lenR U30 rfl (hL.rdS 0 rfl h2)) ?_
 refine OV v3 rfl (x_move) ?_
 refine OV (.int .i64 (a1.length : Int)) rfl (x_lenR U30 rfl (hL.rdS 0 rfl h4)) ?_
 refine OV (.bool ((a0.length : Int) != (a1.length : Int))) rfl (x_neq rfl rfl) ?_
 refine OW.nil ?_
 refine CW.condM (t := (a0.length : Int) != (a1.length : Int)) rfl hm (fun hb5 hm => ?_) (fun hb5 hm => ?_)
 · refine CSR ?_
   refine OV (.bool false) rfl (x_assign) ?_
   refine OW.nil ?_
   refine CW.ret ?_
   obtain rfl := Option.some.inj hm
   exact RR1 rfl rfl ⟨rfl, hL.fresh 0 rfl [] (by decide) (by decide) rfl⟩
 refine CW.skip ?_
 refine CW.seq ?_
 refine CSR ?_
 refine OV (.int .i64 0) rfl (x_assign) ?_
 refine OW.nil ?_
 obtain ⟨o46, ho47, hm⟩ := bndE hm
 refine CW.loopB (fun (s_l1 : Int) (F : Fr) (w : World) => F 0 = v1 ∧ F 1 = v3 ∧ F 5 = (.int .i64 s_l1) ∧ Hp w0 [Ent.snap w0 w0.heap.size] w) (fun o => outc o (fun x => some x) (fun s => M.laws_eqCurvePointS_a1 s) = some r) ho47 hm ⟨rfl, rfl, rfl, hL⟩ ?_ ?_
 · intro s_l1 F48 wd49 hJ hm
   have hm := outcE hm
   have hm : M.laws_eqCurvePointS_a1 s_l1 = some r := hm
   unfold M.laws_eqCurvePointS_a1 at hm
   obtain ⟨f50, f51, f52, hL⟩ := hJ
   refine CSR ?_
   refine OV (.bool true) rfl (x_assign) ?_
   refine OW.nil ?_
   refine CW.ret ?_
   obtain rfl := Option.some.inj hm
   exact RR1 rfl rfl ⟨rfl, hL.fresh 0 rfl [] (by decide) (by decide) rfl⟩
 intro s_l1 F53 wd54 t44 hJ hm hr45
 unfold M.laws_eqCurvePointS_l1 at hm
 obtain ⟨f55, f56, f57, hL⟩ := hJ
 refine CW.seq ?_
 refine CSR ?_
 refine OV (.int .i64 s_l1) rfl (x_mv f57) ?_
 refine OV v1 rfl (x_mv f55) ?_
 refine OV (.int .i64 (a0.length : Int)) rfl (x_lenR U30 rfl (hL.rdS 0 rfl h2)) ?_
 refine OV (.bool (decide (s_l1 < (a0.length : Int)))) rfl (x_lss rfl rfl) ?_
 refine OW.nil ?_
 refine CW.condM (t := decide (s_l1 < (a0.length : Int))) rfl hm (fun hb58 hm => ?_) (fun hb58 hm => ?_)
 · refine CW.skip ?_
   refine CW.seq ?_
   refine CW.block ?_
   refine CW.seq ?_
   refine CW.draw Tryd_mixed ?_
   have hL := hL.call (Mod.drew _)
   refine DW.pre (fuel := 0) (fin := bma 10 1023) (C := fun w' => Mod None_ _ w') [0, 1, 2, 3, 4, 5, 6, 7, 8, 9] (Mod.refl _ _) (by kernel_rfl) (by kernel_rfl) ?_
   refine QW.cons rfl (QP.val (v := v1) rfl (fun w' hm' => x_mv f55) ?_)
   refine QW.cons rfl (QP.val (v := (.int .i64 s_l1)) rfl (fun w' hm' => x_mv f57) ?_)
   obtain ⟨x59, ha60, hm⟩ := bndE hm
   obtain ⟨hz61, ha65⟩ := idxE ha60
   obtain ⟨b62, q63, hix64⟩ := rdL_ix (hL.rdS 0 rfl h2) hz61 ha65
   refine QW.cons rfl (QP.val (v := (.pointer (some ⟨b62, q63, none⟩))) rfl (fun w' hm' => x_ix U30 Tryd_T58 rfl rfl hix64) ?_)
   refine QW.cons rfl (QP.val (v := (.agg #[(.int .i64 x59.Wind), (.int .i64 x59.Pace)])) rfl (fun w' hm' => x_loadN (cs := [(.int .i64 x59.Wind), (.int .i64 x59.Pace)]) U58 Tryd_T58 rfl rfl (rdF_cells ((hL.call hm').rdS 0 rfl h2) hix64 ha65)) ?_)
   refine QW.cons rfl (QP.val (v := v3) rfl (fun w' hm' => x_mv f56) ?_)
   refine QW.cons rfl (QP.val (v := (.int .i64 s_l1)) rfl (fun w' hm' => x_mv f57) ?_)
   obtain ⟨x66, ha67, hm⟩ := bndE hm
   obtain ⟨hz68, ha72⟩ := idxE ha67
   obtain ⟨b69, q70, hix71⟩ := rdL_ix (hL.rdS 0 rfl h4) hz68 ha72
   refine QW.cons rfl (QP.val (v := (.pointer (some ⟨b69, q70, none⟩))) rfl (fun w' hm' => x_ix U30 Tryd_T58 rfl rfl hix71) ?_)
   refine QW.cons rfl (QP.val (v := (.agg #[(.int .i64 x66.Wind), (.int .i64 x66.Pace)])) rfl (fun w' hm' => x_loadN (cs := [(.int .i64 x66.Wind), (.int .i64 x66.Pace)]) U58 Tryd_T58 rfl rfl (rdF_cells ((hL.call hm').rdS 0 rfl h4) hix71 ha72)) ?_)
   obtain ⟨x73, hx74, hm⟩ := bndE hm
   refine QW.cons rfl (QP.call (v := (.bool x73)) rfl (fun w' hm' => x_call (vs := [(.agg #[(.int .i64 x59.Wind), (.int .i64 x59.Pace)]), (.agg #[(.int .i64 x66.Wind), (.int .i64 x66.Pace)])]) Tryd_C38 ⟨rfl, rfl, trivial⟩) (fun w' hm' => (M.laws_eqCurvePoint_ok w' x59 x66 hx74).mono (fun e w'' h => ⟨h.1, hm'.trans h.2.mod⟩)) ?_)
   refine QW.cons rfl (QP.val (v := (.bool (!x73))) rfl (fun w' hm' => x_not rfl) ?_)
   refine QW.nil ?_
   intro wd75 hmod
   have hL := hL.call hmod
   refine DW.done (by kernel_rfl) ?_
   refine CW.condM (t := !x73) rfl hm (fun hb76 hm => ?_) (fun hb76 hm => ?_)
   · refine CSR ?_
     refine OV (.bool false) rfl (x_assign) ?_
     refine OW.nil ?_
     refine CW.ret ?_
     obtain rfl := Option.some.inj hm
     have hm := hr45 _ rfl
     obtain rfl := Option.some.inj hm
     exact RR1 rfl rfl ⟨rfl, hL.fresh 0 rfl [] (by decide) (by decide) rfl⟩
   refine CW.skip ?_
   refine CW.regionL ?_
   refine OV (.int .i64 s_l1) rfl (x_mv f57) ?_
   refine OV (.int .i64 (w64 (s_l1 + 1))) rfl (x_add rfl rfl) ?_
   refine OV (.int .i64 (w64 (s_l1 + 1))) rfl (x_assign) ?_
   refine OW.nil ?_
   obtain rfl := Option.some.inj hm
   exact ⟨_, rfl, ⟨f55, f56, rfl, hL⟩⟩
 refine CW.exit ?_
 refine XJ.hit ?_
 obtain rfl := Option.some.inj hm
 exact ⟨_, rfl, ⟨f55, f56, f57, hL⟩⟩

theorem M.laws_markCurvePointS_ok (w0 : World) {E4 : TypeId} {S2 : Nat → Prop} {v1 : Value} (a0 : List CurvePoint) (he3 : (Ent.own E4 S2 v1 a0).H w0) (a1 : Int) {r : (Int) × (List CurvePoint)} (hm : M.laws_markCurvePointS a0 a1 = some r) :
    Calls Tryd.prog 14 #[v1, (.int .i64 a1)] w0 fun e w' => ∃ (ioS : Nat → Prop), e = .returned (.int .i64 r.1) ∧ Mut w0 w' (Ent.own E4 S2 v1 a0).S [Ent.own E4 ioS v1 r.2] := by
 unfold M.laws_markCurvePointS at hm
 refine calls_CW (args := [v1, (.int .i64 a1)]) Tryd.func14 rfl rfl rfl ?_
 have hL := Hp.startIO he3
 refine CSR ?_
 refine OV (.int .i64 0) rfl (x_assign) ?_
 refine ONS ?_
 refine CSR ?_
 refine OV (.int .i64 0) rfl (x_assign) ?_
 refine OW.nil ?_
 obtain ⟨o43, ho44, hm⟩ := bndE hm
 refine CW.loopB (fun (s_l1 : (List CurvePoint) × Int × Int) (F : Fr) (w : World) => ∃ (S40 : Nat → Prop), F 0 = v1 ∧ F 1 = (.int .i64 s_l1.2.1) ∧ F 5 = (.int .i64 s_l1.2.2) ∧ Hp w0 [Ent.own E4 S40 v1 s_l1.1, Ent.frz w0 (Ent.own E4 S2 v1 a0).S] w) (fun o => outc o (fun x => some x) (fun s => M.laws_markCurvePointS_a1 s) = some r) ho44 hm ⟨S2, rfl, rfl, rfl, hL⟩ ?_ ?_
 · intro s_l1 F45 wd46 hJ hm
   have hm := outcE hm
   have hm : M.laws_markCurvePointS_a1 s_l1 = some r := hm
   unfold M.laws_markCurvePointS_a1 at hm
   obtain ⟨S40, f47, f48, f49, hL⟩ := hJ
   refine CSR ?_
   refine OV (.int .i64 s_l1.2.1) rfl (x_mv f48) ?_
   refine OV (.int .i64 s_l1.2.1) rfl (x_assign) ?_
   refine OW.nil ?_
   refine CW.ret ?_
   obtain rfl := Option.some.inj hm
   exact RR1 rfl rfl ⟨S40, rfl, hL.mutOut 1 rfl [0] (by decide) (by decide) rfl⟩
 intro s_l1 F50 wd51 t41 hJ hm hr42
 unfold M.laws_markCurvePointS_l1 at hm
 obtain ⟨S40, f52, f53, f54, hL⟩ := hJ
 refine CW.seq ?_
 refine CSR ?_
 refine OV (.int .i64 s_l1.2.2) rfl (x_mv f54) ?_
 refine OV v1 rfl (x_mv f52) ?_
 refine OV (.int .i64 (s_l1.1.length : Int)) rfl (x_lenR U30 rfl (hL.rdO 0 rfl)) ?_
 refine OV (.bool (decide (s_l1.2.2 < (s_l1.1.length : Int)))) rfl (x_lss rfl rfl) ?_
 refine OW.nil ?_
 refine CW.condM (t := decide (s_l1.2.2 < (s_l1.1.length : Int))) rfl hm (fun hb55 hm => ?_) (fun hb55 hm => ?_)
 · refine CW.skip ?_
   refine CW.seq ?_
   refine CW.block ?_
   refine CSR ?_
   refine OV v1 rfl (x_mv f52) ?_
   refine OV (.int .i64 s_l1.2.2) rfl (x_mv f54) ?_
   refine OV (.int .i64 s_l1.2.1) rfl (x_mv f53) ?_
   obtain ⟨x56, ha57, hm⟩ := bndE hm
   obtain ⟨hz58, ha62⟩ := idxE ha57
   obtain ⟨b59, q60, hix61⟩ := rdL_ix (hL.rdO 0 rfl) hz58 ha62
   refine OV (.pointer (some ⟨b59, q60, none⟩)) rfl (x_ix U30 Tryd_T58 rfl rfl hix61) ?_
   refine OV (.pointer (some ⟨b59, q60, none⟩)) rfl (x_fieldAddr (fsz := 1) q60 0 q60 U58 rfl Tryd_T2 rfl rfl rfl) ?_
   refine OW.cons (S_storeX (j := 0) (CurvePoint.mk s_l1.2.1 x56.Pace) hL 0 rfl Tryd_T2 hix61 ha62 rfl rfl rfl rfl rfl rfl ?_)
   intro wd63 hL
   refine ONR ?_
   refine OV (.int .i64 s_l1.2.1) rfl (x_mv f53) ?_
   refine OV (.int .i64 (w64 (s_l1.2.1 + 1))) rfl (x_add rfl rfl) ?_
   refine OV (.int .i64 (w64 (s_l1.2.1 + 1))) rfl (x_assign) ?_
   refine ONR ?_
   refine OV v1 rfl (x_mv f52) ?_
   refine OV (.int .i64 s_l1.2.2) rfl (x_mv f54) ?_
   refine OV (.int .i64 (w64 (s_l1.2.1 + 1))) rfl (x_move) ?_
   obtain ⟨x64, ha65, hm⟩ := bndE hm
   obtain ⟨hz66, ha70⟩ := idxE ha65
   obtain ⟨b67, q68, hix69⟩ := rdL_ix (hL.rdO 0 rfl) hz66 ha70
   refine OV (.pointer (some ⟨b67, q68, none⟩)) rfl (x_ix U30 Tryd_T58 rfl rfl hix69) ?_
   refine OV (.pointer (some ⟨b67, q68 + 1, none⟩)) rfl (x_fieldAddr (fsz := 1) q68 1 (q68 + 1) U58 rfl Tryd_T2 rfl rfl rfl) ?_
   refine OW.cons (S_storeX (j := 1) (CurvePoint.mk x64.Wind (w64 (s_l1.2.1 + 1))) hL 0 rfl Tryd_T2 hix69 ha70 rfl rfl rfl rfl rfl rfl ?_)
   intro wd71 hL
   refine OW.nil ?_
   refine CW.regionL ?_
   refine OV (.int .i64 (w64 (s_l1.2.1 + 1))) rfl (x_move) ?_
   refine OV (.int .i64 (w64 ((w64 (s_l1.2.1 + 1)) + 1))) rfl (x_add rfl rfl) ?_
   refine OV (.int .i64 (w64 ((w64 (s_l1.2.1 + 1)) + 1))) rfl (x_assign) ?_
   refine OW.nil ?_
   refine CW.regionL ?_
   refine OV (.int .i64 s_l1.2.2) rfl (x_mv f54) ?_
   refine OV (.int .i64 (w64 (s_l1.2.2 + 1))) rfl (x_add rfl rfl) ?_
   refine OV (.int .i64 (w64 (s_l1.2.2 + 1))) rfl (x_assign) ?_
   refine OW.nil ?_
   obtain rfl := Option.some.inj hm
   exact ⟨_, rfl, ⟨S40, f52, rfl, rfl, hL⟩⟩
 refine CW.exit ?_
 refine XJ.hit ?_
 obtain rfl := Option.some.inj hm
 exact ⟨_, rfl, ⟨S40, f52, f53, f54, hL⟩⟩

theorem M.laws_heldCurvePointS_ok (w0 : World) (a0 : List CurvePoint) {v1 : Value} (h2 : rdL (· < w0.heap.size) w0 v1 a0) (a1 : Int) {r : Int} (hm : M.laws_heldCurvePointS a0 a1 = some r) :
    Calls Tryd.prog 15 #[v1, (.int .i64 a1)] w0 fun e w' => e = .returned (.int .i64 r) ∧ Fresh w0 w' [] := by
 unfold M.laws_heldCurvePointS at hm
 refine calls_CW (args := [v1, (.int .i64 a1)]) Tryd.func15 rfl rfl rfl ?_
 have hL := Hp.start w0
 refine CSR ?_
 refine OV (.int .i64 0) rfl (x_assign) ?_
 refine ONS ?_
 refine CSR ?_
 refine OV (.int .i64 0) rfl (x_assign) ?_
 refine OW.nil ?_
 obtain ⟨o39, ho40, hm⟩ := bndE hm
 refine CW.loopB (fun (s_l1 : Int × Int) (F : Fr) (w : World) => F 0 = v1 ∧ F 1 = (.int .i64 s_l1.1) ∧ F 5 = (.int .i64 s_l1.2) ∧ Hp w0 [Ent.snap w0 w0.heap.size] w) (fun o => outc o (fun x => some x) (fun s => M.laws_heldCurvePointS_a1 s) = some r) ho40 hm ⟨rfl, rfl, rfl, hL⟩ ?_ ?_
 · intro s_l1 F41 wd42 hJ hm
   have hm := outcE hm
   have hm : M.laws_heldCurvePointS_a1 s_l1 = some r := hm
   unfold M.laws_heldCurvePointS_a1 at hm
   obtain ⟨f43, f44, f45, hL⟩ := hJ
   refine CSR ?_
   refine OV (.int .i64 s_l1.1) rfl (x_mv f44) ?_
   refine OV (.int .i64 s_l1.1) rfl (x_assign) ?_
   refine OW.nil ?_
   refine CW.ret ?_
   obtain rfl := Option.some.inj hm
   exact RR1 rfl rfl ⟨rfl, hL.fresh 0 rfl [] (by decide) (by decide) rfl⟩
 intro s_l1 F46 wd47 t37 hJ hm hr38
 unfold M.laws_heldCurvePointS_l1 at hm
 obtain ⟨f48, f49, f50, hL⟩ := hJ
 refine CW.seq ?_
 refine CSR ?_
 refine OV (.int .i64 s_l1.2) rfl (x_mv f50) ?_
 refine OV v1 rfl (x_mv f48) ?_
 refine OV (.int .i64 (a0.length : Int)) rfl (x_lenR U30 rfl (hL.rdS 0 rfl h2)) ?_
 refine OV (.bool (decide (s_l1.2 < (a0.length : Int)))) rfl (x_lss rfl rfl) ?_
 refine OW.nil ?_
 refine CW.condM (t := decide (s_l1.2 < (a0.length : Int))) rfl hm (fun hb51 hm => ?_) (fun hb51 hm => ?_)
 · refine CW.skip ?_
   refine CW.seq ?_
   refine CW.block ?_
   refine CW.seq ?_
   refine CSR ?_
   refine OV v1 rfl (x_mv f48) ?_
   refine OV (.int .i64 s_l1.2) rfl (x_mv f50) ?_
   obtain ⟨x52, ha53, hm⟩ := bndE hm
   obtain ⟨hz54, ha58⟩ := idxE ha53
   obtain ⟨b55, q56, hix57⟩ := rdL_ix (hL.rdS 0 rfl h2) hz54 ha58
   refine OV (.pointer (some ⟨b55, q56, none⟩)) rfl (x_ix U30 Tryd_T58 rfl rfl hix57) ?_
   refine OV (.pointer (some ⟨b55, q56, none⟩)) rfl (x_fieldAddr (fsz := 1) q56 0 q56 U58 rfl Tryd_T2 rfl rfl rfl) ?_
   refine OV (.int .i64 x52.Wind) rfl (x_load1 U2 rfl rfl (rdF_cells (hL.rdS 0 rfl h2) hix57 ha58 0 _ rfl)) ?_
   refine OV (.int .i64 s_l1.1) rfl (x_mv f49) ?_
   refine OV (.bool (x52.Wind != s_l1.1)) rfl (x_neq rfl rfl) ?_
   refine OW.nil ?_
   refine CW.condM (t := x52.Wind != s_l1.1) rfl hm (fun hb59 hm => ?_) (fun hb59 hm => ?_)
   · refine CSR ?_
     refine OV (.int .i64 (-1)) rfl (x_assign) ?_
     refine OW.nil ?_
     refine CW.ret ?_
     obtain rfl := Option.some.inj hm
     have hm := hr38 _ rfl
     obtain rfl := Option.some.inj hm
     exact RR1 rfl rfl ⟨rfl, hL.fresh 0 rfl [] (by decide) (by decide) rfl⟩
   refine CW.skip ?_
   refine CSR ?_
   refine OV (.int .i64 s_l1.1) rfl (x_mv f49) ?_
   refine OV (.int .i64 (w64 (s_l1.1 + 1))) rfl (x_add rfl rfl) ?_
   refine OV (.int .i64 (w64 (s_l1.1 + 1))) rfl (x_assign) ?_
   refine ONS ?_
   refine CSR ?_
   refine OV v1 rfl (x_mv f48) ?_
   refine OV (.int .i64 s_l1.2) rfl (x_mv f50) ?_
   obtain ⟨x60, ha61, hm⟩ := bndE hm
   obtain ⟨hz62, ha66⟩ := idxE ha61
   obtain ⟨b63, q64, hix65⟩ := rdL_ix (hL.rdS 0 rfl h2) hz62 ha66
   refine OV (.pointer (some ⟨b63, q64, none⟩)) rfl (x_ix U30 Tryd_T58 rfl rfl hix65) ?_
   refine OV (.pointer (some ⟨b63, q64 + 1, none⟩)) rfl (x_fieldAddr (fsz := 1) q64 1 (q64 + 1) U58 rfl Tryd_T2 rfl rfl rfl) ?_
   refine OV (.int .i64 x60.Pace) rfl (x_load1 U2 rfl rfl (rdF_cells (hL.rdS 0 rfl h2) hix65 ha66 1 _ rfl)) ?_
   refine OV (.int .i64 (w64 (s_l1.1 + 1))) rfl (x_move) ?_
   refine OV (.bool (x60.Pace != (w64 (s_l1.1 + 1)))) rfl (x_neq rfl rfl) ?_
   refine OW.nil ?_
   refine CW.condM (t := x60.Pace != (w64 (s_l1.1 + 1))) rfl hm (fun hb67 hm => ?_) (fun hb67 hm => ?_)
   · refine CSR ?_
     refine OV (.int .i64 (-1)) rfl (x_assign) ?_
     refine OW.nil ?_
     refine CW.ret ?_
     obtain rfl := Option.some.inj hm
     have hm := hr38 _ rfl
     obtain rfl := Option.some.inj hm
     exact RR1 rfl rfl ⟨rfl, hL.fresh 0 rfl [] (by decide) (by decide) rfl⟩
   refine CW.skip ?_
   refine CW.regionL ?_
   refine OV (.int .i64 (w64 (s_l1.1 + 1))) rfl (x_move) ?_
   refine OV (.int .i64 (w64 ((w64 (s_l1.1 + 1)) + 1))) rfl (x_add rfl rfl) ?_
   refine OV (.int .i64 (w64 ((w64 (s_l1.1 + 1)) + 1))) rfl (x_assign) ?_
   refine OW.nil ?_
   refine CW.regionL ?_
   refine OV (.int .i64 s_l1.2) rfl (x_mv f50) ?_
   refine OV (.int .i64 (w64 (s_l1.2 + 1))) rfl (x_add rfl rfl) ?_
   refine OV (.int .i64 (w64 (s_l1.2 + 1))) rfl (x_assign) ?_
   refine OW.nil ?_
   obtain rfl := Option.some.inj hm
   exact ⟨_, rfl, ⟨f48, rfl, rfl, hL⟩⟩
 refine CW.exit ?_
 refine XJ.hit ?_
 obtain rfl := Option.some.inj hm
 exact ⟨_, rfl, ⟨f48, f49, f50, hL⟩⟩

theorem M.laws_FnExactReadCurve_ok (w0 : World) (htab : TabsR Tryd.prog (cutLaid_ren.g 1) (parseLaid_ren.g 15) (parseLaid_ren.g 16) w0) (a0 : ByteArray) {r : Bool} (hm : M.laws_FnExactReadCurve a0 = some r) :
    Calls Tryd.prog 4 #[(.string a0)] w0 fun e w' => e = .returned (.bool r) ∧ Fresh w0 w' [] := by
 unfold M.laws_FnExactReadCurve at hm
 refine calls_CW (args := [(.string a0)]) Tryd.func4 rfl rfl rfl ?_
 have hL := Hp.start w0
 refine CSR ?_
 refine OV (.bool false) rfl (x_assign) ?_
 refine ONS ?_
 refine CSR ?_
 refine OV (.string a0) rfl (x_move) ?_
 refine OV (.int .i64 (a0.size : Int)) rfl (x_lens U9 rfl) ?_
 refine OV (.bool (decide (1048576 < (a0.size : Int)))) rfl (x_gtr rfl rfl) ?_
 refine OW.nil ?_
 refine CW.condM (t := decide (1048576 < (a0.size : Int))) rfl hm (fun hb1 hm => ?_) (fun hb1 hm => ?_)
 · refine CSR ?_
   refine OV (.bool true) rfl (x_assign) ?_
   refine OW.nil ?_
   refine CW.ret ?_
   obtain rfl := Option.some.inj hm
   exact RR1 rfl rfl ⟨rfl, hL.fresh 0 rfl [] (by decide) (by decide) rfl⟩
 refine CW.skip ?_
 refine CSR ?_
 refine OV (.string a0) rfl (x_move) ?_
 obtain ⟨x2, hx3, hm⟩ := bndE hm
 refine OW.cons (OP.call rfl (x_call (vs := [(.string a0)]) Tryd_C11 ⟨rfl, trivial⟩) (M.spec_ReadCurve_ok _ a0 hx3) ?_)
 rintro e6 wd7 ⟨v5, S4, rfl, hF8⟩
 refine ⟨_, rfl, ?_⟩
 have hL := hL.pushAll hF8
 simp only [lA, lB, lC, lD] at hL
 refine OV (.tuple #[v5, (.bool x2.2)]) rfl (x_move) ?_
 refine OV v5 rfl (x_extract rfl rfl) ?_
 refine OV (.bool x2.2) rfl (x_extract rfl rfl) ?_
 refine OV v5 rfl (x_assign) ?_
 refine OV (.bool x2.2) rfl (x_assign) ?_
 refine ONR ?_
 refine OV (.string a0) rfl (x_move) ?_
 obtain ⟨x9, hx10, hm⟩ := bndE hm
 refine OW.cons (OP.call rfl (x_call (vs := [(.string a0)]) Tryd_C12 ⟨rfl, trivial⟩) (M.impl_ReadCurve_ok _ (hL.tabR 1 rfl rfl htab) a0 hx10) ?_)
 rintro e13 wd14 ⟨v12, S11, rfl, hF15⟩
 refine ⟨_, rfl, ?_⟩
 have hL := hL.pushAll hF15
 simp only [lA, lB, lC, lD] at hL
 refine OV (.tuple #[v12, (.bool x9.2)]) rfl (x_move) ?_
 refine OV v12 rfl (x_extract rfl rfl) ?_
 refine OV (.bool x9.2) rfl (x_extract rfl rfl) ?_
 refine OV v12 rfl (x_assign) ?_
 refine OV (.bool x9.2) rfl (x_assign) ?_
 refine ONS ?_
 refine CW.seqJ (fun (s_j1 : Bool) (F : Fr) (w : World) => F 0 = (.string a0) ∧ F 3 = v5 ∧ F 4 = (.bool x2.2) ∧ F 5 = v12 ∧ F 32 = (.bool s_j1) ∧ Hp w0 [Ent.own 58 S11 v12 x9.1, Ent.own 58 S4 v5 x2.1, Ent.snap w0 w0.heap.size] w) (fun s_j1 => M.laws_FnExactReadCurve_j1 a0 x2 x9 s_j1 = some r) ?_ ?_
 · refine CW.regionL ?_
   refine OV v12 rfl (x_move) ?_
   refine OV v5 rfl (x_move) ?_
   obtain ⟨x75, hx76, hm⟩ := bndE hm
   refine OW.cons (OP.call rfl (x_call (vs := [v12, v5]) Tryd_C13 ⟨rfl, rfl, trivial⟩) (M.laws_eqCurvePointS_ok _ x9.1 (hL.rdO 0 rfl) x2.1 (hL.rdO 1 rfl) hx76) ?_)
   rintro e77 wd78 ⟨rfl, hF79⟩
   refine ⟨_, rfl, ?_⟩
   have hL := hL.pushAll hF79
   simp only [lA, lB, lC, lD] at hL
   refine OV (.bool (!x75)) rfl (x_not rfl) ?_
   refine OV (.bool (!x75)) rfl (x_move) ?_
   refine ifB_elim hm (fun hb80 hm => ?_) (fun hb80 hm => ?_)
   · refine OW.cons (OP.no' rfl rfl hb80 rfl ?_)
     refine OW.cons (OP.no' rfl rfl hb80 rfl ?_)
     refine OW.cons (OP.no' rfl rfl hb80 rfl ?_)
     refine OV (.bool true) rfl (x_pickT' rfl hb80 rfl) ?_
     refine OW.nil ?_
     exact ⟨true, hm, ⟨rfl, rfl, rfl, rfl, rfl, hL⟩⟩
   refine OW.cons (OP.yes' rfl rfl hb80 (OP.val (v := (.bool x9.2)) rfl (x_move) ?_))
   refine OW.cons (OP.yes' rfl rfl hb80 (OP.val (v := (.bool x2.2)) rfl (x_move) ?_))
   refine OW.cons (OP.yes' rfl rfl hb80 (OP.val (v := (.bool (x9.2 != x2.2))) rfl (x_neqB U4 rfl rfl) ?_))
   refine OV (.bool (x9.2 != x2.2)) rfl (x_pickF' rfl hb80 rfl) ?_
   refine OW.nil ?_
   exact ⟨x9.2 != x2.2, hm, ⟨rfl, rfl, rfl, rfl, rfl, hL⟩⟩
 intro s_j1 F22 wd23 hJ hm
 unfold M.laws_FnExactReadCurve_j1 at hm
 obtain ⟨f24, f25, f26, f27, f28, hL⟩ := hJ
 refine CW.condM (t := s_j1) f28 hm (fun hb29 hm => ?_) (fun hb29 hm => ?_)
 · refine CSR ?_
   refine OV (.bool false) rfl (x_assign) ?_
   refine OW.nil ?_
   refine CW.ret ?_
   obtain rfl := Option.some.inj hm
   exact RR1 rfl rfl ⟨rfl, hL.fresh 2 rfl [] (by decide) (by decide) rfl⟩
 refine CW.skip ?_
 refine CSR ?_
 refine OV (.int .i64 1) rfl (x_assign) ?_
 refine ONR ?_
 refine OV v12 rfl (x_mv f27) ?_
 refine OV (.int .i64 1) rfl (x_move) ?_
 obtain ⟨x30, hx31, hm⟩ := bndE hm
 refine OW.cons (OP.call rfl (x_call (vs := [v12, (.int .i64 1)]) Tryd_C14 ⟨rfl, rfl, trivial⟩) (M.laws_markCurvePointS_ok _ x9.1 (hL.get 0 rfl) 1 hx31) ?_)
 rintro e32 wd33 ⟨S35, rfl, hF34⟩
 refine ⟨_, rfl, ?_⟩
 have hL := hL.mut 0 rfl hF34
 simp only [lA, lB, lC, lD] at hL
 refine OV (.int .i64 x30.1) rfl (x_assign) ?_
 refine ONR ?_
 refine OV (.int .i64 1) rfl (x_assign) ?_
 refine ONR ?_
 refine OV v12 rfl (x_mv f27) ?_
 refine OV (.int .i64 1) rfl (x_move) ?_
 obtain ⟨x36, hx37, hm⟩ := bndE hm
 refine OW.cons (OP.call rfl (x_call (vs := [v12, (.int .i64 1)]) Tryd_C15 ⟨rfl, rfl, trivial⟩) (M.laws_heldCurvePointS_ok _ x30.2 (hL.rdO 0 rfl) 1 hx37) ?_)
 rintro e38 wd39 ⟨rfl, hF40⟩
 refine ⟨_, rfl, ?_⟩
 have hL := hL.pushAll hF40
 simp only [lA, lB, lC, lD] at hL
 refine OV (.int .i64 x36) rfl (x_assign) ?_
 refine ONS ?_
 refine CSR ?_
 refine OV (.int .i64 x36) rfl (x_move) ?_
 refine OV (.bool (decide (x36 < 0))) rfl (x_lss rfl rfl) ?_
 refine OW.nil ?_
 refine CW.condM (t := decide (x36 < 0)) rfl hm (fun hb41 hm => ?_) (fun hb41 hm => ?_)
 · refine CSR ?_
   refine OV (.bool false) rfl (x_assign) ?_
   refine OW.nil ?_
   refine CW.ret ?_
   obtain rfl := Option.some.inj hm
   exact RR1 rfl rfl ⟨rfl, hL.fresh 2 rfl [] (by decide) (by decide) rfl⟩
 refine CW.skip ?_
 refine CW.seq ?_
 refine CSR ?_
 refine OV (.int .i64 x36) rfl (x_move) ?_
 refine OV (.int .i64 x30.1) rfl (x_move) ?_
 refine OV (.bool (x36 != x30.1)) rfl (x_neq rfl rfl) ?_
 refine OW.nil ?_
 refine CW.condM (t := x36 != x30.1) rfl hm (fun hb42 hm => ?_) (fun hb42 hm => ?_)
 · refine CSR ?_
   refine OV (.bool false) rfl (x_assign) ?_
   refine OW.nil ?_
   refine CW.ret ?_
   obtain rfl := Option.some.inj hm
   exact RR1 rfl rfl ⟨rfl, hL.fresh 2 rfl [] (by decide) (by decide) rfl⟩
 refine CW.skip ?_
 refine CSR ?_
 refine OV (.string a0) rfl (x_mv f24) ?_
 obtain ⟨x43, hx44, hm⟩ := bndE hm
 refine OW.cons (OP.call rfl (x_call (vs := [(.string a0)]) Tryd_C12 ⟨rfl, trivial⟩) (M.impl_ReadCurve_ok _ (hL.tabR 2 rfl rfl htab) a0 hx44) ?_)
 rintro e47 wd48 ⟨v46, S45, rfl, hF49⟩
 refine ⟨_, rfl, ?_⟩
 have hL := hL.pushAll hF49
 simp only [lA, lB, lC, lD] at hL
 refine OV (.tuple #[v46, (.bool x43.2)]) rfl (x_move) ?_
 refine OV v46 rfl (x_extract rfl rfl) ?_
 refine OV (.bool x43.2) rfl (x_extract rfl rfl) ?_
 refine OV v46 rfl (x_assign) ?_
 refine OV (.bool x43.2) rfl (x_assign) ?_
 refine ONS ?_
 refine CW.seqJ (fun (s_j2 : Bool) (F : Fr) (w : World) => F 5 = v12 ∧ F 7 = (.int .i64 x30.1) ∧ F 57 = (.bool s_j2) ∧ Hp w0 [Ent.own 58 S35 v12 x30.2, Ent.snap w0 w0.heap.size] w) (fun s_j2 => M.laws_FnExactReadCurve_j2 x30 s_j2 = some r) ?_ ?_
 · refine CW.regionL ?_
   refine OV v46 rfl (x_move) ?_
   refine OV v5 rfl (x_mv f25) ?_
   obtain ⟨x69, hx70, hm⟩ := bndE hm
   refine OW.cons (OP.call rfl (x_call (vs := [v46, v5]) Tryd_C13 ⟨rfl, rfl, trivial⟩) (M.laws_eqCurvePointS_ok _ x43.1 (hL.rdO 0 rfl) x2.1 (hL.rdO 2 rfl) hx70) ?_)
   rintro e71 wd72 ⟨rfl, hF73⟩
   refine ⟨_, rfl, ?_⟩
   have hL := hL.pushAll hF73
   simp only [lA, lB, lC, lD] at hL
   refine OV (.bool (!x69)) rfl (x_not rfl) ?_
   refine OV (.bool (!x69)) rfl (x_move) ?_
   refine ifB_elim hm (fun hb74 hm => ?_) (fun hb74 hm => ?_)
   · refine OW.cons (OP.no' rfl rfl hb74 rfl ?_)
     refine OW.cons (OP.no' rfl rfl hb74 rfl ?_)
     refine OW.cons (OP.no' rfl rfl hb74 rfl ?_)
     refine OV (.bool true) rfl (x_pickT' rfl hb74 rfl) ?_
     refine OW.nil ?_
     have hL := hL.sel [1, 3] (by decide) rfl
     exact ⟨true, hm, ⟨f27, rfl, rfl, hL⟩⟩
   refine OW.cons (OP.yes' rfl rfl hb74 (OP.val (v := (.bool x43.2)) rfl (x_move) ?_))
   refine OW.cons (OP.yes' rfl rfl hb74 (OP.val (v := (.bool x2.2)) rfl (x_mv f26) ?_))
   refine OW.cons (OP.yes' rfl rfl hb74 (OP.val (v := (.bool (x43.2 != x2.2))) rfl (x_neqB U4 rfl rfl) ?_))
   refine OV (.bool (x43.2 != x2.2)) rfl (x_pickF' rfl hb74 rfl) ?_
   refine OW.nil ?_
   have hL := hL.sel [1, 3] (by decide) rfl
   exact ⟨x43.2 != x2.2, hm, ⟨f27, rfl, rfl, hL⟩⟩
 intro s_j2 F56 wd57 hJ hm
 unfold M.laws_FnExactReadCurve_j2 at hm
 obtain ⟨f58, f59, f60, hL⟩ := hJ
 refine CW.condM (t := s_j2) f60 hm (fun hb61 hm => ?_) (fun hb61 hm => ?_)
 · refine CSR ?_
   refine OV (.bool false) rfl (x_assign) ?_
   refine OW.nil ?_
   refine CW.ret ?_
   obtain rfl := Option.some.inj hm
   exact RR1 rfl rfl ⟨rfl, hL.fresh 1 rfl [] (by decide) (by decide) rfl⟩
 refine CW.skip ?_
 refine CSR ?_
 refine OV (.int .i64 1) rfl (x_assign) ?_
 refine ONR ?_
 refine OV v12 rfl (x_mv f58) ?_
 refine OV (.int .i64 1) rfl (x_move) ?_
 obtain ⟨x62, hx63, hm⟩ := bndE hm
 refine OW.cons (OP.call rfl (x_call (vs := [v12, (.int .i64 1)]) Tryd_C15 ⟨rfl, rfl, trivial⟩) (M.laws_heldCurvePointS_ok _ x30.2 (hL.rdO 0 rfl) 1 hx63) ?_)
 rintro e64 wd65 ⟨rfl, hF66⟩
 refine ⟨_, rfl, ?_⟩
 have hL := hL.pushAll hF66
 simp only [lA, lB, lC, lD] at hL
 refine OV (.int .i64 x62) rfl (x_assign) ?_
 refine ONS ?_
 refine CSR ?_
 refine OV (.int .i64 x62) rfl (x_move) ?_
 refine OV (.bool (decide (x62 < 0))) rfl (x_lss rfl rfl) ?_
 refine OW.nil ?_
 refine CW.condM (t := decide (x62 < 0)) rfl hm (fun hb67 hm => ?_) (fun hb67 hm => ?_)
 · refine CSR ?_
   refine OV (.bool false) rfl (x_assign) ?_
   refine OW.nil ?_
   refine CW.ret ?_
   obtain rfl := Option.some.inj hm
   exact RR1 rfl rfl ⟨rfl, hL.fresh 1 rfl [] (by decide) (by decide) rfl⟩
 refine CW.skip ?_
 refine CW.seq ?_
 refine CSR ?_
 refine OV (.int .i64 x62) rfl (x_move) ?_
 refine OV (.int .i64 x30.1) rfl (x_mv f59) ?_
 refine OV (.bool (x62 != x30.1)) rfl (x_neq rfl rfl) ?_
 refine OW.nil ?_
 refine CW.condM (t := x62 != x30.1) rfl hm (fun hb68 hm => ?_) (fun hb68 hm => ?_)
 · refine CSR ?_
   refine OV (.bool false) rfl (x_assign) ?_
   refine OW.nil ?_
   refine CW.ret ?_
   obtain rfl := Option.some.inj hm
   exact RR1 rfl rfl ⟨rfl, hL.fresh 1 rfl [] (by decide) (by decide) rfl⟩
 refine CW.skip ?_
 refine CSR ?_
 refine OV (.bool true) rfl (x_assign) ?_
 refine OW.nil ?_
 refine CW.ret ?_
 obtain rfl := Option.some.inj hm
 exact RR1 rfl rfl ⟨rfl, hL.fresh 1 rfl [] (by decide) (by decide) rfl⟩

end Go.Proofs.YthkcfjlmblfipaaDoor
