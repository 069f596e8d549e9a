/- Links: each Go function returns what its model computes and leaves what was there. Printed by my generator. -/
import Derived.Test.YtpnehnkhhibliaaLnkFnExactSimplifyCurveA
namespace Go.Proofs.Ytpnehnkhhibliaa
set_option maxRecDepth 10000
open Go Go.RowKit Go.ChangeShapes Go.WideShapes
set_option linter.unusedVariables false
set_option linter.unusedSimpArgs false

theorem M.laws_FnExactSimplifyCurve_ok (w0 : World) (a0 : List CurvePoint) {v1 : Value} (h2 : rdL (· < w0.heap.size) w0 v1 a0) (a1 : Int) {r : Bool} (hm : M.laws_FnExactSimplifyCurve a0 a1 = some r) :
    Calls Try.prog 5 #[v1, (.int .i64 a1)] w0 fun e w' => e = .returned (.bool r) ∧ Fresh w0 w' [] := by
 unfold M.laws_FnExactSimplifyCurve at hm
 refine calls_CW (args := [v1, (.int .i64 a1)]) Try.func5 rfl rfl rfl ?_
 have hL := Hp.start w0
 refine CSR ?_
 refine OV (.bool false) rfl (x_assign) ?_
 refine ONR ?_
 refine OV (.int .i64 1048576) rfl (x_assign) ?_
 refine ONR ?_
 refine OV v1 rfl (x_move) ?_
 refine OV (.int .i64 1048576) rfl (x_move) ?_
 obtain ⟨x3, hx4, hm⟩ := bndE hm
 refine OW.cons (OP.call rfl (x_call (vs := [v1, (.int .i64 1048576)]) Try_C20 ⟨rfl, rfl, trivial⟩) (M.laws_szCurvePointS_ok _ a0 (hL.rdS 0 rfl h2) 1048576 hx4) ?_)
 rintro e5 wd6 ⟨rfl, hF7⟩
 refine ⟨_, rfl, ?_⟩
 have hL := hL.pushAll hF7
 simp only [lA, lB, lC, lD] at hL
 refine OV (.int .i64 x3) rfl (x_assign) ?_
 refine ONS ?_
 refine CSR ?_
 refine OV (.int .i64 x3) rfl (x_move) ?_
 refine OV (.bool (decide (x3 < 0))) rfl (x_lss rfl rfl) ?_
 refine OW.nil ?_
 refine CW.condM (t := decide (x3 < 0)) rfl hm (fun hb8 hm => ?_) (fun hb8 hm => ?_)
 · refine CSR ?_
   refine OV (.bool true) rfl (x_assign) ?_
   refine OW.nil ?_
   refine CW.ret ?_
   obtain rfl := Option.some.inj hm
   exact RR1 rfl rfl ⟨rfl, hL.fresh 0 rfl [] (by decide) (by decide) rfl⟩
 refine CW.skip ?_
 refine CSR ?_
 refine OV v1 rfl (x_move) ?_
 obtain ⟨x9, hx10, hm⟩ := bndE hm
 refine OW.cons (OP.call rfl (x_call (vs := [v1]) Try_C22 ⟨rfl, trivial⟩) (M.laws_toCurvePointS_ok _ a0 (hL.rdS 0 rfl h2) hx10) ?_)
 rintro e13 wd14 ⟨v12, S11, rfl, hF15⟩
 refine ⟨_, rfl, ?_⟩
 have hL := hL.pushAll hF15
 simp only [lA, lB, lC, lD] at hL
 refine OV (.int .i64 a1) rfl (x_move) ?_
 obtain ⟨x16, hx17, hm⟩ := bndE hm
 refine OW.cons (OP.call rfl (x_call (vs := [v12, (.int .i64 a1)]) Try_C21 ⟨rfl, rfl, trivial⟩) (M.spec_SimplifyCurve_ok _ x9 (hL.rdO 0 rfl) a1 hx17) ?_)
 rintro e20 wd21 ⟨v19, S18, rfl, hF22⟩
 refine ⟨_, rfl, ?_⟩
 have hL := hL.pushAll hF22
 simp only [lA, lB, lC, lD] at hL
 refine OV (.tuple #[v19, (.int .i64 x16.2)]) rfl (x_move) ?_
 refine OV v19 rfl (x_extract rfl rfl) ?_
 refine OV (.int .i64 x16.2) rfl (x_extract rfl rfl) ?_
 refine OV v19 rfl (x_assign) ?_
 refine OV (.int .i64 x16.2) rfl (x_assign) ?_
 refine ONR ?_
 refine OV v1 rfl (x_move) ?_
 obtain ⟨x23, hx24, hm⟩ := bndE hm
 refine OW.cons (OP.call rfl (x_call (vs := [v1]) Try_C22 ⟨rfl, trivial⟩) (M.laws_toCurvePointS_ok _ a0 (hL.rdS 2 rfl h2) hx24) ?_)
 rintro e27 wd28 ⟨v26, S25, rfl, hF29⟩
 refine ⟨_, rfl, ?_⟩
 have hL := hL.pushAll hF29
 simp only [lA, lB, lC, lD] at hL
 refine OV v26 rfl (x_assign) ?_
 refine ONR ?_
 refine OV v26 rfl (x_move) ?_
 refine OV (.int .i64 a1) rfl (x_move) ?_
 obtain ⟨x30, hx31, hm⟩ := bndE hm
 refine OW.cons (OP.call rfl (x_call (vs := [v26, (.int .i64 a1)]) Try_C23 ⟨rfl, rfl, trivial⟩) (M.impl_SimplifyCurve_ok _ x23 (hL.rdO 0 rfl) a1 hx31) ?_)
 rintro e34 wd35 ⟨v33, S32, rfl, hF36⟩
 refine ⟨_, rfl, ?_⟩
 have hL := hL.pushAll hF36
 simp only [lA, lB, lC, lD] at hL
 refine OV (.tuple #[v33, (.int .i64 x30.2)]) rfl (x_move) ?_
 refine OV v33 rfl (x_extract rfl rfl) ?_
 refine OV (.int .i64 x30.2) rfl (x_extract rfl rfl) ?_
 refine OV v33 rfl (x_assign) ?_
 refine OV (.int .i64 x30.2) rfl (x_assign) ?_
 refine ONS ?_
 refine CW.seqJ (fun (s_j1 : Bool) (F : Fr) (w : World) => F 0 = v1 ∧ F 1 = (.int .i64 a1) ∧ F 6 = v19 ∧ F 7 = (.int .i64 x16.2) ∧ F 8 = v26 ∧ F 9 = v33 ∧ F 10 = (.int .i64 x30.2) ∧ F 44 = (.bool s_j1) ∧ Hp w0 [Ent.own 62 S32 v33 x30.1, Ent.own 62 S25 v26 x23, Ent.own 62 S18 v19 x16.1, Ent.snap w0 w0.heap.size] w) (fun s_j1 => M.laws_FnExactSimplifyCurve_j1 a0 a1 x16 x23 x30 s_j1 = some r) ?_ ?_
 · refine CW.regionL ?_
   refine OV v33 rfl (x_move) ?_
   refine OV v19 rfl (x_move) ?_
   obtain ⟨x148, hx149, hm⟩ := bndE hm
   refine OW.cons (OP.call rfl (x_call (vs := [v33, v19]) Try_C24 ⟨rfl, rfl, trivial⟩) (M.laws_eqCurvePointS_ok _ x30.1 (hL.rdO 0 rfl) x16.1 (hL.rdO 2 rfl) hx149) ?_)
   rintro e150 wd151 ⟨rfl, hF152⟩
   refine ⟨_, rfl, ?_⟩
   have hL := hL.pushAll hF152
   simp only [lA, lB, lC, lD] at hL
   refine OV (.bool (!x148)) rfl (x_not rfl) ?_
   refine OV (.bool (!x148)) rfl (x_move) ?_
   refine ifB_elim hm (fun hb153 hm => ?_) (fun hb153 hm => ?_)
   · refine OW.cons (OP.no' rfl rfl hb153 rfl ?_)
     refine OW.cons (OP.no' rfl rfl hb153 rfl ?_)
     refine OW.cons (OP.no' rfl rfl hb153 rfl ?_)
     refine OV (.bool true) rfl (x_pickT' rfl hb153 rfl) ?_
     refine OW.nil ?_
     have hL := hL.sel [0, 1, 2, 4] (by decide) rfl
     exact ⟨true, hm, ⟨rfl, rfl, rfl, rfl, rfl, rfl, rfl, rfl, hL⟩⟩
   refine OW.cons (OP.yes' rfl rfl hb153 (OP.val (v := (.int .i64 x30.2)) rfl (x_move) ?_))
   refine OW.cons (OP.yes' rfl rfl hb153 (OP.val (v := (.int .i64 x16.2)) rfl (x_move) ?_))
   refine OW.cons (OP.yes' rfl rfl hb153 (OP.val (v := (.bool (x30.2 != x16.2))) rfl (x_neq rfl rfl) ?_))
   refine OV (.bool (x30.2 != x16.2)) rfl (x_pickF' rfl hb153 rfl) ?_
   refine OW.nil ?_
   have hL := hL.sel [0, 1, 2, 4] (by decide) rfl
   exact ⟨x30.2 != x16.2, hm, ⟨rfl, rfl, rfl, rfl, rfl, rfl, rfl, rfl, hL⟩⟩
 intro s_j1 F43 wd44 hJ hm
 unfold M.laws_FnExactSimplifyCurve_j1 at hm
 obtain ⟨f45, f46, f47, f48, f49, f50, f51, f52, hL⟩ := hJ
 refine CW.condM (t := s_j1) f52 hm (fun hb53 hm => ?_) (fun hb53 hm => ?_)
 · refine CSR ?_
   refine OV (.bool false) rfl (x_assign) ?_
   refine OW.nil ?_
   refine CW.ret ?_
   obtain rfl := Option.some.inj hm
   exact RR1 rfl rfl ⟨rfl, hL.fresh 3 rfl [] (by decide) (by decide) rfl⟩
 refine CW.skip ?_
 refine CW.seq ?_
 refine CSR ?_
 refine OV v26 rfl (x_mv f49) ?_
 refine OV v1 rfl (x_mv f45) ?_
 obtain ⟨x54, hx55, hm⟩ := bndE hm
 refine OW.cons (OP.call rfl (x_call (vs := [v1]) Try_C22 ⟨rfl, trivial⟩) (M.laws_toCurvePointS_ok _ a0 (hL.rdS 3 rfl h2) hx55) ?_)
 rintro e58 wd59 ⟨v57, S56, rfl, hF60⟩
 refine ⟨_, rfl, ?_⟩
 have hL := hL.pushAll hF60
 simp only [lA, lB, lC, lD] at hL
 obtain ⟨x61, hx62, hm⟩ := bndE hm
 refine OW.cons (OP.call rfl (x_call (vs := [v26, v57]) Try_C24 ⟨rfl, rfl, trivial⟩) (M.laws_eqCurvePointS_ok _ x23 (hL.rdO 2 rfl) x54 (hL.rdO 0 rfl) hx62) ?_)
 rintro e63 wd64 ⟨rfl, hF65⟩
 refine ⟨_, rfl, ?_⟩
 have hL := hL.pushAll hF65
 simp only [lA, lB, lC, lD] at hL
 refine OV (.bool (!x61)) rfl (x_not rfl) ?_
 refine OW.nil ?_
 refine CW.condM (t := !x61) rfl hm (fun hb66 hm => ?_) (fun hb66 hm => ?_)
 · refine CSR ?_
   refine OV (.bool false) rfl (x_assign) ?_
   refine OW.nil ?_
   refine CW.ret ?_
   obtain rfl := Option.some.inj hm
   exact RR1 rfl rfl ⟨rfl, hL.fresh 4 rfl [] (by decide) (by decide) rfl⟩
 refine CW.skip ?_
 refine CSR ?_
 refine OV (.int .i64 1) rfl (x_assign) ?_
 refine ONR ?_
 refine OV v26 rfl (x_mv f49) ?_
 refine OV (.int .i64 1) rfl (x_move) ?_
 obtain ⟨x67, hx68, hm⟩ := bndE hm
 refine OW.cons (OP.call rfl (x_call (vs := [v26, (.int .i64 1)]) Try_C25 ⟨rfl, rfl, trivial⟩) (M.laws_markCurvePointS_ok _ x23 (hL.get 2 rfl) 1 hx68) ?_)
 rintro e69 wd70 ⟨S72, rfl, hF71⟩
 refine ⟨_, rfl, ?_⟩
 have hL := hL.mut 2 rfl hF71
 simp only [lA, lB, lC, lD] at hL
 refine OV (.int .i64 x67.1) rfl (x_assign) ?_
 refine ONS ?_
 refine CW.seqJ (fun (s_j2 : Bool) (F : Fr) (w : World) => F 0 = v1 ∧ F 1 = (.int .i64 a1) ∧ F 6 = v19 ∧ F 7 = (.int .i64 x16.2) ∧ F 9 = v33 ∧ F 65 = (.bool s_j2) ∧ Hp w0 [Ent.own 62 S32 v33 x30.1, Ent.own 62 S18 v19 x16.1, Ent.snap w0 w0.heap.size] w) (fun s_j2 => M.laws_FnExactSimplifyCurve_j2 a0 a1 x16 x30 s_j2 = some r) ?_ ?_
 · refine CW.regionL ?_
   refine OV (.int .i64 x67.1) rfl (x_move) ?_
   refine OV (.bool (decide (x67.1 < 0))) rfl (x_lss rfl rfl) ?_
   refine OV (.bool (decide (x67.1 < 0))) rfl (x_move) ?_
   refine ifB_elim hm (fun hb141 hm => ?_) (fun hb141 hm => ?_)
   · refine OW.cons (OP.no' rfl rfl hb141 rfl ?_)
     refine OW.cons (OP.no' rfl rfl hb141 rfl ?_)
     refine OW.cons (OP.no' rfl rfl hb141 rfl ?_)
     refine OW.cons (OP.no' rfl rfl hb141 rfl ?_)
     refine OV (.bool true) rfl (x_pickT' rfl hb141 rfl) ?_
     refine OV (.bool true) rfl (x_move) ?_
     refine OW.cons (OP.no' rfl rfl rfl rfl ?_)
     refine OW.cons (OP.no' rfl rfl rfl rfl ?_)
     refine OW.cons (OP.no' rfl rfl rfl rfl ?_)
     refine OV (.bool true) rfl (x_pickT' rfl rfl rfl) ?_
     refine OW.nil ?_
     have hL := hL.sel [1, 3, 4] (by decide) rfl
     exact ⟨true, hm, ⟨f45, f46, f47, f48, f50, rfl, hL⟩⟩
   refine OW.cons (OP.yes' rfl rfl hb141 (OP.val (v := v33) rfl (x_mv f50) ?_))
   refine OW.cons (OP.yes' rfl rfl hb141 (OP.val (v := v19) rfl (x_mv f47) ?_))
   obtain ⟨x142, hx143, hm⟩ := bndE hm
   refine OW.cons (OP.yes' rfl rfl hb141 (OP.call rfl (x_call (vs := [v33, v19]) Try_C24 ⟨rfl, rfl, trivial⟩) (M.laws_eqCurvePointS_ok _ x30.1 (hL.rdO 1 rfl) x16.1 (hL.rdO 3 rfl) hx143) ?_))
   rintro e144 wd145 ⟨rfl, hF146⟩
   refine ⟨_, rfl, ?_⟩
   have hL := hL.pushAll hF146
   simp only [lA, lB, lC, lD] at hL
   refine OW.cons (OP.yes' rfl rfl hb141 (OP.val (v := (.bool (!x142))) rfl (x_not rfl) ?_))
   refine OV (.bool (!x142)) rfl (x_pickF' rfl hb141 rfl) ?_
   refine OV (.bool (!x142)) rfl (x_move) ?_
   refine ifB_elim hm (fun hb147 hm => ?_) (fun hb147 hm => ?_)
   · refine OW.cons (OP.no' rfl rfl hb147 rfl ?_)
     refine OW.cons (OP.no' rfl rfl hb147 rfl ?_)
     refine OW.cons (OP.no' rfl rfl hb147 rfl ?_)
     refine OV (.bool true) rfl (x_pickT' rfl hb147 rfl) ?_
     refine OW.nil ?_
     have hL := hL.sel [1, 3, 4] (by decide) rfl
     exact ⟨true, hm, ⟨f45, f46, f47, f48, f50, rfl, hL⟩⟩
   refine OW.cons (OP.yes' rfl rfl hb147 (OP.val (v := (.int .i64 x30.2)) rfl (x_mv f51) ?_))
   refine OW.cons (OP.yes' rfl rfl hb147 (OP.val (v := (.int .i64 x16.2)) rfl (x_mv f48) ?_))
   refine OW.cons (OP.yes' rfl rfl hb147 (OP.val (v := (.bool (x30.2 != x16.2))) rfl (x_neq rfl rfl) ?_))
   refine OV (.bool (x30.2 != x16.2)) rfl (x_pickF' rfl hb147 rfl) ?_
   refine OW.nil ?_
   have hL := hL.sel [1, 3, 4] (by decide) rfl
   exact ⟨x30.2 != x16.2, hm, ⟨f45, f46, f47, f48, f50, rfl, hL⟩⟩
 intro s_j2 F80 wd81 hJ hm
 unfold M.laws_FnExactSimplifyCurve_j2 at hm
 obtain ⟨f82, f83, f84, f85, f86, f87, hL⟩ := hJ
 refine CW.condM (t := s_j2) f87 hm (fun hb88 hm => ?_) (fun hb88 hm => ?_)
 · refine CSR ?_
   refine OV (.bool false) rfl (x_assign) ?_
   refine OW.nil ?_
   refine CW.ret ?_
   obtain rfl := Option.some.inj hm
   exact RR1 rfl rfl ⟨rfl, hL.fresh 2 rfl [] (by decide) (by decide) rfl⟩
 refine CW.skip ?_
 refine CSR ?_
 refine OV (.int .i64 1) rfl (x_assign) ?_
 refine ONR ?_
 refine OV v33 rfl (x_mv f86) ?_
 refine OV (.int .i64 1) rfl (x_move) ?_
 obtain ⟨x89, hx90, hm⟩ := bndE hm
 refine OW.cons (OP.call rfl (x_call (vs := [v33, (.int .i64 1)]) Try_C25 ⟨rfl, rfl, trivial⟩) (M.laws_markCurvePointS_ok _ x30.1 (hL.get 0 rfl) 1 hx90) ?_)
 rintro e91 wd92 ⟨S94, rfl, hF93⟩
 refine ⟨_, rfl, ?_⟩
 have hL := hL.mut 0 rfl hF93
 simp only [lA, lB, lC, lD] at hL
 refine OV (.int .i64 x89.1) rfl (x_assign) ?_
 refine ONR ?_
 refine OV (.int .i64 1) rfl (x_assign) ?_
 refine ONR ?_
 refine OV v33 rfl (x_mv f86) ?_
 refine OV (.int .i64 1) rfl (x_move) ?_
 obtain ⟨x95, hx96, hm⟩ := bndE hm
 refine OW.cons (OP.call rfl (x_call (vs := [v33, (.int .i64 1)]) Try_C26 ⟨rfl, rfl, trivial⟩) (M.laws_heldCurvePointS_ok _ x89.2 (hL.rdO 0 rfl) 1 hx96) ?_)
 rintro e97 wd98 ⟨rfl, hF99⟩
 refine ⟨_, rfl, ?_⟩
 have hL := hL.pushAll hF99
 simp only [lA, lB, lC, lD] at hL
 refine OV (.int .i64 x95) rfl (x_assign) ?_
 refine ONS ?_
 refine CSR ?_
 refine OV (.int .i64 x95) rfl (x_move) ?_
 refine OV (.bool (decide (x95 < 0))) rfl (x_lss rfl rfl) ?_
 refine OW.nil ?_
 refine CW.condM (t := decide (x95 < 0)) rfl hm (fun hb100 hm => ?_) (fun hb100 hm => ?_)
 · refine CSR ?_
   refine OV (.bool false) rfl (x_assign) ?_
   refine OW.nil ?_
   refine CW.ret ?_
   obtain rfl := Option.some.inj hm
   exact RR1 rfl rfl ⟨rfl, hL.fresh 2 rfl [] (by decide) (by decide) rfl⟩
 refine CW.skip ?_
 refine CW.seq ?_
 refine CSR ?_
 refine OV (.int .i64 x95) rfl (x_move) ?_
 refine OV (.int .i64 x89.1) rfl (x_move) ?_
 refine OV (.bool (x95 != x89.1)) rfl (x_neq rfl rfl) ?_
 refine OW.nil ?_
 refine CW.condM (t := x95 != x89.1) rfl hm (fun hb101 hm => ?_) (fun hb101 hm => ?_)
 · refine CSR ?_
   refine OV (.bool false) rfl (x_assign) ?_
   refine OW.nil ?_
   refine CW.ret ?_
   obtain rfl := Option.some.inj hm
   exact RR1 rfl rfl ⟨rfl, hL.fresh 2 rfl [] (by decide) (by decide) rfl⟩
 refine CW.skip ?_
 refine CSR ?_
 refine OV v1 rfl (x_mv f82) ?_
 obtain ⟨x102, hx103, hm⟩ := bndE hm
 refine OW.cons (OP.call rfl (x_call (vs := [v1]) Try_C22 ⟨rfl, trivial⟩) (M.laws_toCurvePointS_ok _ a0 (hL.rdS 2 rfl h2) hx103) ?_)
 rintro e106 wd107 ⟨v105, S104, rfl, hF108⟩
 refine ⟨_, rfl, ?_⟩
 have hL := hL.pushAll hF108
 simp only [lA, lB, lC, lD] at hL
 refine OV (.int .i64 a1) rfl (x_mv f83) ?_
 obtain ⟨x109, hx110, hm⟩ := bndE hm
 refine OW.cons (OP.call rfl (x_call (vs := [v105, (.int .i64 a1)]) Try_C23 ⟨rfl, rfl, trivial⟩) (M.impl_SimplifyCurve_ok _ x102 (hL.rdO 0 rfl) a1 hx110) ?_)
 rintro e113 wd114 ⟨v112, S111, rfl, hF115⟩
 refine ⟨_, rfl, ?_⟩
 have hL := hL.pushAll hF115
 simp only [lA, lB, lC, lD] at hL
 refine OV (.tuple #[v112, (.int .i64 x109.2)]) rfl (x_move) ?_
 refine OV v112 rfl (x_extract rfl rfl) ?_
 refine OV (.int .i64 x109.2) rfl (x_extract rfl rfl) ?_
 refine OV v112 rfl (x_assign) ?_
 refine OV (.int .i64 x109.2) rfl (x_assign) ?_
 refine ONS ?_
 refine CW.seqJ (fun (s_j3 : Bool) (F : Fr) (w : World) => F 9 = v33 ∧ F 12 = (.int .i64 x89.1) ∧ F 92 = (.bool s_j3) ∧ Hp w0 [Ent.own 62 S94 v33 x89.2, Ent.snap w0 w0.heap.size] w) (fun s_j3 => M.laws_FnExactSimplifyCurve_j3 x89 s_j3 = some r) ?_ ?_
 · refine CW.regionL ?_
   refine OV v112 rfl (x_move) ?_
   refine OV v19 rfl (x_mv f84) ?_
   obtain ⟨x135, hx136, hm⟩ := bndE hm
   refine OW.cons (OP.call rfl (x_call (vs := [v112, v19]) Try_C24 ⟨rfl, rfl, trivial⟩) (M.laws_eqCurvePointS_ok _ x109.1 (hL.rdO 0 rfl) x16.1 (hL.rdO 3 rfl) hx136) ?_)
   rintro e137 wd138 ⟨rfl, hF139⟩
   refine ⟨_, rfl, ?_⟩
   have hL := hL.pushAll hF139
   simp only [lA, lB, lC, lD] at hL
   refine OV (.bool (!x135)) rfl (x_not rfl) ?_
   refine OV (.bool (!x135)) rfl (x_move) ?_
   refine ifB_elim hm (fun hb140 hm => ?_) (fun hb140 hm => ?_)
   · refine OW.cons (OP.no' rfl rfl hb140 rfl ?_)
     refine OW.cons (OP.no' rfl rfl hb140 rfl ?_)
     refine OW.cons (OP.no' rfl rfl hb140 rfl ?_)
     refine OV (.bool true) rfl (x_pickT' rfl hb140 rfl) ?_
     refine OW.nil ?_
     have hL := hL.sel [2, 4] (by decide) rfl
     exact ⟨true, hm, ⟨f86, rfl, rfl, hL⟩⟩
   refine OW.cons (OP.yes' rfl rfl hb140 (OP.val (v := (.int .i64 x109.2)) rfl (x_move) ?_))
   refine OW.cons (OP.yes' rfl rfl hb140 (OP.val (v := (.int .i64 x16.2)) rfl (x_mv f85) ?_))
   refine OW.cons (OP.yes' rfl rfl hb140 (OP.val (v := (.bool (x109.2 != x16.2))) rfl (x_neq rfl rfl) ?_))
   refine OV (.bool (x109.2 != x16.2)) rfl (x_pickF' rfl hb140 rfl) ?_
   refine OW.nil ?_
   have hL := hL.sel [2, 4] (by decide) rfl
   exact ⟨x109.2 != x16.2, hm, ⟨f86, rfl, rfl, hL⟩⟩
 intro s_j3 F122 wd123 hJ hm
 unfold M.laws_FnExactSimplifyCurve_j3 at hm
 obtain ⟨f124, f125, f126, hL⟩ := hJ
 refine CW.condM (t := s_j3) f126 hm (fun hb127 hm => ?_) (fun hb127 hm => ?_)
 · refine CSR ?_
   refine OV (.bool false) rfl (x_assign) ?_
   refine OW.nil ?_
   refine CW.ret ?_
   obtain rfl := Option.some.inj hm
   exact RR1 rfl rfl ⟨rfl, hL.fresh 1 rfl [] (by decide) (by decide) rfl⟩
 refine CW.skip ?_
 refine CSR ?_
 refine OV (.int .i64 1) rfl (x_assign) ?_
 refine ONR ?_
 refine OV v33 rfl (x_mv f124) ?_
 refine OV (.int .i64 1) rfl (x_move) ?_
 obtain ⟨x128, hx129, hm⟩ := bndE hm
 refine OW.cons (OP.call rfl (x_call (vs := [v33, (.int .i64 1)]) Try_C26 ⟨rfl, rfl, trivial⟩) (M.laws_heldCurvePointS_ok _ x89.2 (hL.rdO 0 rfl) 1 hx129) ?_)
 rintro e130 wd131 ⟨rfl, hF132⟩
 refine ⟨_, rfl, ?_⟩
 have hL := hL.pushAll hF132
 simp only [lA, lB, lC, lD] at hL
 refine OV (.int .i64 x128) rfl (x_assign) ?_
 refine ONS ?_
 refine CSR ?_
 refine OV (.int .i64 x128) rfl (x_move) ?_
 refine OV (.bool (decide (x128 < 0))) rfl (x_lss rfl rfl) ?_
 refine OW.nil ?_
 refine CW.condM (t := decide (x128 < 0)) rfl hm (fun hb133 hm => ?_) (fun hb133 hm => ?_)
 · refine CSR ?_
   refine OV (.bool false) rfl (x_assign) ?_
   refine OW.nil ?_
   refine CW.ret ?_
   obtain rfl := Option.some.inj hm
   exact RR1 rfl rfl ⟨rfl, hL.fresh 1 rfl [] (by decide) (by decide) rfl⟩
 refine CW.skip ?_
 refine CW.seq ?_
 refine CSR ?_
 refine OV (.int .i64 x128) rfl (x_move) ?_
 refine OV (.int .i64 x89.1) rfl (x_mv f125) ?_
 refine OV (.bool (x128 != x89.1)) rfl (x_neq rfl rfl) ?_
 refine OW.nil ?_
 refine CW.condM (t := x128 != x89.1) rfl hm (fun hb134 hm => ?_) (fun hb134 hm => ?_)
 · refine CSR ?_
   refine OV (.bool false) rfl (x_assign) ?_
   refine OW.nil ?_
   refine CW.ret ?_
   obtain rfl := Option.some.inj hm
   exact RR1 rfl rfl ⟨rfl, hL.fresh 1 rfl [] (by decide) (by decide) rfl⟩
 refine CW.skip ?_
 refine CSR ?_
 refine OV (.bool true) rfl (x_assign) ?_
 refine OW.nil ?_
 refine CW.ret ?_
 obtain rfl := Option.some.inj hm
 exact RR1 rfl rfl ⟨rfl, hL.fresh 1 rfl [] (by decide) (by decide) rfl⟩

end Go.Proofs.Ytpnehnkhhibliaa
