/- The law FnExactCorrectByCurves: its link and its pure law joined in the row's frame. Printed by my generator. -/
import Derived.Test.YtpnehnkhhibliaaLnkFnExactCorrectByCurves
import Derived.Test.YtpnehnkhhibliaaPureCur
import Derived.Test.YtpnehnkhhibliaaRows
import Derived.WalkKit
import Derived.ProofKit
import Derived.OpenShut
import Derived.ShutString
import Derived.ChangeOld
import Derived.Below
import Derived.KernelRfl
namespace Go.Proofs.Ytpnehnkhhibliaa.fnExactCorrectByCurvesL
open Go Go.ChangeShapes Go.WideShapes Go.ChangeAt Go.RowKit Go.Proofs.Ytpnehnkhhibliaa Go.Proofs.Ytpnehnkhhibliaa
set_option linter.unusedVariables false

theorem own : ownKnob Try.prog.godebug = none := by kernel_rfl
theorem laidOut : laidOutB Try.prog = true := by kernel_rfl
set_option maxRecDepth 100000 in
theorem lifted (os : Os) (started : os.Started) (H : Type) (enc : TypeId × Value → H) :
    ReturnsInHanded {} Try.checked os 4 .any (Rows.fnExactCorrectByCurvesSpec.pre6 enc Try.prog Try.f4 Rows.fnExactCorrectByCurvesRow.domain false) (Rows.fnExactCorrectByCurvesSpec.post enc Try.prog Try.f4 false true false false) := by
  refine returnsInHanded_of_change (C := Try.checked) own started (by kernel_rfl) Try.func4
    (ChangeSpec.witness6 (enc := enc) (C := Try.checked) false ⟨#[], #[.int .i64 0, .slice none 0 0, .slice none 0 0, .int .i64 0, .int .i64 0], []⟩ 8 (by kernel_rfl) (by kernel_rfl) (by kernel_rfl) (by kernel_rfl)) ?_
  intro W base args ds gs before hval0 hW hcnd _
  have hval : ∀ (j : Nat) t v, Try.f4.params[j]? = some t → args[j]? = some v → Value.okWide Try.prog W .any base t v := hval0
  have hW' := hW
  obtain ⟨p, q, hA0, hV, rfl, hfz, hnd⟩ := hW
  have hA : DataW.TrodAll enc Try.prog W 0 (fun _ => true) true Try.f4.params.toList args.toList ds p := hA0
  rw [Try.params4] at hA hval
  obtain ⟨v0, vs0, d0, ds0, p0, q0, hargs, rfl, rfl, h0, r0⟩ := trodAll_cons hA
  obtain ⟨v1, vs1, d1, ds1, p1, q1, rfl, rfl, rfl, h1, r1⟩ := trodAll_cons r0
  obtain ⟨v2, vs2, d2, ds2, p2, q2, rfl, rfl, rfl, h2, r2⟩ := trodAll_cons r1
  obtain ⟨v3, vs3, d3, ds3, p3, q3, rfl, rfl, rfl, h3, r3⟩ := trodAll_cons r2
  obtain ⟨v4, vs4, d4, ds4, p4, q4, rfl, rfl, rfl, h4, r4⟩ := trodAll_cons r3
  obtain ⟨rfl, rfl, rfl⟩ := trodAll_nil r4
  obtain rfl : args = #[v0, v1, v2, v3, v4] := by cases args; simp_all
  obtain ⟨rfl, rfl⟩ := trodVars_none hV
  have hA1 := hA
  obtain ⟨a0, rfl, k0⟩ := arg_int Try.underlying2 (hval 0 2 v0 rfl rfl) h0
  obtain ⟨a1, g1, k1⟩ := arg_list (α := Finish) Try.underlying35 (op_list Try.underlying35 (by kernel_rfl) (op_Finish Try.underlying70 (by kernel_rfl) (by kernel_rfl) (by kernel_rfl) rfl)) (hval 1 35 v1 rfl rfl) h1
  obtain ⟨a2, g2, k2⟩ := arg_list (α := List CurvePoint) Try.underlying36 (op_list Try.underlying36 (by kernel_rfl) (op_list Try.underlying46 (by kernel_rfl) (op_CurvePoint Try.underlying75 (by kernel_rfl) (by kernel_rfl) (by kernel_rfl) rfl))) (hval 2 36 v2 rfl rfl) h2
  obtain ⟨a3, rfl, k3⟩ := arg_int Try.underlying2 (hval 3 2 v3 rfl rfl) h3
  obtain ⟨a4, rfl, k4⟩ := arg_int Try.underlying2 (hval 4 2 v4 rfl rfl) h4
  refine (M.laws_FnExactCorrectByCurves_ok W a0 a1 g1 a2 g2 a3 a4 (pure_FnExactCorrectByCurves a0 k0 a1 k1 a2 k2 a3 k3 a4 k4)).mono fun e W' ⟨he, hfr⟩ => ?_
  subst he
  exact ⟨_, rfl, post_law hW' hA0 rfl rfl Try.underlying4 rfl laidOut (by kernel_rfl) hfr.1⟩

theorem over : Rows.fnExactCorrectByCurvesRow.holds Try.pinned (OpenSpec.ofChange Rows.fnExactCorrectByCurvesSpec) :=
  OpenClaim.holds_of_wide 4 Try.f4 rfl rfl rfl rfl rfl rfl rfl ⟨rfl, rfl, rfl, rfl, rfl⟩ rfl rfl rfl rfl rfl (by kernel_rfl) Try.func4 (by kernel_rfl)
    (of_decide_eq_true (by kernel_rfl)) (by unfold Func.isWrapper; first | (rw [if_pos (by decide +kernel)]; kernel_rfl) | (rw [if_neg (by decide +kernel)]; exact ⟨rfl, rfl⟩))
    (fun os started H enc _ => lifted os started H enc)

theorem proved : Rows.FnExactCorrectByCurvesSaid := over
#print axioms proved
end Go.Proofs.Ytpnehnkhhibliaa.fnExactCorrectByCurvesL
