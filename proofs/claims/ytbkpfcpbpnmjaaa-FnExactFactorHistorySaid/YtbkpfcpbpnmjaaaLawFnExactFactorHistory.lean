/- The law FnExactFactorHistory: its link and its pure law joined in the row's frame. Printed by my generator. -/
import Derived.Test.YtbkpfcpbpnmjaaaLnkFnExactFactorHistory
import Derived.Test.YtbkpfcpbpnmjaaaPurePar4
import Derived.Test.YtbkpfcpbpnmjaaaRows
import Derived.WalkKit
import Derived.ProofKit
import Derived.OpenShut
import Derived.ShutString
import Derived.ChangeOld
import Derived.Below
import Derived.KernelRfl
namespace Go.Proofs.Ytbkpfcpbpnmjaaa.fnExactFactorHistoryL
open Go Go.ChangeShapes Go.WideShapes Go.ChangeAt Go.RowKit Go.Proofs.Ytbkpfcpbpnmjaaa Go.Proofs.Ytbkpfcpbpnmjaaa
set_option linter.unusedVariables false

theorem own : ownKnob Try.prog.godebug = none := by kernel_rfl
theorem laidOut : laidOutB Try.prog = true := by kernel_rfl
set_option maxRecDepth 100000 in
theorem lifted (os : Os) (started : os.Started) (H : Type) (enc : TypeId × Value → H) :
    ReturnsInHanded {} Try.checked os 10 .any (Rows.fnExactFactorHistorySpec.pre6 enc Try.prog Try.f10 Rows.fnExactFactorHistoryRow.domain false) (Rows.fnExactFactorHistorySpec.post enc Try.prog Try.f10 false true false false) := by
  refine returnsInHanded_of_change (C := Try.checked) own started (by kernel_rfl) Try.func10
    (ChangeSpec.witness6 (enc := enc) (C := Try.checked) false ⟨#[], #[.agg #[.int .i64 0, .int .i64 0, .int .i64 0, .int .i64 0], .int .i64 0, .slice none 0 0, .slice none 0 0, .int .i64 0], []⟩ 8 (by kernel_rfl) (by kernel_rfl) (by kernel_rfl) (by kernel_rfl)) ?_
  intro W base args ds gs before hval0 hW hcnd _
  have hval : ∀ (j : Nat) t v, Try.f10.params[j]? = some t → args[j]? = some v → Value.okWide Try.prog W .any base t v := hval0
  have hW' := hW
  obtain ⟨p, q, hA0, hV, rfl, hfz, hnd⟩ := hW
  have hA : DataW.TrodAll enc Try.prog W 0 (fun _ => true) true Try.f10.params.toList args.toList ds p := hA0
  rw [Try.params10] at hA hval
  obtain ⟨v0, vs0, d0, ds0, p0, q0, hargs, rfl, rfl, h0, r0⟩ := trodAll_cons hA
  obtain ⟨v1, vs1, d1, ds1, p1, q1, rfl, rfl, rfl, h1, r1⟩ := trodAll_cons r0
  obtain ⟨v2, vs2, d2, ds2, p2, q2, rfl, rfl, rfl, h2, r2⟩ := trodAll_cons r1
  obtain ⟨v3, vs3, d3, ds3, p3, q3, rfl, rfl, rfl, h3, r3⟩ := trodAll_cons r2
  obtain ⟨v4, vs4, d4, ds4, p4, q4, rfl, rfl, rfl, h4, r4⟩ := trodAll_cons r3
  obtain ⟨rfl, rfl, rfl⟩ := trodAll_nil r4
  obtain rfl : args = #[v0, v1, v2, v3, v4] := by cases args; simp_all
  obtain ⟨rfl, rfl⟩ := trodVars_none hV
  have hA1 := hA
  obtain ⟨a0, rfl, k0⟩ := arg_flat (α := ProgressRules) Try.underlying43 (op_ProgressRules Try.underlying43 (by kernel_rfl) (by kernel_rfl) (by kernel_rfl) rfl) (hval 0 43 v0 rfl rfl) h0
  obtain ⟨a1, rfl, k1⟩ := arg_int Try.underlying2 (hval 1 2 v1 rfl rfl) h1
  obtain ⟨a2, g2, k2⟩ := arg_list (α := List Finish) Try.underlying70 (op_list Try.underlying70 (by kernel_rfl) (op_list Try.underlying22 (by kernel_rfl) (op_Finish Try.underlying81 (by kernel_rfl) (by kernel_rfl) (by kernel_rfl) rfl))) (hval 2 70 v2 rfl rfl) h2
  obtain ⟨a3, g3, k3⟩ := arg_list (α := Rating) Try.underlying23 (op_list Try.underlying23 (by kernel_rfl) (op_Rating Try.underlying83 (by kernel_rfl) (by kernel_rfl) (by kernel_rfl) rfl)) (hval 3 23 v3 rfl rfl) h3
  obtain ⟨a4, rfl, k4⟩ := arg_int Try.underlying2 (hval 4 2 v4 rfl rfl) h4
  refine (M.laws_FnExactFactorHistory_ok W a0 a1 a2 g2 a3 g3 a4 (pure_FnExactFactorHistory a0 k0 a1 k1 a2 k2 a3 k3 a4 k4)).mono fun e W' ⟨he, hfr⟩ => ?_
  subst he
  exact ⟨_, rfl, post_law hW' hA0 rfl rfl Try.underlying4 rfl laidOut (by kernel_rfl) hfr.1⟩

theorem over : Rows.fnExactFactorHistoryRow.holds Try.pinned (OpenSpec.ofChange Rows.fnExactFactorHistorySpec) :=
  OpenClaim.holds_of_wide 10 Try.f10 rfl rfl rfl rfl rfl rfl rfl ⟨rfl, rfl, rfl, rfl, rfl⟩ rfl rfl rfl rfl rfl (by kernel_rfl) Try.func10 (by kernel_rfl)
    (of_decide_eq_true (by kernel_rfl)) (by unfold Func.isWrapper; first | (rw [if_pos (by decide +kernel)]; kernel_rfl) | (rw [if_neg (by decide +kernel)]; exact ⟨rfl, rfl⟩))
    (fun os started H enc _ => lifted os started H enc)

theorem proved : Rows.FnExactFactorHistorySaid := over
#print axioms proved
end Go.Proofs.Ytbkpfcpbpnmjaaa.fnExactFactorHistoryL
