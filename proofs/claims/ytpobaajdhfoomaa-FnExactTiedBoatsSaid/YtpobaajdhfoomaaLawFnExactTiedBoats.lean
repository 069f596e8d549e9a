/- The law FnExactTiedBoats: its link and its pure law joined in the row's frame. Printed by my generator. -/
import Derived.Test.YtpobaajdhfoomaaLnkFnExactTiedBoats
import Derived.Test.YtpobaajdhfoomaaPureTi2
import Derived.Test.YtpobaajdhfoomaaRows
import Derived.WalkKit
import Derived.ProofKit
import Derived.OpenShut
import Derived.ShutString
import Derived.ChangeOld
import Derived.Below
import Derived.KernelRfl
namespace Go.Proofs.Ytpobaajdhfoomaa.fnExactTiedBoatsL
open Go Go.ChangeShapes Go.WideShapes Go.ChangeAt Go.RowKit Go.Proofs.Ytpobaajdhfoomaa Go.Proofs.Ytpobaajdhfoomaa
set_option linter.unusedVariables false

theorem own : ownKnob Try.prog.godebug = none := by kernel_rfl
theorem laidOut : laidOutB Try.prog = true := by kernel_rfl
set_option maxRecDepth 100000 in
theorem lifted (os : Os) (started : os.Started) (H : Type) (enc : TypeId × Value → H) :
    ReturnsInHanded {} Try.checked os 8 .any (Rows.fnExactTiedBoatsSpec.pre6 enc Try.prog Try.f8 Rows.fnExactTiedBoatsRow.domain false) (Rows.fnExactTiedBoatsSpec.post enc Try.prog Try.f8 false true false false) := by
  refine returnsInHanded_of_change (C := Try.checked) own started (by kernel_rfl) Try.func8
    (ChangeSpec.witness6 (enc := enc) (C := Try.checked) false ⟨#[], #[.agg #[.int .i64 0, .slice none 0 0, .slice none 0 0], .slice none 0 0], []⟩ 8 (by kernel_rfl) (by kernel_rfl) (by kernel_rfl) (by kernel_rfl)) ?_
  intro W base args ds gs before hval0 hW hcnd _
  have hval : ∀ (j : Nat) t v, Try.f8.params[j]? = some t → args[j]? = some v → Value.okWide Try.prog W .any base t v := hval0
  have hW' := hW
  obtain ⟨p, q, hA0, hV, rfl, hfz, hnd⟩ := hW
  have hA : DataW.TrodAll enc Try.prog W 0 (fun _ => true) true Try.f8.params.toList args.toList ds p := hA0
  rw [Try.params8] at hA hval
  obtain ⟨v0, vs0, d0, ds0, p0, q0, hargs, rfl, rfl, h0, r0⟩ := trodAll_cons hA
  obtain ⟨v1, vs1, d1, ds1, p1, q1, rfl, rfl, rfl, h1, r1⟩ := trodAll_cons r0
  obtain ⟨rfl, rfl, rfl⟩ := trodAll_nil r1
  obtain rfl : args = #[v0, v1] := by cases args; simp_all
  obtain ⟨rfl, rfl⟩ := trodVars_none hV
  have hA1 := hA
  obtain ⟨a0, u0, t0, rfl, g0, y0, k0⟩ := arg_Table Try.underlying24 (by kernel_rfl) (by kernel_rfl) Try.underlying2 (op_list Try.underlying22 (by kernel_rfl) (op_list Try.underlying25 (by kernel_rfl) (op_int Try.underlying2))) (op_list Try.underlying22 (by kernel_rfl) (op_list Try.underlying25 (by kernel_rfl) (op_int Try.underlying2))) (hval 0 24 v0 rfl rfl) h0
  obtain ⟨a1, g1, k1⟩ := arg_list (α := Int) Try.underlying25 (op_list Try.underlying25 (by kernel_rfl) (op_int Try.underlying2)) (hval 1 25 v1 rfl rfl) h1
  refine (M.laws_FnExactTiedBoats_ok W a0 g0 y0 a1 g1 (pure_FnExactTiedBoats a0 k0 a1 k1)).mono fun e W' ⟨he, hfr⟩ => ?_
  subst he
  exact ⟨_, rfl, post_law hW' hA0 rfl rfl Try.underlying4 rfl laidOut (by kernel_rfl) hfr.1⟩

theorem over : Rows.fnExactTiedBoatsRow.holds Try.pinned (OpenSpec.ofChange Rows.fnExactTiedBoatsSpec) :=
  OpenClaim.holds_of_wide 8 Try.f8 rfl rfl rfl rfl rfl rfl rfl ⟨rfl, rfl, rfl, rfl, rfl⟩ rfl rfl rfl rfl rfl (by kernel_rfl) Try.func8 (by kernel_rfl)
    (of_decide_eq_true (by kernel_rfl)) (by unfold Func.isWrapper; first | (rw [if_pos (by decide +kernel)]; kernel_rfl) | (rw [if_neg (by decide +kernel)]; exact ⟨rfl, rfl⟩))
    (fun os started H enc _ => lifted os started H enc)

theorem proved : Rows.FnExactTiedBoatsSaid := over
#print axioms proved
end Go.Proofs.Ytpobaajdhfoomaa.fnExactTiedBoatsL
