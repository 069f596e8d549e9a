/- The law FnExactPlacesLost: its link and its pure law joined in the row's frame. Printed by my generator. -/
import Derived.Test.YtgelmamcinlahaaGreatLnkFnExactPlacesLost
import Derived.Test.YtgelmamcinlahaaGreatPurePL
import Derived.Test.YtgelmamcinlahaaGreatRows
import Derived.WalkKit
import Derived.ProofKit
import Derived.OpenShut
import Derived.ShutString
import Derived.ChangeOld
import Derived.Below
import Derived.KernelRfl
namespace Go.Proofs.YtgelmamcinlahaaGreat.fnExactPlacesLostL
open Go Go.ChangeShapes Go.WideShapes Go.ChangeAt Go.RowKit Go.Proofs.YtgelmamcinlahaaGreat Go.Proofs.YtgelmamcinlahaaGreat
set_option linter.unusedVariables false

theorem own : ownKnob Tryz.prog.godebug = none := by kernel_rfl
theorem laidOut : laidOutB Tryz.prog = true := by kernel_rfl
set_option maxRecDepth 100000 in
theorem lifted (os : Os) (started : os.Started) (H : Type) (enc : TypeId × Value → H) :
    ReturnsInHanded {} Tryz.checked os 3 .any (Rows.fnExactPlacesLostSpec.pre6 enc Tryz.prog Tryz.f3 Rows.fnExactPlacesLostRow.domain false) (Rows.fnExactPlacesLostSpec.post enc Tryz.prog Tryz.f3 false true false false) := by
  refine returnsInHanded_of_change (C := Tryz.checked) own started (by kernel_rfl) Tryz.func3
    (ChangeSpec.witness6 (enc := enc) (C := Tryz.checked) false ⟨#[], #[.agg #[.int .i64 0, .int .i64 0, .slice none 0 0], .slice none 0 0, .slice none 0 0, .int .i64 0], []⟩ 8 (by kernel_rfl) (by kernel_rfl) (by kernel_rfl) (by kernel_rfl)) ?_
  intro W base args ds gs before hval0 hW hcnd _
  have hval : ∀ (j : Nat) t v, Tryz.f3.params[j]? = some t → args[j]? = some v → Value.okWide Tryz.prog W .any base t v := hval0
  have hW' := hW
  obtain ⟨p, q, hA0, hV, rfl, hfz, hnd⟩ := hW
  have hA : DataW.TrodAll enc Tryz.prog W 0 (fun _ => true) true Tryz.f3.params.toList args.toList ds p := hA0
  rw [Tryz.params3] at hA hval
  obtain ⟨v0, vs0, d0, ds0, p0, q0, hargs, rfl, rfl, h0, r0⟩ := trodAll_cons hA
  obtain ⟨v1, vs1, d1, ds1, p1, q1, rfl, rfl, rfl, h1, r1⟩ := trodAll_cons r0
  obtain ⟨v2, vs2, d2, ds2, p2, q2, rfl, rfl, rfl, h2, r2⟩ := trodAll_cons r1
  obtain ⟨v3, vs3, d3, ds3, p3, q3, rfl, rfl, rfl, h3, r3⟩ := trodAll_cons r2
  obtain ⟨rfl, rfl, rfl⟩ := trodAll_nil r3
  obtain rfl : args = #[v0, v1, v2, v3] := by cases args; simp_all
  obtain ⟨rfl, rfl⟩ := trodVars_none hV
  have hA1 := hA
  obtain ⟨a0, u0, rfl, g0, k0⟩ := arg_Series Tryz.underlying24 (by kernel_rfl) (by kernel_rfl) Tryz.underlying2 Tryz.underlying2 (op_list Tryz.underlying22 (by kernel_rfl) (op_Race Tryz.underlying63 (by kernel_rfl) (by kernel_rfl) (op_list Tryz.underlying61 (by kernel_rfl) (op_Finish Tryz.underlying104 (by kernel_rfl) (by kernel_rfl) (by kernel_rfl) rfl)))) (hval 0 24 v0 rfl rfl) h0
  obtain ⟨a1, g1, k1⟩ := arg_list (α := Penalty) Tryz.underlying25 (op_list Tryz.underlying25 (by kernel_rfl) (op_Penalty Tryz.underlying55 (by kernel_rfl) (by kernel_rfl) (by kernel_rfl) rfl)) (hval 1 25 v1 rfl rfl) h1
  obtain ⟨a2, g2, k2⟩ := arg_list (α := Int) Tryz.underlying26 (op_list Tryz.underlying26 (by kernel_rfl) (op_int Tryz.underlying2)) (hval 2 26 v2 rfl rfl) h2
  obtain ⟨a3, rfl, k3⟩ := arg_int Tryz.underlying2 (hval 3 2 v3 rfl rfl) h3
  refine (M.laws_FnExactPlacesLost_ok W a0 g0 a1 g1 a2 g2 a3 (pure_FnExactPlacesLost a0 k0 a1 k1 a2 k2 a3 k3)).mono fun e W' ⟨he, hfr⟩ => ?_
  subst he
  exact ⟨_, rfl, post_law hW' hA0 rfl rfl Tryz.underlying4 rfl laidOut (by kernel_rfl) hfr.1⟩

theorem over : Rows.fnExactPlacesLostRow.holds Tryz.pinned (OpenSpec.ofChange Rows.fnExactPlacesLostSpec) :=
  OpenClaim.holds_of_wide 3 Tryz.f3 rfl rfl rfl rfl rfl rfl rfl ⟨rfl, rfl, rfl, rfl, rfl⟩ rfl rfl rfl rfl rfl (by kernel_rfl) Tryz.func3 (by kernel_rfl)
    (of_decide_eq_true (by kernel_rfl)) (by unfold Func.isWrapper; first | (rw [if_pos (by decide +kernel)]; kernel_rfl) | (rw [if_neg (by decide +kernel)]; exact ⟨rfl, rfl⟩))
    (fun os started H enc _ => lifted os started H enc)

theorem proved : Rows.FnExactPlacesLostSaid := over
#print axioms proved
end Go.Proofs.YtgelmamcinlahaaGreat.fnExactPlacesLostL
