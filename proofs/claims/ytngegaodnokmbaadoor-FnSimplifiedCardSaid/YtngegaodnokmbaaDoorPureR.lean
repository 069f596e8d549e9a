/- Pure laws of the first seat: progress rules and discard rules. -/
import Derived.Test.YtngegaodnokmbaaDoorPureH
namespace Go.Proofs.YtngegaodnokmbaaDoor
open Go
set_option linter.unusedVariables false
set_option linter.unusedSimpArgs false
theorem p_l01In (n lo hi : Int) : M.spec_l01In n lo hi = some (decide (lo ≤ n ∧ n ≤ hi)) := by
  simp only [M.spec_l01In, M.spec_l01In_j1, ifB_if]
  by_cases h : lo ≤ n <;> simp [h]
theorem p_within (n lo hi : Int) : M.impl_within n lo hi = some (decide (lo ≤ n ∧ n ≤ hi)) := by
  simp only [M.impl_within, M.impl_within_j1, ifB_if]
  by_cases h : lo ≤ n <;> simp [h]
def IsProgress (a : ProgressRules) : Prop := (0 ≤ a.Gain ∧ a.Gain ≤ 1000) ∧ (0 ≤ a.Step ∧ a.Step ≤ 3000) ∧ 1 ≤ a.Low ∧ a.Low ≤ a.High ∧ a.High ≤ 3000
instance (a : ProgressRules) : Decidable (IsProgress a) := by unfold IsProgress; infer_instance
def badRule (xs : List Int) (i : Nat) : Bool := !decide (1 ≤ xs.getD i 0 ∧ xs.getD i 0 ≤ 12) || (decide (0 < i) && decide (xs.getD i 0 ≤ xs.getD (i - 1) 0))
def IsRule (xs : List Int) : Prop := ∀ i, i < xs.length → badRule xs i = false
instance (xs : List Int) : Decidable (IsRule xs) := by unfold IsRule; infer_instance
def IsRule3 (xs : List Int) : Prop := xs.length ≤ 3 ∧ IsRule xs
instance (xs : List Int) : Decidable (IsRule3 xs) := by unfold IsRule3; infer_instance
end Go.Proofs.YtngegaodnokmbaaDoor
