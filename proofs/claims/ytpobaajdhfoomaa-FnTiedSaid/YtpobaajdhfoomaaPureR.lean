/- Pure laws of the first seat: progress rules and discard rules. -/
import Derived.Test.YtpobaajdhfoomaaPureH
namespace Go.Proofs.Ytpobaajdhfoomaa
open Go
set_option linter.unusedVariables false
set_option linter.unusedSimpArgs false
theorem p_l01In (n lo hi : Int) : M.spec_l01In n lo hi = some (decide (lo ≤ n ∧ n ≤ hi)) := by
  simp only [M.spec_l01In, M.spec_l01In_j1, ifB_if]
  by_cases h : lo ≤ n <;> simp [h]
theorem p_within (n lo hi : Int) : M.impl_within n lo hi = some (decide (lo ≤ n ∧ n ≤ hi)) := by
  simp only [M.impl_within, M.impl_within_j1, ifB_if]
  by_cases h : lo ≤ n <;> simp [h]
def IsProgress (a : ProgressRules) : Prop := (0 ≤ a.Gain ∧ a.Gain ≤ 1000) ∧ (0 ≤ a.Step ∧ a.Step ≤ 3000) ∧ 1 ≤ a.Low ∧ a.Low ≤ a.High ∧ a.High ≤ 3000
instance (a : ProgressRules) : Decidable (IsProgress a) := by unfold IsProgress; infer_instance
def badRule (xs : List Int) (i : Nat) : Bool := !decide (1 ≤ xs.getD i 0 ∧ xs.getD i 0 ≤ 12) || (decide (0 < i) && decide (xs.getD i 0 ≤ xs.getD (i - 1) 0))
def IsRule (xs : List Int) : Prop := ∀ i, i < xs.length → badRule xs i = false
instance (xs : List Int) : Decidable (IsRule xs) := by unfold IsRule; infer_instance
theorem l_specRule (xs : List Int) (h : xs.length ≤ 1048576) : loopF (M.spec_IsDiscardRule_l1 xs) 0 = some (if IsRule xs then .nxt (xs.length : Int) else .ret false) := by
  refine loop_find xs.length (by omega) (fun i => (i : Int)) (badRule xs) false _ rfl (fun i hi => ?_) ?_
  · have h1 : ((i : Int) < (xs.length : Int)) := by omega
    have h2 : w64 ((i : Int) + 1) = ((i + 1 : Nat) : Int) := by rw [w64_of (by omega)]; rfl
    simp only [M.spec_IsDiscardRule_l1, M.spec_IsDiscardRule_j1, h1, decide_true, ifB_true, idx_lt xs i hi, bnd_some, p_l01In, ifB_if, h2]
    unfold badRule
    rw [show xs.getD i 0 = xs[i] by simp [hi]]
    by_cases h3 : 1 ≤ xs[i] ∧ xs[i] ≤ 12
    · rcases Nat.eq_zero_or_pos i with h4 | h4
      · subst h4; simp [h3]
      · have h5 : w64 ((i : Int) - 1) = ((i - 1 : Nat) : Int) := by rw [w64_of (by omega)]; omega
        rw [h5, idx_lt xs (i - 1) (by omega), show xs.getD (i - 1) 0 = xs[i - 1] by simp [show i - 1 < xs.length by omega]]
        have h6 : (0 : Int) < i := by omega
        simp [h3, h4, h6]
        by_cases h7 : xs[i] ≤ xs[i - 1] <;> simp [h7]
    · simp [h3]
  · simp [M.spec_IsDiscardRule_l1]
theorem l_implRule (xs : List Int) (h : xs.length ≤ 1048576) : loopF (M.impl_IsDiscardRule_l1 xs) 0 = some (if IsRule xs then .nxt (xs.length : Int) else .ret false) := by
  rw [← l_specRule xs h]
  congr 1
  funext i
  simp only [M.impl_IsDiscardRule_l1, M.spec_IsDiscardRule_l1, p_l01In, p_within, M.impl_IsDiscardRule_j1, M.spec_IsDiscardRule_j1, ifB_if]
  cases hi : idx xs i with
  | none => simp [bnd]
  | some a => simp
def IsRule3 (xs : List Int) : Prop := xs.length ≤ 3 ∧ IsRule xs
instance (xs : List Int) : Decidable (IsRule3 xs) := by unfold IsRule3; infer_instance
theorem p_specIsDiscardRule (xs : List Int) (h : xs.length ≤ 1048576) : M.spec_IsDiscardRule xs = some (decide (IsRule3 xs)) := by
  simp only [M.spec_IsDiscardRule, l_specRule xs h, M.spec_IsDiscardRule_a1, ifB_if, bnd_some, decide_eq_true_eq]
  unfold IsRule3
  by_cases h1 : xs.length ≤ 3
  · rw [if_neg (by omega)]
    by_cases h2 : IsRule xs <;> simp [h1, h2]
  · rw [if_pos (by omega)]; simp [h1]
theorem p_implIsDiscardRule (xs : List Int) (h : xs.length ≤ 1048576) : M.impl_IsDiscardRule xs = some (decide (IsRule3 xs)) := by
  simp only [M.impl_IsDiscardRule, l_implRule xs h, M.impl_IsDiscardRule_a1, bnd_some]
  unfold IsRule3
  by_cases h2 : IsRule xs
  · simp [h2]; omega
  · simp [h2]
theorem e_count : M.impl_discardCount = M.spec_l27Count := by
  funext xs n
  simp only [M.impl_discardCount, M.spec_l27Count, M.impl_discardCount_a1, M.spec_l27Count_a1]
  have e : M.impl_discardCount_l1 xs n = M.spec_l27Count_l1 xs n := by
    funext s
    simp only [M.impl_discardCount_l1, M.spec_l27Count_l1, M.impl_discardCount_j1, M.impl_discardCount_j2, M.spec_l27Count_j1, M.spec_l27Count_j2]
  rw [e]
end Go.Proofs.Ytpobaajdhfoomaa
