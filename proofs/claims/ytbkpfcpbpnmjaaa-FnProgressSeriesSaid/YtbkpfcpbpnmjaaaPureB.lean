/- Pure law of the bounded boats. -/
import Derived.Test.YtbkpfcpbpnmjaaaPureR
namespace Go.Proofs.Ytbkpfcpbpnmjaaa
open Go
set_option linter.unusedVariables false
set_option linter.unusedSimpArgs false
def badRating (xs : List Rating) (i : Nat) : Bool := match xs[i]? with | none => true | some x => x.Boat != (i : Int) || !decide (1 ≤ x.Value ∧ x.Value ≤ 3000)
def IsRatings (n : Int) (xs : List Rating) : Prop := (1 ≤ n ∧ n ≤ 16) ∧ (xs.length : Int) = n ∧ ∀ i, i < xs.length → badRating xs i = false
instance (n : Int) (xs : List Rating) : Decidable (IsRatings n xs) := by unfold IsRatings; infer_instance
theorem l_specRatings (xs : List Rating) (h : xs.length ≤ 1048576) : loopF (M.spec_IsRatings_l1 xs) 0 = some (if ∀ i, i < xs.length → badRating xs i = false then .nxt (xs.length : Int) else .ret false) := by
  refine loop_find xs.length (by omega) (fun i => (i : Int)) (badRating xs) false _ rfl (fun i hi => ?_) ?_
  · have h1 : ((i : Int) < (xs.length : Int)) := by omega
    simp only [M.spec_IsRatings_l1, M.spec_IsRatings_j2, h1, decide_true, ifB_true, idx_lt xs i hi, bnd_some, p_l01In, M.spec_l22Factor, step64 hi (by omega), ifB_if]
    unfold badRating
    simp only [List.getElem?_eq_getElem hi]
    by_cases h3 : xs[i].Boat = (i : Int)
    · by_cases h4 : 1 ≤ xs[i].Value ∧ xs[i].Value ≤ 3000 <;> simp [h3, h4]
    · simp [h3]
  · simp [M.spec_IsRatings_l1]
theorem l_implRatings (xs : List Rating) : M.impl_IsRatings_l1 xs = M.spec_IsRatings_l1 xs := by
  funext i
  simp only [M.impl_IsRatings_l1, M.spec_IsRatings_l1, M.impl_isFactor, M.spec_l22Factor, p_l01In, p_within, M.impl_IsRatings_j2, M.spec_IsRatings_j2]
  cases hi : idx xs i with
  | none => simp [bnd]
  | some a => simp
theorem p_specIsRatings (n : Int) (xs : List Rating) (h : xs.length ≤ 1048576) : M.spec_IsRatings n xs = some (decide (IsRatings n xs)) := by
  unfold IsRatings
  simp only [M.spec_IsRatings, M.spec_IsRatings_j1, p_l01In, bnd_some, l_specRatings xs h, M.spec_IsRatings_a1, ifB_if]
  by_cases h1 : 1 ≤ n ∧ n ≤ 16
  · by_cases h2 : (xs.length : Int) = n
    · by_cases h3 : ∀ i, i < xs.length → badRating xs i = false
      · rw [if_pos h3]; simp [h1, h2]; exact h3
      · simp only [h1, h2, h3]; simp
    · simp [h1, h2]
  · simp [h1]
theorem p_implIsRatings (n : Int) (xs : List Rating) (h : xs.length ≤ 1048576) : M.impl_IsRatings n xs = some (decide (IsRatings n xs)) := by
  rw [← p_specIsRatings n xs h]
  simp only [M.impl_IsRatings, M.spec_IsRatings, M.impl_IsRatings_j1, M.spec_IsRatings_j1, l_implRatings, p_l01In, p_within, M.impl_IsRatings_a1, M.spec_IsRatings_a1]
end Go.Proofs.Ytbkpfcpbpnmjaaa
