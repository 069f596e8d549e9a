/- Pure facts of sorting: Go's stable sort of fewer than twenty numbers is insertion from the right. -/
import Derived.Test.YtbkpfcpbpnmjaaaKit
import Derived.Test.YtbkpfcpbpnmjaaaMod2
namespace Go.Proofs.Ytbkpfcpbpnmjaaa
open Go
set_option linter.unusedVariables false
set_option linter.unusedSimpArgs false
def insB {α : Type} (lt : α → α → Bool) (ra : List α) (x : α) : List α := ra.takeWhile (lt x) ++ x :: ra.dropWhile (lt x)
def srtB {α : Type} (lt : α → α → Bool) (xs : List α) : List α := xs.foldl (insB lt) []
theorem insB_perm {α : Type} (lt : α → α → Bool) (ra : List α) (x : α) : (insB lt ra x).Perm (x :: ra) := by
  have h := List.takeWhile_append_dropWhile (p := lt x) (l := ra)
  unfold insB
  refine (List.perm_middle).trans ?_
  rw [h]
theorem fold_perm {α : Type} (lt : α → α → Bool) : ∀ (xs ra : List α), (xs.foldl (insB lt) ra).Perm (ra ++ xs)
  | [], ra => by simp
  | x :: xs, ra => by
    rw [List.foldl_cons]
    refine (fold_perm lt xs (insB lt ra x)).trans ?_
    refine ((insB_perm lt ra x).append_right xs).trans ?_
    exact (List.perm_middle (l₁ := ra)).symm
theorem srtB_perm {α : Type} (lt : α → α → Bool) (xs : List α) : (srtB lt xs).Perm xs := fold_perm lt xs []
theorem srtB_len {α : Type} (lt : α → α → Bool) (xs : List α) : (srtB lt xs).length = xs.length := (srtB_perm lt xs).length_eq
theorem tw_take {α : Type} (p : α → Bool) : ∀ (xs : List α), xs.takeWhile p = xs.take (xs.takeWhile p).length ∧ xs.dropWhile p = xs.drop (xs.takeWhile p).length
  | [] => by simp
  | x :: xs => by
    have h := tw_take p xs
    by_cases hp : p x = true
    · simp only [List.takeWhile_cons, hp, if_true, List.dropWhile_cons, List.length_cons, List.take_succ_cons, List.drop_succ_cons]
      exact ⟨by rw [← h.1], h.2⟩
    · simp [List.takeWhile_cons, List.dropWhile_cons, hp]
theorem tw_get {α : Type} (p : α → Bool) : ∀ (xs : List α) (k : Nat) (h : k < xs.length), k < (xs.takeWhile p).length → p xs[k] = true
  | x :: xs, k, h, hk => by
    by_cases hp : p x = true
    · rw [List.takeWhile_cons, if_pos hp] at hk
      cases k with
      | zero => simpa using hp
      | succ k => simpa using tw_get p xs k (by simpa using h) (by simpa using hk)
    · rw [List.takeWhile_cons, if_neg hp] at hk; simp at hk
theorem tw_end {α : Type} (p : α → Bool) : ∀ (xs : List α) (h : (xs.takeWhile p).length < xs.length), p (xs[(xs.takeWhile p).length]) = false
  | x :: xs, h => by
    by_cases hp : p x = true
    · have e : (x :: xs).takeWhile p = x :: xs.takeWhile p := by rw [List.takeWhile_cons, if_pos hp]
      have h' : (xs.takeWhile p).length < xs.length := by rw [e] at h; simpa using h
      have := tw_end p xs h'
      simp only [e, List.length_cons, List.getElem_cons_succ]
      exact this
    · have e : (x :: xs).takeWhile p = [] := by rw [List.takeWhile_cons, if_neg hp]
      simp only [e, List.length_nil, List.getElem_cons_zero]
      simpa using hp
theorem tw_le {α : Type} (p : α → Bool) (xs : List α) : (xs.takeWhile p).length ≤ xs.length := by
  have h := congrArg List.length (List.takeWhile_append_dropWhile (p := p) (l := xs))
  simp only [List.length_append] at h
  omega
end Go.Proofs.Ytbkpfcpbpnmjaaa
