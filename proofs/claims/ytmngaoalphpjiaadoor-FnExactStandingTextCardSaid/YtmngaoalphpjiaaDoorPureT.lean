/- Pure laws: places, points and tables. -/
import Derived.Test.YtmngaoalphpjiaaDoorPureQ
namespace Go.Proofs.YtmngaoalphpjiaaDoor
open Go
set_option linter.unusedVariables false
set_option linter.unusedSimpArgs false
def fill {α : Type} (L : List α) (z : α) (i : Nat) : List α := L.take i ++ List.replicate (L.length - i) z
theorem fill_zero {α : Type} (L : List α) (z : α) : fill L z 0 = List.replicate L.length z := by simp [fill]
theorem fill_all {α : Type} (L : List α) (z : α) : fill L z L.length = L := by simp [fill]
theorem fill_len {α : Type} (L : List α) (z : α) (i : Nat) (h : i ≤ L.length) : (fill L z i).length = L.length := by simp [fill]; omega
theorem fill_get {α : Type} (L : List α) (z : α) (i : Nat) (h : i < L.length) : (fill L z i)[i]? = some z := by
  unfold fill
  rw [List.getElem?_append_right (by simp; omega), List.getElem?_replicate, if_pos (by simp; omega)]
theorem fill_set {α : Type} (L : List α) (z : α) (i : Nat) (h : i < L.length) (a : α) (ha : a = L[i]) : (fill L z i).set i a = fill L z (i + 1) := by
  subst ha
  apply List.ext_getElem?
  intro j
  by_cases hj : i = j
  · subst hj
    rw [List.getElem?_set_self (by rw [fill_len L z i (by omega)]; exact h)]
    unfold fill
    rw [List.getElem?_append_left (by simp; omega), List.getElem?_take_of_lt (by omega), List.getElem?_eq_getElem h]
  · rw [List.getElem?_set_ne hj]
    unfold fill
    by_cases hlt : j < i
    · rw [List.getElem?_append_left (by simp; omega), List.getElem?_append_left (by simp; omega), List.getElem?_take_of_lt hlt, List.getElem?_take_of_lt (by omega)]
    · rw [List.getElem?_append_right (by simp; omega), List.getElem?_append_right (by simp; omega), List.getElem?_replicate, List.getElem?_replicate]
      simp only [List.length_take]
      by_cases hz : j < L.length
      · rw [if_pos (by omega), if_pos (by omega)]
      · rw [if_neg (by omega), if_neg (by omega)]
theorem fill_idx {α : Type} (L : List α) (z : α) (i : Nat) (h : i < L.length) : idx (fill L z i) (i : Int) = some z := by rw [idx_nat, fill_get L z i h]
theorem cnt_succ {α : Type} (p : α → Bool) (xs : List α) (i : Nat) (h : i < xs.length) : (xs.take (i + 1)).countP p = (xs.take i).countP p + if p xs[i] = true then 1 else 0 := by
  rw [List.take_succ_eq_append_getElem h, List.countP_append, List.countP_singleton]
theorem cnt_le {α : Type} (p : α → Bool) (xs : List α) (i : Nat) : (xs.take i).countP p ≤ xs.length := Nat.le_trans List.countP_le_length (by simp; omega)
end Go.Proofs.YtmngaoalphpjiaaDoor
