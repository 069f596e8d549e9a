/- Pure laws: the order of a race. -/
import Derived.Test.YtmmkkcmliofknaaGreatDoorPureT
import Derived.Test.YtmmkkcmliofknaaGreatDoorPureSort
namespace Go.Proofs.YtmmkkcmliofknaaGreatDoor
open Go
set_option linter.unusedVariables false
set_option linter.unusedSimpArgs false
def zS3 (f : Finish) : Prop := (0 ≤ f.Code ∧ f.Code ≤ 9) ∧ (f.Code = 0 → 1 ≤ f.Time ∧ f.Time ≤ 1000000000) ∧ (f.Code ≠ 0 → f.Time = 0)
theorem zSa (n : Int) (xs : List Finish) (h : zJk n xs) (i : Nat) (hi : i < xs.length) : zS3 xs[i] := by
  have hb := h.2 i hi
  unfold zJE at hb
  simp only [List.getElem?_eq_getElem hi, Bool.or_eq_false_iff, Bool.not_eq_false', decide_eq_true_eq, bne_eq_false_iff_eq] at hb
  obtain ⟨⟨h1, h2⟩, h3⟩ := hb
  refine ⟨h2, fun hc => ?_, fun hc => ?_⟩
  · rw [if_pos hc] at h3; simpa using h3
  · rw [if_neg hc] at h3; simpa using h3
end Go.Proofs.YtmmkkcmliofknaaGreatDoor
