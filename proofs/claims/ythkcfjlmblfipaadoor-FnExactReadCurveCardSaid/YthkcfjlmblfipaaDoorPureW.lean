/- Pure laws of the speed curves: implied winds and times between curves. -/
import Derived.Test.YthkcfjlmblfipaaDoorPureR
namespace Go.Proofs.YthkcfjlmblfipaaDoor
open Go
set_option linter.unusedVariables false
set_option linter.unusedSimpArgs false
def badPoint (xs : List CurvePoint) (i : Nat) : Bool := match xs[i]? with
  | none => true
  | some x => !decide (0 ≤ x.Wind ∧ x.Wind ≤ 1000) || !decide (1 ≤ x.Pace ∧ x.Pace ≤ 1000000) || (decide (0 < i) && match xs[i - 1]? with | none => true | some y => decide (x.Wind ≤ y.Wind) || decide (y.Pace ≤ x.Pace))
def IsCurve (xs : List CurvePoint) : Prop := (2 ≤ xs.length ∧ xs.length ≤ 12) ∧ ∀ i, i < xs.length → badPoint xs i = false
instance (xs : List CurvePoint) : Decidable (IsCurve xs) := by unfold IsCurve; infer_instance
theorem l_specCurve (xs : List CurvePoint) (h : xs.length ≤ 1048576) : loopF (M.spec_IsCurve_l1 xs) 0 = some (if ∀ i, i < xs.length → badPoint xs i = false then .nxt (xs.length : Int) else .ret false) := by
  refine loop_find xs.length (by omega) (fun i => (i : Int)) (badPoint xs) false _ rfl (fun i hi => ?_) ?_
  · have h1 : ((i : Int) < (xs.length : Int)) := by omega
    simp only [M.spec_IsCurve_l1, M.spec_IsCurve_j2, M.spec_IsCurve_j3, h1, decide_true, ifB_true, idx_lt xs i hi, bnd_some, p_l01In, step64 hi (by omega), ifB_if]
    unfold badPoint
    simp only [List.getElem?_eq_getElem hi]
    by_cases h3 : 0 ≤ xs[i].Wind ∧ xs[i].Wind ≤ 1000
    · by_cases h4 : 1 ≤ xs[i].Pace ∧ xs[i].Pace ≤ 1000000
      · rcases Nat.eq_zero_or_pos i with h5 | h5
        · subst h5; simp [h3, h4]
        · have h6 : w64 ((i : Int) - 1) = ((i - 1 : Nat) : Int) := by rw [w64_of (by omega)]; omega
          have h7 : (0 : Int) < i := by omega
          simp only [h6, idx_lt xs (i - 1) (by omega), bnd_some, List.getElem?_eq_getElem (show i - 1 < xs.length by omega)]
          by_cases h8 : xs[i].Wind ≤ xs[i - 1].Wind
          · simp [h3, h4, h5, h7, h8]
          · by_cases h9 : xs[i - 1].Pace ≤ xs[i].Pace <;> simp [h3, h4, h5, h7, h8, h9]
      · simp [h3, h4]
    · simp [h3]
  · simp [M.spec_IsCurve_l1]
theorem l_implCurve (xs : List CurvePoint) : M.impl_IsCurve_l1 xs = M.spec_IsCurve_l1 xs := by
  funext i
  simp only [M.impl_IsCurve_l1, M.spec_IsCurve_l1, p_l01In, p_within, M.impl_IsCurve_j2, M.spec_IsCurve_j2, M.spec_IsCurve_j3]
  cases hi : idx xs i with
  | none => simp [bnd]
  | some a =>
    simp only [bnd_some]
    cases hj : idx xs (w64 (i - 1)) with
    | none => simp [bnd, ifB_if]; repeat' split
              all_goals simp_all
    | some b => simp [ifB_if]; repeat' split
                all_goals simp_all
theorem p_specIsCurve (xs : List CurvePoint) (h : xs.length ≤ 1048576) : M.spec_IsCurve xs = some (decide (IsCurve xs)) := by
  unfold IsCurve
  simp only [M.spec_IsCurve, M.spec_IsCurve_j1, bnd_some, l_specCurve xs h, M.spec_IsCurve_a1, ifB_if]
  by_cases h1 : xs.length < 2
  · have e : ((xs.length : Int) < 2) := by omega
    simp only [e, decide_true, if_true]
    exact congrArg some (decide_eq_false (fun hh => by omega)).symm
  · have e1 : ¬ ((xs.length : Int) < 2) := by omega
    by_cases h2 : 12 < xs.length
    · have e2 : (12 < (xs.length : Int)) := by omega
      simp only [e1, e2, decide_true, decide_false, if_true, Bool.false_eq_true, if_false]
      exact congrArg some (decide_eq_false (fun hh => by omega)).symm
    · have e2 : ¬ (12 < (xs.length : Int)) := by omega
      simp only [e1, e2, decide_false, Bool.false_eq_true, if_false]
      by_cases h3 : ∀ i, i < xs.length → badPoint xs i = false
      · rw [if_pos h3]; exact congrArg some (decide_eq_true ⟨⟨by omega, by omega⟩, h3⟩).symm
      · rw [if_neg h3]; exact congrArg some (decide_eq_false (fun hh => h3 hh.2)).symm
theorem p_implIsCurve (xs : List CurvePoint) (h : xs.length ≤ 1048576) : M.impl_IsCurve xs = some (decide (IsCurve xs)) := by
  unfold IsCurve
  simp only [M.impl_IsCurve, M.impl_IsCurve_j1, bnd_some, l_implCurve, l_specCurve xs h, M.impl_IsCurve_a1, ifB_if]
  by_cases h3 : ∀ i, i < xs.length → badPoint xs i = false
  · rw [if_pos h3]
    simp only [outc_nxt]
    by_cases e1 : (2 : Int) ≤ xs.length
    · simp only [e1, decide_true, if_true]
      exact congrArg some (decide_eq_decide.mpr ⟨fun hh => ⟨by omega, h3⟩, fun hh => by omega⟩)
    · simp only [e1, decide_false, Bool.false_eq_true, if_false]
      exact congrArg some (decide_eq_false (fun hh => by omega)).symm
  · rw [if_neg h3]; exact congrArg some (decide_eq_false (fun hh => h3 hh.2)).symm
theorem curve_at {xs : List CurvePoint} (h : IsCurve xs) (i : Nat) (hi : i < xs.length) : (0 ≤ xs[i].Wind ∧ xs[i].Wind ≤ 1000) ∧ (1 ≤ xs[i].Pace ∧ xs[i].Pace ≤ 1000000) ∧ ∀ (h0 : 0 < i), xs[i - 1].Wind < xs[i].Wind ∧ xs[i].Pace < xs[i - 1].Pace := by
  have h1 := h.2 i hi
  unfold badPoint at h1
  simp only [List.getElem?_eq_getElem hi, List.getElem?_eq_getElem (show i - 1 < xs.length by omega)] at h1
  simp at h1
  obtain ⟨⟨h2, h3⟩, h4⟩ := h1
  exact ⟨by omega, by omega, fun h0 => by have := h4 h0; omega⟩
end Go.Proofs.YthkcfjlmblfipaaDoor
