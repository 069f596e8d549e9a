/- Pure law of the new factors: they stay in their bounds and move the right way. -/
import Derived.Test.YtiacilijcnbblaaPureS
namespace Go.Proofs.Ytiacilijcnbblaa
open Go
set_option linter.unusedVariables false
set_option linter.unusedSimpArgs false

theorem e_factor (a : ProgressRules) (b c : Int) : M.impl_ProgressFactor a b c = M.spec_ProgressFactor a b c := by
  simp only [M.impl_ProgressFactor, M.spec_ProgressFactor, M.impl_ProgressFactor_j1, M.spec_ProgressFactor_j1, p_specIsProgress, p_implIsProgress, M.impl_isFactor, M.spec_l22Factor, p_l01In, p_within, bnd_some, M.spec_l25New, M.impl_progress]
theorem td_bounds {n : Int} (h : -3000000 ≤ n ∧ n ≤ 3000000) : -3000 ≤ n.tdiv 1000 ∧ n.tdiv 1000 ≤ 3000 := by
  rcases Int.le_total 0 n with h0 | h0
  · rw [Int.tdiv_eq_ediv_of_nonneg h0]; omega
  · have e : n.tdiv 1000 = -((-n).tdiv 1000) := by rw [Int.neg_tdiv]; omega
    rw [e, Int.tdiv_eq_ediv_of_nonneg (by omega)]; omega
def newF (a : ProgressRules) (b c : Int) : Int := max a.Low (min a.High (b + max (-a.Step) (min a.Step ((a.Gain * (c - b)).tdiv 1000))))
theorem p_Factor (a : ProgressRules) (b c : Int) : M.spec_ProgressFactor a b c = some (if IsProgress a then if (1 ≤ b ∧ b ≤ 3000) ∧ (1 ≤ c ∧ c ≤ 3000) then (newF a b c, 0) else (0, 2) else (0, 1)) := by
  simp only [M.spec_ProgressFactor, M.spec_ProgressFactor_j1, p_specIsProgress, M.spec_l22Factor, p_l01In, bnd_some, ifB_if]
  by_cases ha : IsProgress a
  · by_cases hb : 1 ≤ b ∧ b ≤ 3000
    · by_cases hc : 1 ≤ c ∧ c ≤ 3000
      · have hA := ha
        unfold IsProgress at hA
        have e1 : a.Gain * (c - b) ≤ 1000 * 3000 := by
          rcases Int.le_total 0 (c - b) with h | h
          · exact Int.le_trans (Int.mul_le_mul_of_nonneg_right hA.1.2 h) (Int.mul_le_mul_of_nonneg_left (by omega) (by omega))
          · have := Int.mul_nonpos_of_nonneg_of_nonpos hA.1.1 h; omega
        have e2 : -(1000 * 3000) ≤ a.Gain * (c - b) := by
          rcases Int.le_total 0 (c - b) with h | h
          · have := Int.mul_nonneg hA.1.1 h; omega
          · have h1 : a.Gain * (b - c) ≤ 1000 * 3000 := Int.le_trans (Int.mul_le_mul_of_nonneg_right hA.1.2 (by omega)) (Int.mul_le_mul_of_nonneg_left (by omega) (by omega))
            have h2 : a.Gain * (c - b) = -(a.Gain * (b - c)) := by rw [← Int.mul_neg]; congr 1; omega
            omega
        have e3 : -3000 ≤ (a.Gain * (c - b)).tdiv 1000 ∧ (a.Gain * (c - b)).tdiv 1000 ≤ 3000 := td_bounds (by omega)
        simp only [ha, hb, hc, M.spec_l25New, bnd_some]
        rw [w64_of (n := c - b) (by omega), w64_of (n := a.Gain * (c - b)) (by omega), w64_of (n := (a.Gain * (c - b)).tdiv 1000) (by omega), w64_of (n := 0 - a.Step) (by omega), w64_of (by omega)]
        simp only [decide_true, Bool.not_true, Bool.false_eq_true, if_false, if_true, and_self, newF, Int.zero_sub]
      · simp [ha, hb, hc]
    · simp [ha, hb]
  · simp [ha]
theorem newF_in {a : ProgressRules} (ha : IsProgress a) (b c : Int) : a.Low ≤ newF a b c ∧ newF a b c ≤ a.High := by
  unfold IsProgress at ha
  unfold newF
  omega
theorem newF_self {a : ProgressRules} (ha : IsProgress a) {x : Int} (h : a.Low ≤ x ∧ x ≤ a.High) : newF a x x = x := by
  unfold IsProgress at ha
  have e : (a.Gain * (x - x)).tdiv 1000 = 0 := by simp
  unfold newF
  rw [e]
  omega
theorem newF_step {a : ProgressRules} (ha : IsProgress a) {b c : Int} (h : a.Low ≤ b ∧ b ≤ a.High) : newF a b c - b ≤ a.Step ∧ b - newF a b c ≤ a.Step := by
  unfold IsProgress at ha
  unfold newF
  omega
theorem newF_up {a : ProgressRules} (ha : IsProgress a) {b c : Int} (h : a.Low ≤ b ∧ b ≤ a.High) (hc : b ≤ c) : b ≤ newF a b c := by
  unfold IsProgress at ha
  have h1 : 0 ≤ a.Gain * (c - b) := Int.mul_nonneg ha.1.1 (by omega)
  have h2 : 0 ≤ (a.Gain * (c - b)).tdiv 1000 := by rw [Int.tdiv_eq_ediv_of_nonneg h1]; omega
  unfold newF
  omega
theorem pure_FnProgress (c : List UInt8) (hc : OkD.ok c) : M.laws_FnProgress c = some true := by
  rw [M.laws_FnProgress, p_big, bnd_some, ifB_if]
  split
  · rfl
  · rename_i hl
    simp only [decide_eq_true_eq] at hl
    obtain ⟨⟨a, v, p⟩, hx, -⟩ := p_DrawProgress c (by omega)
    simp only [hx, bnd_some, e_factor, p_Factor]
    by_cases ha : IsProgress a
    · by_cases hb : (1 ≤ v ∧ v ≤ 3000) ∧ (1 ≤ p ∧ p ≤ 3000)
      · have h1 := newF_in ha v p
        have hA := ha
        unfold IsProgress at hA
        have h2 : (1 ≤ newF a v p ∧ newF a v p ≤ 3000) ∧ (1 ≤ newF a v p ∧ newF a v p ≤ 3000) := by omega
        have h3 : ¬ newF a v p < a.Low := by omega
        have h4 : ¬ a.High < newF a v p := by omega
        rw [if_pos ha, if_pos hb]
        simp only [bne_self_eq_false, ifB_false, M.laws_FnProgress_j1, p_implIsProgress, bnd_some, h3, h4, decide_false, ha, decide_true, Bool.not_true, M.laws_FnProgress_j2, e_factor, p_Factor, if_pos ha, if_pos h2, newF_self ha h1, M.laws_FnProgress_j3, M.laws_FnProgress_j4]
        by_cases hi : a.Low ≤ v ∧ v ≤ a.High
        · have h5 := newF_step ha (c := p) hi
          have e1 : w64 (newF a v p - v) = newF a v p - v := w64_of (by omega)
          have e2 : w64 (v - newF a v p) = v - newF a v p := w64_of (by omega)
          simp only [hi.1, hi.2, decide_true, ifB_true, Bool.not_true, ifB_false, e1, e2, h5.1, h5.2]
          by_cases hp : p < v
          · simp [hp]
          · have := newF_up ha hi (c := p) (by omega)
            simp [hp, this]
        · by_cases h6 : a.Low ≤ v
          · have h7 : ¬ v ≤ a.High := fun h => hi ⟨h6, h⟩
            simp [h6, h7]
          · simp [h6]
      · rw [if_pos ha, if_neg hb]
        simp [M.laws_FnProgress_j1]
    · rw [if_neg ha]
      simp [M.laws_FnProgress_j1]
end Go.Proofs.Ytiacilijcnbblaa
