/- Pure laws of the speed curves: implied winds and times between curves. -/
import Derived.Test.YtngegaodnokmbaaDoorPureR
namespace Go.Proofs.YtngegaodnokmbaaDoor
open Go
set_option linter.unusedVariables false
set_option linter.unusedSimpArgs false
theorem e_floor : M.impl_floorDiv = M.spec_l01Floor := by
  funext a b
  simp only [M.impl_floorDiv, M.spec_l01Floor, M.impl_floorDiv_j1, M.spec_l01Floor_j1]
theorem p_floor (n d : Int) (hd : 0 < d) (hn : -4611686018427387904 ≤ n ∧ n < 4611686018427387904) : M.spec_l01Floor n d = some (n / d) := by
  have hne : d ≠ 0 := by omega
  rw [M.spec_l01Floor, chk_pos hne, chk_pos hne, ifB_if]
  simp only [M.spec_l01Floor_j1]
  have hq := Int.emod_add_mul_ediv n d
  have hm0 := Int.emod_nonneg n hne
  have hm1 := Int.emod_lt_of_pos n hd
  have hb : -4611686018427387904 ≤ n / d ∧ n / d < 4611686018427387904 := by
    constructor
    · rw [Int.le_ediv_iff_mul_le hd]
      have : (-4611686018427387904) * d ≤ (-4611686018427387904) * 1 := Int.mul_le_mul_of_nonpos_left (by omega) (by omega)
      omega
    · rw [Int.ediv_lt_iff_lt_mul hd]
      have : (4611686018427387904) * 1 ≤ 4611686018427387904 * d := Int.mul_le_mul_of_nonneg_left (by omega) (by omega)
      omega
  rw [Int.tdiv_eq_ediv, Int.tmod_eq_emod]
  by_cases hc : 0 ≤ n ∨ d ∣ n
  · have h1 : ¬ (n % d - ((if 0 ≤ n ∨ d ∣ n then 0 else d.natAbs : Nat) : Int)) < 0 := by rw [if_pos hc]; omega
    rw [if_neg (by rw [decide_eq_true_eq]; exact h1), if_pos hc, w64_of (by omega)]
    simp
  · have h1 : (n % d - ((if 0 ≤ n ∨ d ∣ n then 0 else d.natAbs : Nat) : Int)) < 0 := by rw [if_neg hc]; omega
    rw [if_pos (by rw [decide_eq_true_eq]; exact h1), if_neg hc, Int.sign_eq_one_of_pos hd, w64_of (n := n / d + 1) (by omega), w64_of (by omega)]
    congr 1
    omega
def badPoint (xs : List CurvePoint) (i : Nat) : Bool := match xs[i]? with
  | none => true
  | some x => !decide (0 ≤ x.Wind ∧ x.Wind ≤ 1000) || !decide (1 ≤ x.Pace ∧ x.Pace ≤ 1000000) || (decide (0 < i) && match xs[i - 1]? with | none => true | some y => decide (x.Wind ≤ y.Wind) || decide (y.Pace ≤ x.Pace))
def IsCurve (xs : List CurvePoint) : Prop := (2 ≤ xs.length ∧ xs.length ≤ 12) ∧ ∀ i, i < xs.length → badPoint xs i = false
instance (xs : List CurvePoint) : Decidable (IsCurve xs) := by unfold IsCurve; infer_instance
theorem l_specCurve (xs : List CurvePoint) (h : xs.length ≤ 1048576) : loopF (M.spec_IsCurve_l1 xs) 0 = some (if ∀ i, i < xs.length → badPoint xs i = false then .nxt (xs.length : Int) else .ret false) := by
  refine loop_find xs.length (by omega) (fun i => (i : Int)) (badPoint xs) false _ rfl (fun i hi => ?_) ?_
  · have h1 : ((i : Int) < (xs.length : Int)) := by omega
    simp only [M.spec_IsCurve_l1, M.spec_IsCurve_j2, M.spec_IsCurve_j3, h1, decide_true, ifB_true, idx_lt xs i hi, bnd_some, p_l01In, step64 hi (by omega), ifB_if]
    unfold badPoint
    simp only [List.getElem?_eq_getElem hi]
    by_cases h3 : 0 ≤ xs[i].Wind ∧ xs[i].Wind ≤ 1000
    · by_cases h4 : 1 ≤ xs[i].Pace ∧ xs[i].Pace ≤ 1000000
      · rcases Nat.eq_zero_or_pos i with h5 | h5
        · subst h5; simp [h3, h4]
        · have h6 : w64 ((i : Int) - 1) = ((i - 1 : Nat) : Int) := by rw [w64_of (by omega)]; omega
          have h7 : (0 : Int) < i := by omega
          simp only [h6, idx_lt xs (i - 1) (by omega), bnd_some, List.getElem?_eq_getElem (show i - 1 < xs.length by omega)]
          by_cases h8 : xs[i].Wind ≤ xs[i - 1].Wind
          · simp [h3, h4, h5, h7, h8]
          · by_cases h9 : xs[i - 1].Pace ≤ xs[i].Pace <;> simp [h3, h4, h5, h7, h8, h9]
      · simp [h3, h4]
    · simp [h3]
  · simp [M.spec_IsCurve_l1]
theorem l_implCurve (xs : List CurvePoint) : M.impl_IsCurve_l1 xs = M.spec_IsCurve_l1 xs := by
  funext i
  simp only [M.impl_IsCurve_l1, M.spec_IsCurve_l1, p_l01In, p_within, M.impl_IsCurve_j2, M.spec_IsCurve_j2, M.spec_IsCurve_j3]
  cases hi : idx xs i with
  | none => simp [bnd]
  | some a =>
    simp only [bnd_some]
    cases hj : idx xs (w64 (i - 1)) with
    | none => simp [bnd, ifB_if]; repeat' split
              all_goals simp_all
    | some b => simp [ifB_if]; repeat' split
                all_goals simp_all
theorem p_specIsCurve (xs : List CurvePoint) (h : xs.length ≤ 1048576) : M.spec_IsCurve xs = some (decide (IsCurve xs)) := by
  unfold IsCurve
  simp only [M.spec_IsCurve, M.spec_IsCurve_j1, bnd_some, l_specCurve xs h, M.spec_IsCurve_a1, ifB_if]
  by_cases h1 : xs.length < 2
  · have e : ((xs.length : Int) < 2) := by omega
    simp only [e, decide_true, if_true]
    exact congrArg some (decide_eq_false (fun hh => by omega)).symm
  · have e1 : ¬ ((xs.length : Int) < 2) := by omega
    by_cases h2 : 12 < xs.length
    · have e2 : (12 < (xs.length : Int)) := by omega
      simp only [e1, e2, decide_true, decide_false, if_true, Bool.false_eq_true, if_false]
      exact congrArg some (decide_eq_false (fun hh => by omega)).symm
    · have e2 : ¬ (12 < (xs.length : Int)) := by omega
      simp only [e1, e2, decide_false, Bool.false_eq_true, if_false]
      by_cases h3 : ∀ i, i < xs.length → badPoint xs i = false
      · rw [if_pos h3]; exact congrArg some (decide_eq_true ⟨⟨by omega, by omega⟩, h3⟩).symm
      · rw [if_neg h3]; exact congrArg some (decide_eq_false (fun hh => h3 hh.2)).symm
theorem p_implIsCurve (xs : List CurvePoint) (h : xs.length ≤ 1048576) : M.impl_IsCurve xs = some (decide (IsCurve xs)) := by
  unfold IsCurve
  simp only [M.impl_IsCurve, M.impl_IsCurve_j1, bnd_some, l_implCurve, l_specCurve xs h, M.impl_IsCurve_a1, ifB_if]
  by_cases h3 : ∀ i, i < xs.length → badPoint xs i = false
  · rw [if_pos h3]
    simp only [outc_nxt]
    by_cases e1 : (2 : Int) ≤ xs.length
    · simp only [e1, decide_true, if_true]
      exact congrArg some (decide_eq_decide.mpr ⟨fun hh => ⟨by omega, h3⟩, fun hh => by omega⟩)
    · simp only [e1, decide_false, Bool.false_eq_true, if_false]
      exact congrArg some (decide_eq_false (fun hh => by omega)).symm
  · rw [if_neg h3]; exact congrArg some (decide_eq_false (fun hh => h3 hh.2)).symm
theorem curve_at {xs : List CurvePoint} (h : IsCurve xs) (i : Nat) (hi : i < xs.length) : (0 ≤ xs[i].Wind ∧ xs[i].Wind ≤ 1000) ∧ (1 ≤ xs[i].Pace ∧ xs[i].Pace ≤ 1000000) ∧ ∀ (h0 : 0 < i), xs[i - 1].Wind < xs[i].Wind ∧ xs[i].Pace < xs[i - 1].Pace := by
  have h1 := h.2 i hi
  unfold badPoint at h1
  simp only [List.getElem?_eq_getElem hi, List.getElem?_eq_getElem (show i - 1 < xs.length by omega)] at h1
  simp at h1
  obtain ⟨⟨h2, h3⟩, h4⟩ := h1
  exact ⟨by omega, by omega, fun h0 => by have := h4 h0; omega⟩
theorem pace_between {a b : CurvePoint} (hab : a.Wind < b.Wind) (hp : b.Pace < a.Pace) (ha : 0 ≤ a.Wind ∧ a.Wind ≤ 1000) (hb : 0 ≤ b.Wind ∧ b.Wind ≤ 1000) (hpa : 1 ≤ a.Pace ∧ a.Pace ≤ 1000000) (hpb : 1 ≤ b.Pace ∧ b.Pace ≤ 1000000)
    (w : Int) (h1 : a.Wind < w) (h2 : w ≤ b.Wind) : ∃ q, M.spec_l01Floor (w64 ((w64 (b.Pace - a.Pace)) * (w64 (w - a.Wind)))) (w64 (b.Wind - a.Wind)) = some q ∧ w64 (a.Pace + q) = a.Pace + q ∧ 1 ≤ a.Pace + q ∧ a.Pace + q ≤ 1000000 := by
  rw [w64_of (n := b.Pace - a.Pace) (by omega), w64_of (n := w - a.Wind) (by omega), w64_of (n := b.Wind - a.Wind) (by omega)]
  have hd : 0 < b.Wind - a.Wind := by omega
  have e1 : (b.Pace - a.Pace) * (b.Wind - a.Wind) ≤ (b.Pace - a.Pace) * (w - a.Wind) := Int.mul_le_mul_of_nonpos_left (by omega) (by omega)
  have e2 : (b.Pace - a.Pace) * (w - a.Wind) ≤ (b.Pace - a.Pace) * 0 := Int.mul_le_mul_of_nonpos_left (by omega) (by omega)
  have e3 : (-1000000) * (w - a.Wind) ≤ (b.Pace - a.Pace) * (w - a.Wind) := Int.mul_le_mul_of_nonneg_right (by omega) (by omega)
  rw [w64_of (by omega), p_floor _ _ hd (by omega)]
  have e4 : b.Pace - a.Pace ≤ ((b.Pace - a.Pace) * (w - a.Wind)) / (b.Wind - a.Wind) := by rw [Int.le_ediv_iff_mul_le hd]; exact e1
  have e5 : ((b.Pace - a.Pace) * (w - a.Wind)) / (b.Wind - a.Wind) ≤ 0 := by
    have := Int.ediv_le_ediv hd (show (b.Pace - a.Pace) * (w - a.Wind) ≤ 0 by omega)
    simpa using this
  exact ⟨_, rfl, w64_of (by omega), by omega, by omega⟩
end Go.Proofs.YtngegaodnokmbaaDoor
