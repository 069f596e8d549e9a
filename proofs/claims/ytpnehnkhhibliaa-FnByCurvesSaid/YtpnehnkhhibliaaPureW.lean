/- Pure laws of the speed curves: implied winds and times between curves. -/
import Derived.Test.YtpnehnkhhibliaaPureR
namespace Go.Proofs.Ytpnehnkhhibliaa
open Go
set_option linter.unusedVariables false
set_option linter.unusedSimpArgs false
theorem e_floor : M.impl_floorDiv = M.spec_l01Floor := by
  funext a b
  simp only [M.impl_floorDiv, M.spec_l01Floor, M.impl_floorDiv_j1, M.spec_l01Floor_j1]
theorem p_floor (n d : Int) (hd : 0 < d) (hn : -4611686018427387904 ≤ n ∧ n < 4611686018427387904) : M.spec_l01Floor n d = some (n / d) := by
  have hne : d ≠ 0 := by omega
  rw [M.spec_l01Floor, chk_pos hne, chk_pos hne, ifB_if]
  simp only [M.spec_l01Floor_j1]
  have hq := Int.emod_add_mul_ediv n d
  have hm0 := Int.emod_nonneg n hne
  have hm1 := Int.emod_lt_of_pos n hd
  have hb : -4611686018427387904 ≤ n / d ∧ n / d < 4611686018427387904 := by
    constructor
    · rw [Int.le_ediv_iff_mul_le hd]
      have : (-4611686018427387904) * d ≤ (-4611686018427387904) * 1 := Int.mul_le_mul_of_nonpos_left (by omega) (by omega)
      omega
    · rw [Int.ediv_lt_iff_lt_mul hd]
      have : (4611686018427387904) * 1 ≤ 4611686018427387904 * d := Int.mul_le_mul_of_nonneg_left (by omega) (by omega)
      omega
  rw [Int.tdiv_eq_ediv, Int.tmod_eq_emod]
  by_cases hc : 0 ≤ n ∨ d ∣ n
  · have h1 : ¬ (n % d - ((if 0 ≤ n ∨ d ∣ n then 0 else d.natAbs : Nat) : Int)) < 0 := by rw [if_pos hc]; omega
    rw [if_neg (by rw [decide_eq_true_eq]; exact h1), if_pos hc, w64_of (by omega)]
    simp
  · have h1 : (n % d - ((if 0 ≤ n ∨ d ∣ n then 0 else d.natAbs : Nat) : Int)) < 0 := by rw [if_neg hc]; omega
    rw [if_pos (by rw [decide_eq_true_eq]; exact h1), if_neg hc, Int.sign_eq_one_of_pos hd, w64_of (n := n / d + 1) (by omega), w64_of (by omega)]
    congr 1
    omega
def badPoint (xs : List CurvePoint) (i : Nat) : Bool := match xs[i]? with
  | none => true
  | some x => !decide (0 ≤ x.Wind ∧ x.Wind ≤ 1000) || !decide (1 ≤ x.Pace ∧ x.Pace ≤ 1000000) || (decide (0 < i) && match xs[i - 1]? with | none => true | some y => decide (x.Wind ≤ y.Wind) || decide (y.Pace ≤ x.Pace))
def IsCurve (xs : List CurvePoint) : Prop := (2 ≤ xs.length ∧ xs.length ≤ 12) ∧ ∀ i, i < xs.length → badPoint xs i = false
instance (xs : List CurvePoint) : Decidable (IsCurve xs) := by unfold IsCurve; infer_instance
theorem l_specCurve (xs : List CurvePoint) (h : xs.length ≤ 1048576) : loopF (M.spec_IsCurve_l1 xs) 0 = some (if ∀ i, i < xs.length → badPoint xs i = false then .nxt (xs.length : Int) else .ret false) := by
  refine loop_find xs.length (by omega) (fun i => (i : Int)) (badPoint xs) false _ rfl (fun i hi => ?_) ?_
  · have h1 : ((i : Int) < (xs.length : Int)) := by omega
    simp only [M.spec_IsCurve_l1, M.spec_IsCurve_j2, M.spec_IsCurve_j3, h1, decide_true, ifB_true, idx_lt xs i hi, bnd_some, p_l01In, step64 hi (by omega), ifB_if]
    unfold badPoint
    simp only [List.getElem?_eq_getElem hi]
    by_cases h3 : 0 ≤ xs[i].Wind ∧ xs[i].Wind ≤ 1000
    · by_cases h4 : 1 ≤ xs[i].Pace ∧ xs[i].Pace ≤ 1000000
      · rcases Nat.eq_zero_or_pos i with h5 | h5
        · subst h5; simp [h3, h4]
        · have h6 : w64 ((i : Int) - 1) = ((i - 1 : Nat) : Int) := by rw [w64_of (by omega)]; omega
          have h7 : (0 : Int) < i := by omega
          simp only [h6, idx_lt xs (i - 1) (by omega), bnd_some, List.getElem?_eq_getElem (show i - 1 < xs.length by omega)]
          by_cases h8 : xs[i].Wind ≤ xs[i - 1].Wind
          · simp [h3, h4, h5, h7, h8]
          · by_cases h9 : xs[i - 1].Pace ≤ xs[i].Pace <;> simp [h3, h4, h5, h7, h8, h9]
      · simp [h3, h4]
    · simp [h3]
  · simp [M.spec_IsCurve_l1]
theorem l_implCurve (xs : List CurvePoint) : M.impl_IsCurve_l1 xs = M.spec_IsCurve_l1 xs := by
  funext i
  simp only [M.impl_IsCurve_l1, M.spec_IsCurve_l1, p_l01In, p_within, M.impl_IsCurve_j2, M.spec_IsCurve_j2, M.spec_IsCurve_j3]
  cases hi : idx xs i with
  | none => simp [bnd]
  | some a =>
    simp only [bnd_some]
    cases hj : idx xs (w64 (i - 1)) with
    | none => simp [bnd, ifB_if]; repeat' split
              all_goals simp_all
    | some b => simp [ifB_if]; repeat' split
                all_goals simp_all
theorem p_specIsCurve (xs : List CurvePoint) (h : xs.length ≤ 1048576) : M.spec_IsCurve xs = some (decide (IsCurve xs)) := by
  unfold IsCurve
  simp only [M.spec_IsCurve, M.spec_IsCurve_j1, bnd_some, l_specCurve xs h, M.spec_IsCurve_a1, ifB_if]
  by_cases h1 : xs.length < 2
  · have e : ((xs.length : Int) < 2) := by omega
    simp only [e, decide_true, if_true]
    exact congrArg some (decide_eq_false (fun hh => by omega)).symm
  · have e1 : ¬ ((xs.length : Int) < 2) := by omega
    by_cases h2 : 12 < xs.length
    · have e2 : (12 < (xs.length : Int)) := by omega
      simp only [e1, e2, decide_true, decide_false, if_true, Bool.false_eq_true, if_false]
      exact congrArg some (decide_eq_false (fun hh => by omega)).symm
    · have e2 : ¬ (12 < (xs.length : Int)) := by omega
      simp only [e1, e2, decide_false, Bool.false_eq_true, if_false]
      by_cases h3 : ∀ i, i < xs.length → badPoint xs i = false
      · rw [if_pos h3]; exact congrArg some (decide_eq_true ⟨⟨by omega, by omega⟩, h3⟩).symm
      · rw [if_neg h3]; exact congrArg some (decide_eq_false (fun hh => h3 hh.2)).symm
theorem p_implIsCurve (xs : List CurvePoint) (h : xs.length ≤ 1048576) : M.impl_IsCurve xs = some (decide (IsCurve xs)) := by
  unfold IsCurve
  simp only [M.impl_IsCurve, M.impl_IsCurve_j1, bnd_some, l_implCurve, l_specCurve xs h, M.impl_IsCurve_a1, ifB_if]
  by_cases h3 : ∀ i, i < xs.length → badPoint xs i = false
  · rw [if_pos h3]
    simp only [outc_nxt]
    by_cases e1 : (2 : Int) ≤ xs.length
    · simp only [e1, decide_true, if_true]
      exact congrArg some (decide_eq_decide.mpr ⟨fun hh => ⟨by omega, h3⟩, fun hh => by omega⟩)
    · simp only [e1, decide_false, Bool.false_eq_true, if_false]
      exact congrArg some (decide_eq_false (fun hh => by omega)).symm
  · rw [if_neg h3]; exact congrArg some (decide_eq_false (fun hh => h3 hh.2)).symm
theorem curve_at {xs : List CurvePoint} (h : IsCurve xs) (i : Nat) (hi : i < xs.length) : (0 ≤ xs[i].Wind ∧ xs[i].Wind ≤ 1000) ∧ (1 ≤ xs[i].Pace ∧ xs[i].Pace ≤ 1000000) ∧ ∀ (h0 : 0 < i), xs[i - 1].Wind < xs[i].Wind ∧ xs[i].Pace < xs[i - 1].Pace := by
  have h1 := h.2 i hi
  unfold badPoint at h1
  simp only [List.getElem?_eq_getElem hi, List.getElem?_eq_getElem (show i - 1 < xs.length by omega)] at h1
  simp at h1
  obtain ⟨⟨h2, h3⟩, h4⟩ := h1
  exact ⟨by omega, by omega, fun h0 => by have := h4 h0; omega⟩
theorem pace_between {a b : CurvePoint} (hab : a.Wind < b.Wind) (hp : b.Pace < a.Pace) (ha : 0 ≤ a.Wind ∧ a.Wind ≤ 1000) (hb : 0 ≤ b.Wind ∧ b.Wind ≤ 1000) (hpa : 1 ≤ a.Pace ∧ a.Pace ≤ 1000000) (hpb : 1 ≤ b.Pace ∧ b.Pace ≤ 1000000)
    (w : Int) (h1 : a.Wind < w) (h2 : w ≤ b.Wind) : ∃ q, M.spec_l01Floor (w64 ((w64 (b.Pace - a.Pace)) * (w64 (w - a.Wind)))) (w64 (b.Wind - a.Wind)) = some q ∧ w64 (a.Pace + q) = a.Pace + q ∧ 1 ≤ a.Pace + q ∧ a.Pace + q ≤ 1000000 := by
  rw [w64_of (n := b.Pace - a.Pace) (by omega), w64_of (n := w - a.Wind) (by omega), w64_of (n := b.Wind - a.Wind) (by omega)]
  have hd : 0 < b.Wind - a.Wind := by omega
  have e1 : (b.Pace - a.Pace) * (b.Wind - a.Wind) ≤ (b.Pace - a.Pace) * (w - a.Wind) := Int.mul_le_mul_of_nonpos_left (by omega) (by omega)
  have e2 : (b.Pace - a.Pace) * (w - a.Wind) ≤ (b.Pace - a.Pace) * 0 := Int.mul_le_mul_of_nonpos_left (by omega) (by omega)
  have e3 : (-1000000) * (w - a.Wind) ≤ (b.Pace - a.Pace) * (w - a.Wind) := Int.mul_le_mul_of_nonneg_right (by omega) (by omega)
  rw [w64_of (by omega), p_floor _ _ hd (by omega)]
  have e4 : b.Pace - a.Pace ≤ ((b.Pace - a.Pace) * (w - a.Wind)) / (b.Wind - a.Wind) := by rw [Int.le_ediv_iff_mul_le hd]; exact e1
  have e5 : ((b.Pace - a.Pace) * (w - a.Wind)) / (b.Wind - a.Wind) ≤ 0 := by
    have := Int.ediv_le_ediv hd (show (b.Pace - a.Pace) * (w - a.Wind) ≤ 0 by omega)
    simpa using this
  exact ⟨_, rfl, w64_of (by omega), by omega, by omega⟩
theorem p_pace {xs : List CurvePoint} (h : IsCurve xs) (w : Int) : ∃ r, M.spec_l24Pace xs w = some r ∧ M.impl_paceAt xs w = some r ∧ 1 ≤ r ∧ r ≤ 1000000 := by
  have hl := h.1
  have hc := curve_at h
  by_cases h0 : w ≤ xs[0].Wind
  · refine ⟨xs[0].Pace, ?_, ?_, (hc 0 (by omega)).2.1.1, (hc 0 (by omega)).2.1.2⟩
    · have e : idx xs 0 = some xs[0] := idx_lt xs 0 (by omega)
      simp [M.spec_l24Pace, e, h0]
    · have : loopF (M.impl_paceAt_l1 xs w) 0 = some (.ret xs[0].Pace) := by
        obtain ⟨o, ho, rfl⟩ := loop_count (body := M.impl_paceAt_l1 xs w) (s := 0) xs.length (by omega) (fun i s => s = (i : Int) ∧ i = 0) (fun o => o = .ret xs[0].Pace) ⟨rfl, rfl⟩
          (fun i s hi hs => by
            obtain ⟨rfl, rfl⟩ := hs
            have e : idx xs 0 = some xs[0] := idx_lt xs 0 (by omega)
            have e2 : (0 : Int) < xs.length := by omega
            have e3 : ¬ xs[0].Wind < w := by omega
            refine ⟨.ret xs[0].Pace, ?_, rfl⟩
            simp only [M.impl_paceAt_l1, Int.ofNat_eq_natCast, Int.natCast_zero, e, e2, decide_true, ifB_true, bnd_some, e3, decide_false, ifB_false, BEq.rfl])
          (fun s hs => by omega)
        exact ho
      simp [M.impl_paceAt, this]
  · -- both loops from their second point on
    have last : idx xs (w64 ((xs.length : Int) - 1)) = some xs[xs.length - 1] := by
      have : w64 ((xs.length : Int) - 1) = ((xs.length - 1 : Nat) : Int) := by rw [w64_of (by omega)]; omega
      rw [this, idx_lt xs (xs.length - 1) (by omega)]
    have pt : ∀ i : Nat, 0 < i → (hi : i < xs.length) → xs[i - 1].Wind < w → w ≤ xs[i].Wind → ∃ q, M.spec_l01Floor (w64 ((w64 (xs[i].Pace - xs[i - 1].Pace)) * (w64 (w - xs[i - 1].Wind)))) (w64 (xs[i].Wind - xs[i - 1].Wind)) = some q ∧ w64 (xs[i - 1].Pace + q) = xs[i - 1].Pace + q ∧ 1 ≤ xs[i - 1].Pace + q ∧ xs[i - 1].Pace + q ≤ 1000000 := fun i h1 hi h2 h3 =>
      pace_between ((hc i hi).2.2 h1).1 ((hc i hi).2.2 h1).2 (hc (i - 1) (by omega)).1 (hc i hi).1 (hc (i - 1) (by omega)).2.1 (hc i hi).2.1 w h2 h3
    -- the first point at or behind the wind
    let Q : Outc Int Int → Prop := fun o => ∃ i : Nat, 0 < i ∧ (∀ j (hj : j < xs.length), j < i → xs[j].Wind < w) ∧ ((i = xs.length ∧ ∃ s, o = .nxt s) ∨ ∃ hi : i < xs.length, w ≤ xs[i].Wind ∧ ∃ q, M.spec_l01Floor (w64 ((w64 (xs[i].Pace - xs[i - 1].Pace)) * (w64 (w - xs[i - 1].Wind)))) (w64 (xs[i].Wind - xs[i - 1].Wind)) = some q ∧ o = .ret (w64 (xs[i - 1].Pace + q)))
    have f1 : ∃ o, loopF (M.spec_l24Pace_l1 xs w) 1 = some o ∧ Q o := by
      refine loop_count (body := M.spec_l24Pace_l1 xs w) (s := 1) (xs.length - 1) (by omega) (fun i s => s = ((i + 1 : Nat) : Int) ∧ ∀ j (hj : j < xs.length), j < i + 1 → xs[j].Wind < w) Q ⟨rfl, fun j hj hj' => by
        have hj0 : j = 0 := by omega
        subst hj0
        omega⟩ (fun i s hi hs => ?_) (fun s hs => ?_)
      · obtain ⟨rfl, hs⟩ := hs
        have e2 : ((i + 1 : Nat) : Int) < xs.length := by omega
        have e3 : w64 (((i + 1 : Nat) : Int) - 1) = (i : Int) := by rw [w64_of (by omega)]; omega
        have e4 : w64 (((i + 1 : Nat) : Int) + 1) = ((i + 1 + 1 : Nat) : Int) := step64 (n := xs.length) (by omega) (by omega)
        simp only [M.spec_l24Pace_l1, e2, decide_true, ifB_true, e3, idx_lt xs i (by omega), idx_lt xs (i + 1) (by omega), bnd_some, e4]
        rw [ifB_if]
        split
        · rename_i hw
          simp only [decide_eq_true_eq] at hw
          obtain ⟨q, hq, _⟩ := pt (i + 1) (by omega) (by omega) (hs i (by omega) (by omega)) hw
          simp only [Nat.add_sub_cancel] at hq
          rw [hq]
          exact ⟨_, rfl, i + 1, by omega, hs, .inr ⟨by omega, hw, q, hq, rfl⟩⟩
        · rename_i hw
          simp only [decide_eq_true_eq] at hw
          refine ⟨_, rfl, rfl, fun j hj hj' => ?_⟩
          by_cases hji : j = i + 1
          · subst hji; omega
          · exact hs j hj (by omega)
      · obtain ⟨rfl, hs⟩ := hs
        have e2 : ¬ (((xs.length - 1 + 1 : Nat) : Int) < xs.length) := by omega
        exact ⟨.brk ((xs.length - 1 + 1 : Nat) : Int), by simp only [M.spec_l24Pace_l1, e2, decide_false, ifB_false], xs.length, by omega, fun j hj _ => hs j hj (by omega), .inl ⟨rfl, _, rfl⟩⟩
    have f2 : ∃ o, loopF (M.impl_paceAt_l1 xs w) 0 = some o ∧ Q o := by
      refine loop_count (body := M.impl_paceAt_l1 xs w) (s := 0) xs.length (by omega) (fun i s => s = (i : Int) ∧ ∀ j (hj : j < xs.length), j < i → xs[j].Wind < w) Q ⟨rfl, fun j hj hj' => by omega⟩ (fun i s hi hs => ?_) (fun s hs => ?_)
      · obtain ⟨rfl, hs⟩ := hs
        have e2 : ((i : Nat) : Int) < xs.length := by omega
        simp only [M.impl_paceAt_l1, e2, decide_true, ifB_true, idx_lt xs i hi, bnd_some, step64 hi (by omega), e_floor]
        rw [ifB_if]
        split
        · rename_i hw
          simp only [decide_eq_true_eq] at hw
          refine ⟨_, rfl, rfl, fun j hj hj' => ?_⟩
          by_cases hji : j = i
          · subst hji; omega
          · exact hs j hj (by omega)
        · rename_i hw
          simp only [decide_eq_true_eq] at hw
          have hi0 : 0 < i := by
            rcases Nat.eq_zero_or_pos i with h5 | h5
            · subst h5; omega
            · exact h5
          have e3 : w64 ((i : Int) - 1) = ((i - 1 : Nat) : Int) := by rw [w64_of (by omega)]; omega
          have e5 : ((i : Int) == 0) = false := by simp; omega
          obtain ⟨q, hq, _⟩ := pt i hi0 hi (hs (i - 1) (by omega) (by omega)) (by omega)
          simp only [e5, ifB_false, e3, idx_lt xs (i - 1) (by omega), bnd_some, hq]
          exact ⟨_, rfl, i, hi0, hs, .inr ⟨hi, by omega, q, hq, rfl⟩⟩
      · obtain ⟨rfl, hs⟩ := hs
        have e2 : ¬ ((xs.length : Int) < xs.length) := by omega
        exact ⟨.brk (xs.length : Int), by simp only [M.impl_paceAt_l1, e2, decide_false, ifB_false], xs.length, by omega, fun j hj _ => hs j hj (by omega), .inl ⟨rfl, _, rfl⟩⟩
    obtain ⟨o1, ho1, i1, hi1, hb1, hc1⟩ := f1
    obtain ⟨o2, ho2, i2, hi2, hb2, hc2⟩ := f2
    have e0 : idx xs 0 = some xs[0] := idx_lt xs 0 (by omega)
    have key : i1 = i2 := by
      rcases Nat.lt_trichotomy i1 i2 with h5 | h5 | h5
      · rcases hc1 with ⟨h6, _⟩ | ⟨h6, h7, _⟩
        · rcases hc2 with ⟨h8, _⟩ | ⟨h8, _⟩ <;> omega
        · have := hb2 i1 h6 h5; omega
      · exact h5
      · rcases hc2 with ⟨h6, _⟩ | ⟨h6, h7, _⟩
        · rcases hc1 with ⟨h8, _⟩ | ⟨h8, _⟩ <;> omega
        · have := hb1 i2 h6 h5; omega
    subst key
    rcases hc1 with ⟨h6, s1, rfl⟩ | ⟨h6, h7, q, hq, rfl⟩
    · rcases hc2 with ⟨_, s2, rfl⟩ | ⟨h8, _⟩
      · refine ⟨xs[xs.length - 1].Pace, ?_, ?_, (hc _ (by omega)).2.1.1, (hc _ (by omega)).2.1.2⟩
        · simp [M.spec_l24Pace, e0, h0, ho1, M.spec_l24Pace_a1, last]
        · simp [M.impl_paceAt, ho2, M.impl_paceAt_a1, last]
      · omega
    · rcases hc2 with ⟨h8, _⟩ | ⟨_, _, q2, hq2, rfl⟩
      · omega
      · rw [hq] at hq2
        obtain rfl := Option.some.inj hq2
        obtain ⟨q3, hq3, hw3, hb3, hb4⟩ := pt i1 hi1 h6 (hb1 (i1 - 1) (by omega) (by omega)) h7
        rw [hq] at hq3
        obtain rfl := Option.some.inj hq3
        refine ⟨xs[i1 - 1].Pace + q, ?_, ?_, hb3, hb4⟩
        · simp [M.spec_l24Pace, e0, h0, ho1, hw3]
        · simp [M.impl_paceAt, ho2, hw3]
theorem p_time {xs : List CurvePoint} (h : IsCurve xs) (w d : Int) (hd : 1 ≤ d ∧ d ≤ 10000000) : ∃ r, M.spec_l24Time xs w d = some r ∧ M.impl_curveTime xs w d = some r ∧ 0 ≤ r := by
  obtain ⟨r, h1, h2, h3, h4⟩ := p_pace h w
  have e1 : r * d ≤ 1000000 * d := Int.mul_le_mul_of_nonneg_right h4 (by omega)
  have e2 : 1 * d ≤ r * d := Int.mul_le_mul_of_nonneg_right h3 (by omega)
  generalize hm : r * d = m at e1 e2
  refine ⟨(m + 9999) / 10000, ?_, ?_, by omega⟩
  · rw [M.spec_l24Time, h1, bnd_some, hm, w64_of (n := m) (by omega), w64_of (n := m + 10000) (by omega), w64_of (n := m + 10000 - 1) (by omega), Int.tdiv_eq_ediv_of_nonneg (by omega), w64_of (by omega)]
    congr 1
    omega
  · rw [M.impl_curveTime, h2, bnd_some, hm, w64_of (n := m) (by omega), M.impl_ceilDiv, w64_of (n := 0 - m) (by omega), e_floor, p_floor _ _ (by omega) (by omega)]
    simp only [bnd_some]
    rw [w64_of (by omega)]
    congr 1
    omega
theorem p_wind {xs : List CurvePoint} (h : IsCurve xs) (t d : Int) (hd : 1 ≤ d ∧ d ≤ 10000000) : ∃ r, M.spec_l24Wind xs t d = some r ∧ M.impl_impliedWind xs t d = some r := by
  obtain ⟨o, h1, h2, -⟩ := loop_same (b1 := M.spec_l24Wind_l1 xs t d) (b2 := M.impl_impliedWind_l1 xs t d) (s := 0) 1001 (by omega) (fun i => (i : Int)) (fun _ => True) rfl
    (fun i hi => by
      obtain ⟨r, g1, g2, _⟩ := p_time h (i : Int) d hd
      have e1 : (i : Int) ≤ 1000 := by omega
      have e2 : (i : Int) < 1001 := by omega
      simp only [M.spec_l24Wind_l1, M.impl_impliedWind_l1, e1, e2, decide_true, ifB_true, g1, g2, bnd_some, step64 hi (by omega), true_and]
      rw [ifB_if]
      split
      · exact .inl ⟨_, rfl, trivial⟩
      · exact .inr rfl)
    (by simp [M.spec_l24Wind_l1, M.impl_impliedWind_l1])
  simp only [M.spec_l24Wind, M.impl_impliedWind, h1, h2, bnd_some, M.spec_l24Wind_a1, M.impl_impliedWind_a1]
  cases o with
  | ret r => exact ⟨r, rfl, rfl⟩
  | nxt s => exact ⟨_, rfl, rfl⟩
end Go.Proofs.Ytpnehnkhhibliaa
