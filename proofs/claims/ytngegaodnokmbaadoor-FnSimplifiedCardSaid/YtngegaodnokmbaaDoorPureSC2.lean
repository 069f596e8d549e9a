/- Paces between points, and sets of points that are near enough. -/
import Derived.Test.YtngegaodnokmbaaDoorPureSC
namespace Go.Proofs.YtngegaodnokmbaaDoor
open Go
set_option linter.unusedVariables false
set_option linter.unusedSimpArgs false
def segv (a b : CurvePoint) (w : Int) : Int := a.Pace + ((b.Pace - a.Pace) * (w - a.Wind)) / (b.Wind - a.Wind)
theorem floor_val {a b : CurvePoint} (hab : a.Wind < b.Wind) (hp : b.Pace < a.Pace) (ha : 0 ≤ a.Wind ∧ a.Wind ≤ 1000) (hb : 0 ≤ b.Wind ∧ b.Wind ≤ 1000) (hpa : 1 ≤ a.Pace ∧ a.Pace ≤ 1000000) (hpb : 1 ≤ b.Pace ∧ b.Pace ≤ 1000000)
    (w : Int) (h1 : a.Wind < w) (h2 : w ≤ b.Wind) {q : Int} (hq : M.spec_l01Floor (w64 ((w64 (b.Pace - a.Pace)) * (w64 (w - a.Wind)))) (w64 (b.Wind - a.Wind)) = some q) : q = ((b.Pace - a.Pace) * (w - a.Wind)) / (b.Wind - a.Wind) := by
  rw [w64_of (n := b.Pace - a.Pace) (by omega), w64_of (n := w - a.Wind) (by omega), w64_of (n := b.Wind - a.Wind) (by omega)] at hq
  have hd : 0 < b.Wind - a.Wind := by omega
  have e1 : (b.Pace - a.Pace) * (b.Wind - a.Wind) ≤ (b.Pace - a.Pace) * (w - a.Wind) := Int.mul_le_mul_of_nonpos_left (by omega) (by omega)
  have e2 : (b.Pace - a.Pace) * (w - a.Wind) ≤ (b.Pace - a.Pace) * 0 := Int.mul_le_mul_of_nonpos_left (by omega) (by omega)
  have e3 : (-1000000) * (w - a.Wind) ≤ (b.Pace - a.Pace) * (w - a.Wind) := Int.mul_le_mul_of_nonneg_right (by omega) (by omega)
  rw [w64_of (by omega), p_floor _ _ hd (by omega)] at hq
  exact (Option.some.inj hq).symm
theorem p_paceX {xs : List CurvePoint} (h : IsCurve xs) (w : Int) : ∃ r, M.spec_l24Pace xs w = some r ∧ M.impl_paceAt xs w = some r ∧ (1 ≤ r ∧ r ≤ 1000000) ∧ ((∃ i, ∃ hi : i < xs.length, (∀ j (hj : j < xs.length), j < i → xs[j].Wind < w) ∧ w ≤ xs[i].Wind ∧ r = if i = 0 then xs[0].Pace else segv xs[i - 1] xs[i] w) ∨ ∀ j (hj : j < xs.length), xs[j].Wind < w) := by
  have hl := h.1
  have hc := curve_at h
  by_cases h0 : w ≤ xs[0].Wind
  · refine ⟨xs[0].Pace, ?_, ?_, (hc 0 (by omega)).2.1, .inl ⟨0, by omega, fun j hj h => by omega, h0, by rw [if_pos rfl]⟩⟩
    · have e : idx xs 0 = some xs[0] := idx_lt xs 0 (by omega)
      simp [M.spec_l24Pace, e, h0]
    · have : loopF (M.impl_paceAt_l1 xs w) 0 = some (.ret xs[0].Pace) := by
        obtain ⟨o, ho, rfl⟩ := loop_count (body := M.impl_paceAt_l1 xs w) (s := 0) xs.length (by omega) (fun i s => s = (i : Int) ∧ i = 0) (fun o => o = .ret xs[0].Pace) ⟨rfl, rfl⟩
          (fun i s hi hs => by
            obtain ⟨rfl, rfl⟩ := hs
            have e : idx xs 0 = some xs[0] := idx_lt xs 0 (by omega)
            have e2 : (0 : Int) < xs.length := by omega
            have e3 : ¬ xs[0].Wind < w := by omega
            refine ⟨.ret xs[0].Pace, ?_, rfl⟩
            simp only [M.impl_paceAt_l1, Int.ofNat_eq_natCast, Int.natCast_zero, e, e2, decide_true, ifB_true, bnd_some, e3, decide_false, ifB_false, BEq.rfl])
          (fun s hs => by omega)
        exact ho
      simp [M.impl_paceAt, this]
  · -- both loops from their second point on
    have last : idx xs (w64 ((xs.length : Int) - 1)) = some xs[xs.length - 1] := by
      have : w64 ((xs.length : Int) - 1) = ((xs.length - 1 : Nat) : Int) := by rw [w64_of (by omega)]; omega
      rw [this, idx_lt xs (xs.length - 1) (by omega)]
    have pt : ∀ i : Nat, 0 < i → (hi : i < xs.length) → xs[i - 1].Wind < w → w ≤ xs[i].Wind → ∃ q, M.spec_l01Floor (w64 ((w64 (xs[i].Pace - xs[i - 1].Pace)) * (w64 (w - xs[i - 1].Wind)))) (w64 (xs[i].Wind - xs[i - 1].Wind)) = some q ∧ w64 (xs[i - 1].Pace + q) = xs[i - 1].Pace + q ∧ 1 ≤ xs[i - 1].Pace + q ∧ xs[i - 1].Pace + q ≤ 1000000 := fun i h1 hi h2 h3 =>
      pace_between ((hc i hi).2.2 h1).1 ((hc i hi).2.2 h1).2 (hc (i - 1) (by omega)).1 (hc i hi).1 (hc (i - 1) (by omega)).2.1 (hc i hi).2.1 w h2 h3
    -- the first point at or behind the wind
    let Q : Outc Int Int → Prop := fun o => ∃ i : Nat, 0 < i ∧ (∀ j (hj : j < xs.length), j < i → xs[j].Wind < w) ∧ ((i = xs.length ∧ ∃ s, o = .nxt s) ∨ ∃ hi : i < xs.length, w ≤ xs[i].Wind ∧ ∃ q, M.spec_l01Floor (w64 ((w64 (xs[i].Pace - xs[i - 1].Pace)) * (w64 (w - xs[i - 1].Wind)))) (w64 (xs[i].Wind - xs[i - 1].Wind)) = some q ∧ o = .ret (w64 (xs[i - 1].Pace + q)))
    have f1 : ∃ o, loopF (M.spec_l24Pace_l1 xs w) 1 = some o ∧ Q o := by
      refine loop_count (body := M.spec_l24Pace_l1 xs w) (s := 1) (xs.length - 1) (by omega) (fun i s => s = ((i + 1 : Nat) : Int) ∧ ∀ j (hj : j < xs.length), j < i + 1 → xs[j].Wind < w) Q ⟨rfl, fun j hj hj' => by
        have hj0 : j = 0 := by omega
        subst hj0
        omega⟩ (fun i s hi hs => ?_) (fun s hs => ?_)
      · obtain ⟨rfl, hs⟩ := hs
        have e2 : ((i + 1 : Nat) : Int) < xs.length := by omega
        have e3 : w64 (((i + 1 : Nat) : Int) - 1) = (i : Int) := by rw [w64_of (by omega)]; omega
        have e4 : w64 (((i + 1 : Nat) : Int) + 1) = ((i + 1 + 1 : Nat) : Int) := step64 (n := xs.length) (by omega) (by omega)
        simp only [M.spec_l24Pace_l1, e2, decide_true, ifB_true, e3, idx_lt xs i (by omega), idx_lt xs (i + 1) (by omega), bnd_some, e4]
        rw [ifB_if]
        split
        · rename_i hw
          simp only [decide_eq_true_eq] at hw
          obtain ⟨q, hq, _⟩ := pt (i + 1) (by omega) (by omega) (hs i (by omega) (by omega)) hw
          simp only [Nat.add_sub_cancel] at hq
          rw [hq]
          exact ⟨_, rfl, i + 1, by omega, hs, .inr ⟨by omega, hw, q, hq, rfl⟩⟩
        · rename_i hw
          simp only [decide_eq_true_eq] at hw
          refine ⟨_, rfl, rfl, fun j hj hj' => ?_⟩
          by_cases hji : j = i + 1
          · subst hji; omega
          · exact hs j hj (by omega)
      · obtain ⟨rfl, hs⟩ := hs
        have e2 : ¬ (((xs.length - 1 + 1 : Nat) : Int) < xs.length) := by omega
        exact ⟨.brk ((xs.length - 1 + 1 : Nat) : Int), by simp only [M.spec_l24Pace_l1, e2, decide_false, ifB_false], xs.length, by omega, fun j hj _ => hs j hj (by omega), .inl ⟨rfl, _, rfl⟩⟩
    have f2 : ∃ o, loopF (M.impl_paceAt_l1 xs w) 0 = some o ∧ Q o := by
      refine loop_count (body := M.impl_paceAt_l1 xs w) (s := 0) xs.length (by omega) (fun i s => s = (i : Int) ∧ ∀ j (hj : j < xs.length), j < i → xs[j].Wind < w) Q ⟨rfl, fun j hj hj' => by omega⟩ (fun i s hi hs => ?_) (fun s hs => ?_)
      · obtain ⟨rfl, hs⟩ := hs
        have e2 : ((i : Nat) : Int) < xs.length := by omega
        simp only [M.impl_paceAt_l1, e2, decide_true, ifB_true, idx_lt xs i hi, bnd_some, step64 hi (by omega), e_floor]
        rw [ifB_if]
        split
        · rename_i hw
          simp only [decide_eq_true_eq] at hw
          refine ⟨_, rfl, rfl, fun j hj hj' => ?_⟩
          by_cases hji : j = i
          · subst hji; omega
          · exact hs j hj (by omega)
        · rename_i hw
          simp only [decide_eq_true_eq] at hw
          have hi0 : 0 < i := by
            rcases Nat.eq_zero_or_pos i with h5 | h5
            · subst h5; omega
            · exact h5
          have e3 : w64 ((i : Int) - 1) = ((i - 1 : Nat) : Int) := by rw [w64_of (by omega)]; omega
          have e5 : ((i : Int) == 0) = false := by simp; omega
          obtain ⟨q, hq, _⟩ := pt i hi0 hi (hs (i - 1) (by omega) (by omega)) (by omega)
          simp only [e5, ifB_false, e3, idx_lt xs (i - 1) (by omega), bnd_some, hq]
          exact ⟨_, rfl, i, hi0, hs, .inr ⟨hi, by omega, q, hq, rfl⟩⟩
      · obtain ⟨rfl, hs⟩ := hs
        have e2 : ¬ ((xs.length : Int) < xs.length) := by omega
        exact ⟨.brk (xs.length : Int), by simp only [M.impl_paceAt_l1, e2, decide_false, ifB_false], xs.length, by omega, fun j hj _ => hs j hj (by omega), .inl ⟨rfl, _, rfl⟩⟩
    obtain ⟨o1, ho1, i1, hi1, hb1, hc1⟩ := f1
    obtain ⟨o2, ho2, i2, hi2, hb2, hc2⟩ := f2
    have e0 : idx xs 0 = some xs[0] := idx_lt xs 0 (by omega)
    have key : i1 = i2 := by
      rcases Nat.lt_trichotomy i1 i2 with h5 | h5 | h5
      · rcases hc1 with ⟨h6, _⟩ | ⟨h6, h7, _⟩
        · rcases hc2 with ⟨h8, _⟩ | ⟨h8, _⟩ <;> omega
        · have := hb2 i1 h6 h5; omega
      · exact h5
      · rcases hc2 with ⟨h6, _⟩ | ⟨h6, h7, _⟩
        · rcases hc1 with ⟨h8, _⟩ | ⟨h8, _⟩ <;> omega
        · have := hb1 i2 h6 h5; omega
    subst key
    rcases hc1 with ⟨h6, s1, rfl⟩ | ⟨h6, h7, q, hq, rfl⟩
    · rcases hc2 with ⟨_, s2, rfl⟩ | ⟨h8, _⟩
      · refine ⟨xs[xs.length - 1].Pace, ?_, ?_, (hc _ (by omega)).2.1, .inr (fun j hj => hb1 j hj (by omega))⟩
        · simp [M.spec_l24Pace, e0, h0, ho1, M.spec_l24Pace_a1, last]
        · simp [M.impl_paceAt, ho2, M.impl_paceAt_a1, last]
      · omega
    · rcases hc2 with ⟨h8, _⟩ | ⟨_, _, q2, hq2, rfl⟩
      · omega
      · rw [hq] at hq2
        obtain rfl := Option.some.inj hq2
        obtain ⟨q3, hq3, hw3, hb3, hb4⟩ := pt i1 hi1 h6 (hb1 (i1 - 1) (by omega) (by omega)) h7
        rw [hq] at hq3
        obtain rfl := Option.some.inj hq3
        have hv : q = ((xs[i1].Pace - xs[i1 - 1].Pace) * (w - xs[i1 - 1].Wind)) / (xs[i1].Wind - xs[i1 - 1].Wind) := floor_val ((hc i1 h6).2.2 hi1).1 ((hc i1 h6).2.2 hi1).2 (hc (i1 - 1) (by omega)).1 (hc i1 h6).1 (hc (i1 - 1) (by omega)).2.1 (hc i1 h6).2.1 w (hb1 (i1 - 1) (by omega) (by omega)) h7 hq
        refine ⟨xs[i1 - 1].Pace + q, ?_, ?_, ⟨hb3, hb4⟩, .inl ⟨i1, h6, hb1, h7, by rw [if_neg (by omega), segv, hv]⟩⟩
        · simp [M.spec_l24Pace, e0, h0, ho1, hw3]
        · simp [M.impl_paceAt, ho2, hw3]
def ptA (xs : List CurvePoint) (i : Nat) : CurvePoint := xs.getD i ⟨0, 0⟩
theorem ptA_get {xs : List CurvePoint} {i : Nat} (h : i < xs.length) : ptA xs i = xs[i] := by simp [ptA, List.getD, h]
theorem curve_lt {xs : List CurvePoint} (h : IsCurve xs) : ∀ (j i : Nat) (hj : j < xs.length) (hi : i < j), xs[i].Wind < xs[j].Wind ∧ xs[j].Pace < xs[i].Pace
  | 0, i, hj, hi => by omega
  | j + 1, i, hj, hi => by
    have h1 := (curve_at h (j + 1) hj).2.2 (by omega)
    simp only [Nat.add_sub_cancel] at h1
    by_cases e : i = j
    · subst e; exact h1
    · have := curve_lt h j i (by omega) (by omega); omega
theorem ptA_lt {xs : List CurvePoint} (h : IsCurve xs) {i j : Nat} (hi : i < j) (hj : j < xs.length) : (ptA xs i).Wind < (ptA xs j).Wind ∧ (ptA xs j).Pace < (ptA xs i).Pace := by
  rw [ptA_get hj, ptA_get (by omega : i < xs.length)]; exact curve_lt h j i hj hi
theorem ptA_le {xs : List CurvePoint} (h : IsCurve xs) {i j : Nat} (hi : i ≤ j) (hj : j < xs.length) : (ptA xs i).Wind ≤ (ptA xs j).Wind := by
  rcases Nat.lt_or_eq_of_le hi with g | g
  · exact Int.le_of_lt (ptA_lt h g hj).1
  · rw [g]; exact Int.le_refl _
theorem ptA_ok {xs : List CurvePoint} (h : IsCurve xs) {i : Nat} (hi : i < xs.length) : (0 ≤ (ptA xs i).Wind ∧ (ptA xs i).Wind ≤ 1000) ∧ (1 ≤ (ptA xs i).Pace ∧ (ptA xs i).Pace ≤ 1000000) := by
  rw [ptA_get hi]; exact ⟨(curve_at h i hi).1, (curve_at h i hi).2.1⟩
def keptC (xs : List CurvePoint) (l : List Nat) : List CurvePoint := l.map (ptA xs)
theorem kept_curve {xs : List CurvePoint} (h : IsCurve xs) {l : List Nat} {lo : Nat} (hl : scInc xs.length lo l) (h2 : 2 ≤ l.length) : IsCurve (keptC xs l) := by
  have hlen : (keptC xs l).length = l.length := by simp [keptC]
  have h12 := h.1
  refine ⟨⟨by omega, by have := scInc_len _ l lo hl; omega⟩, fun i hi => ?_⟩
  have hi' : i < l.length := by omega
  have g1 := scInc_get _ l lo hl i hi'
  have e1 : (keptC xs l)[i] = ptA xs l[i] := by simp [keptC]
  have ok := ptA_ok h g1.2
  unfold badPoint
  simp only [List.getElem?_eq_getElem hi, List.getElem?_eq_getElem (show i - 1 < (keptC xs l).length by omega), e1]
  simp only [ok.1, ok.2, and_self, decide_true, Bool.not_true, Bool.false_or]
  rcases Nat.eq_zero_or_pos i with h5 | h5
  · subst h5; simp
  · have e2 : (keptC xs l)[i - 1]'(by omega) = ptA xs (l[i - 1]'(by omega)) := by simp [keptC]
    have g2 := ptA_lt h (scInc_lt _ l lo hl (i - 1) i hi' (by omega)) g1.2
    have q1 : ¬ (ptA xs l[i]).Wind ≤ (ptA xs (l[i - 1]'(by omega))).Wind := by omega
    have q2 : ¬ (ptA xs (l[i - 1]'(by omega))).Pace ≤ (ptA xs l[i]).Pace := by omega
    simp only [e2, q1, q2, decide_false, Bool.or_false, Bool.and_false]
def nearB (xs : List CurvePoint) (t : Int) (i j : Nat) : Bool :=
  (List.range xs.length).all fun q => !(decide (i < q) && decide (q < j)) || (decide (-t ≤ segv (ptA xs i) (ptA xs j) (ptA xs q).Wind - (ptA xs q).Pace) && decide (segv (ptA xs i) (ptA xs j) (ptA xs q).Wind - (ptA xs q).Pace ≤ t))
theorem nearB_iff {xs : List CurvePoint} {t : Int} {i j : Nat} (hj : j ≤ xs.length) : nearB xs t i j = true ↔ ∀ q, i < q → q < j → -t ≤ segv (ptA xs i) (ptA xs j) (ptA xs q).Wind - (ptA xs q).Pace ∧ segv (ptA xs i) (ptA xs j) (ptA xs q).Wind - (ptA xs q).Pace ≤ t := by
  simp only [nearB, List.all_eq_true, List.mem_range, Bool.or_eq_true, Bool.not_eq_true', Bool.and_eq_false_iff, decide_eq_false_iff_not, Bool.and_eq_true, decide_eq_true_eq]
  constructor
  · intro h q h1 h2
    rcases h q (by omega) with g | g
    · omega
    · exact g
  · intro h q hq
    by_cases h1 : i < q
    · by_cases h2 : q < j
      · exact .inr (h q h1 h2)
      · exact .inl (.inr h2)
    · exact .inl (.inl h1)
def paceV (ys : List CurvePoint) (w : Int) : Int := (M.impl_paceAt ys w).getD 0
theorem p_paceV {ys : List CurvePoint} (h : IsCurve ys) (w : Int) : M.impl_paceAt ys w = some (paceV ys w) ∧ M.spec_l24Pace ys w = some (paceV ys w) ∧ (1 ≤ paceV ys w ∧ paceV ys w ≤ 1000000) ∧ ((∃ i, ∃ hi : i < ys.length, (∀ j (hj : j < ys.length), j < i → ys[j].Wind < w) ∧ w ≤ ys[i].Wind ∧ paceV ys w = if i = 0 then ys[0].Pace else segv ys[i - 1] ys[i] w) ∨ ∀ j (hj : j < ys.length), ys[j].Wind < w) := by
  obtain ⟨r, h1, h2, h3, h4⟩ := p_paceX h w
  have e : paceV ys w = r := by simp [paceV, h2]
  rw [e]
  exact ⟨h2, h1, h3, h4⟩
theorem segv_end (a b : CurvePoint) (h : a.Wind < b.Wind) : segv a b b.Wind = b.Pace := by
  rw [segv, Int.mul_ediv_cancel _ (by omega)]; omega
theorem pace_kept {xs : List CurvePoint} (h : IsCurve xs) {l : List Nat} {lo : Nat} (hl : scInc xs.length lo l) (h2 : 2 ≤ l.length) (hz : l[l.length - 1]'(by omega) = xs.length - 1) (q : Nat) (hq : q < xs.length) :
    ∃ i, ∃ hi : i < l.length, (∀ j (hj : j < l.length), j < i → l[j] < q) ∧ q ≤ l[i] ∧ paceV (keptC xs l) (ptA xs q).Wind = if i = 0 then (ptA xs (l[0]'(by omega))).Pace else segv (ptA xs (l[i - 1]'(by omega))) (ptA xs l[i]) (ptA xs q).Wind := by
  have hlen : (keptC xs l).length = l.length := by simp [keptC]
  have back : ∀ a (ha : a < l.length), (keptC xs l)[a]'(by omega) = ptA xs l[a] := fun a ha => by simp [keptC]
  have lt_of : ∀ a (ha : a < l.length), (ptA xs l[a]).Wind < (ptA xs q).Wind → l[a] < q := fun a ha hw => by
    apply Classical.byContradiction
    intro hn
    have := ptA_le h (show q ≤ l[a] by omega) (scInc_get _ l lo hl a ha).2
    omega
  obtain ⟨_, _, _, g⟩ := p_paceV (kept_curve h hl h2) (ptA xs q).Wind
  rcases g with ⟨i, hi, g1, g2, g3⟩ | g
  · have hi' : i < l.length := by omega
    refine ⟨i, hi', fun j hj hji => lt_of j hj (by rw [← back j hj]; exact g1 j (by omega) hji), ?_, ?_⟩
    · apply Classical.byContradiction
      intro hn
      have := (ptA_lt h (show l[i] < q by omega) hq).1
      rw [back i hi'] at g2
      omega
    · rw [g3, back 0 (by omega), back i hi']
      by_cases e : i = 0
      · rw [if_pos e, if_pos e]
      · rw [if_neg e, if_neg e, back (i - 1) (by omega)]
  · have := lt_of (l.length - 1) (by omega) (by rw [← back _ (by omega)]; exact g _ (by omega))
    omega
theorem valid_iff {xs : List CurvePoint} (h : IsCurve xs) {t : Int} (ht : 0 ≤ t) {l : List Nat} {lo : Nat} (hl : scInc xs.length lo l) (h2 : 2 ≤ l.length) (h0 : l[0]'(by omega) = 0) (hz : l[l.length - 1]'(by omega) = xs.length - 1) :
    (∀ q, q < xs.length → -t ≤ paceV (keptC xs l) (ptA xs q).Wind - (ptA xs q).Pace ∧ paceV (keptC xs l) (ptA xs q).Wind - (ptA xs q).Pace ≤ t) ↔ ∀ a (ha : a + 1 < l.length), nearB xs t l[a] l[a + 1] = true := by
  constructor
  · intro hv a ha
    have gb := scInc_get _ l lo hl (a + 1) ha
    rw [nearB_iff (by omega)]
    intro q h3 h4
    have hq : q < xs.length := by omega
    obtain ⟨i, hi, g1, g2, g3⟩ := pace_kept h hl h2 hz q hq
    have e : i = a + 1 := by
      rcases Nat.lt_trichotomy i (a + 1) with h5 | h5 | h5
      · have : l[i] ≤ l[a] := by
          rcases Nat.lt_or_eq_of_le (show i ≤ a by omega) with h6 | h6
          · exact Nat.le_of_lt (scInc_lt _ l lo hl i a (by omega) h6)
          · subst h6; exact Nat.le_refl _
        omega
      · exact h5
      · have := g1 (a + 1) ha h5; omega
    subst e
    have := hv q hq
    rw [g3, if_neg (by omega)] at this
    simpa using this
  · intro hn q hq
    obtain ⟨i, hi, g1, g2, g3⟩ := pace_kept h hl h2 hz q hq
    rw [g3]
    by_cases e : i = 0
    · subst e
      have : q = 0 := by omega
      rw [if_pos rfl, h0, this]; omega
    · rw [if_neg e]
      have g4 := g1 (i - 1) (by omega) (by omega)
      have g5 := scInc_get _ l lo hl i hi
      by_cases eq : q = l[i]
      · rw [eq, segv_end _ _ (ptA_lt h (scInc_lt _ l lo hl (i - 1) i hi (by omega)) g5.2).1]; omega
      · have g6 := hn (i - 1) (by omega)
        rw [nearB_iff (by simp only [show i - 1 + 1 = i by omega]; omega)] at g6
        have g7 := g6 q g4 (by simp only [show i - 1 + 1 = i by omega]; omega)
        simpa only [show i - 1 + 1 = i by omega] using g7
end Go.Proofs.YtngegaodnokmbaaDoor
