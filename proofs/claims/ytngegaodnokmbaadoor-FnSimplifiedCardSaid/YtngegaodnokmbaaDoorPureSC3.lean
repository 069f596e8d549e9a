/- The reference's shortest way. -/
import Derived.Test.YtngegaodnokmbaaDoorPureSC2
namespace Go.Proofs.YtngegaodnokmbaaDoor
open Go
set_option linter.unusedVariables false
set_option linter.unusedSimpArgs false
theorem p_absI (d : Int) (h : -4611686018427387904 ≤ d ∧ d ≤ 4611686018427387904) : M.spec_l01Abs d = some (if d < 0 then -d else d) := by
  unfold M.spec_l01Abs
  rw [w64_of (by omega)]
  congr 1
  split <;> omega
theorem pace_two {xs : List CurvePoint} (h : IsCurve xs) {i j q : Nat} (hj : j < xs.length) (h1 : i < q) (h2 : q < j) :
    M.spec_l24Pace [ptA xs i, ptA xs j] (ptA xs q).Wind = some (segv (ptA xs i) (ptA xs j) (ptA xs q).Wind) ∧ 1 ≤ segv (ptA xs i) (ptA xs j) (ptA xs q).Wind ∧ segv (ptA xs i) (ptA xs j) (ptA xs q).Wind ≤ 1000000 := by
  have hl : scInc xs.length i [i, j] := ⟨Nat.le_refl _, by omega, by omega, hj, trivial⟩
  have hc : IsCurve [ptA xs i, ptA xs j] := kept_curve h hl (by simp)
  have k1 := (ptA_lt h h1 (by omega)).1
  have k2 := (ptA_lt h h2 hj).1
  obtain ⟨_, g2, g3, g4⟩ := p_paceV hc (ptA xs q).Wind
  rcases g4 with ⟨a, ha, b1, b2, b3⟩ | g
  · have e : a = 1 := by
      rcases a with _ | _ | a
      · simp at b2; omega
      · rfl
      · exfalso; simp only [List.length_cons, List.length_nil] at ha; omega
    subst e
    have b4 : paceV [ptA xs i, ptA xs j] (ptA xs q).Wind = segv (ptA xs i) (ptA xs j) (ptA xs q).Wind := by simpa using b3
    rw [← b4]
    exact ⟨g2, g3⟩
  · have := g 1 (by simp)
    simp at this; omega
theorem p_near {xs : List CurvePoint} (h : IsCurve xs) {t : Int} (ht : 0 ≤ t ∧ t ≤ 1000000) {i j : Nat} (hi : i < j) (hj : j < xs.length) : M.spec_l24Near xs (i : Int) (j : Int) t = some (nearB xs t i j) := by
  have h12 := h.1
  let p : Nat → Bool := fun k => !(decide (-t ≤ segv (ptA xs i) (ptA xs j) (ptA xs (i + 1 + k)).Wind - (ptA xs (i + 1 + k)).Pace) && decide (segv (ptA xs i) (ptA xs j) (ptA xs (i + 1 + k)).Wind - (ptA xs (i + 1 + k)).Pace ≤ t))
  have hl := loop_find (body := M.spec_l24Near_l1 xs (j : Int) t (ptA xs i) (ptA xs j)) (s := ((i + 1 : Nat) : Int)) (j - i - 1) (by omega) (fun k => ((i + 1 + k : Nat) : Int)) p false ((j : Nat) : Int) rfl
    (fun k hk => by
      have e1 : ((i + 1 + k : Nat) : Int) < (j : Int) := by omega
      obtain ⟨g1, g2, g3⟩ := pace_two h hj (show i < i + 1 + k by omega) (by omega)
      have ok := ptA_ok h (show i + 1 + k < xs.length by omega)
      rw [ptA_get (show i + 1 + k < xs.length by omega)] at g1 g2 g3 ok
      have e3 : w64 (((i + 1 + k : Nat) : Int) + 1) = ((i + 1 + (k + 1) : Nat) : Int) := by rw [w64_of (by omega)]; omega
      simp only [M.spec_l24Near_l1, e1, decide_true, ifB_true, idx_lt xs (i + 1 + k) (by omega), bnd_some, g1]
      rw [w64_of (by omega), p_absI _ (by omega), bnd_some, ifB_if, e3]
      show _ = some (if p k = true then _ else _)
      have e4 : p k = decide (t < (if segv (ptA xs i) (ptA xs j) xs[i + 1 + k].Wind - xs[i + 1 + k].Pace < 0 then -(segv (ptA xs i) (ptA xs j) xs[i + 1 + k].Wind - xs[i + 1 + k].Pace) else segv (ptA xs i) (ptA xs j) xs[i + 1 + k].Wind - xs[i + 1 + k].Pace)) := by
        simp only [p]
        rw [ptA_get (show i + 1 + k < xs.length by omega), Bool.eq_iff_iff]
        simp only [Bool.not_eq_true', Bool.and_eq_false_iff, decide_eq_false_iff_not, decide_eq_true_eq]
        split <;> omega
      rw [e4]
      exact ite_some _ _)
    (by
      have e1 : ¬ ((i + 1 + (j - i - 1) : Nat) : Int) < (j : Int) := by omega
      have e2 : ((i + 1 + (j - i - 1) : Nat) : Int) = (j : Int) := by omega
      simp only [M.spec_l24Near_l1, e2, Int.lt_irrefl, decide_false, ifB_false])
  have e0 : w64 ((i : Int) + 1) = ((i + 1 : Nat) : Int) := by rw [w64_of (by omega)]; omega
  have a1 : idx xs (i : Int) = some (ptA xs i) := by rw [idx_lt xs i (by omega), ptA_get (by omega : i < xs.length)]
  have a2 : idx xs (j : Int) = some (ptA xs j) := by rw [idx_lt xs j hj, ptA_get hj]
  simp only [M.spec_l24Near, a1, a2, bnd_some, e0, hl]
  by_cases hp : ∀ k, k < j - i - 1 → p k = false
  · rw [if_pos hp]
    simp only [outc_nxt, M.spec_l24Near_a1]
    congr 1
    symm
    rw [nearB_iff (by omega)]
    intro q h1 h2
    have := hp (q - i - 1) (by omega)
    simp only [p, show i + 1 + (q - i - 1) = q by omega, Bool.not_eq_false', Bool.and_eq_true, decide_eq_true_eq] at this
    exact this
  · rw [if_neg hp]
    simp only [outc_ret]
    congr 1
    symm
    rw [← Bool.not_eq_true, nearB_iff (by omega)]
    intro hn
    apply hp
    intro k hk
    have := hn (i + 1 + k) (by omega) (by omega)
    simp only [p, Bool.not_eq_false', Bool.and_eq_true, decide_eq_true_eq]
    exact this
def rgL (n : Nat) (g : Nat → Nat) : List Int := (List.range n).map fun i => ((g i : Nat) : Int)
theorem rgL_idx {n i : Nat} (g : Nat → Nat) (h : i < n) : idx (rgL n g) (i : Int) = some ((g i : Nat) : Int) := by
  rw [idx_lt _ i (by simp [rgL]; exact h)]; simp [rgL]
theorem rgL_set {n i : Nat} (g : Nat → Nat) (v : Nat) : (rgL n g).set i (v : Int) = rgL n (fun k => if k = i then v else g k) := by
  apply List.ext_getElem
  · simp [rgL]
  · intro k h1 h2
    simp only [rgL, List.getElem_set, List.getElem_map, List.getElem_range]
    by_cases e : i = k
    · subst e; simp
    · rw [if_neg e, if_neg (fun x => e x.symm)]
structure ScD (nr : Nat → Nat → Bool) (last a : Nat) (c nx : Nat → Nat) : Prop where
  c0 : c last = 0
  h1 : ∀ i, a ≤ i → i < last → i < nx i ∧ nx i ≤ last ∧ nr i (nx i) = true ∧ c i = c (nx i) + 1
  h2 : ∀ i, a ≤ i → i < last → ∀ j, i < j → j ≤ last → nr i j = true → c i ≤ c j + 1 ∧ (c i = c j + 1 → nx i ≤ j)
  hb : ∀ i, i ≤ last → c i ≤ last - i
  hz : ∀ i, i < a → c i = 0
theorem simp_inner {xs : List CurvePoint} (h : IsCurve xs) {t : Int} (ht : 0 ≤ t ∧ t ≤ 1000000) (last a : Nat) (hl : xs.length = last + 1) (ha : a < last) (c0 nx0 : Nat → Nat) (D : ScD (nearB xs t) last (a + 1) c0 nx0) :
    ∃ c nx, loopF (M.spec_SimplifyCurve_l3 xs t (rgL (last + 1) c0, rgL (last + 1) nx0, (a : Int))) (rgL (last + 1) c0, rgL (last + 1) nx0, ((a + 1 : Nat) : Int)) = some (.nxt (rgL (last + 1) c, rgL (last + 1) nx, ((last + 1 : Nat) : Int))) ∧ ScD (nearB xs t) last a c nx := by
  have h12 := h.1
  obtain ⟨o, ho, c, nx, rfl, q1, q2⟩ := loop_count (body := M.spec_SimplifyCurve_l3 xs t (rgL (last + 1) c0, rgL (last + 1) nx0, (a : Int))) (s := (rgL (last + 1) c0, rgL (last + 1) nx0, ((a + 1 : Nat) : Int))) (last - a) (by omega)
    (fun k s => ∃ c nx, s = (rgL (last + 1) c, rgL (last + 1) nx, ((a + 1 + k : Nat) : Int)) ∧ (∀ i, i ≠ a → c i = c0 i ∧ nx i = nx0 i) ∧ ((k = 0 ∧ c a = 0) ∨ (a < nx a ∧ nx a < a + 1 + k ∧ nearB xs t a (nx a) = true ∧ c a = c0 (nx a) + 1 ∧ ∀ j, a < j → j < a + 1 + k → nearB xs t a j = true → c a ≤ c0 j + 1 ∧ (c a = c0 j + 1 → nx a ≤ j))))
    (fun o => ∃ c nx, o = .nxt (rgL (last + 1) c, rgL (last + 1) nx, ((last + 1 : Nat) : Int)) ∧ (∀ i, i ≠ a → c i = c0 i ∧ nx i = nx0 i) ∧ (a < nx a ∧ nx a < last + 1 ∧ nearB xs t a (nx a) = true ∧ c a = c0 (nx a) + 1 ∧ ∀ j, a < j → j < last + 1 → nearB xs t a j = true → c a ≤ c0 j + 1 ∧ (c a = c0 j + 1 → nx a ≤ j)))
    ⟨c0, nx0, rfl, fun i _ => ⟨rfl, rfl⟩, .inl ⟨rfl, D.hz a (by omega)⟩⟩
    (fun k s hk hs => by
      obtain ⟨c, nx, rfl, g1, g2⟩ := hs
      have e1 : w64 ((xs.length : Int) - 1) = (last : Int) := by rw [w64_of (by omega)]; omega
      have e2 : ((a + 1 + k : Nat) : Int) ≤ (last : Int) := by omega
      have e3 : w64 (((a + 1 + k : Nat) : Int) + 1) = ((a + 1 + (k + 1) : Nat) : Int) := by rw [w64_of (by omega)]; omega
      have ct : c (a + 1 + k) = c0 (a + 1 + k) := (g1 _ (by omega)).1
      have cb := D.hb (a + 1 + k) (by omega)
      have e4 : w64 (((c0 (a + 1 + k) : Nat) : Int) + 1) = ((c0 (a + 1 + k) + 1 : Nat) : Int) := by rw [w64_of (by omega)]; omega
      have upd : ∀ c' nx', c' = (fun i => if i = a then c0 (a + 1 + k) + 1 else c i) → nx' = (fun i => if i = a then a + 1 + k else nx i) → nearB xs t a (a + 1 + k) = true →
          ((k = 0) ∨ (0 < k ∧ c0 (a + 1 + k) + 1 < c a ∧ ∀ j, a < j → j < a + 1 + k → nearB xs t a j = true → c a ≤ c0 j + 1)) →
          ((∀ i, i ≠ a → c' i = c0 i ∧ nx' i = nx0 i) ∧ ((k + 1 = 0 ∧ c' a = 0) ∨ (a < nx' a ∧ nx' a < a + 1 + (k + 1) ∧ nearB xs t a (nx' a) = true ∧ c' a = c0 (nx' a) + 1 ∧ ∀ j, a < j → j < a + 1 + (k + 1) → nearB xs t a j = true → c' a ≤ c0 j + 1 ∧ (c' a = c0 j + 1 → nx' a ≤ j)))) := by
        intro c' nx' hc' hn' hnr hcase
        subst hc'; subst hn'
        refine ⟨fun i hi => by simp only [if_neg hi]; exact g1 i hi, .inr ⟨by simp; omega, by simp, by simpa using hnr, by simp, fun j h1 h2 h3 => ?_⟩⟩
        simp only [if_true]
        rcases hcase with rfl | ⟨hk0, b1, b2⟩
        · have : j = a + 1 + 0 := by omega
          subst this; exact ⟨by omega, fun _ => by omega⟩
        · by_cases hj : j = a + 1 + k
          · subst hj; exact ⟨by omega, fun _ => by omega⟩
          · have := b2 j h1 (by omega) h3
            exact ⟨by omega, fun _ => by omega⟩
      simp only [M.spec_SimplifyCurve_l3, e1, e2, decide_true, ifB_true, p_near h ht (show a < a + 1 + k by omega) (show a + 1 + k < xs.length by omega), bnd_some, rgL_idx c (show a < last + 1 by omega), rgL_idx c (show a + 1 + k < last + 1 by omega), M.spec_SimplifyCurve_j3, M.spec_SimplifyCurve_j2, M.spec_SimplifyCurve_j1, rgL_idx nx (show a < last + 1 by omega), Int.toNat_natCast, ct, e4, e3, rgL_set, ifB_false]
      by_cases hn : nearB xs t a (a + 1 + k) = true
      · rw [hn, ifB_true]
        by_cases hc : c a = 0
        · have k0 : k = 0 := by
            rcases g2 with ⟨k0, _⟩ | ⟨_, _, _, w4, _⟩
            · exact k0
            · omega
          simp only [hc, Int.natCast_zero, BEq.rfl, ifB_true]
          obtain ⟨u1, u2⟩ := upd _ _ rfl rfl hn (.inl k0)
          exact ⟨_, rfl, _, _, rfl, u1, u2⟩
        · have e5 : (((c a : Nat) : Int) == 0) = false := by simp; omega
          rw [e5, ifB_false, ifB_if]
          rcases g2 with ⟨_, k0⟩ | ⟨w1, w2, w3, w4, w5⟩
          · omega
          · have k1 : 0 < k := by omega
            by_cases hlt : ((c0 (a + 1 + k) + 1 : Nat) : Int) < ((c a : Nat) : Int)
            · rw [if_pos (by simpa using hlt)]
              obtain ⟨u1, u2⟩ := upd _ _ rfl rfl hn (.inr ⟨k1, by omega, fun j h1 h2 h3 => (w5 j h1 h2 h3).1⟩)
              exact ⟨_, rfl, _, _, rfl, u1, u2⟩
            · rw [if_neg (by simpa using hlt)]
              refine ⟨_, rfl, c, nx, rfl, g1, .inr ⟨w1, by omega, w3, w4, fun j h1 h2 h3 => ?_⟩⟩
              by_cases hj : j = a + 1 + k
              · subst hj; exact ⟨by omega, fun _ => by omega⟩
              · exact w5 j h1 (by omega) h3
      · rw [Bool.not_eq_true] at hn
        rw [hn, ifB_false]
        refine ⟨_, rfl, c, nx, rfl, g1, ?_⟩
        rcases g2 with ⟨k0, _⟩ | ⟨w1, w2, w3, w4, w5⟩
        · subst k0
          have : nearB xs t a (a + 1 + 0) = true := by
            rw [nearB_iff (by omega)]; intro q h1 h2; omega
          rw [this] at hn; cases hn
        · refine .inr ⟨w1, by omega, w3, w4, fun j h1 h2 h3 => ?_⟩
          by_cases hj : j = a + 1 + k
          · subst hj; rw [hn] at h3; cases h3
          · exact w5 j h1 (by omega) h3)
    (fun s hs => by
      obtain ⟨c, nx, rfl, g1, g2⟩ := hs
      have e1 : w64 ((xs.length : Int) - 1) = (last : Int) := by rw [w64_of (by omega)]; omega
      have e2 : ¬ ((a + 1 + (last - a) : Nat) : Int) ≤ (last : Int) := by omega
      have e3 : a + 1 + (last - a) = last + 1 := by omega
      refine ⟨.brk (rgL (last + 1) c, rgL (last + 1) nx, ((a + 1 + (last - a) : Nat) : Int)), by simp only [M.spec_SimplifyCurve_l3, e1, e2, decide_false, ifB_false], c, nx, by rw [e3], g1, ?_⟩
      rcases g2 with ⟨k0, _⟩ | g2
      · omega
      · rw [e3] at g2; exact g2)
  refine ⟨c, nx, ho, ?_⟩
  obtain ⟨w1, w2, w3, w4, w5⟩ := q2
  have ce : ∀ i, a < i → c i = c0 i := fun i hi => (q1 i (by omega)).1
  have ne : ∀ i, a < i → nx i = nx0 i := fun i hi => (q1 i (by omega)).2
  refine ⟨by rw [ce last ha]; exact D.c0, fun i h1 h2 => ?_, fun i h1 h2 j h3 h4 h5 => ?_, fun i h1 => ?_, fun i h1 => ?_⟩
  · by_cases e : i = a
    · subst e; exact ⟨w1, by omega, w3, by rw [w4, ce _ w1]⟩
    · obtain ⟨d1, d2, d3, d4⟩ := D.h1 i (by omega) h2
      rw [ne i (by omega), ce i (by omega), ce _ (by omega)]
      exact ⟨d1, d2, d3, d4⟩
  · by_cases e : i = a
    · subst e; have := w5 j h3 (by omega) h5; rw [ce j h3]; exact this
    · rw [ne i (by omega), ce i (by omega), ce j (by omega)]
      exact D.h2 i (by omega) h2 j h3 h4 h5
  · by_cases e : i = a
    · subst e; have := D.hb (nx i) (by omega); omega
    · rw [(q1 i e).1]; exact D.hb i h1
  · rw [(q1 i (by omega)).1]; exact D.hz i (by omega)
theorem simp_outer {xs : List CurvePoint} (h : IsCurve xs) {t : Int} (ht : 0 ≤ t ∧ t ≤ 1000000) (last : Nat) (hl : xs.length = last + 1) :
    ∃ c nx, loopF (M.spec_SimplifyCurve_l1 xs t) (rgL (last + 1) (fun _ => 0), rgL (last + 1) (fun _ => 0), (last : Int) - 1) = some (.nxt (rgL (last + 1) c, rgL (last + 1) nx, -1)) ∧ ScDp (nearB xs t) last c nx := by
  have h12 := h.1
  obtain ⟨o, ho, c, nx, rfl, q⟩ := loop_count (body := M.spec_SimplifyCurve_l1 xs t) (s := (rgL (last + 1) (fun _ => 0), rgL (last + 1) (fun _ => 0), (last : Int) - 1)) last (by omega)
    (fun k s => ∃ c nx, s = (rgL (last + 1) c, rgL (last + 1) nx, (last : Int) - 1 - (k : Int)) ∧ ScD (nearB xs t) last (last - k) c nx)
    (fun o => ∃ c nx, o = .nxt (rgL (last + 1) c, rgL (last + 1) nx, -1) ∧ ScD (nearB xs t) last 0 c nx)
    ⟨fun _ => 0, fun _ => 0, by simp, ⟨rfl, fun i h1 h2 => by omega, fun i h1 h2 => by omega, fun i _ => Nat.zero_le _, fun i _ => rfl⟩⟩
    (fun k s hk hs => by
      obtain ⟨c, nx, rfl, D⟩ := hs
      have e0 : (last : Int) - 1 - (k : Int) = ((last - 1 - k : Nat) : Int) := by omega
      have e1 : (0 : Int) ≤ ((last - 1 - k : Nat) : Int) := by omega
      have e2 : w64 (((last - 1 - k : Nat) : Int) + 1) = ((last - 1 - k + 1 : Nat) : Int) := by rw [w64_of (by omega)]; omega
      have e3 : w64 (((last - 1 - k : Nat) : Int) - 1) = (last : Int) - 1 - ((k + 1 : Nat) : Int) := by rw [w64_of (by omega)]; omega
      have e4 : last - 1 - k + 1 = last - k := by omega
      obtain ⟨c', nx', g1, g2⟩ := simp_inner h ht last (last - 1 - k) hl (by omega) c nx (by rw [e4]; exact D)
      rw [e0]
      simp only [M.spec_SimplifyCurve_l1, e1, decide_true, ifB_true, e2, g1, bnd_some, outc_nxt, M.spec_SimplifyCurve_a3, e3]
      exact ⟨_, rfl, c', nx', rfl, by rw [show last - (k + 1) = last - 1 - k by omega]; exact g2⟩)
    (fun s hs => by
      obtain ⟨c, nx, rfl, D⟩ := hs
      have e0 : (last : Int) - 1 - ((last : Nat) : Int) = -1 := by omega
      have e1 : ¬ (0 : Int) ≤ -1 := by omega
      rw [Nat.sub_self] at D
      rw [e0]
      exact ⟨.brk (rgL (last + 1) c, rgL (last + 1) nx, -1), by simp only [M.spec_SimplifyCurve_l1, e1, decide_false, ifB_false], c, nx, rfl, D⟩)
  exact ⟨c, nx, ho, q.c0, fun i => q.h1 i (Nat.zero_le _), fun i => q.h2 i (Nat.zero_le _)⟩
theorem scFol_get {nx : Nat → Nat} {last : Nat} : ∀ (l : List Nat), scFol nx last l → (∀ a (ha : a + 1 < l.length), l[a] < last ∧ l[a + 1] = nx l[a]) ∧ ∃ h : 0 < l.length, l[l.length - 1] = last
  | [], h => h.elim
  | [i], h => ⟨fun a ha => by simp at ha, by simp, h⟩
  | i :: j :: r, h => by
    obtain ⟨h1, h2, h3⟩ := h
    obtain ⟨g1, g2, g3⟩ := scFol_get (j :: r) h3
    refine ⟨fun a ha => ?_, by simp, ?_⟩
    · cases a with
      | zero => exact ⟨h1, h2⟩
      | succ a => exact g1 a (by simpa using ha)
    · simpa using g3
theorem p_specSimp {xs : List CurvePoint} (h : IsCurve xs) {t : Int} (ht : 0 ≤ t ∧ t ≤ 1000000) :
    ∃ c nx r, ScDp (nearB xs t) (xs.length - 1) c nx ∧ scFol nx (xs.length - 1) (0 :: r) ∧ scPath (nearB xs t) (xs.length - 1) (0 :: r) ∧ (0 :: r).length = c 0 + 1 ∧ M.spec_SimplifyCurve xs t = some (keptC xs (0 :: r), 0) := by
  have h12 := h.1
  obtain ⟨last, hl⟩ : ∃ last, xs.length = last + 1 := ⟨xs.length - 1, by omega⟩
  obtain ⟨c, nx, g1, D⟩ := simp_outer h ht last hl
  obtain ⟨r, r1, r2, r3⟩ := D.ex last 0 rfl (Nat.zero_le _)
  rw [show xs.length - 1 = last by omega]
  refine ⟨c, nx, r, D, r1, r2, r3, ?_⟩
  have hinc : scInc (last + 1) 0 (0 :: r) := scPath_inc (n := last + 1) (by omega) 0 r r2
  have hlen := scInc_len _ _ _ hinc
  obtain ⟨f1, f2, f3⟩ := scFol_get _ r1
  have e1 : w64 ((xs.length : Int) - 1) = (last : Int) := by rw [w64_of (by omega)]; omega
  have e2 : w64 ((last : Int) - 1) = (last : Int) - 1 := w64_of (by omega)
  have e3 : List.replicate ((xs.length : Int)).toNat (0 : Int) = rgL (last + 1) (fun _ => 0) := by
    rw [Int.toNat_natCast, hl, rgL]
    apply List.ext_getElem
    · simp
    · intro k h1 h2; simp
  have e4 : chk (0 ≤ (xs.length : Int) ∧ (xs.length : Int) < 1099511627776) = fun (k : Option ((List CurvePoint) × Int)) => k := by funext k; exact chk_pos (by omega) k
  have e5 : idx xs 0 = some (ptA xs 0) := by rw [show (0 : Int) = ((0 : Nat) : Int) from rfl, idx_lt xs 0 (by omega), ptA_get (by omega : 0 < xs.length)]
  have hrun : loopF (M.spec_SimplifyCurve_l2 xs (rgL (last + 1) c, rgL (last + 1) nx, -1)) ([ptA xs 0], 0) = some (.nxt (keptC xs (0 :: r), (last : Int))) := by
    refine loop_run (body := M.spec_SimplifyCurve_l2 xs (rgL (last + 1) c, rgL (last + 1) nx, -1)) ((0 :: r : List Nat).length - 1) (by omega) (fun k => (keptC xs ((0 :: r).take (k + 1)), (((0 :: r).getD k 0 : Nat) : Int))) _ rfl (fun k hk => ?_) ?_
    · have hk' : k + 1 < (0 :: r : List Nat).length := by omega
      obtain ⟨b1, b2⟩ := f1 k hk'
      have d1 : (0 :: r).getD k 0 = (0 :: r)[k]'(by omega) := by simp [List.getD, List.getElem?_eq_getElem (show k < (0 :: r).length by omega)]
      have d2 : (0 :: r).getD (k + 1) 0 = (0 :: r)[k + 1]'(by omega) := by simp only [List.getD, List.getElem?_eq_getElem hk', Option.getD_some]
      have d3 : (((0 :: r)[k]'(by omega) : Nat) : Int) < (last : Int) := by omega
      have d4 := (scInc_get _ _ _ hinc (k + 1) hk').2
      have d5 : idx xs (((0 :: r)[k + 1]'(by omega) : Nat) : Int) = some (ptA xs ((0 :: r)[k + 1]'(by omega))) := by rw [idx_lt xs _ (by omega), ptA_get (by omega)]
      have d6 : keptC xs ((0 :: r).take (k + 1 + 1)) = keptC xs ((0 :: r).take (k + 1)) ++ [ptA xs ((0 :: r)[k + 1]'(by omega))] := by
        rw [keptC, List.take_succ_eq_append_getElem hk', List.map_append]; rfl
      have d7 : (keptC xs ((0 :: r).take (k + 1))).length ≤ 12 := by simp only [keptC, List.length_map, List.length_take]; omega
      simp only [M.spec_SimplifyCurve_l2, e1, d1, d3, decide_true, ifB_true, rgL_idx nx (show (0 :: r)[k]'(by omega) < last + 1 by omega), bnd_some, ← b2, d5]
      rw [chk_pos (by simp only [List.length_singleton]; omega), d6, d2]
    · have d1 : (0 :: r).getD ((0 :: r).length - 1) 0 = last := by
        rw [List.getD, List.getElem?_eq_getElem (by omega), Option.getD_some]; exact f3
      have d2 : (0 :: r).take ((0 :: r).length - 1 + 1) = 0 :: r := by rw [show (0 :: r).length - 1 + 1 = (0 :: r).length by omega]; exact List.take_length
      simp only [M.spec_SimplifyCurve_l2, e1, d1, d2, Int.lt_irrefl, decide_false, ifB_false]
  rw [M.spec_SimplifyCurve, p_specIsCurve xs (by omega), bnd_some, decide_eq_true h, Bool.not_true, ifB_false, p_l01In, bnd_some, decide_eq_true ht, Bool.not_true, ifB_false, e4]
  simp only [e1, e2, e3, g1, bnd_some, outc_nxt, M.spec_SimplifyCurve_a1, e5, hrun, M.spec_SimplifyCurve_a2]
end Go.Proofs.YtngegaodnokmbaaDoor
