/- Simplifying a curve: the program's search. -/
import Derived.Test.YtngegaodnokmbaaDoorPureSC3
import Derived.Test.YtngegaodnokmbaaDoorPurePar3
import Derived.Test.YtngegaodnokmbaaDoorMod5
namespace Go.Proofs.YtngegaodnokmbaaDoor
open Go
set_option linter.unusedVariables false
set_option linter.unusedSimpArgs false
theorem p_contPt (xs : List CurvePoint) (f : CurvePoint → Option Bool) (p : CurvePoint → Bool) (h : xs.length ≤ 1048576) (hf : ∀ x ∈ xs, f x = some (p x)) : M.slices_ContainsFunc___impl_CurvePoint_impl_CurvePoint_ xs f = some (xs.any p) := by
  obtain ⟨o, ho, hq⟩ := loop_first (body := M.slices_IndexFunc___impl_CurvePoint_impl_CurvePoint__l1 xs f) xs.length (by omega) (fun i => xs[i]?.any p)
    (fun i hi => by
      have h1 : ((i : Int) < (xs.length : Int)) := by omega
      simp only [M.slices_IndexFunc___impl_CurvePoint_impl_CurvePoint__l1, h1, decide_true, ifB_true, idx_lt xs i hi, bnd_some, hf _ (List.getElem_mem hi), step64 hi (by omega), ifB_if, List.getElem?_eq_getElem hi, Option.any_some, if_true]
      split <;> rfl)
    (by simp [M.slices_IndexFunc___impl_CurvePoint_impl_CurvePoint__l1])
  rw [any_at] at hq
  unfold M.slices_ContainsFunc___impl_CurvePoint_impl_CurvePoint_ M.slices_IndexFunc___impl_CurvePoint_impl_CurvePoint_
  rw [ho]
  rcases hq with ⟨k, hk, rfl, hn⟩ | ⟨rfl, hn⟩
  · simp only [bnd_some, outc_ret]
    simp only [Bool.not_eq_false] at hn
    rw [hn, decide_eq_true hk]
  · simp only [bnd_some, outc_nxt, M.slices_IndexFunc___impl_CurvePoint_impl_CurvePoint__a1, hn]
    rfl
theorem and_one (q : Nat) (hq : q < 4096) : andI .i64 (q : Int) 1 = ((q % 2 : Nat) : Int) := by
  have e1 : (BitVec.ofInt IntKind.i64.bits (q : Int) &&& BitVec.ofInt IntKind.i64.bits 1).toNat = q % 2 := by
    show (BitVec.ofInt 64 (q : Int) &&& BitVec.ofInt 64 ((1 : Nat) : Int)).toNat = q % 2
    rw [BitVec.ofInt_natCast, BitVec.ofInt_natCast, BitVec.toNat_and, BitVec.toNat_ofNat, BitVec.toNat_ofNat, Nat.mod_eq_of_lt (by omega : q < 2 ^ 64)]
    exact Nat.and_one_is_mod q
  rw [andI, e1]
  exact w64_of (by omega)
theorem sh_nat (m j : Nat) (hm : m < 4096) (hj : j ≤ 64) : shrI .i64 (m : Int) (j : Int) = ((m / 2 ^ j : Nat) : Int) := by
  have e1 : min ((j : Int)).toNat IntKind.i64.bits = j := by rw [Int.toNat_natCast]; exact Nat.min_eq_left hj
  rw [shrI, e1, show ((2 : Int) ^ j) = ((2 ^ j : Nat) : Int) by simp]
  exact (Int.ofNat_fdiv m (2 ^ j)).symm
theorem sh_bit (m j : Nat) (hm : m < 4096) (hj : j ≤ 64) : andI .i64 (shrI .i64 (m : Int) (j : Int)) 1 = ((m / 2 ^ j % 2 : Nat) : Int) := by
  rw [sh_nat m j hm hj]
  exact and_one _ (Nat.lt_of_le_of_lt (Nat.div_le_self _ _) hm)
def cnt : Nat → Nat → Nat
  | 0, _ => 0
  | k + 1, m => cnt k m + m / 2 ^ k % 2
theorem scIdx_len (n : Nat) : ∀ (k m : Nat), (scIdx n k m).length = cnt k m
  | 0, m => rfl
  | k + 1, m => by
    have ih := scIdx_len n k m
    rw [scIdx, cnt]
    split
    · rw [List.length_cons, ih]; omega
    · rw [ih]; omega
theorem cnt_up (m n : Nat) (h : m < 2 ^ n) : ∀ d, cnt (n + d) m = cnt n m
  | 0 => rfl
  | d + 1 => by
    have h2 : m < 2 ^ (n + d) := Nat.lt_of_lt_of_le h (Nat.pow_le_pow_right (by omega) (by omega))
    rw [← Nat.add_assoc, cnt, cnt_up m n h d, Nat.div_eq_of_lt h2]; rfl
theorem ones_all : (List.range 64).all (fun a => (List.range 64).all fun b => decide (M.math_bits_OnesCount ((a * 64 + b : Nat) : Int) = some ((cnt 12 (a * 64 + b) : Nat) : Int))) = true := by decide +kernel
theorem p_ones (m : Nat) (hm : m < 4096) : M.math_bits_OnesCount (IntKind.u64.wrap (m : Int)) = some ((cnt 12 m : Nat) : Int) := by
  have e1 : IntKind.u64.wrap (m : Int) = (m : Int) := by
    simp only [IntKind.wrap, IntKind.signed, IntKind.bits, Bool.false_and, Bool.false_eq_true, if_false]
    omega
  have h := ones_all
  rw [List.all_eq_true] at h
  have h2 := h (m / 64) (List.mem_range.2 (by omega))
  rw [List.all_eq_true] at h2
  have h3 := of_decide_eq_true (h2 (m % 64) (List.mem_range.2 (by omega)))
  rw [show m / 64 * 64 + m % 64 = m by omega] at h3
  rw [e1, h3]
theorem scPath_of {nr : Nat → Nat → Bool} {n : Nat} : ∀ (l : List Nat) (lo : Nat), scInc n lo l → (h0 : 0 < l.length) → l[l.length - 1] = n - 1 → (∀ a (ha : a + 1 < l.length), nr l[a] l[a + 1] = true) → scPath nr (n - 1) l
  | [], lo, _, h0, _, _ => by simp at h0
  | [i], lo, _, h0, hz, _ => by simpa [scPath] using hz
  | i :: j :: r, lo, h, h0, hz, hn => ⟨h.2.2.1, hn 0 (by simp), scPath_of (j :: r) (i + 1) h.2.2 (by simp) (by simpa using hz) (fun a ha => by
      have := hn (a + 1) (by simpa using ha)
      simpa using this)⟩
theorem scPath_to {nr : Nat → Nat → Bool} {last : Nat} : ∀ (l : List Nat), scPath nr last l → (∀ a (ha : a + 1 < l.length), nr l[a] l[a + 1] = true) ∧ ∃ h : 0 < l.length, l[l.length - 1] = last
  | [], h => h.elim
  | [i], h => ⟨fun a ha => by simp at ha, by simp, h⟩
  | i :: j :: r, h => by
    obtain ⟨h1, h2, h3⟩ := h
    obtain ⟨g1, g2, g3⟩ := scPath_to (j :: r) h3
    refine ⟨fun a ha => ?_, by simp, by simpa using g3⟩
    cases a with
    | zero => exact h2
    | succ a => have := g1 a (by simpa using ha); simpa using this
theorem scIdx_even (n m : Nat) (hm : m % 2 = 0) : ∀ (k : Nat), k ≤ n → ∀ x ∈ scIdx n k m, x < n - 1
  | 0, _, x, hx => by simp [scIdx] at hx
  | k + 1, hk, x, hx => by
    rw [scIdx] at hx
    split at hx
    · rename_i h
      rcases List.mem_cons.1 hx with rfl | hx
      · cases k with
        | zero => simp at h; omega
        | succ k => omega
      · exact scIdx_even n m hm k (by omega) x hx
    · exact scIdx_even n m hm k (by omega) x hx
theorem scIdx_odd (n m : Nat) (hm : m % 2 = 1) : ∀ (k : Nat), k + 1 ≤ n → ∃ p, scIdx n (k + 1) m = p ++ [n - 1]
  | 0, _ => ⟨[], by simp [scIdx, hm]⟩
  | k + 1, hk => by
    obtain ⟨p, hp⟩ := scIdx_odd n m hm k (by omega)
    rw [scIdx]
    split
    · exact ⟨_ :: p, by rw [hp]; rfl⟩
    · exact ⟨p, hp⟩
def lM (xs : List CurvePoint) (m : Nat) : List Nat := scIdx xs.length xs.length m
def gdM (xs : List CurvePoint) (t : Int) (m : Nat) : Prop := scPath (nearB xs t) (xs.length - 1) (lM xs m) ∧ ∃ r, lM xs m = 0 :: r
theorem lM_inc (xs : List CurvePoint) (m : Nat) : scInc xs.length 0 (lM xs m) := by
  have := scIdx_inc xs.length xs.length m (Nat.le_refl _)
  rw [Nat.sub_self] at this
  exact this
theorem lM_len (xs : List CurvePoint) (m : Nat) : (lM xs m).length ≤ xs.length := by have := scInc_len _ _ _ (lM_inc xs m); omega
theorem gd_top {xs : List CurvePoint} {t : Int} {m : Nat} (hn : 0 < xs.length) (h : gdM xs t m) : m / 2 ^ (xs.length - 1) % 2 = 1 := by
  apply Classical.byContradiction
  intro hc
  obtain ⟨_, r, hr⟩ := h
  have e : lM xs m = scIdx xs.length (xs.length - 1) m := by
    have : xs.length = xs.length - 1 + 1 := by omega
    rw [lM]
    generalize xs.length - 1 = k at *
    rw [this, scIdx, if_neg hc]
  have g := scIdx_inc xs.length (xs.length - 1) m (by omega)
  rw [← e, hr] at g
  have := g.1
  omega
theorem gd_low {xs : List CurvePoint} {t : Int} {m : Nat} (hn : 0 < xs.length) (h : gdM xs t m) : m % 2 = 1 := by
  apply Classical.byContradiction
  intro hc
  obtain ⟨g1, g2, g3⟩ := scPath_to _ h.1
  have := scIdx_even xs.length m (by omega) xs.length (Nat.le_refl _) _ (List.getElem_mem (show (lM xs m).length - 1 < (lM xs m).length by omega))
  omega
theorem gd_shape {xs : List CurvePoint} {m : Nat} (hn : 2 ≤ xs.length) (h1 : m / 2 ^ (xs.length - 1) % 2 = 1) (h2 : m % 2 = 1) : ∃ r, lM xs m = 0 :: r ∧ 1 ≤ r.length ∧ ∃ h : 0 < (lM xs m).length, (lM xs m)[(lM xs m).length - 1] = xs.length - 1 := by
  obtain ⟨k, hk⟩ : ∃ k, xs.length = k + 1 := ⟨xs.length - 1, by omega⟩
  obtain ⟨p, hp⟩ := scIdx_odd xs.length m h2 k (by omega)
  have e : lM xs m = 0 :: scIdx xs.length k m := by
    rw [lM]
    rw [hk, Nat.add_sub_cancel] at h1
    conv => lhs; rw [show scIdx xs.length xs.length m = scIdx xs.length (k + 1) m by rw [← hk]]
    rw [scIdx, if_pos h1, hk, Nat.sub_self]
  have e2 : lM xs m = p ++ [xs.length - 1] := by rw [lM, ← hp, ← hk]
  have hl : (lM xs m).length = p.length + 1 := by rw [e2]; simp
  refine ⟨_, e, ?_, by omega, ?_⟩
  · rcases Nat.eq_zero_or_pos (scIdx xs.length k m).length with h0 | h0
    · have : scIdx xs.length k m = [] := List.length_eq_zero_iff.1 h0
      rw [this] at e
      rw [e] at e2
      cases p with
      | nil => simp at e2; omega
      | cons a p => simp at e2
    · exact h0
  · simp [e2]
theorem gd_valid {xs : List CurvePoint} (h : IsCurve xs) {t : Int} (ht : 0 ≤ t) {m : Nat} (h1 : m / 2 ^ (xs.length - 1) % 2 = 1) (h2 : m % 2 = 1) :
    IsCurve (keptC xs (lM xs m)) ∧ (gdM xs t m ↔ ∀ q, q < xs.length → -t ≤ paceV (keptC xs (lM xs m)) (ptA xs q).Wind - (ptA xs q).Pace ∧ paceV (keptC xs (lM xs m)) (ptA xs q).Wind - (ptA xs q).Pace ≤ t) := by
  have h12 := h.1
  obtain ⟨r, g1, g2, g3, g4⟩ := gd_shape h12.1 h1 h2
  have hl : 2 ≤ (lM xs m).length := by rw [g1, List.length_cons]; omega
  have h0 : (lM xs m)[0]'(by omega) = 0 := by simp [g1]
  refine ⟨kept_curve h (lM_inc xs m) hl, ?_⟩
  rw [valid_iff h ht (lM_inc xs m) hl h0 g4]
  constructor
  · intro hg
    exact (scPath_to _ hg.1).1
  · intro hn
    exact ⟨scPath_of _ 0 (lM_inc xs m) g3 g4 hn, r, g1⟩
theorem simp_kept {xs : List CurvePoint} (h : IsCurve xs) {m : Nat} (hm : m < 4096) (b : List CurvePoint) : loopF (M.impl_SimplifyCurve_l2 xs (b, (m : Int))) ([], 0) = some (.nxt (keptC xs (lM xs m), (xs.length : Int))) := by
  have h12 := h.1
  obtain ⟨o, ho, hq⟩ := loop_count (body := M.impl_SimplifyCurve_l2 xs (b, (m : Int))) (s := ([], 0)) xs.length (by omega)
    (fun k s => ∃ a, s = (a, (k : Int)) ∧ a ++ keptC xs (scIdx xs.length (xs.length - k) m) = keptC xs (lM xs m))
    (fun o => o = .nxt (keptC xs (lM xs m), (xs.length : Int)))
    ⟨[], rfl, by rw [List.nil_append, Nat.sub_zero, lM]⟩
    (fun k s hk hs => by
      obtain ⟨a, rfl, ha⟩ := hs
      have al : a.length ≤ 12 := by
        have := congrArg List.length ha
        have l1 := lM_len xs m
        simp only [List.length_append, keptC, List.length_map] at this
        omega
      have e1 : (k : Int) < (xs.length : Int) := by omega
      have e2 : w64 ((xs.length : Int) - 1) = ((xs.length - 1 : Nat) : Int) := by rw [w64_of (by omega)]; omega
      have e3 : w64 (((xs.length - 1 : Nat) : Int) - (k : Int)) = ((xs.length - (k + 1) : Nat) : Int) := by rw [w64_of (by omega)]; omega
      have e4 : (0 : Int) ≤ ((xs.length - (k + 1) : Nat) : Int) := by omega
      have e5 : scIdx xs.length (xs.length - k) m = scIdx xs.length (xs.length - (k + 1) + 1) m := by congr 1; omega
      rw [e5, scIdx, show xs.length - (xs.length - (k + 1) + 1) = k by omega] at ha
      simp only [M.impl_SimplifyCurve_l2, e1, decide_true, ifB_true, idx_lt xs k hk, bnd_some, e2, e3, chk_pos e4, sh_bit m _ hm (show xs.length - (k + 1) ≤ 64 by omega), M.impl_SimplifyCurve_j5, M.impl_SimplifyCurve_j4, step64 hk (by omega)]
      rw [chk_pos (by simp only [List.length_singleton]; omega)]
      by_cases hb : m / 2 ^ (xs.length - (k + 1)) % 2 = 1
      · rw [if_pos hb] at ha
        rw [hb]
        refine ⟨_, rfl, _, rfl, ?_⟩
        rw [List.append_assoc, ← ha]
        simp [keptC, ptA_get hk]
      · rw [if_neg hb] at ha
        rw [show m / 2 ^ (xs.length - (k + 1)) % 2 = 0 by omega]
        exact ⟨_, rfl, _, rfl, ha⟩)
    (fun s hs => by
      obtain ⟨a, rfl, ha⟩ := hs
      rw [Nat.sub_self, scIdx] at ha
      have ha' : a = keptC xs (lM xs m) := by rw [← ha]; simp [keptC]
      subst ha'
      exact ⟨.brk (keptC xs (lM xs m), (xs.length : Int)), by simp only [M.impl_SimplifyCurve_l2, Int.lt_irrefl, decide_false, ifB_false], rfl⟩)
  rw [ho, hq]
theorem simp_step {xs : List CurvePoint} (h : IsCurve xs) {t : Int} (ht : 0 ≤ t ∧ t ≤ 1000000) {m : Nat} (hm : m < 2 ^ xs.length) (hm0 : 0 < m) (b : List CurvePoint) (hb : b.length ≤ 12) :
    ∃ b', M.impl_SimplifyCurve_l1 xs t (b, (m : Int)) = some (.cont (b', ((m - 1 : Nat) : Int))) ∧ ((b' = b ∧ (gdM xs t m → b ≠ [] ∧ b.length ≤ (lM xs m).length)) ∨ (b' = keptC xs (lM xs m) ∧ gdM xs t m ∧ (b = [] ∨ (lM xs m).length < b.length))) := by
  have h12 := h.1
  have hm4 : m < 4096 := by
    have : 2 ^ xs.length ≤ 2 ^ 12 := Nat.pow_le_pow_right (by omega) h12.2
    omega
  have hc : cnt 12 m = (lM xs m).length := by
    rw [lM, scIdx_len, ← cnt_up m xs.length hm (12 - xs.length)]
    congr 1; omega
  have e1 : (0 : Int) < (m : Int) := by omega
  have e2 : w64 ((xs.length : Int) - 1) = ((xs.length - 1 : Nat) : Int) := by rw [w64_of (by omega)]; omega
  have e4 : (0 : Int) ≤ ((xs.length - 1 : Nat) : Int) := by omega
  have e5 : w64 ((m : Int) - 1) = ((m - 1 : Nat) : Int) := by rw [w64_of (by omega)]; omega
  have skip : M.impl_SimplifyCurve_j3 xs t (b, (m : Int)) true = some (.cont (b, ((m - 1 : Nat) : Int))) := by
    simp only [M.impl_SimplifyCurve_j3, ifB_true, M.impl_SimplifyCurve_j2, M.impl_SimplifyCurve_j1, e5]
  simp only [M.impl_SimplifyCurve_l1, e1, decide_true, ifB_true, p_ones m hm4, bnd_some, e2, chk_pos e4, sh_bit m _ hm4 (show xs.length - 1 ≤ 64 by omega), and_one m hm4]
  by_cases h1 : m / 2 ^ (xs.length - 1) % 2 = 1
  · by_cases h2 : m % 2 = 1
    · rw [h1, h2]
      obtain ⟨g1, g2⟩ := gd_valid h ht.1 h1 h2
      obtain ⟨r, g3, g4, _⟩ := gd_shape h12.1 h1 h2
      have run : ∃ b', M.impl_SimplifyCurve_j3 xs t (b, (m : Int)) false = some (.cont (b', ((m - 1 : Nat) : Int))) ∧ ((b' = b ∧ ¬ gdM xs t m) ∨ (b' = keptC xs (lM xs m) ∧ gdM xs t m)) := by
        have hcont : M.slices_ContainsFunc___impl_CurvePoint_impl_CurvePoint_ xs (fun y0 => M.impl_SimplifyCurve_1 y0 (keptC xs (lM xs m)) t) = some (xs.any fun y => !decide (-t ≤ paceV (keptC xs (lM xs m)) y.Wind - y.Pace ∧ paceV (keptC xs (lM xs m)) y.Wind - y.Pace ≤ t)) := by
          refine p_contPt xs _ _ (by omega) (fun x hx => ?_)
          obtain ⟨k1, _, k2, _⟩ := p_paceV g1 x.Wind
          obtain ⟨i, hi, rfl⟩ := List.getElem_of_mem hx
          have ok := ptA_ok h hi
          rw [ptA_get hi] at ok
          simp only [M.impl_SimplifyCurve_1, k1, bnd_some, p_within]
          rw [w64_of (by omega), w64_of (by omega), Int.zero_sub]
        simp only [M.impl_SimplifyCurve_j3, ifB_false, simp_kept h hm4 b, bnd_some, outc_nxt, M.impl_SimplifyCurve_a2, hcont, M.impl_SimplifyCurve_j2, M.impl_SimplifyCurve_j1, e5]
        rw [chk_pos (by simp only [keptC, List.length_map, g3, List.length_cons]; omega)]
        by_cases hv : gdM xs t m
        · have ha : (xs.any fun y => !decide (-t ≤ paceV (keptC xs (lM xs m)) y.Wind - y.Pace ∧ paceV (keptC xs (lM xs m)) y.Wind - y.Pace ≤ t)) = false := by
            rw [List.any_eq_false]
            intro y hy
            obtain ⟨i, hi, rfl⟩ := List.getElem_of_mem hy
            have := g2.1 hv i hi
            rw [ptA_get hi] at this
            simp only [this, and_self, decide_true, Bool.not_true, Bool.false_eq_true, not_false_eq_true]
          rw [ha]
          exact ⟨_, rfl, .inr ⟨rfl, hv⟩⟩
        · have ha : (xs.any fun y => !decide (-t ≤ paceV (keptC xs (lM xs m)) y.Wind - y.Pace ∧ paceV (keptC xs (lM xs m)) y.Wind - y.Pace ≤ t)) = true := by
            rw [← Bool.not_eq_false, List.any_eq_false]
            intro hn
            apply hv
            rw [g2]
            intro q hq
            have := hn _ (List.getElem_mem hq)
            rw [ptA_get hq]
            simpa using this
          rw [ha]
          exact ⟨_, rfl, .inl ⟨rfl, hv⟩⟩
      by_cases hbe : b = []
      · subst hbe
        obtain ⟨b', r1, r2⟩ := run
        refine ⟨b', r1, ?_⟩
        rcases r2 with ⟨u1, u2⟩ | ⟨u1, u2⟩
        · exact .inl ⟨u1, fun g => (u2 g).elim⟩
        · exact .inr ⟨u1, u2, .inl rfl⟩
      · have be : b.isEmpty = false := by cases b with
          | nil => exact (hbe rfl).elim
          | cons _ _ => rfl
        rw [be, hc]
        by_cases hlen : (b.length : Int) ≤ (((lM xs m).length : Nat) : Int)
        · refine ⟨b, ?_, .inl ⟨rfl, fun _ => ⟨hbe, by omega⟩⟩⟩
          rw [decide_eq_true hlen]
          exact skip
        · obtain ⟨b', r1, r2⟩ := run
          refine ⟨b', ?_, ?_⟩
          · rw [decide_eq_false hlen]
            exact r1
          · rcases r2 with ⟨u1, u2⟩ | ⟨u1, u2⟩
            · exact .inl ⟨u1, fun g => (u2 g).elim⟩
            · exact .inr ⟨u1, u2, .inr (by omega)⟩
    · rw [h1, show m % 2 = 0 by omega]
      exact ⟨b, skip, .inl ⟨rfl, fun g => (h2 (gd_low (by omega) g)).elim⟩⟩
  · rw [show m / 2 ^ (xs.length - 1) % 2 = 0 by omega]
    exact ⟨b, skip, .inl ⟨rfl, fun g => (h1 (gd_top (by omega) g)).elim⟩⟩
def bestI (xs : List CurvePoint) (t : Int) (z : Nat) (b : List CurvePoint) : Prop :=
  (b = [] ∧ ∀ m, z < m → m < 2 ^ xs.length → ¬ gdM xs t m) ∨ ∃ s, z < s ∧ s < 2 ^ xs.length ∧ gdM xs t s ∧ b = keptC xs (lM xs s) ∧ ∀ m, z < m → m < 2 ^ xs.length → gdM xs t m → (lM xs s).length ≤ (lM xs m).length ∧ ((lM xs s).length = (lM xs m).length → m ≤ s)
theorem p_implSimp {xs : List CurvePoint} (h : IsCurve xs) {t : Int} (ht : 0 ≤ t ∧ t ≤ 1000000) : ∃ b, M.impl_SimplifyCurve xs t = some (b, 0) ∧ bestI xs t 0 b := by
  have h12 := h.1
  have hp : 2 ^ xs.length ≤ 2 ^ 12 := Nat.pow_le_pow_right (by omega) h12.2
  have hp2 : 2 ^ 2 ≤ 2 ^ xs.length := Nat.pow_le_pow_right (by omega) h12.1
  obtain ⟨o, ho, b, rfl, hq⟩ := loop_count (body := M.impl_SimplifyCurve_l1 xs t) (s := ([], ((2 ^ xs.length - 1 : Nat) : Int))) (2 ^ xs.length - 1) (by omega)
    (fun k s => ∃ b, s = (b, ((2 ^ xs.length - 1 - k : Nat) : Int)) ∧ bestI xs t (2 ^ xs.length - 1 - k) b)
    (fun o => ∃ b, o = .nxt (b, (0 : Int)) ∧ bestI xs t 0 b)
    ⟨[], rfl, .inl ⟨rfl, fun m h1 h2 => by omega⟩⟩
    (fun k s hk hs => by
      obtain ⟨b, rfl, hb⟩ := hs
      have hbl : b.length ≤ 12 := by
        rcases hb with ⟨rfl, _⟩ | ⟨s, _, _, _, rfl, _⟩
        · simp
        · have := lM_len xs s
          simp only [keptC, List.length_map]; omega
      obtain ⟨b', g1, g2⟩ := simp_step h ht (m := 2 ^ xs.length - 1 - k) (by omega) (by omega) b hbl
      refine ⟨_, g1, b', by rw [show 2 ^ xs.length - 1 - (k + 1) = 2 ^ xs.length - 1 - k - 1 by omega], ?_⟩
      rw [show 2 ^ xs.length - 1 - (k + 1) = 2 ^ xs.length - 1 - k - 1 by omega]
      generalize hz : 2 ^ xs.length - 1 - k = z at *
      have hz0 : 0 < z := by omega
      rcases g2 with ⟨rfl, g3⟩ | ⟨rfl, g3, g4⟩
      · rcases hb with ⟨rfl, q1⟩ | ⟨s, q0, q1, q2, rfl, q3⟩
        · refine .inl ⟨rfl, fun m m1 m2 hg => ?_⟩
          by_cases e : m = z
          · subst e; exact (g3 hg).1 rfl
          · exact q1 m (by omega) m2 hg
        · refine .inr ⟨s, by omega, q1, q2, rfl, fun m m1 m2 hg => ?_⟩
          by_cases e : m = z
          · subst e
            have := (g3 hg).2
            simp only [keptC, List.length_map] at this
            exact ⟨this, fun _ => by omega⟩
          · exact q3 m (by omega) m2 hg
      · refine .inr ⟨z, by omega, by omega, g3, rfl, fun m m1 m2 hg => ?_⟩
        by_cases e : m = z
        · subst e; exact ⟨Nat.le_refl _, fun _ => Nat.le_refl _⟩
        · rcases hb with ⟨rfl, q1⟩ | ⟨s, q0, q1, q2, rfl, q3⟩
          · exact (q1 m (by omega) m2 hg).elim
          · have l1 := q3 m (by omega) m2 hg
            rcases g4 with g4 | g4
            · have l2 := congrArg List.length g4
              obtain ⟨r, hr⟩ := q2.2
              rw [hr] at l2
              simp [keptC] at l2
            · simp only [keptC, List.length_map] at g4
              exact ⟨by omega, fun _ => by omega⟩)
    (fun s hs => by
      obtain ⟨b, rfl, hb⟩ := hs
      rw [Nat.sub_self] at hb
      rw [Nat.sub_self]
      exact ⟨.brk (b, 0), by simp only [M.impl_SimplifyCurve_l1, Int.natCast_zero, Int.lt_irrefl, decide_false, ifB_false], b, rfl, hb⟩)
  refine ⟨b, ?_, hq⟩
  have e1 : w64 ((xs.length : Int) - 1) = ((xs.length - 1 : Nat) : Int) := by rw [w64_of (by omega)]; omega
  have e2 : w64 (((xs.length - 1 : Nat) : Int) + 1) = (xs.length : Int) := by rw [w64_of (by omega)]; omega
  have e3 : w64 (shlI .i64 1 (xs.length : Int) - 1) = ((2 ^ xs.length - 1 : Nat) : Int) := by
    have d1 : min ((xs.length : Int)).toNat IntKind.i64.bits = xs.length := by rw [Int.toNat_natCast]; exact Nat.min_eq_left (show xs.length ≤ 64 by omega)
    have d2 : shlI .i64 1 (xs.length : Int) = ((2 ^ xs.length : Nat) : Int) := by
      rw [shlI, d1, show (1 : Int) * 2 ^ xs.length = ((2 ^ xs.length : Nat) : Int) by simp]
      exact w64_of (by omega)
    rw [d2, w64_of (by omega)]; omega
  rw [M.impl_SimplifyCurve, p_implIsCurve xs (by omega), bnd_some, decide_eq_true h, Bool.not_true, ifB_false, p_within, bnd_some, decide_eq_true ht, Bool.not_true, ifB_false, e1, e2, chk_pos (by omega), e3, ho]
  simp only [bnd_some, outc_nxt, M.impl_SimplifyCurve_a1]
theorem p_simp (xs : List CurvePoint) (t : Int) (hx : xs.length ≤ 1048576) : ∃ r, M.spec_SimplifyCurve xs t = some r ∧ M.impl_SimplifyCurve xs t = some r ∧ r.1.length ≤ 12 ∧ ((r.1 = [] ∧ r.2 ≠ 0) ∨ (IsCurve xs ∧ (0 ≤ t ∧ t ≤ 1000000) ∧ r.2 = 0 ∧ ∃ m, m < 2 ^ xs.length ∧ gdM xs t m ∧ r.1 = keptC xs (lM xs m))) := by
  by_cases h : IsCurve xs
  · by_cases ht : 0 ≤ t ∧ t ≤ 1000000
    · have h12 := h.1
      obtain ⟨c, nx, r, D, r1, r2, r3, r4⟩ := p_specSimp h ht
      obtain ⟨b, b1, b2⟩ := p_implSimp h ht
      have hinc : scInc xs.length 0 (0 :: r) := scPath_inc (n := xs.length) (by omega) 0 r r2
      have hlt := scMask_lt xs.length (0 :: r) 0 hinc
      rw [Nat.sub_zero] at hlt
      have hl : lM xs (scMask xs.length (0 :: r)) = 0 :: r := by
        have := scIdx_mask xs.length xs.length 0 (0 :: r) (Nat.le_refl _) (by rw [Nat.sub_self]; exact hinc)
        rw [Nat.zero_mul, Nat.zero_add] at this
        exact this
      have hpos : 0 < scMask xs.length (0 :: r) := by
        rw [scMask]; have := Nat.two_pow_pos (xs.length - 1 - 0); omega
      have hg : gdM xs t (scMask xs.length (0 :: r)) := ⟨by rw [hl]; exact r2, r, hl⟩
      have hb : b = keptC xs (0 :: r) := by
        rcases b2 with ⟨_, q⟩ | ⟨s, q0, q1, q2, q3, q4⟩
        · exact (q _ hpos hlt hg).elim
        · obtain ⟨k1, k2⟩ := q4 _ hpos hlt hg
          obtain ⟨k3, s', hs'⟩ := q2
          rw [hl] at k1 k2
          rw [hs'] at k3 k1 k2
          obtain ⟨d1, d2⟩ := D.best (by omega) 0 s' k3
          have d3 := d2 (by omega) r r1
          have d4 := k2 (by omega)
          have d5 : scMask xs.length (lM xs s) = s := by rw [lM, scMask_idx _ _ _ (Nat.le_refl _), Nat.mod_eq_of_lt q1]
          rw [hs'] at d5
          have d6 : s = scMask xs.length (0 :: r) := by omega
          rw [q3, d6, hl]
      subst hb
      exact ⟨_, r4, b1, by have := scInc_len _ _ _ hinc; simp only [keptC, List.length_map]; omega, .inr ⟨h, ht, rfl, _, hlt, hg, by rw [hl]⟩⟩
    · refine ⟨([], 2), ?_, ?_, by simp, .inl ⟨rfl, by simp⟩⟩
      · rw [M.spec_SimplifyCurve, p_specIsCurve xs hx, bnd_some, decide_eq_true h, Bool.not_true, ifB_false, p_l01In, bnd_some, decide_eq_false ht, Bool.not_false, ifB_true]
      · rw [M.impl_SimplifyCurve, p_implIsCurve xs hx, bnd_some, decide_eq_true h, Bool.not_true, ifB_false, p_within, bnd_some, decide_eq_false ht, Bool.not_false, ifB_true]
  · refine ⟨([], 1), ?_, ?_, by simp, .inl ⟨rfl, by simp⟩⟩
    · rw [M.spec_SimplifyCurve, p_specIsCurve xs hx, bnd_some, decide_eq_false h, Bool.not_false, ifB_true]
    · rw [M.impl_SimplifyCurve, p_implIsCurve xs hx, bnd_some, decide_eq_false h, Bool.not_false, ifB_true]
end Go.Proofs.YtngegaodnokmbaaDoor
