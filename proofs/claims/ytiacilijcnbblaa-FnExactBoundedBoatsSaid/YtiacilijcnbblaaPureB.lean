/- Pure law of the bounded boats. -/
import Derived.Test.YtiacilijcnbblaaPureR
namespace Go.Proofs.Ytiacilijcnbblaa
open Go
set_option linter.unusedVariables false
set_option linter.unusedSimpArgs false

def badRating (xs : List Rating) (i : Nat) : Bool := match xs[i]? with | none => true | some x => x.Boat != (i : Int) || !decide (1 ≤ x.Value ∧ x.Value ≤ 3000)
def IsRatings (n : Int) (xs : List Rating) : Prop := (1 ≤ n ∧ n ≤ 16) ∧ (xs.length : Int) = n ∧ ∀ i, i < xs.length → badRating xs i = false
instance (n : Int) (xs : List Rating) : Decidable (IsRatings n xs) := by unfold IsRatings; infer_instance
theorem l_specRatings (xs : List Rating) (h : xs.length ≤ 1048576) : loopF (M.spec_IsRatings_l1 xs) 0 = some (if ∀ i, i < xs.length → badRating xs i = false then .nxt (xs.length : Int) else .ret false) := by
  refine loop_find xs.length (by omega) (fun i => (i : Int)) (badRating xs) false _ rfl (fun i hi => ?_) ?_
  · have h1 : ((i : Int) < (xs.length : Int)) := by omega
    simp only [M.spec_IsRatings_l1, M.spec_IsRatings_j2, h1, decide_true, ifB_true, idx_lt xs i hi, bnd_some, p_l01In, M.spec_l22Factor, step64 hi (by omega), ifB_if]
    unfold badRating
    simp only [List.getElem?_eq_getElem hi]
    by_cases h3 : xs[i].Boat = (i : Int)
    · by_cases h4 : 1 ≤ xs[i].Value ∧ xs[i].Value ≤ 3000 <;> simp [h3, h4]
    · simp [h3]
  · simp [M.spec_IsRatings_l1]
theorem l_implRatings (xs : List Rating) : M.impl_IsRatings_l1 xs = M.spec_IsRatings_l1 xs := by
  funext i
  simp only [M.impl_IsRatings_l1, M.spec_IsRatings_l1, M.impl_isFactor, M.spec_l22Factor, p_l01In, p_within, M.impl_IsRatings_j2, M.spec_IsRatings_j2]
  cases hi : idx xs i with
  | none => simp [bnd]
  | some a => simp
theorem p_specIsRatings (n : Int) (xs : List Rating) (h : xs.length ≤ 1048576) : M.spec_IsRatings n xs = some (decide (IsRatings n xs)) := by
  unfold IsRatings
  simp only [M.spec_IsRatings, M.spec_IsRatings_j1, p_l01In, bnd_some, l_specRatings xs h, M.spec_IsRatings_a1, ifB_if]
  by_cases h1 : 1 ≤ n ∧ n ≤ 16
  · by_cases h2 : (xs.length : Int) = n
    · by_cases h3 : ∀ i, i < xs.length → badRating xs i = false
      · rw [if_pos h3]; simp [h1, h2]; exact h3
      · simp only [h1, h2, h3]; simp
    · simp [h1, h2]
  · simp [h1]
theorem p_implIsRatings (n : Int) (xs : List Rating) (h : xs.length ≤ 1048576) : M.impl_IsRatings n xs = some (decide (IsRatings n xs)) := by
  rw [← p_specIsRatings n xs h]
  simp only [M.impl_IsRatings, M.spec_IsRatings, M.impl_IsRatings_j1, M.spec_IsRatings_j1, l_implRatings, p_l01In, p_within, M.impl_IsRatings_a1, M.spec_IsRatings_a1]
theorem e_bounded (a : ProgressRules) (n : Int) (xs : List Rating) (h : IsRatings n xs) (s : List Int × Int) : M.impl_BoundedBoats_l1 a xs s = M.spec_BoundedBoats_l1 a n xs s := by
  obtain ⟨acc, i⟩ := s
  simp only [M.impl_BoundedBoats_l1, M.spec_BoundedBoats_l1, h.2.1]
  cases hi : idx xs i with
  | none => simp [bnd]
  | some x =>
    have hb : x.Boat = i := by
      obtain ⟨h0, h1⟩ := idxE hi
      have hlt : i.toNat < xs.length := (List.getElem?_eq_some_iff.1 h1).1
      have h2 := h.2.2 i.toNat hlt
      unfold badRating at h2
      rw [h1] at h2
      simp at h2
      omega
    simp [M.impl_BoundedBoats_j1, M.impl_BoundedBoats_j2, M.impl_BoundedBoats_j3, M.spec_BoundedBoats_j1, M.spec_BoundedBoats_j2, M.spec_BoundedBoats_j3, hb]
theorem d_bounded (a : ProgressRules) (n : Int) (xs : List Rating) (h : IsRatings n xs) : ∃ zs k, loopF (M.spec_BoundedBoats_l1 a n xs) ([], 0) = some (.nxt (zs, k)) ∧ zs.length ≤ 16 := by
  have hn : ((xs.length : Nat) : Int) = n := h.2.1
  have hn1 := h.1
  obtain ⟨o, ho, hq⟩ := loop_count (body := M.spec_BoundedBoats_l1 a n xs) (s := ([], 0)) xs.length (by omega) (fun i s => s.2 = (i : Int) ∧ s.1.length ≤ i) (fun o => ∃ zs k, o = .nxt (zs, k) ∧ zs.length ≤ 16) ⟨rfl, Nat.le_refl _⟩
    (fun i s hi hs => by
      obtain ⟨zs, k⟩ := s
      obtain ⟨hk, hz⟩ := hs
      simp only at hk hz
      subst hk
      have h1 : ((i : Int) < n) := by omega
      simp only [M.spec_BoundedBoats_l1, M.spec_BoundedBoats_j1, M.spec_BoundedBoats_j2, M.spec_BoundedBoats_j3, h1, decide_true, ifB_true, idx_lt xs i hi, bnd_some, step64 hi (by omega)]
      have hc : zs.length + [(i : Int)].length < 1099511627776 := by simp; omega
      rw [chk_pos hc, ifB_if, ifB_if]
      split
      · refine ⟨.cont _, rfl, rfl, ?_⟩; simp; omega
      · split
        · refine ⟨.cont _, rfl, rfl, ?_⟩; simp; omega
        · refine ⟨.cont _, rfl, rfl, ?_⟩; simp; omega)
    (fun s hs => by
      obtain ⟨zs, k⟩ := s
      obtain ⟨hk, hz⟩ := hs
      simp only at hk hz
      subst hk
      have h1 : ¬ ((xs.length : Int) < n) := by omega
      exact ⟨.brk (zs, (xs.length : Int)), by simp [M.spec_BoundedBoats_l1, h1], _, _, rfl, by omega⟩)
  obtain ⟨zs, k, rfl, hz⟩ := hq
  exact ⟨zs, k, ho, hz⟩
theorem p_bounded (a : ProgressRules) (n : Int) (xs : List Rating) (h : xs.length ≤ 1048576) : ∃ r, M.spec_BoundedBoats a n xs = some r ∧ M.impl_BoundedBoats a n xs = some r ∧ r.1.length ≤ 16 := by
  simp only [M.spec_BoundedBoats, M.impl_BoundedBoats, p_specIsProgress, p_implIsProgress, p_specIsRatings n xs h, p_implIsRatings n xs h, bnd_some, ifB_if]
  split
  · exact ⟨_, rfl, rfl, by simp⟩
  · split
    · exact ⟨_, rfl, rfl, by simp⟩
    · rename_i hr
      have hr : IsRatings n xs := by simpa using hr
      obtain ⟨zs, k, hl, hz⟩ := d_bounded a n xs hr
      rw [loop_congr (e_bounded a n xs hr), hl]
      exact ⟨(zs, 0), rfl, rfl, hz⟩
theorem pure_FnExactBoundedBoats (a : ProgressRules) (ha : OkD.ok a) (n : Int) (hn : i64ok n) (xs : List Rating) (hx : OkD.ok xs) : M.laws_FnExactBoundedBoats a n xs = some true := by
  have hm : xs.length ≤ maxLen := hx.1
  rw [M.laws_FnExactBoundedBoats, p_szRatingS xs hm _ (by omega) (by omega), bnd_some, ifB_if]
  by_cases hl : (1048576 : Int) < xs.length
  · simp [hl]
  · have hl' : xs.length ≤ 1048576 := by omega
    rw [if_neg hl, if_neg (by simp; omega)]
    obtain ⟨r, h1, h2, h3⟩ := p_bounded a n xs hl'
    have hr : r.1.length ≤ 1048576 := by omega
    simp only [p_toProgressRules, p_toRatingS xs hl', bnd_some, h1, h2, p_eqInt64S r.1 hr, p_eqRatingS xs hl', M.laws_FnExactBoundedBoats_j1, p_markRatingS xs 1 hl' (by omega) (by omega), bne_self_eq_false, Bool.not_true, ifB_false]
    have e1 : decide ((1 : Int) + ((2 * xs.length : Nat) : Int) < 0) = false := by simp; omega
    rw [e1, ifB_false]
    simp only [M.laws_FnExactBoundedBoats_j2, p_markInt64S r.1 1 hr (by omega) (by omega), p_heldInt64S r.1 1 hr (by omega) (by omega), bnd_some, p_toProgressRules, p_toRatingS xs hl', h2, p_eqInt64S r.1 hr, M.laws_FnExactBoundedBoats_j3, bne_self_eq_false, Bool.not_true, ifB_false]
    have e2 : decide ((1 : Int) + ((1 * r.1.length : Nat) : Int) < 0) = false := by simp; omega
    simp only [e2, ifB_false]
end Go.Proofs.Ytiacilijcnbblaa
