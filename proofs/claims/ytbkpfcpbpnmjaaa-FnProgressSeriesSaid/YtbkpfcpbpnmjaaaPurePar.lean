/- Pure laws of par times: codes, corrected times, and the sorted times of those that have finished. -/
import Derived.Test.YtbkpfcpbpnmjaaaPureB
import Derived.Test.YtbkpfcpbpnmjaaaPureX
import Derived.Test.YtbkpfcpbpnmjaaaPureP
import Derived.Test.YtbkpfcpbpnmjaaaMod3
namespace Go.Proofs.Ytbkpfcpbpnmjaaa
open Go
set_option linter.unusedVariables false
set_option linter.unusedSimpArgs false
theorem p_specFinish (x : Finish) : M.spec_IsFinish x = M.impl_IsFinish x := by
  rw [p_IsFinish]
  simp only [M.spec_IsFinish, M.spec_IsFinish_j1, p_l01In, bnd_some, ifB_if]
  by_cases h6 : 0 ≤ x.Boat ∧ x.Boat ≤ 15
  · by_cases h5 : x.Code = 0
    · by_cases h7 : 1 ≤ x.Time ∧ x.Time ≤ 1000000000 <;> simp [h5, h6, h7]
    · by_cases h7 : 1 ≤ x.Code ∧ x.Code ≤ 9
      · have h8 : 0 ≤ x.Code ∧ x.Code ≤ 9 := by omega
        simp [h5, h6, h7, h8]
      · have h8 : ¬ (0 ≤ x.Code ∧ x.Code ≤ 9) := by omega
        simp [h5, h6, h7, h8]
  · simp [h6]
theorem p_l22Race (n : Int) (xs : List Finish) (h : xs.length ≤ 1048576) : M.spec_l22Race n xs = some (decide ((1 ≤ n ∧ n ≤ 16) ∧ OkRace n xs)) := by
  rw [← p_areFinishes n xs h]
  simp only [M.spec_l22Race, M.impl_areFinishes, p_l01In, p_within, bnd_some]
  have e : loopF (M.spec_l22Race_l1 xs) 0 = loopF (M.impl_areFinishes_l1 xs) 0 := by
    refine loop_congr (fun i => ?_) 0
    simp only [M.spec_l22Race_l1, M.impl_areFinishes_l1, p_specFinish, M.spec_l22Race_j2, M.impl_areFinishes_j2]
    cases hi : idx xs i with
    | none => simp [bnd]
    | some a => simp
  simp only [M.spec_l22Race_j1, M.impl_areFinishes_j1, e, M.spec_l22Race_a1, M.impl_areFinishes_a1]
def code22 (n : Int) (xs : List Finish) (rs : List Rating) : Int := if (1 ≤ n ∧ n ≤ 16) ∧ OkRace n xs then if IsRatings n rs then 0 else 2 else 1
theorem p_l22Code (n : Int) (xs : List Finish) (rs : List Rating) (h : xs.length ≤ 1048576) (h' : rs.length ≤ 1048576) : M.spec_l22Code n xs rs = some (code22 n xs rs) := by
  simp only [M.spec_l22Code, p_l22Race n xs h, p_specIsRatings n rs h', bnd_some, ifB_if, code22]
  by_cases h1 : (1 ≤ n ∧ n ≤ 16) ∧ OkRace n xs
  · by_cases h2 : IsRatings n rs <;> simp [h1, h2]
  · rw [if_neg h1, if_pos (by simp [h1])]
theorem p_ratingsCode (n : Int) (xs : List Finish) (rs : List Rating) (h : xs.length ≤ 1048576) (h' : rs.length ≤ 1048576) : M.impl_ratingsCode n xs rs = some (code22 n xs rs) := by
  simp only [M.impl_ratingsCode, p_areFinishes n xs h, p_implIsRatings n rs h', bnd_some, ifB_if, code22]
  by_cases h1 : (1 ≤ n ∧ n ≤ 16) ∧ OkRace n xs
  · by_cases h2 : IsRatings n rs <;> simp [h1, h2]
  · rw [if_neg h1, if_pos (by simp [h1])]
def cor (t v : Int) : Int := max 1 (min 1000000000 ((t * v + 500) / 1000))
theorem mul_bounds {t v : Int} (ht : 1 ≤ t ∧ t ≤ 1000000000) (hv : 1 ≤ v ∧ v ≤ 3000) : 0 ≤ t * v ∧ t * v ≤ 3000000000000 := by
  refine ⟨Int.mul_nonneg (by omega) (by omega), ?_⟩
  have h1 : t * v ≤ 1000000000 * v := Int.mul_le_mul_of_nonneg_right ht.2 (by omega)
  omega
theorem p_specCor {t v : Int} (ht : 1 ≤ t ∧ t ≤ 1000000000) (hv : 1 ≤ v ∧ v ≤ 3000) : M.spec_l22Corrected t v = some (cor t v) := by
  have h := mul_bounds ht hv
  unfold M.spec_l22Corrected cor
  rw [w64_of (n := t * v) (by omega), w64_of (n := t * v + 500) (by omega), Int.tdiv_eq_ediv_of_nonneg (by omega), w64_of (by omega)]
theorem p_implCor {t v : Int} (ht : 1 ≤ t ∧ t ≤ 1000000000) (hv : 1 ≤ v ∧ v ≤ 3000) : M.impl_corrected t v = some (cor t v) := by
  have h := mul_bounds ht hv
  unfold M.impl_corrected cor
  have e : 2 * t * v = 2 * (t * v) := Int.mul_assoc 2 t v
  rw [w64_of (n := 2 * t) (by omega), e, w64_of (n := 2 * (t * v)) (by omega), w64_of (n := 2 * (t * v) + 1000) (by omega), Int.tdiv_eq_ediv_of_nonneg (by omega), w64_of (by omega)]
  have e2 : (2 * (t * v) + 1000) / 2000 = (t * v + 500) / 1000 := by omega
  rw [e2]
theorem cor_in (t v : Int) : 1 ≤ cor t v ∧ cor t v ≤ 1000000000 := by unfold cor; omega
def ltI (x y : Int) : Bool := decide (x < y)
theorem insB_sorted (x : Int) : ∀ ra : List Int, ra.Pairwise (fun a b => b ≤ a) → (insB ltI ra x).Pairwise (fun a b => b ≤ a)
  | [], _ => by simp [insB]
  | y :: ys, h => by
    rw [List.pairwise_cons] at h
    by_cases hxy : x < y
    · have e : insB ltI (y :: ys) x = y :: insB ltI ys x := by simp [insB, ltI, List.takeWhile_cons, List.dropWhile_cons, hxy]
      rw [e, List.pairwise_cons]
      refine ⟨fun b hb => ?_, insB_sorted x ys h.2⟩
      rcases List.mem_cons.1 ((insB_perm ltI ys x).mem_iff.1 hb) with rfl | hb
      · omega
      · exact h.1 b hb
    · have e : insB ltI (y :: ys) x = x :: y :: ys := by simp [insB, ltI, List.takeWhile_cons, List.dropWhile_cons, hxy]
      rw [e, List.pairwise_cons, List.pairwise_cons]
      refine ⟨fun b hb => ?_, h⟩
      rcases List.mem_cons.1 hb with rfl | hb
      · omega
      · have := h.1 b hb; omega
theorem srtB_sorted (xs : List Int) : (srtB ltI xs).Pairwise (fun a b => b ≤ a) :=
  fold_inv (insB ltI) (fun l => l.Pairwise (fun a b => b ≤ a)) xs [] List.Pairwise.nil (fun s x _ h => insB_sorted x s h)
theorem srt_sort (xs : List Int) : xs.mergeSort (fun x y => decide (x ≤ y)) = (srtB ltI xs).reverse := by
  refine List.Perm.eq_of_pairwise (le := fun a b : Int => a ≤ b) (fun a b _ _ h1 h2 => Int.le_antisymm h1 h2) ?_ ?_ ?_
  · have := List.pairwise_mergeSort (le := fun x y : Int => decide (x ≤ y)) (fun a b c h1 h2 => by simp at *; omega) (fun a b => by simp; omega) xs
    exact this.imp (fun h => by simpa using h)
  · rw [List.pairwise_reverse]; exact srtB_sorted xs
  · exact (List.mergeSort_perm xs _).trans ((srtB_perm ltI xs).symm.trans (List.reverse_perm _).symm)
def timesOf (xs : List Finish) (rs : List Rating) : List Int := ((xs.zip rs).filter (fun p => p.1.Code == 0)).map (fun p => cor p.1.Time p.2.Value)
theorem timesOf_len (xs : List Finish) (rs : List Rating) : (timesOf xs rs).length ≤ xs.length := by
  unfold timesOf
  rw [List.length_map]
  have := List.length_filter_le (fun p : Finish × Rating => p.1.Code == 0) (xs.zip rs)
  rw [List.length_zip] at this
  omega
theorem timesOf_in (xs : List Finish) (rs : List Rating) : ∀ x ∈ timesOf xs rs, 1 ≤ x ∧ x ≤ 1000000000 := by
  intro x hx
  unfold timesOf at hx
  obtain ⟨p, _, rfl⟩ := List.mem_map.1 hx
  exact cor_in _ _
theorem timesOf_succ (xs : List Finish) (rs : List Rating) (i : Nat) (hi : i < xs.length) (hr : i < rs.length) :
    timesOf (xs.take (i + 1)) (rs.take (i + 1)) = timesOf (xs.take i) (rs.take i) ++ (if xs[i].Code = 0 then [cor xs[i].Time rs[i].Value] else []) := by
  unfold timesOf
  rw [List.take_succ_eq_append_getElem hi, List.take_succ_eq_append_getElem hr, List.zip_append (by simp; omega), List.filter_append, List.map_append]
  congr 1
  by_cases h : xs[i].Code = 0 <;> simp [h]
def FR (xs : List Finish) (rs : List Rating) : Prop := xs.length = rs.length ∧ xs.length ≤ 16 ∧ (∀ x ∈ xs, x.Code = 0 → 1 ≤ x.Time ∧ x.Time ≤ 1000000000) ∧ ∀ r ∈ rs, 1 ≤ r.Value ∧ r.Value ≤ 3000
theorem badFin_time {xs : List Finish} (h : ∀ i, i < xs.length → badFin xs i = false) : ∀ x ∈ xs, x.Code = 0 → 1 ≤ x.Time ∧ x.Time ≤ 1000000000 := by
  intro x hx hc
  obtain ⟨i, hi, rfl⟩ := List.mem_iff_getElem.1 hx
  have := h i hi
  unfold badFin at this
  rw [List.getElem?_eq_getElem hi] at this
  simp [hc] at this
  omega
theorem rating_val {n : Int} {rs : List Rating} (h : IsRatings n rs) : ∀ r ∈ rs, 1 ≤ r.Value ∧ r.Value ≤ 3000 := by
  intro x hx
  obtain ⟨i, hi, rfl⟩ := List.mem_iff_getElem.1 hx
  have := h.2.2 i hi
  unfold badRating at this
  rw [List.getElem?_eq_getElem hi] at this
  simp at this
  omega
theorem fr_of {n : Int} {xs : List Finish} {rs : List Rating} (h1 : (1 ≤ n ∧ n ≤ 16) ∧ OkRace n xs) (h2 : IsRatings n rs) : FR xs rs :=
  ⟨by have := h1.2.1; have := h2.2.1; omega, by have := h1.2.1; omega, badFin_time h1.2.2, rating_val h2⟩
def parOf (xs : List Finish) (rs : List Rating) : Int := ((srtB ltI (timesOf xs rs)).reverse[((timesOf xs rs).length - 1) / 2]?).getD 0
theorem srtI_len (xs : List Int) : (srtB ltI xs).reverse.length = xs.length := by rw [List.length_reverse, srtB_len]
theorem par_at (T : List Int) (h : T.length ≤ 16) (h0 : T ≠ []) (S : List Int) (hS : S.length = T.length) : idx S (w64 ((w64 ((S.length : Int) - 1)).tdiv 2)) = some ((S[(T.length - 1) / 2]?).getD 0) := by
  have hp : 0 < T.length := List.length_pos_iff.2 h0
  have e1 : w64 ((S.length : Int) - 1) = ((T.length - 1 : Nat) : Int) := by rw [w64_of (by omega)]; omega
  have e2 : ((T.length - 1 : Nat) : Int).tdiv 2 = (((T.length - 1) / 2 : Nat) : Int) := by rw [Int.tdiv_eq_ediv_of_nonneg (by omega)]; omega
  have e3 : w64 (((T.length - 1) / 2 : Nat) : Int) = (((T.length - 1) / 2 : Nat) : Int) := w64_of (by omega)
  rw [e1, e2, e3, idx_nat, List.getElem?_eq_getElem (by omega)]
  rfl
theorem p_parTime (xs : List Finish) (rs : List Rating) (h : FR xs rs) : M.impl_parTime xs rs = some (if timesOf xs rs = [] then 0 else parOf xs rs) := by
  obtain ⟨hl, h16, ht, hv⟩ := h
  have hloop : loopF (M.impl_parTime_l1 xs rs) (([] : List Int), 0) = some (.nxt (timesOf xs rs, (xs.length : Int))) := by
    have e0 : (timesOf xs rs, (xs.length : Int)) = (timesOf (xs.take xs.length) (rs.take xs.length), (xs.length : Int)) := by rw [List.take_length, hl, List.take_length]
    rw [e0]
    refine loop_run xs.length (by omega) (fun i => (timesOf (xs.take i) (rs.take i), (i : Int))) _ (by simp [timesOf]) (fun i hi => ?_) ?_
    · have hr : i < rs.length := by omega
      have h1 : ((i : Int) < (xs.length : Int)) := by omega
      have hc := timesOf_len (xs.take i) (rs.take i)
      rw [List.length_take] at hc
      rw [timesOf_succ xs rs i hi hr]
      simp only [M.impl_parTime_l1, M.impl_parTime_j1, M.impl_parTime_j2, h1, decide_true, ifB_true, idx_lt xs i hi, idx_lt rs i hr, bnd_some, step64 hi (by omega), ifB_if, if_true]
      by_cases hz : xs[i].Code = 0
      · rw [if_pos (by simp [hz]), if_pos hz, p_implCor (ht _ (List.getElem_mem hi) hz) (hv _ (List.getElem_mem hr)), bnd_some, chk_pos (by simp; omega)]
      · rw [if_neg (by simp [hz]), if_neg hz, List.append_nil]
    · simp [M.impl_parTime_l1]
  have hT := timesOf_len xs rs
  simp only [M.impl_parTime, hloop, bnd_some, outc_nxt, M.impl_parTime_a1, ifB_if]
  by_cases h0 : timesOf xs rs = []
  · rw [if_pos (by simp [h0]), if_pos h0]
  · have hp : 0 < (timesOf xs rs).length := List.length_pos_iff.2 h0
    rw [if_neg (by simp; exact h0), if_neg h0]
    simp only [M.slices_SortA, ifB_if]
    rw [if_pos (by simp; omega), bnd_some, srt_sort]
    simp only []
    rw [par_at (timesOf xs rs) (by omega) h0 _ (srtI_len _), bnd_some]
    rfl
theorem p_l25Par (xs : List Finish) (rs : List Rating) (h : FR xs rs) : M.spec_l25Par xs rs = some (if timesOf xs rs = [] then (0, 0) else (parOf xs rs, ((timesOf xs rs).length : Int))) := by
  obtain ⟨hl, h16, ht, hv⟩ := h
  have hloop : loopF (M.spec_l25Par_l1 xs rs) (([] : List Int), 0) = some (.nxt ((srtB ltI (timesOf xs rs)).reverse, (xs.length : Int))) := by
    have e0 : ((srtB ltI (timesOf xs rs)).reverse, (xs.length : Int)) = ((srtB ltI (timesOf (xs.take xs.length) (rs.take xs.length))).reverse, (xs.length : Int)) := by rw [List.take_length, hl, List.take_length]
    rw [e0]
    refine loop_run xs.length (by omega) (fun i => ((srtB ltI (timesOf (xs.take i) (rs.take i))).reverse, (i : Int))) _ (by simp [timesOf, srtB]) (fun i hi => ?_) ?_
    · have hr : i < rs.length := by omega
      have h1 : ((i : Int) < (xs.length : Int)) := by omega
      have hc := timesOf_len (xs.take i) (rs.take i)
      rw [List.length_take] at hc
      rw [timesOf_succ xs rs i hi hr]
      simp only [M.spec_l25Par_l1, M.spec_l25Par_j1, M.spec_l25Par_j2, h1, decide_true, ifB_true, idx_lt xs i hi, idx_lt rs i hr, bnd_some, step64 hi (by omega), ifB_if, if_true]
      by_cases hz : xs[i].Code = 0
      · rw [if_neg (by simp [hz]), if_pos hz, p_specCor (ht _ (List.getElem_mem hi) hz) (hv _ (List.getElem_mem hr)), bnd_some]
        have e2 : srtB ltI (timesOf (xs.take i) (rs.take i) ++ [cor xs[i].Time rs[i].Value]) = insB ltI (srtB ltI (timesOf (xs.take i) (rs.take i))) (cor xs[i].Time rs[i].Value) := by
          simp only [srtB, List.foldl_append, List.foldl_cons, List.foldl_nil]
        rw [e2]
        have hlen : (srtB ltI (timesOf (xs.take i) (rs.take i))).length ≤ 16 := by rw [srtB_len]; omega
        generalize srtB ltI (timesOf (xs.take i) (rs.take i)) = ra at *
        generalize cor xs[i].Time rs[i].Value = x at *
        have hle := tw_le (ltI x) ra
        have htw : ∀ k (hk : k < ra.length), k < (ra.takeWhile (ltI x)).length → ltI x ra[k] = true := fun k hk => tw_get _ ra k hk
        have hte := tw_end (ltI x) ra
        have hin : loopF (M.spec_l25Par_l2 (ra.reverse, (i : Int)) x) (ra.reverse.length : Int) = some (.nxt ((ra.length - (ra.takeWhile (ltI x)).length : Nat) : Int)) := by
          have hrev : ∀ k (hk : k < ra.length), idx ra.reverse (((ra.length - (k + 1) : Nat)) : Int) = some ra[k] := fun k hk => by
            rw [idx_nat, List.getElem?_reverse (by omega)]
            have : ra.length - 1 - (ra.length - (k + 1)) = k := by omega
            rw [this, List.getElem?_eq_getElem hk]
          generalize ht : (ra.takeWhile (ltI x)).length = t at *
          refine loop_run t (by omega) (fun k => ((ra.length - k : Nat) : Int)) _ (by simp) (fun k hk => ?_) ?_
          · have hk' : k < ra.length := by omega
            have n2 : w64 (((ra.length - k : Nat) : Int) - 1) = ((ra.length - (k + 1) : Nat) : Int) := by rw [w64_of (by omega)]; omega
            have n3 : ((0 : Int) < ((ra.length - k : Nat) : Int)) := by omega
            have hp := htw k hk' hk
            unfold ltI at hp
            simp only [M.spec_l25Par_l2, M.spec_l25Par_j3, n3, decide_true, ifB_true, n2, hrev k hk', bnd_some, hp]
          · by_cases h0 : t = ra.length
            · have n3 : ¬ ((0 : Int) < ((ra.length - t : Nat) : Int)) := by omega
              simp only [M.spec_l25Par_l2, M.spec_l25Par_j3, n3, decide_false, ifB_false]
            · have hk' : t < ra.length := by omega
              have n2 : w64 (((ra.length - t : Nat) : Int) - 1) = ((ra.length - (t + 1) : Nat) : Int) := by rw [w64_of (by omega)]; omega
              have n3 : ((0 : Int) < ((ra.length - t : Nat) : Int)) := by omega
              have hp := hte hk'
              unfold ltI at hp
              simp only [M.spec_l25Par_l2, M.spec_l25Par_j3, n3, decide_true, ifB_true, n2, hrev t hk', bnd_some, hp, ifB_false]
        have hins := ins_take ltI ra x _ rfl
        generalize ht : (ra.takeWhile (ltI x)).length = t at *
        have s1 : subL ra.reverse 0 ((ra.length - t : Nat) : Int) = ra.reverse.take (ra.length - t) := by simp [subL]
        have s2 : subL ra.reverse ((ra.length - t : Nat) : Int) (ra.reverse.length : Int) = ra.reverse.drop (ra.length - t) := by
          simp only [subL, Int.toNat_natCast, List.length_reverse]
          rw [List.take_of_length_le (by simp)]
        have hins' : ra.reverse.take (ra.length - t) ++ ([x] ++ ra.reverse.drop (ra.length - t)) = (insB ltI ra x).reverse := by rw [← List.append_assoc]; exact hins
        simp only [hin, bnd_some, outc_nxt, M.spec_l25Par_a2, M.spec_l25Par_j1, M.spec_l25Par_j2, s1, s2, List.nil_append, hins', step64 hi (by omega : xs.length < 4611686018427387904)]
        rw [chk_pos (by rw [List.length_reverse]; omega), chk_pos (by simp; omega), chk_pos (by rw [List.length_reverse]; omega), chk_pos (by simp; omega), chk_pos (by simp; omega)]
      · rw [if_pos (by simp [hz]), if_neg hz, List.append_nil]
    · simp [M.spec_l25Par_l1]
  have hT := timesOf_len xs rs
  simp only [M.spec_l25Par, hloop, bnd_some, outc_nxt, M.spec_l25Par_a1, ifB_if]
  by_cases h0 : timesOf xs rs = []
  · rw [if_pos (by simp [h0, srtB]), if_pos h0]
  · have hp : 0 < (timesOf xs rs).length := List.length_pos_iff.2 h0
    rw [if_neg (by rw [srtI_len]; simp; exact h0), if_neg h0, par_at (timesOf xs rs) (by omega) h0 _ (srtI_len _), bnd_some, srtI_len]
    rfl
theorem parOf_in (xs : List Finish) (rs : List Rating) (h0 : timesOf xs rs ≠ []) : 1 ≤ parOf xs rs ∧ parOf xs rs ≤ 1000000000 := by
  have hp : 0 < (timesOf xs rs).length := List.length_pos_iff.2 h0
  have hl := srtI_len (timesOf xs rs)
  unfold parOf
  rw [List.getElem?_eq_getElem (by omega)]
  have hm : (srtB ltI (timesOf xs rs)).reverse[((timesOf xs rs).length - 1) / 2]'(by omega) ∈ timesOf xs rs := (srtB_perm ltI (timesOf xs rs)).mem_iff.1 (List.mem_reverse.1 (List.getElem_mem _))
  exact timesOf_in xs rs _ hm
def parTimeR (n : Int) (xs : List Finish) (rs : List Rating) : Int × Int := if code22 n xs rs = 0 then if timesOf xs rs = [] then (0, 4) else (parOf xs rs, 0) else (0, code22 n xs rs)
theorem code22_ok {n : Int} {xs : List Finish} {rs : List Rating} (h : code22 n xs rs = 0) : FR xs rs ∧ (1 ≤ n ∧ n ≤ 16) ∧ OkRace n xs ∧ IsRatings n rs := by
  unfold code22 at h
  split at h
  · rename_i h1
    split at h
    · rename_i h2
      exact ⟨fr_of h1 h2, h1.1, h1.2, h2⟩
    · omega
  · omega
theorem p_specParTime (n : Int) (xs : List Finish) (rs : List Rating) (h : xs.length ≤ 1048576) (h' : rs.length ≤ 1048576) : M.spec_ParTime n xs rs = some (parTimeR n xs rs) := by
  simp only [M.spec_ParTime, p_l22Code n xs rs h h', bnd_some, ifB_if, parTimeR]
  by_cases h1 : code22 n xs rs = 0
  · rw [if_neg (by simp [h1]), if_pos h1, p_l25Par xs rs (code22_ok h1).1, bnd_some]
    by_cases h0 : timesOf xs rs = []
    · simp [h0]
    · have hp : 0 < (timesOf xs rs).length := List.length_pos_iff.2 h0
      simp [h0]
  · rw [if_pos (by simp [h1]), if_neg h1]
theorem p_implParTime (n : Int) (xs : List Finish) (rs : List Rating) (h : xs.length ≤ 1048576) (h' : rs.length ≤ 1048576) : M.impl_ParTime n xs rs = some (parTimeR n xs rs) := by
  simp only [M.impl_ParTime, p_ratingsCode n xs rs h h', bnd_some, ifB_if, parTimeR]
  by_cases h1 : code22 n xs rs = 0
  · rw [if_neg (by simp [h1]), if_pos h1, p_parTime xs rs (code22_ok h1).1, bnd_some]
    by_cases h0 : timesOf xs rs = []
    · simp [h0]
    · have hp := parOf_in xs rs h0
      have : parOf xs rs ≠ 0 := by omega
      simp [h0, this]
  · rw [if_pos (by simp [h1]), if_neg h1]
end Go.Proofs.Ytbkpfcpbpnmjaaa
