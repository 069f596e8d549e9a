/- Pure laws: the order of a race. -/
import Derived.Test.YtgelmamcinlahaaPureT
import Derived.Test.YtgelmamcinlahaaPureSort
namespace Go.Proofs.Ytgelmamcinlahaa
open Go
set_option linter.unusedVariables false
set_option linter.unusedSimpArgs false

def fAt (xs : List Finish) (k : Int) : Finish := (xs[k.toNat]?).getD ⟨0, 0, 0⟩
theorem idx_at (xs : List Finish) (k : Int) (h : k ∈ idxs xs.length) : idx xs k = some (fAt xs k) := by
  obtain ⟨i, hi, rfl⟩ := (idxs_mem _ _).1 h
  rw [idx_lt xs i hi]
  simp [fAt, hi]
theorem fAt_lt (xs : List Finish) (i : Nat) (h : i < xs.length) : fAt xs (i : Int) = xs[i] := by simp [fAt, h]
def cF (xs : List Finish) (a b : Int) : Int := if ((fAt xs a).Code == 0) != ((fAt xs b).Code == 0) then w64 (min (fAt xs a).Code 1 - min (fAt xs b).Code 1) else w64 ((fAt xs a).Time - (fAt xs b).Time)
def ltF (xs : List Finish) (a b : Int) : Bool := decide (cF xs a b < 0)
def ltT (xs : List Finish) (a b : Int) : Bool := decide ((fAt xs a).Time < (fAt xs b).Time)
def dnF (xs : List Finish) (a : Int) : Bool := (fAt xs a).Code == 0
def FinOk (f : Finish) : Prop := (0 ≤ f.Code ∧ f.Code ≤ 9) ∧ (f.Code = 0 → 1 ≤ f.Time ∧ f.Time ≤ 1000000000) ∧ (f.Code ≠ 0 → f.Time = 0)
theorem fin_ok (n : Int) (xs : List Finish) (h : OkRace n xs) (i : Nat) (hi : i < xs.length) : FinOk xs[i] := by
  have hb := h.2 i hi
  unfold badFin at hb
  simp only [List.getElem?_eq_getElem hi, Bool.or_eq_false_iff, Bool.not_eq_false', decide_eq_true_eq, bne_eq_false_iff_eq] at hb
  obtain ⟨⟨h1, h2⟩, h3⟩ := hb
  refine ⟨h2, fun hc => ?_, fun hc => ?_⟩
  · rw [if_pos hc] at h3; simpa using h3
  · rw [if_neg hc] at h3; simpa using h3
theorem fAt_ok (n : Int) (xs : List Finish) (h : OkRace n xs) (k : Int) (hk : k ∈ idxs xs.length) : FinOk (fAt xs k) := by
  obtain ⟨i, hi, rfl⟩ := (idxs_mem _ _).1 hk
  rw [fAt_lt xs i hi]; exact fin_ok n xs h i hi
theorem p_FinishOrder_1 (r : Race) (a b : Int) (ha : a ∈ idxs r.Finishes.length) (hb : b ∈ idxs r.Finishes.length) : M.impl_FinishOrder_1 a b r = some (cF r.Finishes a b) := by
  simp only [M.impl_FinishOrder_1, idx_at _ _ ha, idx_at _ _ hb, bnd_some, ifB_if, cF, ite_some]
theorem lt_nd (xs : List Finish) (a b : Int) (ha : FinOk (fAt xs a)) (hb : FinOk (fAt xs b)) (h : dnF xs a = false) : ltF xs a b = false := by
  unfold dnF at h
  have hc : ¬ (fAt xs a).Code = 0 := by simpa using h
  unfold ltF cF
  have ha1 := ha.1
  have hb1 := hb.1
  by_cases hd : (fAt xs b).Code = 0
  · rw [if_pos (by simp [hc, hd]), w64_of (by omega)]
    simp; omega
  · have e1 : ((fAt xs a).Code == 0) = false := by simp [hc]
    have e2 : ((fAt xs b).Code == 0) = false := by simp [hd]
    rw [e1, e2, if_neg (by decide), ha.2.2 hc, hb.2.2 hd]; decide
theorem lt_dn (xs : List Finish) (a b : Int) (ha : FinOk (fAt xs a)) (hb : FinOk (fAt xs b)) (h : dnF xs a = true) (h2 : dnF xs b = false) : ltF xs a b = true := by
  unfold dnF at h h2
  have hc : (fAt xs a).Code = 0 := by simpa using h
  have hd : ¬ (fAt xs b).Code = 0 := by simpa using h2
  unfold ltF cF
  have ha1 := ha.1
  have hb1 := hb.1
  rw [if_pos (by simp [hc, hd]), w64_of (by omega)]
  simp; omega
theorem lt_dd (xs : List Finish) (a b : Int) (ha : FinOk (fAt xs a)) (hb : FinOk (fAt xs b)) (h : dnF xs a = true) (h2 : dnF xs b = true) : ltF xs a b = ltT xs a b := by
  unfold dnF at h h2
  have hc : (fAt xs a).Code = 0 := by simpa using h
  have hd : (fAt xs b).Code = 0 := by simpa using h2
  have h3 := ha.2.1 hc
  have h4 := hb.2.1 hd
  unfold ltF cF ltT
  rw [if_neg (by simp [hc, hd]), w64_of (by omega)]
  by_cases hl : (fAt xs a).Time < (fAt xs b).Time
  · rw [decide_eq_true hl, decide_eq_true (by omega)]
  · rw [decide_eq_false hl, decide_eq_false (by omega)]
theorem tw_app_all {α : Type} (p : α → Bool) : ∀ (as bs : List α), (∀ a ∈ as, p a = true) → (as ++ bs).takeWhile p = as ++ bs.takeWhile p ∧ (as ++ bs).dropWhile p = bs.dropWhile p
  | [], bs, _ => by simp
  | a :: as, bs, h => by
    have ih := tw_app_all p as bs (fun x hx => h x (List.mem_cons_of_mem _ hx))
    have h1 := h a List.mem_cons_self
    simp only [List.cons_append, List.takeWhile_cons, List.dropWhile_cons, h1, if_true, ih.1, ih.2, and_self]
theorem tw_congr {α : Type} (p q : α → Bool) : ∀ (as : List α), (∀ a ∈ as, p a = q a) → as.takeWhile p = as.takeWhile q ∧ as.dropWhile p = as.dropWhile q
  | [], _ => by simp
  | a :: as, h => by
    have ih := tw_congr p q as (fun x hx => h x (List.mem_cons_of_mem _ hx))
    simp only [List.takeWhile_cons, List.dropWhile_cons, h a List.mem_cons_self, ih.1, ih.2, and_self]
theorem tw_none {α : Type} (p : α → Bool) (as : List α) (h : ∀ a ∈ as, p a = false) : as.takeWhile p = [] ∧ as.dropWhile p = as := by
  cases as with
  | nil => simp
  | cons a as => simp [List.takeWhile_cons, List.dropWhile_cons, h a List.mem_cons_self]
/-- the boats that have finished, sorted backwards by time; and the others -/
def outR (xs : List Finish) (ks : List Int) : List Int := srtB (ltT xs) (ks.filter (dnF xs))
def restF (xs : List Finish) (ks : List Int) : List Int := ks.filter fun k => !dnF xs k
theorem srt_split (n : Int) (xs : List Finish) (h : OkRace n xs) : ∀ (i : Nat), i ≤ xs.length → srtB (ltF xs) (idxs i) = (restF xs (idxs i)).reverse ++ outR xs (idxs i)
  | 0, _ => by simp [idxs, srtB, restF, outR]
  | i + 1, hi => by
    have ih := srt_split n xs h i (by omega)
    have hm : ∀ k, k ∈ idxs i → k ∈ idxs xs.length := fun k hk => by
      obtain ⟨j, hj, rfl⟩ := (idxs_mem _ _).1 hk
      exact (idxs_mem _ _).2 ⟨j, by omega, rfl⟩
    have hx : ((i : Nat) : Int) ∈ idxs xs.length := (idxs_mem _ _).2 ⟨i, by omega, rfl⟩
    have hox := fAt_ok n xs h _ hx
    have hrest : ∀ y ∈ (restF xs (idxs i)).reverse, y ∈ idxs xs.length ∧ dnF xs y = false := fun y hy => by
      simp only [List.mem_reverse, restF, List.mem_filter, Bool.not_eq_true'] at hy
      exact ⟨hm y hy.1, hy.2⟩
    have hout : ∀ y ∈ outR xs (idxs i), y ∈ idxs xs.length ∧ dnF xs y = true := fun y hy => by
      have := (srtB_perm (ltT xs) ((idxs i).filter (dnF xs))).mem_iff.1 hy
      rw [List.mem_filter] at this
      exact ⟨hm y this.1, this.2⟩
    have e : srtB (ltF xs) (idxs (i + 1)) = insB (ltF xs) (srtB (ltF xs) (idxs i)) (i : Int) := by
      rw [idxs_succ]; simp only [srtB, List.foldl_append, List.foldl_cons, List.foldl_nil]
    rw [e, ih]
    by_cases hd : dnF xs (i : Int) = true
    · have e1 : restF xs (idxs (i + 1)) = restF xs (idxs i) := by
        rw [idxs_succ]; simp [restF, List.filter_append, hd]
      have e2 : outR xs (idxs (i + 1)) = insB (ltT xs) (outR xs (idxs i)) (i : Int) := by
        rw [idxs_succ]; simp only [outR, List.filter_append, List.filter_cons, hd, if_true, List.filter_nil, srtB, List.foldl_append, List.foldl_cons, List.foldl_nil]
      rw [e1, e2]
      unfold insB
      have t1 := tw_app_all (ltF xs (i : Int)) ((restF xs (idxs i)).reverse) (outR xs (idxs i)) (fun y hy => lt_dn xs _ y hox (fAt_ok n xs h y (hrest y hy).1) hd (hrest y hy).2)
      have t2 := tw_congr (ltF xs (i : Int)) (ltT xs (i : Int)) (outR xs (idxs i)) (fun y hy => lt_dd xs _ y hox (fAt_ok n xs h y (hout y hy).1) hd (hout y hy).2)
      rw [t1.1, t1.2, t2.1, t2.2, List.append_assoc]
    · have hd' : dnF xs (i : Int) = false := by simpa using hd
      have e1 : restF xs (idxs (i + 1)) = restF xs (idxs i) ++ [(i : Int)] := by
        rw [idxs_succ]; simp [restF, List.filter_append, hd']
      have e2 : outR xs (idxs (i + 1)) = outR xs (idxs i) := by
        rw [idxs_succ]; simp [outR, List.filter_append, hd']
      rw [e1, e2]
      unfold insB
      have t := tw_none (ltF xs (i : Int)) ((restF xs (idxs i)).reverse ++ outR xs (idxs i)) (fun y hy => by
        have hy' : y ∈ idxs xs.length := by
          rcases List.mem_append.1 hy with hy | hy
          · exact (hrest y hy).1
          · exact (hout y hy).1
        exact lt_nd xs _ y hox (fAt_ok n xs h y hy') hd')
      rw [t.1, t.2]
      simp
def ordF (xs : List Finish) : List Int := (srtB (ltF xs) (idxs xs.length)).reverse
theorem p_implFinishOrder (n : Int) (r : Race) (h : r.Finishes.length ≤ 1048576) : M.impl_FinishOrder n r = some (if (1 ≤ n ∧ n ≤ 16) ∧ OkRace n r.Finishes then (ordF r.Finishes, 0) else ([], 1)) := by
  rw [M.impl_FinishOrder, p_implIsRace n r h, bnd_some, ifB_if]
  by_cases h1 : (1 ≤ n ∧ n ≤ 16) ∧ OkRace n r.Finishes
  · have hl : r.Finishes.length ≤ 16 := by have := h1.2.1; omega
    rw [if_pos h1, if_neg (by simp [h1]), p_sortedIndices r.Finishes.length (by omega) _ (cF r.Finishes) (fun a ha b hb => p_FinishOrder_1 r a b ha hb), bnd_some]
    rfl
  · rw [if_neg h1, if_pos (by simp [h1])]
theorem ins_take {α : Type} (lt : α → α → Bool) (ra : List α) (x : α) (t : Nat) (ht : (ra.takeWhile (lt x)).length = t) : ra.reverse.take (ra.length - t) ++ [x] ++ ra.reverse.drop (ra.length - t) = (insB lt ra x).reverse := by
  have hk := tw_take (lt x) ra
  have hle := tw_le (lt x) ra
  rw [ht] at hk hle
  unfold insB
  rw [hk.1, hk.2, List.take_reverse, List.drop_reverse]
  have e : ra.length - (ra.length - t) = t := by omega
  rw [e]
  simp
theorem p_specFinishOrder (n : Int) (r : Race) (h : r.Finishes.length ≤ 1048576) : M.spec_FinishOrder n r = some (if (1 ≤ n ∧ n ≤ 16) ∧ OkRace n r.Finishes then (ordF r.Finishes, 0) else ([], 1)) := by
  rw [M.spec_FinishOrder, p_specIsRace n r h, bnd_some, ifB_if]
  by_cases h1 : (1 ≤ n ∧ n ≤ 16) ∧ OkRace n r.Finishes
  · have hl : r.Finishes.length ≤ 16 := by have := h1.2.1; omega
    have hn : n = (r.Finishes.length : Int) := h1.2.1.symm
    rw [if_pos h1, if_neg (by simp [h1])]
    have hlenR : ∀ i, (restF r.Finishes (idxs i)).length ≤ i := fun i => by
      have := List.length_filter_le (fun k => !dnF r.Finishes k) (idxs i); rw [idxs_len] at this; exact this
    have hlenO : ∀ i, (outR r.Finishes (idxs i)).length ≤ i := fun i => by
      have h3 := List.length_filter_le (dnF r.Finishes) (idxs i); rw [idxs_len] at h3
      unfold outR; rw [srtB_len]; exact h3
    have hloop : loopF (M.spec_FinishOrder_l1 n r) (([] : List Int), ([] : List Int), 0) = some (.nxt ((outR r.Finishes (idxs r.Finishes.length)).reverse, restF r.Finishes (idxs r.Finishes.length), (r.Finishes.length : Int))) := by
      refine loop_run r.Finishes.length (by omega) (fun i => ((outR r.Finishes (idxs i)).reverse, restF r.Finishes (idxs i), (i : Int))) _ (by simp [idxs, outR, restF, srtB]) (fun i hi => ?_) ?_
      · have h2 : ((i : Int) < n) := by omega
        have hR := hlenR i
        have hO := hlenO i
        simp only [M.spec_FinishOrder_l1, M.spec_FinishOrder_j1, M.spec_FinishOrder_j2, M.spec_l26Done, h2, decide_true, ifB_true, idx_lt r.Finishes i hi, bnd_some, step64 hi (by omega), ifB_if, if_true]
        by_cases hd : r.Finishes[i].Code = 0
        · have hdn : dnF r.Finishes (i : Int) = true := by unfold dnF; rw [fAt_lt _ i hi]; simp [hd]
          have e1 : restF r.Finishes (idxs (i + 1)) = restF r.Finishes (idxs i) := by
            rw [idxs_succ]; simp [restF, List.filter_append, hdn]
          have e2 : outR r.Finishes (idxs (i + 1)) = insB (ltT r.Finishes) (outR r.Finishes (idxs i)) (i : Int) := by
            rw [idxs_succ]; simp only [outR, List.filter_append, List.filter_cons, hdn, if_true, List.filter_nil, srtB, List.foldl_append, List.foldl_cons, List.foldl_nil]
          rw [if_neg (by simp [hd]), e1, e2]
          have hmem : ∀ y ∈ outR r.Finishes (idxs i), y ∈ idxs r.Finishes.length := fun y hy => by
            have := (srtB_perm (ltT r.Finishes) ((idxs i).filter (dnF r.Finishes))).mem_iff.1 hy
            obtain ⟨j, hj, rfl⟩ := (idxs_mem _ _).1 (List.mem_filter.1 this).1
            exact (idxs_mem _ _).2 ⟨j, by omega, rfl⟩
          generalize outR r.Finishes (idxs i) = ra at *
          generalize restF r.Finishes (idxs i) = rs at *
          have hle := tw_le (ltT r.Finishes (i : Int)) ra
          have htw : ∀ k (hk : k < ra.length), k < (ra.takeWhile (ltT r.Finishes (i : Int))).length → ltT r.Finishes (i : Int) ra[k] = true := fun k hk => tw_get _ ra k hk
          have hte := tw_end (ltT r.Finishes (i : Int)) ra
          have hin : loopF (M.spec_FinishOrder_l2 r (ra.reverse, rs, (i : Int)) r.Finishes[i]) (ra.reverse.length : Int) = some (.nxt ((ra.length - (ra.takeWhile (ltT r.Finishes (i : Int))).length : Nat) : Int)) := by
            have hrev : ∀ k (hk : k < ra.length), idx ra.reverse (((ra.length - (k + 1) : Nat)) : Int) = some ra[k] := fun k hk => by
              rw [idx_nat, List.getElem?_reverse (by omega)]
              have : ra.length - 1 - (ra.length - (k + 1)) = k := by omega
              rw [this, List.getElem?_eq_getElem hk]
            generalize ht : (ra.takeWhile (ltT r.Finishes (i : Int))).length = t at *
            refine loop_run t (by omega) (fun k => ((ra.length - k : Nat) : Int)) _ (by simp) (fun k hk => ?_) ?_
            · have hk' : k < ra.length := by omega
              have n2 : w64 (((ra.length - k : Nat) : Int) - 1) = ((ra.length - (k + 1) : Nat) : Int) := by rw [w64_of (by omega)]; omega
              have n3 : ((0 : Int) < ((ra.length - k : Nat) : Int)) := by omega
              have hp := htw k hk' hk
              unfold ltT at hp
              rw [fAt_lt _ i hi] at hp
              simp only [M.spec_FinishOrder_l2, M.spec_FinishOrder_j3, n3, decide_true, ifB_true, n2, hrev k hk', idx_at _ _ (hmem _ (List.getElem_mem hk')), bnd_some, hp]
            · by_cases h0 : t = ra.length
              · have n3 : ¬ ((0 : Int) < ((ra.length - t : Nat) : Int)) := by omega
                simp only [M.spec_FinishOrder_l2, M.spec_FinishOrder_j3, n3, decide_false, ifB_false]
              · have hk' : t < ra.length := by omega
                have n2 : w64 (((ra.length - t : Nat) : Int) - 1) = ((ra.length - (t + 1) : Nat) : Int) := by rw [w64_of (by omega)]; omega
                have n3 : ((0 : Int) < ((ra.length - t : Nat) : Int)) := by omega
                have hp := hte hk'
                unfold ltT at hp
                rw [fAt_lt _ i hi] at hp
                simp only [M.spec_FinishOrder_l2, M.spec_FinishOrder_j3, n3, decide_true, ifB_true, n2, hrev t hk', idx_at _ _ (hmem _ (List.getElem_mem hk')), bnd_some, hp, ifB_false]
          have hins := ins_take (ltT r.Finishes) ra (i : Int) _ rfl
          generalize ht : (ra.takeWhile (ltT r.Finishes (i : Int))).length = t at *
          have s1 : subL ra.reverse 0 ((ra.length - t : Nat) : Int) = ra.reverse.take (ra.length - t) := by simp [subL]
          have s2 : subL ra.reverse ((ra.length - t : Nat) : Int) (ra.reverse.length : Int) = ra.reverse.drop (ra.length - t) := by
            simp only [subL, Int.toNat_natCast, List.length_reverse]
            rw [List.take_of_length_le (by simp)]
          simp only [hin, bnd_some, outc_nxt, M.spec_FinishOrder_a2, M.spec_FinishOrder_j1, M.spec_FinishOrder_j2, s1, s2, List.nil_append, hins, step64 hi (by omega : r.Finishes.length < 4611686018427387904)]
          rw [chk_pos (by rw [List.length_reverse]; omega), chk_pos (by simp; omega), chk_pos (by simp; omega), chk_pos (by rw [List.length_reverse]; omega), chk_pos (by simp; omega)]
        · have hdn : dnF r.Finishes (i : Int) = false := by unfold dnF; rw [fAt_lt _ i hi]; simp [hd]
          have e1 : restF r.Finishes (idxs (i + 1)) = restF r.Finishes (idxs i) ++ [(i : Int)] := by
            rw [idxs_succ]; simp [restF, List.filter_append, hdn]
          have e2 : outR r.Finishes (idxs (i + 1)) = outR r.Finishes (idxs i) := by
            rw [idxs_succ]; simp [outR, List.filter_append, hdn]
          rw [if_pos (by simp [hd]), e1, e2, chk_pos (by simp; omega)]
      · have h2 : ¬ ((r.Finishes.length : Int) < n) := by omega
        simp only [M.spec_FinishOrder_l1, h2, decide_false, ifB_false]
    have hR := hlenR r.Finishes.length
    have hO := hlenO r.Finishes.length
    rw [hloop]
    simp only [bnd_some, outc_nxt, M.spec_FinishOrder_a1]
    rw [chk_pos (by simp; omega)]
    have := srt_split n r.Finishes h1.2 r.Finishes.length (Nat.le_refl _)
    unfold ordF
    rw [this]
    simp
  · rw [if_neg h1, if_pos (by simp [h1])]
theorem pure_FnExactFinishOrder (n : Int) (hn : i64ok n) (a : Race) (ha : OkD.ok a) : M.laws_FnExactFinishOrder n a = some true := by
  have hm : a.Finishes.length ≤ maxLen := ha.1
  rw [M.laws_FnExactFinishOrder, p_szRace a hm _ (by omega) (by omega), bnd_some, ifB_if]
  by_cases hl : (1048576 : Int) < a.Finishes.length
  · simp [hl]
  · have hl' : a.Finishes.length ≤ 1048576 := by omega
    rw [if_neg hl, if_neg (by simp; omega)]
    obtain ⟨r, h1, h2, h3⟩ : ∃ r, M.spec_FinishOrder n a = some r ∧ M.impl_FinishOrder n a = some r ∧ r.1.length ≤ 1048576 := by
      refine ⟨_, p_specFinishOrder n a hl', p_implFinishOrder n a hl', ?_⟩
      split
      · simp [ordF, srtB_len, idxs_len, hl']
      · simp
    have e1 : decide ((1 : Int) + ((3 * a.Finishes.length : Nat) : Int) < 0) = false := by simp; omega
    have e2 : decide ((1 : Int) + ((1 * r.1.length : Nat) : Int) < 0) = false := by simp; omega
    simp only [p_toRace a hl', bnd_some, h1, h2, p_eqInt64S r.1 h3, p_eqRace a hl', M.laws_FnExactFinishOrder_j1, M.laws_FnExactFinishOrder_j2, M.laws_FnExactFinishOrder_j3, p_markRace _ 1 hl' (by omega) (by omega), bne_self_eq_false, Bool.not_true, ifB_false, e1, e2, p_markInt64S r.1 1 h3 (by omega) (by omega), p_heldInt64S r.1 1 h3 (by omega) (by omega)]
end Go.Proofs.Ytgelmamcinlahaa
