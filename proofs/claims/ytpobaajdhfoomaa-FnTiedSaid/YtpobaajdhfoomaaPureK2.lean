/- Pure laws: discards and counted points. -/
import Derived.Test.YtpobaajdhfoomaaPureK
import Derived.Test.YtpobaajdhfoomaaPureV
namespace Go.Proofs.Ytpobaajdhfoomaa
open Go
set_option linter.unusedVariables false
set_option linter.unusedSimpArgs false
theorem loop_cast {ρ ρ' σ : Type} {b1 : σ → Option (Stp ρ σ)} {b2 : σ → Option (Stp ρ' σ)} (h1 : ∀ s t, b1 s = some (.cont t) → b2 s = some (.cont t)) (h2 : ∀ s t, b1 s = some (.brk t) → b2 s = some (.brk t)) {s s' : σ} (hl : loopF b1 s = some (.nxt s')) : loopF b2 s = some (.nxt s') := by
  unfold loopF at *
  revert s
  generalize FUEL = n
  induction n with
  | zero => intro s hl; simp [iterN] at hl
  | succ n ih =>
    intro s hl
    unfold iterN at hl ⊢
    cases hb : b1 s with
    | none => rw [hb] at hl; simp at hl
    | some x =>
      rw [hb] at hl
      cases x with
      | ret r => simp at hl
      | brk t => rw [h2 s t hb]; simpa using hl
      | cont t => rw [h1 s t hb]; simp only at hl ⊢; exact ih hl
theorem l28_ins (s t : List Int × Int) :
    (M.slices_insertionSortCmpFunc_int64__l2 0 (fun x y => some (cL x y)) s = some (.cont t) → M.spec_l28Sorted_l2 s = some (.cont t)) ∧
    (M.slices_insertionSortCmpFunc_int64__l2 0 (fun x y => some (cL x y)) s = some (.brk t) → M.spec_l28Sorted_l2 s = some (.brk t)) := by
  have hd : ∀ x y, decide (cL x y < 0) = decide (x < y) := fun x y => by
    unfold cL; by_cases h : x < y <;> simp [h]
  simp only [M.slices_insertionSortCmpFunc_int64__l2, M.slices_insertionSortCmpFunc_int64__j1, M.spec_l28Sorted_l2, M.spec_l28Sorted_j1, bnd_some, hd]
  by_cases h0 : 0 < s.2
  · cases hx : idx s.1 s.2 with
    | none => simp [h0, bnd]
    | some x =>
      cases hy : idx s.1 (w64 (s.2 - 1)) with
      | none => simp [h0, bnd]
      | some y =>
        by_cases hxy : x < y
        · simp only [h0, decide_true, ifB_true, bnd_some, hxy]
          cases hz : idx (s.1.set s.2.toNat y) (w64 (s.2 - 1)) <;> simp [bnd]
        · simp [h0, bnd_some, hxy]
  · simp [h0]
theorem p_l28Sorted (xs : List Int) (hl : xs.length ≤ 1048576) : M.spec_l28Sorted xs = some (srtI xs) := by
  have hd : (fun a b => decide (cL a b < 0)) = fun a b : Int => decide (a < b) := by
    funext a b; unfold cL; by_cases h : a < b <;> simp [h]
  rw [M.spec_l28Sorted, chk_pos (by simp; omega), List.nil_append]
  cases hx : xs with
  | nil =>
    have e : loopF (M.spec_l28Sorted_l1) (([] : List Int), 1) = some (.nxt ([], 1)) := by
      refine loop_run 0 (by omega) (fun _ => ([], 1)) _ rfl (fun i hi => by omega) ?_
      simp [M.spec_l28Sorted_l1]
    rw [e]; rfl
  | cons x0 xs' =>
    rw [← hx]
    have hpos : 0 < xs.length := by rw [hx]; simp
    have hl1 : loopF (M.spec_l28Sorted_l1) (xs, 1) = some (.nxt (srtI xs, (xs.length : Int))) := by
      refine loop_run (xs.length - 1) (by omega) (fun i => ((srtB (fun a b => decide (a < b)) (xs.take (i + 1))).reverse ++ xs.drop (i + 1), ((i + 1 : Nat) : Int))) _ ?_ (fun i hi => ?_) ?_
      · rw [hx]; simp [srtB, insB]
      · have hi' : i + 1 < xs.length := by omega
        have hlen : (srtB (fun a b => decide (a < b)) (xs.take (i + 1))).length = i + 1 := by rw [srtB_len]; simp; omega
        have hfull : ((srtB (fun a b => decide (a < b)) (xs.take (i + 1))).reverse ++ xs.drop (i + 1)).length = xs.length := by simp [hlen]; omega
        have h2 : (((i + 1 : Nat) : Int) < (((srtB (fun a b => decide (a < b)) (xs.take (i + 1))).reverse ++ xs.drop (i + 1)).length : Int)) := by rw [hfull]; omega
        have hdr : xs.drop (i + 1) = xs[i + 1] :: xs.drop (i + 1 + 1) := List.drop_eq_getElem_cons hi'
        have htt : xs.take (i + 1 + 1) = xs.take (i + 1) ++ [xs[i + 1]] := List.take_succ_eq_append_getElem hi'
        have hin := l_ins (fun x y => some (cL x y)) cL (srtB (fun a b => decide (a < b)) (xs.take (i + 1))) (xs.drop (i + 1 + 1)) xs[i + 1] (fun _ _ => rfl) (by omega)
        rw [hlen, hd] at hin
        have hin2 := loop_cast (b2 := M.spec_l28Sorted_l2) (fun s t => (l28_ins s t).1) (fun s t => (l28_ins s t).2) hin
        simp only [M.spec_l28Sorted_l1, M.spec_l28Sorted_a2, h2, decide_true, ifB_true]
        rw [hdr, hin2]
        simp only [bnd_some, outc_nxt, step64 hi' (by omega), M.spec_l28Sorted_a2]
        rw [htt]
        simp only [srtB, List.foldl_append, List.foldl_cons, List.foldl_nil]
      · have h3 : xs.length - 1 + 1 = xs.length := by omega
        have h4 : ((srtB (fun a b => decide (a < b)) (xs.take (xs.length - 1 + 1))).reverse ++ xs.drop (xs.length - 1 + 1)) = srtI xs := by
          rw [h3, List.take_length, List.drop_length, List.append_nil]; rfl
        have h2 : ¬ (((xs.length - 1 + 1 : Nat) : Int) < ((srtI xs).length : Int)) := by rw [srtI_len]; omega
        simp only [h4]
        simp only [M.spec_l28Sorted_l1, h2, decide_false, ifB_false]
        rw [h3]
    rw [hl1]
    rfl
theorem p_discardsOf_1 (t : Table) (ht : IsTable t) (b : Int) (h0 : 0 ≤ b) (h1 : b < t.Boats) (x y : Int) (hx : x ∈ idxs t.Points.length) (hy : y ∈ idxs t.Points.length) : M.impl_discardsOf_1 x y t b = some (cmpK t b x y) := by
  obtain ⟨r1, a1, a2, _⟩ := (tab_get t ht b h0 h1 x hx).1
  obtain ⟨r2, b1, b2, _⟩ := (tab_get t ht b h0 h1 y hy).1
  simp only [M.impl_discardsOf_1, a1, a2, b1, b2, bnd_some, cmpK]
theorem cntK_le (rule : List Int) (n : Int) : cntK rule n ≤ rule.length := List.countP_le_length
theorem p_discardsOf (t : Table) (rule : List Int) (b : Int) (ht : IsTable t) (h0 : 0 ≤ b) (h1 : b < t.Boats) (hr : rule.length ≤ 3) : M.impl_discardsOf t rule b = some (inD t (dsK t rule b)) := by
  have hn := ht.2.1
  have hc := p_count rule (t.Points.length : Int) (by omega)
  have hcl := cntK_le rule (t.Points.length : Int)
  have hord := p_sortedIndices t.Points.length (by omega) (fun y0 y1 => M.impl_discardsOf_1 y0 y1 t b) (cmpK t b) (fun x hx y hy => p_discardsOf_1 t ht b h0 h1 x y hx hy)
  have hL : (srtB (fun a b_1 => decide (cmpK t b a b_1 < 0)) (idxs t.Points.length)).reverse = ordK t b := rfl
  rw [hL] at hord
  have hlen : (ordK t b).length = t.Points.length := by rw [(ordK_perm t b).length_eq, idxs_len]
  have hmem : ∀ i (hi : i < (ordK t b).length), (ordK t b)[i] ∈ idxs t.Points.length := fun i hi => (ordK_perm t b).mem_iff.1 (List.getElem_mem hi)
  rw [M.impl_discardsOf, e_count, hc, bnd_some, hord, bnd_some]
  generalize hm : cntK rule (t.Points.length : Int) = m at *
  have hl : loopF (M.impl_discardsOf_l1 t b (ordK t b)) (([] : List Int), ((m : Nat) : Int), 0) = some (.nxt ((ndL t b).take m, ((m - (ndL t b).length : Nat) : Int), ((ordK t b).length : Int))) := by
    refine loop_run (ordK t b).length (by omega) (fun i => ((((ordK t b).take i).filter (ndK t b)).take m, ((m - (((ordK t b).take i).filter (ndK t b)).length : Nat) : Int), (i : Int))) _ (by simp) (fun i hi => ?_) ?_
    · have h2 : ((i : Int) < ((ordK t b).length : Int)) := by omega
      obtain ⟨rr, c1, c2⟩ := (tab_get t ht b h0 h1 _ (hmem i hi)).2
      have e1 : ((ordK t b).take (i + 1)).filter (ndK t b) = ((ordK t b).take i).filter (ndK t b) ++ (if ndK t b (ordK t b)[i] = true then [(ordK t b)[i]] else []) := by
        rw [List.take_succ_eq_append_getElem hi, List.filter_append, List.filter_cons]; simp
      have e0 : (cdK t b (ordK t b)[i] != 7) = ndK t b (ordK t b)[i] := rfl
      have lF : (((ordK t b).take i).filter (ndK t b)).length ≤ i := Nat.le_trans (List.length_filter_le _ _) (by simp; omega)
      generalize hF : ((ordK t b).take i).filter (ndK t b) = F at *
      simp only [M.impl_discardsOf_l1, M.impl_discardsOf_j1, M.impl_discardsOf_j2, M.impl_discardsOf_j3, h2, decide_true, ifB_true, idx_lt _ i hi, bnd_some, c1, c2, e0, step64 hi (by omega), e1]
      by_cases hlt : F.length < m
      · have h3 : (0 : Int) < ((m - F.length : Nat) : Int) := by omega
        have e2 : F.take m = F := List.take_of_length_le (by omega)
        simp only [h3, decide_true, ifB_true, e2]
        cases hnd : ndK t b (ordK t b)[i]
        · simp [ifB_false, e2]
        · have e3 : (F ++ [(ordK t b)[i]]).take m = F ++ [(ordK t b)[i]] := List.take_of_length_le (by simp; omega)
          have e4 : w64 (((m - F.length : Nat) : Int) - 1) = ((m - (F.length + 1) : Nat) : Int) := by rw [w64_of (by omega)]; omega
          simp only [ifB_true, if_true, List.length_singleton, List.length_append, e3, e4]
          rw [chk_pos (by omega)]
      · have h3 : ¬ (0 : Int) < ((m - F.length : Nat) : Int) := by omega
        have e2 : ∀ z, (F ++ z).take m = F.take m := fun z => List.take_append_of_le_length (by omega)
        simp only [h3, decide_false, ifB_false, e2, List.length_append]
        have e5 : m - (F.length + (if ndK t b (ordK t b)[i] = true then [(ordK t b)[i]] else []).length) = m - F.length := by omega
        rw [e5]
    · simp only [M.impl_discardsOf_l1, Int.lt_irrefl, decide_false, ifB_false, List.take_length]
      rfl
  rw [hl]
  simp only [bnd_some, outc_nxt, M.impl_discardsOf_a1]
  rw [p_Sort _ (by simp; omega), sort_ds]
  unfold dsK
  rw [hm]
  rfl
def flg (t : Table) (D : List Int) : List Bool := (idxs t.Points.length).map fun k => decide (k ∈ D)
theorem flg_len (t : Table) (D : List Int) : (flg t D).length = t.Points.length := by simp [flg, idxs_len]
theorem flg_get (t : Table) (D : List Int) (i : Nat) (hi : i < t.Points.length) : idx (flg t D) (i : Int) = some (decide ((i : Int) ∈ D)) := by
  rw [idx_nat]; simp [flg, idxs, hi]
theorem flg_set (t : Table) (D : List Int) (i : Nat) (hi : i < t.Points.length) : (flg t D).set i true = flg t (D ++ [(i : Int)]) := by
  apply List.ext_getElem?
  intro j
  by_cases hj : i = j
  · subst hj
    rw [List.getElem?_set_self (by rw [flg_len]; exact hi)]
    simp [flg, idxs, hi]
  · rw [List.getElem?_set_ne hj]
    by_cases hj2 : j < t.Points.length
    · have : ¬ (j : Int) = (i : Int) := by omega
      simp [flg, idxs, hj2, this]
    · simp [flg, idxs, hj2]
theorem p_l27Out (t : Table) (rule : List Int) (b : Int) (ht : IsTable t) (h0 : 0 ≤ b) (h1 : b < t.Boats) (hr : rule.length ≤ 3) : M.spec_l27Out t rule b = some (flg t (dsK t rule b)) := by
  have hn := ht.2.1
  have hcl := cntK_le rule (t.Points.length : Int)
  have hst := ndL_sorted t ht b h0 h1
  have hnd := ndL_nodup t b
  rw [M.spec_l27Out, chk_pos (by omega), p_count rule _ (by omega), bnd_some, Int.toNat_natCast]
  unfold dsK
  generalize hm : cntK rule (t.Points.length : Int) = m at *
  have hl : loopF (M.spec_l27Out_l1 t b) (List.replicate t.Points.length false, ((m : Nat) : Int)) = some (.nxt (flg t ((ndL t b).take m), 0)) := by
    refine loop_run m (by omega) (fun j => (flg t ((ndL t b).take j), ((m - j : Nat) : Int))) _ ?_ (fun j hj => ?_) ?_
    · have : flg t ([] : List Int) = List.replicate t.Points.length false := by
        apply List.ext_getElem?
        intro k
        by_cases hk : k < t.Points.length
        · simp [flg, idxs, hk, List.getElem?_replicate]
        · simp [flg, idxs, hk, List.getElem?_replicate]
      simp [this]
    · have h2 : (0 : Int) < ((m - j : Nat) : Int) := by omega
      have e4 : w64 (((m - j : Nat) : Int) - 1) = ((m - (j + 1) : Nat) : Int) := by rw [w64_of (by omega)]; omega
      have hsplit : (ndL t b).take j ++ (ndL t b).drop j = ndL t b := List.take_append_drop _ _
      generalize hD : (ndL t b).take j = D at *
      generalize hR : (ndL t b).drop j = rem at *
      have hcand : ∀ k, k ∈ rem ↔ k ∈ idxs t.Points.length ∧ ndK t b k = true ∧ k ∉ D := fun k => by
        rw [← hsplit] at hnd
        have hdis := (List.nodup_append.1 hnd).2.2
        have hmem := ndL_mem t b k
        rw [← hsplit, List.mem_append] at hmem
        constructor
        · intro hk
          have := hmem.1 (.inr hk)
          exact ⟨this.1, this.2, fun hd => hdis k hd k hk rfl⟩
        · rintro ⟨a1, a2, a3⟩
          rcases hmem.2 ⟨a1, a2⟩ with h | h
          · exact (a3 h).elim
          · exact h
      have hpw : rem.Pairwise (RK t b) := by
        rw [← hsplit] at hst
        exact (List.pairwise_append.1 hst).2.1
      have hin : ∃ o, loopF (M.spec_l27Out_l2 t b (flg t D, ((m - j : Nat) : Int))) (-1, 0) = some o ∧ ∃ best k, o = .nxt (best, k) ∧ ((best = -1 ∧ ∀ k ∈ idxs t.Points.length, k ∉ rem) ∨ (best ∈ rem ∧ ∀ k ∈ idxs t.Points.length, k ∈ rem → k = best ∨ RK t b best k)) := by
        refine loop_count t.Points.length (by omega) (fun i s => s.2 = (i : Int) ∧ ((s.1 = -1 ∧ ∀ k ∈ idxs i, k ∉ rem) ∨ (s.1 ∈ rem ∧ s.1 ∈ idxs i ∧ ∀ k ∈ idxs i, k ∈ rem → k = s.1 ∨ RK t b s.1 k))) _ ⟨rfl, .inl ⟨rfl, by simp [idxs]⟩⟩ (fun i s hi hs => ?_) (fun s hs => ?_)
        · obtain ⟨best, k⟩ := s
          obtain ⟨hk, hb⟩ := hs
          simp only at hk hb
          subst hk
          have e1 : ((i : Int) < ((flg t D).length : Int)) := by rw [flg_len]; omega
          have himem : (i : Int) ∈ idxs t.Points.length := (idxs_mem _ _).2 ⟨i, hi, rfl⟩
          obtain ⟨⟨rp, p1, p2, _⟩, rc, c1, c2⟩ := tab_get t ht b h0 h1 (i : Int) himem
          have e0 : (cdK t b (i : Int) != 7) = ndK t b (i : Int) := rfl
          have stay : (i : Int) ∉ rem → ((best = -1 ∧ ∀ k ∈ idxs (i + 1), k ∉ rem) ∨ (best ∈ rem ∧ best ∈ idxs (i + 1) ∧ ∀ k ∈ idxs (i + 1), k ∈ rem → k = best ∨ RK t b best k)) := fun hni => by
            rw [idxs_succ]
            rcases hb with ⟨b1, b2⟩ | ⟨b1, b2, b3⟩
            · refine .inl ⟨b1, fun k hk => ?_⟩
              rcases List.mem_append.1 hk with hk | hk
              · exact b2 k hk
              · simp at hk; subst hk; exact hni
            · refine .inr ⟨b1, List.mem_append_left _ b2, fun k hk hkr => ?_⟩
              rcases List.mem_append.1 hk with hk | hk
              · exact b3 k hk hkr
              · simp at hk; subst hk; exact (hni hkr).elim
          by_cases hiD : (i : Int) ∈ D
          · have hni : (i : Int) ∉ rem := fun h => ((hcand _).1 h).2.2 hiD
            refine ⟨.cont (best, ((i + 1 : Nat) : Int)), ?_, rfl, stay hni⟩
            simp only [M.spec_l27Out_l2, M.spec_l27Out_j5, M.spec_l27Out_j4, M.spec_l27Out_j3, e1, decide_true, ifB_true, flg_get t D i hi, bnd_some, hiD, Bool.not_true, ifB_false, step64 hi (by omega)]
          · cases hnk : ndK t b (i : Int)
            · have hni : (i : Int) ∉ rem := fun h => by have := ((hcand _).1 h).2.1; rw [hnk] at this; cases this
              refine ⟨.cont (best, ((i + 1 : Nat) : Int)), ?_, rfl, stay hni⟩
              simp only [M.spec_l27Out_l2, M.spec_l27Out_j5, M.spec_l27Out_j4, M.spec_l27Out_j3, e1, decide_true, decide_false, ifB_true, flg_get t D i hi, bnd_some, hiD, Bool.not_false, c1, c2, e0, hnk, ifB_false, step64 hi (by omega)]
            · have hri : (i : Int) ∈ rem := (hcand _).2 ⟨himem, hnk, hiD⟩
              rcases hb with ⟨b1, b2⟩ | ⟨b1, b2, b3⟩
              · subst b1
                refine ⟨.cont ((i : Int), ((i + 1 : Nat) : Int)), ?_, rfl, .inr ⟨hri, (idxs_mem _ _).2 ⟨i, by omega, rfl⟩, fun k hk hkr => ?_⟩⟩
                · simp only [M.spec_l27Out_l2, M.spec_l27Out_j5, M.spec_l27Out_j4, M.spec_l27Out_j3, e1, decide_true, decide_false, ifB_true, flg_get t D i hi, bnd_some, hiD, Bool.not_false, c1, c2, e0, hnk, show ((-1 : Int) < 0) from by decide, step64 hi (by omega)]
                · rw [idxs_succ] at hk
                  rcases List.mem_append.1 hk with hk | hk
                  · exact (b2 k hk hkr).elim
                  · simp at hk; exact .inl hk
              · obtain ⟨ib, hib, hbe⟩ := (idxs_mem _ _).1 b2
                subst hbe
                have hbm : (ib : Int) ∈ idxs t.Points.length := ((hcand _).1 b1).1
                obtain ⟨rb, q1, q2, _⟩ := (tab_get t ht b h0 h1 (ib : Int) hbm).1
                have hneg : ¬ ((ib : Int) < 0) := by omega
                by_cases hlt : ptK t b (ib : Int) < ptK t b (i : Int)
                · refine ⟨.cont ((i : Int), ((i + 1 : Nat) : Int)), ?_, rfl, .inr ⟨hri, (idxs_mem _ _).2 ⟨i, by omega, rfl⟩, fun k hk hkr => ?_⟩⟩
                  · simp only [M.spec_l27Out_l2, M.spec_l27Out_j5, M.spec_l27Out_j4, M.spec_l27Out_j3, e1, decide_true, decide_false, ifB_true, ifB_false, flg_get t D i hi, bnd_some, hiD, Bool.not_false, c1, c2, e0, hnk, hneg, p1, p2, q1, q2, hlt, step64 hi (by omega)]
                  · rw [idxs_succ] at hk
                    rcases List.mem_append.1 hk with hk | hk
                    · rcases b3 k hk hkr with rfl | h
                      · exact .inr (.inl hlt)
                      · right; unfold RK at h ⊢; simp only; omega
                    · simp at hk; exact .inl hk
                · refine ⟨.cont ((ib : Int), ((i + 1 : Nat) : Int)), ?_, rfl, .inr ⟨b1, (idxs_mem _ _).2 ⟨ib, by omega, rfl⟩, fun k hk hkr => ?_⟩⟩
                  · simp only [M.spec_l27Out_l2, M.spec_l27Out_j5, M.spec_l27Out_j4, M.spec_l27Out_j3, e1, decide_true, decide_false, ifB_true, ifB_false, flg_get t D i hi, bnd_some, hiD, Bool.not_false, c1, c2, e0, hnk, hneg, p1, p2, q1, q2, hlt, step64 hi (by omega)]
                  · rw [idxs_succ] at hk
                    rcases List.mem_append.1 hk with hk | hk
                    · exact b3 k hk hkr
                    · simp at hk; subst hk; right; unfold RK; simp only; omega
        · obtain ⟨best, k⟩ := s
          obtain ⟨hk, hb⟩ := hs
          simp only at hk hb
          subst hk
          have e1 : ¬ (((t.Points.length : Nat) : Int) < ((flg t D).length : Int)) := by rw [flg_len]; omega
          refine ⟨.brk (best, ((t.Points.length : Nat) : Int)), by simp only [M.spec_l27Out_l2, e1, decide_false, ifB_false], best, _, rfl, ?_⟩
          rcases hb with hb | ⟨b1, b2, b3⟩
          · exact .inl hb
          · exact .inr ⟨b1, b3⟩
      obtain ⟨o, ho, best, kk, rfl, hbest⟩ := hin
      simp only [M.spec_l27Out_l1, M.spec_l27Out_a2, M.spec_l27Out_j1, M.spec_l27Out_j2, h2, decide_true, ifB_true, ho, bnd_some, outc_nxt, e4]
      rcases hbest with ⟨rfl, hb2⟩ | ⟨hb1, hb2⟩
      · have hrem : rem = [] := by
          cases hrm : rem with
          | nil => rfl
          | cons h tl => exact (hb2 h ((hcand h).1 (by rw [hrm]; exact List.mem_cons_self)).1 (by rw [hrm]; exact List.mem_cons_self)).elim
        have e5 : (ndL t b).take (j + 1) = D := by
          rw [← hD]
          have hlen : (ndL t b).length ≤ j := by
            have := congrArg List.length hR
            rw [hrem] at this
            simp at this
            omega
          rw [List.take_of_length_le (by omega), List.take_of_length_le hlen]
        have e6 : ¬ ((0 : Int) ≤ -1) := by decide
        simp only [e6, decide_false, ifB_false, e5]
      · cases hrm : rem with
        | nil => rw [hrm] at hb1; cases hb1
        | cons h tl =>
          have hhm : h ∈ rem := by rw [hrm]; exact List.mem_cons_self
          have hbe : best = h := by
            rw [hrm] at hb1
            rcases List.mem_cons.1 hb1 with e | htl
            · exact e
            · rcases hb2 h ((hcand h).1 hhm).1 hhm with e | hrk
              · exact e.symm
              · rw [hrm] at hpw
                exact (RK_asymm t b _ _ hrk ((List.pairwise_cons.1 hpw).1 best htl)).elim
          subst hbe
          obtain ⟨ib, hib, rfl⟩ := (idxs_mem _ _).1 ((hcand best).1 hhm).1
          have hjl : j < (ndL t b).length := by
            have := congrArg List.length hR
            rw [hrm] at this
            simp at this
            omega
          have hget : (ndL t b)[j] = (ib : Int) := by
            have := List.drop_eq_getElem_cons hjl
            rw [hR, hrm] at this
            injection this with h1 _
            exact h1.symm
          have e5 : (ndL t b).take (j + 1) = D ++ [(ib : Int)] := by
            rw [List.take_succ_eq_append_getElem hjl, hD, hget]
          have e6 : ((0 : Int) ≤ (ib : Int)) := by omega
          simp only [e6, decide_true, ifB_true, flg_get t D ib hib, bnd_some, Int.toNat_natCast, flg_set t D ib hib, e5]
    · simp [M.spec_l27Out_l1]
  rw [hl]
  rfl
end Go.Proofs.Ytpobaajdhfoomaa
