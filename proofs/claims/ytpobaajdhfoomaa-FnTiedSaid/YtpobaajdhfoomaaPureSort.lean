/- Pure facts of sorting: Go's stable sort of fewer than twenty numbers is insertion from the right. -/
import Derived.Test.YtpobaajdhfoomaaKit
import Derived.Test.YtpobaajdhfoomaaMod2
namespace Go.Proofs.Ytpobaajdhfoomaa
open Go
set_option linter.unusedVariables false
set_option linter.unusedSimpArgs false
def insB {α : Type} (lt : α → α → Bool) (ra : List α) (x : α) : List α := ra.takeWhile (lt x) ++ x :: ra.dropWhile (lt x)
def srtB {α : Type} (lt : α → α → Bool) (xs : List α) : List α := xs.foldl (insB lt) []
theorem insB_perm {α : Type} (lt : α → α → Bool) (ra : List α) (x : α) : (insB lt ra x).Perm (x :: ra) := by
  have h := List.takeWhile_append_dropWhile (p := lt x) (l := ra)
  unfold insB
  refine (List.perm_middle).trans ?_
  rw [h]
theorem fold_perm {α : Type} (lt : α → α → Bool) : ∀ (xs ra : List α), (xs.foldl (insB lt) ra).Perm (ra ++ xs)
  | [], ra => by simp
  | x :: xs, ra => by
    rw [List.foldl_cons]
    refine (fold_perm lt xs (insB lt ra x)).trans ?_
    refine ((insB_perm lt ra x).append_right xs).trans ?_
    exact (List.perm_middle (l₁ := ra)).symm
theorem srtB_perm {α : Type} (lt : α → α → Bool) (xs : List α) : (srtB lt xs).Perm xs := fold_perm lt xs []
theorem srtB_len {α : Type} (lt : α → α → Bool) (xs : List α) : (srtB lt xs).length = xs.length := (srtB_perm lt xs).length_eq
theorem swap_at {α : Type} (A B : List α) (x y : α) (k : Nat) (hk : k = A.length) : (A ++ y :: x :: B)[k]? = some y ∧ (A ++ y :: x :: B)[k + 1]? = some x ∧ ((A ++ y :: x :: B).set (k + 1) y).set k x = A ++ x :: y :: B := by
  subst hk
  refine ⟨?_, ?_, ?_⟩
  · rw [List.getElem?_append_right (Nat.le_refl _)]; simp
  · rw [List.getElem?_append_right (by omega)]; simp
  · rw [List.set_append_right _ _ (by omega), List.set_append_right _ _ (by omega)]; simp
theorem tw_take {α : Type} (p : α → Bool) : ∀ (xs : List α), xs.takeWhile p = xs.take (xs.takeWhile p).length ∧ xs.dropWhile p = xs.drop (xs.takeWhile p).length
  | [] => by simp
  | x :: xs => by
    have h := tw_take p xs
    by_cases hp : p x = true
    · simp only [List.takeWhile_cons, hp, if_true, List.dropWhile_cons, List.length_cons, List.take_succ_cons, List.drop_succ_cons]
      exact ⟨by rw [← h.1], h.2⟩
    · simp [List.takeWhile_cons, List.dropWhile_cons, hp]
theorem tw_get {α : Type} (p : α → Bool) : ∀ (xs : List α) (k : Nat) (h : k < xs.length), k < (xs.takeWhile p).length → p xs[k] = true
  | x :: xs, k, h, hk => by
    by_cases hp : p x = true
    · rw [List.takeWhile_cons, if_pos hp] at hk
      cases k with
      | zero => simpa using hp
      | succ k => simpa using tw_get p xs k (by simpa using h) (by simpa using hk)
    · rw [List.takeWhile_cons, if_neg hp] at hk; simp at hk
theorem tw_end {α : Type} (p : α → Bool) : ∀ (xs : List α) (h : (xs.takeWhile p).length < xs.length), p (xs[(xs.takeWhile p).length]) = false
  | x :: xs, h => by
    by_cases hp : p x = true
    · have e : (x :: xs).takeWhile p = x :: xs.takeWhile p := by rw [List.takeWhile_cons, if_pos hp]
      have h' : (xs.takeWhile p).length < xs.length := by rw [e] at h; simpa using h
      have := tw_end p xs h'
      simp only [e, List.length_cons, List.getElem_cons_succ]
      exact this
    · have e : (x :: xs).takeWhile p = [] := by rw [List.takeWhile_cons, if_neg hp]
      simp only [e, List.length_nil, List.getElem_cons_zero]
      simpa using hp
theorem tw_le {α : Type} (p : α → Bool) (xs : List α) : (xs.takeWhile p).length ≤ xs.length := by
  have h := congrArg List.length (List.takeWhile_append_dropWhile (p := p) (l := xs))
  simp only [List.length_append] at h
  omega
theorem l_ins (cmp : Int → Int → Option Int) (c : Int → Int → Int) (ra rest : List Int) (x : Int) (hc : ∀ y ∈ ra, cmp x y = some (c x y)) (hl : ra.length ≤ 1048576) :
    loopF (M.slices_insertionSortCmpFunc_int64__l2 0 cmp) (ra.reverse ++ x :: rest, (ra.length : Int)) = some (.nxt ((insB (fun a b => decide (c a b < 0)) ra x).reverse ++ rest, ((ra.length - (ra.takeWhile fun y => decide (c x y < 0)).length : Nat) : Int))) := by
  have hle := tw_le (fun y => decide (c x y < 0)) ra
  have htk := tw_take (fun y => decide (c x y < 0)) ra
  generalize ht : (ra.takeWhile fun y => decide (c x y < 0)).length = t at *
  refine loop_run t (by omega) (fun k => ((ra.drop k).reverse ++ x :: ((ra.take k).reverse ++ rest), ((ra.length - k : Nat) : Int))) _ (by simp) (fun k hk => ?_) ?_
  · have hk' : k < ra.length := by omega
    have hd : ra.drop k = ra[k] :: ra.drop (k + 1) := List.drop_eq_getElem_cons hk'
    have htt : ra.take (k + 1) = ra.take k ++ [ra[k]] := List.take_succ_eq_append_getElem hk'
    have hp := tw_get (fun y => decide (c x y < 0)) ra k hk' (by omega)
    have e : (ra.drop k).reverse ++ x :: ((ra.take k).reverse ++ rest) = (ra.drop (k + 1)).reverse ++ ra[k] :: x :: ((ra.take k).reverse ++ rest) := by rw [hd]; simp only [List.reverse_cons, List.append_assoc, List.cons_append, List.nil_append]
    have hlen : (ra.drop (k + 1)).reverse.length = ra.length - (k + 1) := by simp
    obtain ⟨s1, s2, s3⟩ := swap_at ((ra.drop (k + 1)).reverse) ((ra.take k).reverse ++ rest) x ra[k] (ra.length - (k + 1)) hlen.symm
    have n1 : ra.length - (k + 1) + 1 = ra.length - k := by omega
    rw [n1] at s2 s3
    have n2 : w64 (((ra.length - k : Nat) : Int) - 1) = ((ra.length - (k + 1) : Nat) : Int) := by rw [w64_of (by omega)]; omega
    have n3 : ((0 : Int) < ((ra.length - k : Nat) : Int)) := by omega
    simp only [e, htt, List.reverse_append, List.reverse_cons, List.reverse_nil, List.nil_append, List.cons_append, List.append_assoc]
    simp only [M.slices_insertionSortCmpFunc_int64__l2, M.slices_insertionSortCmpFunc_int64__j1, n3, decide_true, ifB_true, n2, idx_nat, s1, s2, bnd_some, hc _ (List.getElem_mem hk'), hp, Int.toNat_natCast, s3]
    have s4 : (((ra.drop (k + 1)).reverse ++ ra[k] :: x :: ((ra.take k).reverse ++ rest)).set (ra.length - k) ra[k])[ra.length - (k + 1)]? = some ra[k] := by
      rw [List.getElem?_set_ne (by omega)]; exact s1
    rw [s4, bnd_some]
  · have efin : (ra.drop t).reverse ++ x :: ((ra.take t).reverse ++ rest) = (insB (fun a b => decide (c a b < 0)) ra x).reverse ++ rest := by
      unfold insB
      rw [htk.1, htk.2]
      simp
    simp only [efin]
    by_cases h0 : t = ra.length
    · have : ¬ ((0 : Int) < ((ra.length - t : Nat) : Int)) := by omega
      simp only [M.slices_insertionSortCmpFunc_int64__l2, M.slices_insertionSortCmpFunc_int64__j1, this, decide_false, ifB_false]
    · have hk' : t < ra.length := by omega
      have hd : ra.drop t = ra[t] :: ra.drop (t + 1) := List.drop_eq_getElem_cons hk'
      have hp : decide (c x ra[t] < 0) = false := by
        have := tw_end (fun y => decide (c x y < 0)) ra (by rw [ht]; exact hk')
        simp only [ht] at this
        exact this
      have e : (insB (fun a b => decide (c a b < 0)) ra x).reverse ++ rest = (ra.drop (t + 1)).reverse ++ ra[t] :: x :: ((ra.take t).reverse ++ rest) := by rw [← efin, hd]; simp only [List.reverse_cons, List.append_assoc, List.cons_append, List.nil_append]
      have hlen : (ra.drop (t + 1)).reverse.length = ra.length - (t + 1) := by simp
      obtain ⟨s1, s2, s3⟩ := swap_at ((ra.drop (t + 1)).reverse) ((ra.take t).reverse ++ rest) x ra[t] (ra.length - (t + 1)) hlen.symm
      have n1 : ra.length - (t + 1) + 1 = ra.length - t := by omega
      rw [n1] at s2
      rw [← e] at s1 s2
      have n2 : w64 (((ra.length - t : Nat) : Int) - 1) = ((ra.length - (t + 1) : Nat) : Int) := by rw [w64_of (by omega)]; omega
      have n3 : ((0 : Int) < ((ra.length - t : Nat) : Int)) := by omega
      simp only [M.slices_insertionSortCmpFunc_int64__l2, M.slices_insertionSortCmpFunc_int64__j1, n3, decide_true, ifB_true, n2, idx_nat, s1, s2, bnd_some, hc _ (List.getElem_mem hk'), hp, ifB_false]
theorem p_isort (cmp : Int → Int → Option Int) (c : Int → Int → Int) (xs : List Int) (hc : ∀ a ∈ xs, ∀ b ∈ xs, cmp a b = some (c a b)) (hl : xs.length ≤ 1048576) :
    M.slices_insertionSortCmpFunc_int64_ xs 0 (xs.length : Int) cmp = some ((), (srtB (fun a b => decide (c a b < 0)) xs).reverse) := by
  rw [M.slices_insertionSortCmpFunc_int64_]
  have e0 : w64 (0 + 1) = 1 := by decide
  rw [e0]
  cases hx : xs with
  | nil =>
    have e : loopF (M.slices_insertionSortCmpFunc_int64__l1 0 (([] : List Int).length : Int) cmp) (([] : List Int), 1) = some (.nxt ([], 1)) := by
      refine loop_run 0 (by omega) (fun _ => ([], 1)) _ rfl (fun i hi => by omega) ?_
      simp [M.slices_insertionSortCmpFunc_int64__l1]
    rw [e]; rfl
  | cons x0 xs' =>
    rw [← hx]
    have hpos : 0 < xs.length := by rw [hx]; simp
    have hl1 : loopF (M.slices_insertionSortCmpFunc_int64__l1 0 (xs.length : Int) cmp) (xs, 1) = some (.nxt ((srtB (fun a b => decide (c a b < 0)) xs).reverse, (xs.length : Int))) := by
      refine loop_run (xs.length - 1) (by omega) (fun i => ((srtB (fun a b => decide (c a b < 0)) (xs.take (i + 1))).reverse ++ xs.drop (i + 1), ((i + 1 : Nat) : Int))) _ ?_ (fun i hi => ?_) ?_
      · rw [hx]; simp [srtB, insB]
      · have hi' : i + 1 < xs.length := by omega
        have h2 : (((i + 1 : Nat) : Int) < (xs.length : Int)) := by omega
        have hd : xs.drop (i + 1) = xs[i + 1] :: xs.drop (i + 1 + 1) := List.drop_eq_getElem_cons hi'
        have htt : xs.take (i + 1 + 1) = xs.take (i + 1) ++ [xs[i + 1]] := List.take_succ_eq_append_getElem hi'
        have hlen : (srtB (fun a b => decide (c a b < 0)) (xs.take (i + 1))).length = i + 1 := by rw [srtB_len]; simp; omega
        have hmem : ∀ y ∈ srtB (fun a b => decide (c a b < 0)) (xs.take (i + 1)), cmp xs[i + 1] y = some (c xs[i + 1] y) := fun y hy =>
          hc _ (List.getElem_mem hi') y (List.mem_of_mem_take ((srtB_perm _ _).mem_iff.1 hy))
        have hin := l_ins cmp c (srtB (fun a b => decide (c a b < 0)) (xs.take (i + 1))) (xs.drop (i + 1 + 1)) xs[i + 1] hmem (by omega)
        rw [hlen] at hin
        simp only [M.slices_insertionSortCmpFunc_int64__l1, M.slices_insertionSortCmpFunc_int64__a2, h2, decide_true, ifB_true, hd, hin, bnd_some, outc_nxt, step64 hi' (by omega)]
        rw [htt]
        simp only [srtB, List.foldl_append, List.foldl_cons, List.foldl_nil]
      · have h2 : ¬ (((xs.length - 1 + 1 : Nat) : Int) < (xs.length : Int)) := by omega
        have h3 : xs.length - 1 + 1 = xs.length := by omega
        simp only [M.slices_insertionSortCmpFunc_int64__l1, h2, decide_false, ifB_false]
        rw [h3, List.take_length, List.drop_length, List.append_nil]
    rw [hl1]
    rfl
theorem p_sortStable (cmp : Int → Int → Option Int) (c : Int → Int → Int) (xs : List Int) (hc : ∀ a ∈ xs, ∀ b ∈ xs, cmp a b = some (c a b)) (hl : xs.length < 20) :
    M.slices_SortStableFunc___int64_int64_ xs cmp = some ((), (srtB (fun a b => decide (c a b < 0)) xs).reverse) := by
  have h1 : ¬ ((20 : Int) ≤ (xs.length : Int)) := by omega
  have h2 : ¬ ((20 : Int) < (xs.length : Int)) := by omega
  simp only [M.slices_SortStableFunc___int64_int64_, M.slices_stableCmpFunc_int64_]
  have e1 : loopF (M.slices_stableCmpFunc_int64__l1 (xs.length : Int) cmp) (xs, 0, 20) = some (.nxt (xs, 0, 20)) := by
    refine loop_run 0 (by omega) (fun _ => (xs, 0, 20)) _ rfl (fun i hi => by omega) ?_
    simp [M.slices_stableCmpFunc_int64__l1, h1]
  have e2 : loopF (M.slices_stableCmpFunc_int64__l2 (xs.length : Int)) 20 = some (.nxt 20) := by
    refine loop_run 0 (by omega) (fun _ => 20) _ rfl (fun i hi => by omega) ?_
    simp [M.slices_stableCmpFunc_int64__l2, h2]
  simp only [e1, bnd_some, outc_nxt, M.slices_stableCmpFunc_int64__a1, p_isort cmp c xs hc (by omega), e2, M.slices_stableCmpFunc_int64__a2]
def idxs (n : Nat) : List Int := (List.range n).map fun i : Nat => (i : Int)
theorem idxs_len (n : Nat) : (idxs n).length = n := by simp [idxs]
theorem idxs_succ (n : Nat) : idxs (n + 1) = idxs n ++ [(n : Int)] := by simp [idxs, List.range_succ]
theorem idxs_mem (n : Nat) (a : Int) : a ∈ idxs n ↔ ∃ i, i < n ∧ a = (i : Int) := by
  simp only [idxs, List.mem_map, List.mem_range]
  constructor
  · rintro ⟨i, h1, rfl⟩; exact ⟨i, h1, rfl⟩
  · rintro ⟨i, h1, rfl⟩; exact ⟨i, h1, rfl⟩
theorem p_sign (a : Int) : M.impl_sign a = some (if a < 0 then -1 else if 0 < a then 1 else 0) := by
  rw [M.impl_sign]
  congr 1
  split
  · omega
  · split <;> omega
theorem p_sortedIndices (n : Nat) (hn : n < 20) (cmp : Int → Int → Option Int) (c : Int → Int → Int) (hc : ∀ a ∈ idxs n, ∀ b ∈ idxs n, cmp a b = some (c a b)) :
    M.impl_sortedIndices (n : Int) cmp = some (srtB (fun a b => decide (c a b < 0)) (idxs n)).reverse := by
  rw [M.impl_sortedIndices]
  have hl : loopF (M.impl_sortedIndices_l1 (n : Int)) (([] : List Int), 0) = some (.nxt (idxs n, (n : Int))) := by
    refine loop_run n (by omega) (fun i => (idxs i, (i : Int))) _ rfl (fun i hi => ?_) ?_
    · have h2 : ((i : Int) < (n : Int)) := by omega
      simp only [M.impl_sortedIndices_l1, h2, decide_true, ifB_true, List.length_singleton, chk_pos (show (idxs i).length + 1 < 1099511627776 by rw [idxs_len]; omega), step64 hi (by omega), idxs_succ]
    · simp [M.impl_sortedIndices_l1]
  rw [hl]
  simp only [bnd_some, outc_nxt, M.impl_sortedIndices_a1]
  have hs := p_sortStable (fun y0 y1 => M.impl_sortedIndices_1 y0 y1 cmp) (fun a b => if c a b < 0 then -1 else if 0 < c a b then 1 else 0) (idxs n)
    (fun a ha b hb => by simp only [M.impl_sortedIndices_1, hc a ha b hb, bnd_some, p_sign]) (by rw [idxs_len]; exact hn)
  rw [hs, bnd_some]
  have e : (fun a b : Int => decide ((if c a b < 0 then (-1 : Int) else if 0 < c a b then 1 else 0) < 0)) = fun a b => decide (c a b < 0) := by
    funext a b
    by_cases h1 : c a b < 0
    · simp [h1]
    · by_cases h2 : 0 < c a b <;> simp [h1, h2]
  rw [e]
end Go.Proofs.Ytpobaajdhfoomaa
