/- Pure facts of sorting: Go's stable sort of fewer than twenty numbers is insertion from the right. -/
import Derived.Test.YtmmkkcmliofknaaGreatDoorKit
import Derived.Test.YtmmkkcmliofknaaGreatDoorMod2
namespace Go.Proofs.YtmmkkcmliofknaaGreatDoor
open Go
set_option linter.unusedVariables false
set_option linter.unusedSimpArgs false
def zKd {α : Type} (lt : α → α → Bool) (ra : List α) (x : α) : List α := ra.takeWhile (lt x) ++ x :: ra.dropWhile (lt x)
def zJC {α : Type} (lt : α → α → Bool) (xs : List α) : List α := xs.foldl (zKd lt) []
theorem zMy {α : Type} (lt : α → α → Bool) (ra : List α) (x : α) : (zKd lt ra x).Perm (x :: ra) := by
  have h := List.takeWhile_append_dropWhile (p := lt x) (l := ra)
  unfold zKd
  refine (List.perm_middle).trans ?_
  rw [h]
theorem zNI {α : Type} (lt : α → α → Bool) : ∀ (xs ra : List α), (xs.foldl (zKd lt) ra).Perm (ra ++ xs)
  | [], ra => by simp
  | x :: xs, ra => by
    rw [List.foldl_cons]
    refine (zNI lt xs (zKd lt ra x)).trans ?_
    refine ((zMy lt ra x).append_right xs).trans ?_
    exact (List.perm_middle (l₁ := ra)).symm
theorem zLm {α : Type} (lt : α → α → Bool) (xs : List α) : (zJC lt xs).Perm xs := zNI lt xs []
theorem zOV {α : Type} (lt : α → α → Bool) (xs : List α) : (zJC lt xs).length = xs.length := (zLm lt xs).length_eq
theorem zPX {α : Type} (A B : List α) (x y : α) (k : Nat) (hk : k = A.length) : (A ++ y :: x :: B)[k]? = some y ∧ (A ++ y :: x :: B)[k + 1]? = some x ∧ ((A ++ y :: x :: B).set (k + 1) y).set k x = A ++ x :: y :: B := by
  subst hk
  refine ⟨?_, ?_, ?_⟩
  · rw [List.getElem?_append_right (Nat.le_refl _)]; simp
  · rw [List.getElem?_append_right (by omega)]; simp
  · rw [List.set_append_right _ _ (by omega), List.set_append_right _ _ (by omega)]; simp
theorem zLn {α : Type} (p : α → Bool) : ∀ (xs : List α), xs.takeWhile p = xs.take (xs.takeWhile p).length ∧ xs.dropWhile p = xs.drop (xs.takeWhile p).length
  | [] => by simp
  | x :: xs => by
    have h := zLn p xs
    by_cases hp : p x = true
    · simp only [List.takeWhile_cons, hp, if_true, List.dropWhile_cons, List.length_cons, List.take_succ_cons, List.drop_succ_cons]
      exact ⟨by rw [← h.1], h.2⟩
    · simp [List.takeWhile_cons, List.dropWhile_cons, hp]
theorem zN7 {α : Type} (p : α → Bool) : ∀ (xs : List α) (k : Nat) (h : k < xs.length), k < (xs.takeWhile p).length → p xs[k] = true
  | x :: xs, k, h, hk => by
    by_cases hp : p x = true
    · rw [List.takeWhile_cons, if_pos hp] at hk
      cases k with
      | zero => simpa using hp
      | succ k => simpa using zN7 p xs k (by simpa using h) (by simpa using hk)
    · rw [List.takeWhile_cons, if_neg hp] at hk; simp at hk
theorem zN8 {α : Type} (p : α → Bool) : ∀ (xs : List α) (h : (xs.takeWhile p).length < xs.length), p (xs[(xs.takeWhile p).length]) = false
  | x :: xs, h => by
    by_cases hp : p x = true
    · have e : (x :: xs).takeWhile p = x :: xs.takeWhile p := by rw [List.takeWhile_cons, if_pos hp]
      have h' : (xs.takeWhile p).length < xs.length := by rw [e] at h; simpa using h
      have := zN8 p xs h'
      simp only [e, List.length_cons, List.getElem_cons_succ]
      exact this
    · have e : (x :: xs).takeWhile p = [] := by rw [List.takeWhile_cons, if_neg hp]
      simp only [e, List.length_nil, List.getElem_cons_zero]
      simpa using hp
theorem zOW {α : Type} (p : α → Bool) (xs : List α) : (xs.takeWhile p).length ≤ xs.length := by
  have h := congrArg List.length (List.takeWhile_append_dropWhile (p := p) (l := xs))
  simp only [List.length_append] at h
  omega
theorem zS0 (cmp : Int → Int → Option Int) (c : Int → Int → Int) (ra rest : List Int) (x : Int) (hc : ∀ y ∈ ra, cmp x y = some (c x y)) (hl : ra.length ≤ 1048576) :
    zAO (zAV 0 cmp) (ra.reverse ++ x :: rest, (ra.length : Int)) = some (.nxt ((zKd (fun a b => decide (c a b < 0)) ra x).reverse ++ rest, ((ra.length - (ra.takeWhile fun y => decide (c x y < 0)).length : Nat) : Int))) := by
  have hle := zOW (fun y => decide (c x y < 0)) ra
  have htk := zLn (fun y => decide (c x y < 0)) ra
  generalize ht : (ra.takeWhile fun y => decide (c x y < 0)).length = t at *
  refine zBy t (by omega) (fun k => ((ra.drop k).reverse ++ x :: ((ra.take k).reverse ++ rest), ((ra.length - k : Nat) : Int))) _ (by simp) (fun k hk => ?_) ?_
  · have hk' : k < ra.length := by omega
    have hd : ra.drop k = ra[k] :: ra.drop (k + 1) := List.drop_eq_getElem_cons hk'
    have htt : ra.take (k + 1) = ra.take k ++ [ra[k]] := List.take_succ_eq_append_getElem hk'
    have hp := zN7 (fun y => decide (c x y < 0)) ra k hk' (by omega)
    have e : (ra.drop k).reverse ++ x :: ((ra.take k).reverse ++ rest) = (ra.drop (k + 1)).reverse ++ ra[k] :: x :: ((ra.take k).reverse ++ rest) := by rw [hd]; simp only [List.reverse_cons, List.append_assoc, List.cons_append, List.nil_append]
    have hlen : (ra.drop (k + 1)).reverse.length = ra.length - (k + 1) := by simp
    obtain ⟨s1, s2, s3⟩ := zPX ((ra.drop (k + 1)).reverse) ((ra.take k).reverse ++ rest) x ra[k] (ra.length - (k + 1)) hlen.symm
    have n1 : ra.length - (k + 1) + 1 = ra.length - k := by omega
    rw [n1] at s2 s3
    have n2 : w64 (((ra.length - k : Nat) : Int) - 1) = ((ra.length - (k + 1) : Nat) : Int) := by rw [zBl (by omega)]; omega
    have n3 : ((0 : Int) < ((ra.length - k : Nat) : Int)) := by omega
    simp only [e, htt, List.reverse_append, List.reverse_cons, List.reverse_nil, List.nil_append, List.cons_append, List.append_assoc]
    simp only [zAV, zBa, n3, decide_true, zAy, n2, zJw, s1, s2, zAr, hc _ (List.getElem_mem hk'), hp, Int.toNat_natCast, s3]
    have s4 : (((ra.drop (k + 1)).reverse ++ ra[k] :: x :: ((ra.take k).reverse ++ rest)).set (ra.length - k) ra[k])[ra.length - (k + 1)]? = some ra[k] := by
      rw [List.getElem?_set_ne (by omega)]; exact s1
    rw [s4, zAr]
  · have efin : (ra.drop t).reverse ++ x :: ((ra.take t).reverse ++ rest) = (zKd (fun a b => decide (c a b < 0)) ra x).reverse ++ rest := by
      unfold zKd
      rw [htk.1, htk.2]
      simp
    simp only [efin]
    by_cases h0 : t = ra.length
    · have : ¬ ((0 : Int) < ((ra.length - t : Nat) : Int)) := by omega
      simp only [zAV, zBa, this, decide_false, zAG]
    · have hk' : t < ra.length := by omega
      have hd : ra.drop t = ra[t] :: ra.drop (t + 1) := List.drop_eq_getElem_cons hk'
      have hp : decide (c x ra[t] < 0) = false := by
        have := zN8 (fun y => decide (c x y < 0)) ra (by rw [ht]; exact hk')
        simp only [ht] at this
        exact this
      have e : (zKd (fun a b => decide (c a b < 0)) ra x).reverse ++ rest = (ra.drop (t + 1)).reverse ++ ra[t] :: x :: ((ra.take t).reverse ++ rest) := by rw [← efin, hd]; simp only [List.reverse_cons, List.append_assoc, List.cons_append, List.nil_append]
      have hlen : (ra.drop (t + 1)).reverse.length = ra.length - (t + 1) := by simp
      obtain ⟨s1, s2, s3⟩ := zPX ((ra.drop (t + 1)).reverse) ((ra.take t).reverse ++ rest) x ra[t] (ra.length - (t + 1)) hlen.symm
      have n1 : ra.length - (t + 1) + 1 = ra.length - t := by omega
      rw [n1] at s2
      rw [← e] at s1 s2
      have n2 : w64 (((ra.length - t : Nat) : Int) - 1) = ((ra.length - (t + 1) : Nat) : Int) := by rw [zBl (by omega)]; omega
      have n3 : ((0 : Int) < ((ra.length - t : Nat) : Int)) := by omega
      simp only [zAV, zBa, n3, decide_true, zAy, n2, zJw, s1, s2, zAr, hc _ (List.getElem_mem hk'), hp, zAG]
theorem zPY (cmp : Int → Int → Option Int) (c : Int → Int → Int) (xs : List Int) (hc : ∀ a ∈ xs, ∀ b ∈ xs, cmp a b = some (c a b)) (hl : xs.length ≤ 1048576) :
    zBj xs 0 (xs.length : Int) cmp = some ((), (zJC (fun a b => decide (c a b < 0)) xs).reverse) := by
  rw [zBj]
  have e0 : w64 (0 + 1) = 1 := by decide
  rw [e0]
  cases hx : xs with
  | nil =>
    have e : zAO (zA4 0 (([] : List Int).length : Int) cmp) (([] : List Int), 1) = some (.nxt ([], 1)) := by
      refine zBy 0 (by omega) (fun _ => ([], 1)) _ rfl (fun i hi => by omega) ?_
      simp [zA4]
    rw [e]; rfl
  | cons x0 xs' =>
    rw [← hx]
    have hpos : 0 < xs.length := by rw [hx]; simp
    have hl1 : zAO (zA4 0 (xs.length : Int) cmp) (xs, 1) = some (.nxt ((zJC (fun a b => decide (c a b < 0)) xs).reverse, (xs.length : Int))) := by
      refine zBy (xs.length - 1) (by omega) (fun i => ((zJC (fun a b => decide (c a b < 0)) (xs.take (i + 1))).reverse ++ xs.drop (i + 1), ((i + 1 : Nat) : Int))) _ ?_ (fun i hi => ?_) ?_
      · rw [hx]; simp [zJC, zKd]
      · have hi' : i + 1 < xs.length := by omega
        have h2 : (((i + 1 : Nat) : Int) < (xs.length : Int)) := by omega
        have hd : xs.drop (i + 1) = xs[i + 1] :: xs.drop (i + 1 + 1) := List.drop_eq_getElem_cons hi'
        have htt : xs.take (i + 1 + 1) = xs.take (i + 1) ++ [xs[i + 1]] := List.take_succ_eq_append_getElem hi'
        have hlen : (zJC (fun a b => decide (c a b < 0)) (xs.take (i + 1))).length = i + 1 := by rw [zOV]; simp; omega
        have hmem : ∀ y ∈ zJC (fun a b => decide (c a b < 0)) (xs.take (i + 1)), cmp xs[i + 1] y = some (c xs[i + 1] y) := fun y hy =>
          hc _ (List.getElem_mem hi') y (List.mem_of_mem_take ((zLm _ _).mem_iff.1 hy))
        have hin := zS0 cmp c (zJC (fun a b => decide (c a b < 0)) (xs.take (i + 1))) (xs.drop (i + 1 + 1)) xs[i + 1] hmem (by omega)
        rw [hlen] at hin
        simp only [zA4, zBF, h2, decide_true, zAy, hd, hin, zAr, zBx, zBB hi' (by omega)]
        rw [htt]
        simp only [zJC, List.foldl_append, List.foldl_cons, List.foldl_nil]
      · have h2 : ¬ (((xs.length - 1 + 1 : Nat) : Int) < (xs.length : Int)) := by omega
        have h3 : xs.length - 1 + 1 = xs.length := by omega
        simp only [zA4, h2, decide_false, zAG]
        rw [h3, List.take_length, List.drop_length, List.append_nil]
    rw [hl1]
    rfl
theorem zN9 (cmp : Int → Int → Option Int) (c : Int → Int → Int) (xs : List Int) (hc : ∀ a ∈ xs, ∀ b ∈ xs, cmp a b = some (c a b)) (hl : xs.length < 20) :
    zBH xs cmp = some ((), (zJC (fun a b => decide (c a b < 0)) xs).reverse) := by
  have h1 : ¬ ((20 : Int) ≤ (xs.length : Int)) := by omega
  have h2 : ¬ ((20 : Int) < (xs.length : Int)) := by omega
  simp only [zBH, zDn]
  have e1 : zAO (zCF (xs.length : Int) cmp) (xs, 0, 20) = some (.nxt (xs, 0, 20)) := by
    refine zBy 0 (by omega) (fun _ => (xs, 0, 20)) _ rfl (fun i hi => by omega) ?_
    simp [zCF, h1]
  have e2 : zAO (zCE (xs.length : Int)) 20 = some (.nxt 20) := by
    refine zBy 0 (by omega) (fun _ => 20) _ rfl (fun i hi => by omega) ?_
    simp [zCE, h2]
  simp only [e1, zAr, zBx, zB8, zPY cmp c xs hc (by omega), e2, zB7]
def zCG (n : Nat) : List Int := (List.range n).map fun i : Nat => (i : Int)
theorem zJm (n : Nat) : (zCG n).length = n := by simp [zCG]
theorem zJv (n : Nat) : zCG (n + 1) = zCG n ++ [(n : Int)] := by simp [zCG, List.range_succ]
theorem zIQ (n : Nat) (a : Int) : a ∈ zCG n ↔ ∃ i, i < n ∧ a = (i : Int) := by
  simp only [zCG, List.mem_map, List.mem_range]
  constructor
  · rintro ⟨i, h1, rfl⟩; exact ⟨i, h1, rfl⟩
  · rintro ⟨i, h1, rfl⟩; exact ⟨i, h1, rfl⟩
theorem zR5 (a : Int) : zGN a = some (if a < 0 then -1 else if 0 < a then 1 else 0) := by
  rw [zGN]
  congr 1
  split
  · omega
  · split <;> omega
theorem zML (n : Nat) (hn : n < 20) (cmp : Int → Int → Option Int) (c : Int → Int → Int) (hc : ∀ a ∈ zCG n, ∀ b ∈ zCG n, cmp a b = some (c a b)) :
    zE7 (n : Int) cmp = some (zJC (fun a b => decide (c a b < 0)) (zCG n)).reverse := by
  rw [zE7]
  have hl : zAO (zDX (n : Int)) (([] : List Int), 0) = some (.nxt (zCG n, (n : Int))) := by
    refine zBy n (by omega) (fun i => (zCG i, (i : Int))) _ rfl (fun i hi => ?_) ?_
    · have h2 : ((i : Int) < (n : Int)) := by omega
      simp only [zDX, h2, decide_true, zAy, List.length_singleton, zBf (show (zCG i).length + 1 < 1099511627776 by rw [zJm]; omega), zBB hi (by omega), zJv]
    · simp [zDX]
  rw [hl]
  simp only [zAr, zBx, zDW]
  have hs := zN9 (fun y0 y1 => zCY y0 y1 cmp) (fun a b => if c a b < 0 then -1 else if 0 < c a b then 1 else 0) (zCG n)
    (fun a ha b hb => by simp only [zCY, hc a ha b hb, zAr, zR5]) (by rw [zJm]; exact hn)
  rw [hs, zAr]
  have e : (fun a b : Int => decide ((if c a b < 0 then (-1 : Int) else if 0 < c a b then 1 else 0) < 0)) = fun a b => decide (c a b < 0) := by
    funext a b
    by_cases h1 : c a b < 0
    · simp [h1]
    · by_cases h2 : 0 < c a b <;> simp [h1, h2]
  rw [e]
end Go.Proofs.YtmmkkcmliofknaaGreatDoor
