/- Sets of points as numbers, and the shortest way through them. -/
import Derived.Test.YtngegaodnokmbaaDoorPureW
namespace Go.Proofs.YtngegaodnokmbaaDoor
open Go
set_option linter.unusedVariables false
set_option linter.unusedSimpArgs false
def scIdx (n : Nat) : Nat → Nat → List Nat
  | 0, _ => []
  | k + 1, m => if m / 2 ^ k % 2 = 1 then (n - (k + 1)) :: scIdx n k m else scIdx n k m
def scMask (n : Nat) : List Nat → Nat
  | [] => 0
  | i :: r => 2 ^ (n - 1 - i) + scMask n r
def scInc (n : Nat) : Nat → List Nat → Prop
  | _, [] => True
  | lo, i :: r => lo ≤ i ∧ i < n ∧ scInc n (i + 1) r
theorem scInc_mono {n lo lo' : Nat} {l : List Nat} (h : scInc n lo l) (h2 : lo' ≤ lo) : scInc n lo' l := by
  cases l with
  | nil => trivial
  | cons i r => exact ⟨Nat.le_trans h2 h.1, h.2⟩
theorem scMask_lt (n : Nat) : ∀ (l : List Nat) (lo : Nat), scInc n lo l → scMask n l < 2 ^ (n - lo)
  | [], lo, _ => by simp only [scMask]; exact Nat.two_pow_pos _
  | i :: r, lo, h => by
    obtain ⟨h1, h2, h3⟩ := h
    have ih := scMask_lt n r (i + 1) h3
    have e1 : 2 ^ (n - i) = 2 ^ (n - 1 - i) * 2 := by rw [← Nat.pow_succ]; congr 1; omega
    have e2 : n - (i + 1) = n - 1 - i := by omega
    have e3 : 2 ^ (n - i) ≤ 2 ^ (n - lo) := Nat.pow_le_pow_right (by omega) (by omega)
    rw [e2] at ih
    simp only [scMask]
    omega
theorem scIdx_mask (n : Nat) : ∀ (k a : Nat) (l : List Nat), k ≤ n → scInc n (n - k) l → scIdx n k (a * 2 ^ k + scMask n l) = l
  | 0, a, [], _, _ => rfl
  | 0, a, i :: r, _, h => by obtain ⟨h1, h2, _⟩ := h; omega
  | k + 1, a, [], hk, _ => by
    have ih := scIdx_mask n k (2 * a) [] (by omega) trivial
    have e1 : a * 2 ^ (k + 1) + scMask n [] = 2 * a * 2 ^ k + scMask n [] := by rw [Nat.pow_succ]; congr 1; rw [Nat.mul_comm (2 ^ k) 2, ← Nat.mul_assoc, Nat.mul_comm a 2]
    have e2 : (2 * a * 2 ^ k + scMask n []) / 2 ^ k % 2 = 0 := by simp only [scMask, Nat.add_zero]; rw [Nat.mul_div_cancel _ (Nat.two_pow_pos k)]; omega
    rw [scIdx, e1, e2, if_neg (by omega)]
    exact ih
  | k + 1, a, i :: r, hk, h => by
    obtain ⟨h1, h2, h3⟩ := h
    have e0 : a * 2 ^ (k + 1) = 2 * a * 2 ^ k := by rw [Nat.pow_succ, Nat.mul_comm (2 ^ k) 2, ← Nat.mul_assoc, Nat.mul_comm a 2]
    by_cases hi : i = n - (k + 1)
    · have hr : scInc n (n - k) r := scInc_mono h3 (by omega)
      have hl := scMask_lt n r (n - k) hr
      have e3 : n - (n - k) = k := by omega
      rw [e3] at hl
      have e4 : n - 1 - i = k := by omega
      have e1 : a * 2 ^ (k + 1) + scMask n (i :: r) = (2 * a + 1) * 2 ^ k + scMask n r := by
        rw [e0, scMask, e4, Nat.add_mul]; omega
      have e2 : ((2 * a + 1) * 2 ^ k + scMask n r) / 2 ^ k % 2 = 1 := by
        rw [Nat.mul_comm, Nat.mul_add_div (Nat.two_pow_pos k), Nat.div_eq_of_lt hl]; omega
      rw [scIdx, e1, e2, if_pos rfl, scIdx_mask n k (2 * a + 1) r (by omega) hr, hi]
    · have hr : scInc n (n - k) (i :: r) := ⟨by omega, h2, h3⟩
      have hl := scMask_lt n (i :: r) (n - k) hr
      have e3 : n - (n - k) = k := by omega
      rw [e3] at hl
      have e2 : (2 * a * 2 ^ k + scMask n (i :: r)) / 2 ^ k % 2 = 0 := by
        rw [Nat.mul_comm, Nat.mul_add_div (Nat.two_pow_pos k), Nat.div_eq_of_lt hl]; omega
      rw [scIdx, e0, e2, if_neg (by omega)]
      exact scIdx_mask n k (2 * a) (i :: r) (by omega) hr
theorem scMask_idx (n : Nat) : ∀ (k m : Nat), k ≤ n → scMask n (scIdx n k m) = m % 2 ^ k
  | 0, m, _ => by simp [scIdx, scMask, Nat.mod_one]
  | k + 1, m, hk => by
    have ih := scMask_idx n k m (by omega)
    have e1 := Nat.mod_pow_succ (b := 2) (k := k) (x := m)
    rw [scIdx]
    split
    · rename_i h
      rw [scMask, ih, e1, h, show n - 1 - (n - (k + 1)) = k by omega]; omega
    · rename_i h
      have : m / 2 ^ k % 2 = 0 := by omega
      rw [ih, e1, this]; omega
theorem scIdx_inc (n : Nat) : ∀ (k m : Nat), k ≤ n → scInc n (n - k) (scIdx n k m)
  | 0, m, _ => trivial
  | k + 1, m, hk => by
    have ih := scIdx_inc n k m (by omega)
    rw [scIdx]
    split
    · exact ⟨Nat.le_refl _, by omega, scInc_mono ih (by omega)⟩
    · exact scInc_mono ih (by omega)
theorem scInc_len (n : Nat) : ∀ (l : List Nat) (lo : Nat), scInc n lo l → l.length ≤ n - lo
  | [], lo, _ => by simp
  | i :: r, lo, h => by have := scInc_len n r (i + 1) h.2.2; have := h.1; have := h.2.1; simp only [List.length_cons]; omega
theorem scInc_get (n : Nat) : ∀ (l : List Nat) (lo : Nat), scInc n lo l → ∀ a (ha : a < l.length), lo + a ≤ l[a] ∧ l[a] < n
  | [], lo, _, a, ha => by simp at ha
  | i :: r, lo, h, 0, ha => ⟨h.1, h.2.1⟩
  | i :: r, lo, h, a + 1, ha => by
    have := scInc_get n r (i + 1) h.2.2 a (by simpa using ha)
    have h1 := h.1
    simp only [List.getElem_cons_succ]
    omega
theorem scInc_lt (n : Nat) : ∀ (l : List Nat) (lo : Nat), scInc n lo l → ∀ a b (hb : b < l.length), (h : a < b) → l[a] < l[b]
  | [], lo, _, a, b, hb, h => by simp at hb
  | i :: r, lo, h, a, 0, hb, hab => by omega
  | i :: r, lo, h, 0, b + 1, hb, hab => by
    have := scInc_get n r (i + 1) h.2.2 b (by simpa using hb)
    simp only [List.getElem_cons_succ, List.getElem_cons_zero]; omega
  | i :: r, lo, h, a + 1, b + 1, hb, hab => by
    simp only [List.getElem_cons_succ]
    exact scInc_lt n r (i + 1) h.2.2 a b (by simpa using hb) (by omega)
def scPath (nr : Nat → Nat → Bool) (last : Nat) : List Nat → Prop
  | [] => False
  | [i] => i = last
  | i :: j :: r => i < j ∧ nr i j = true ∧ scPath nr last (j :: r)
def scFol (nx : Nat → Nat) (last : Nat) : List Nat → Prop
  | [] => False
  | [i] => i = last
  | i :: j :: r => i < last ∧ j = nx i ∧ scFol nx last (j :: r)
theorem scPath_le {nr : Nat → Nat → Bool} {last : Nat} : ∀ (i : Nat) (r : List Nat), scPath nr last (i :: r) → i ≤ last
  | i, [], h => Nat.le_of_eq h
  | i, j :: r, h => by have := scPath_le j r h.2.2; have := h.1; omega
theorem scPath_inc {nr : Nat → Nat → Bool} {n : Nat} (hn : 0 < n) : ∀ (i : Nat) (r : List Nat), scPath nr (n - 1) (i :: r) → scInc n i (i :: r)
  | i, [], h => ⟨Nat.le_refl _, by have : i = n - 1 := h; omega, trivial⟩
  | i, j :: r, h => ⟨Nat.le_refl _, by have := scPath_le j r h.2.2; have := h.1; omega, scInc_mono (scPath_inc hn j r h.2.2) h.1⟩
structure ScDp (nr : Nat → Nat → Bool) (last : Nat) (c nx : Nat → Nat) : Prop where
  c0 : c last = 0
  h1 : ∀ i, i < last → i < nx i ∧ nx i ≤ last ∧ nr i (nx i) = true ∧ c i = c (nx i) + 1
  h2 : ∀ i, i < last → ∀ j, i < j → j ≤ last → nr i j = true → c i ≤ c j + 1 ∧ (c i = c j + 1 → nx i ≤ j)
theorem ScDp.ex {nr : Nat → Nat → Bool} {last : Nat} {c nx : Nat → Nat} (D : ScDp nr last c nx) : ∀ (d i : Nat), last - i = d → i ≤ last → ∃ r, scFol nx last (i :: r) ∧ scPath nr last (i :: r) ∧ (i :: r).length = c i + 1 := by
  intro d
  induction d using Nat.strongRecOn with
  | ind d ih =>
    intro i hd hi
    by_cases h : i = last
    · exact ⟨[], h, h, by rw [h, D.c0]; rfl⟩
    · obtain ⟨h1, h2, h3, h4⟩ := D.h1 i (by omega)
      obtain ⟨r, g1, g2, g3⟩ := ih (last - nx i) (by omega) (nx i) rfl h2
      exact ⟨nx i :: r, ⟨by omega, rfl, g1⟩, ⟨h1, h3, g2⟩, by rw [List.length_cons, g3, h4]⟩
theorem ScDp.best {nr : Nat → Nat → Bool} {n : Nat} {c nx : Nat → Nat} (D : ScDp nr (n - 1) c nx) (hn : 0 < n) : ∀ (i : Nat) (r : List Nat), scPath nr (n - 1) (i :: r) →
    c i + 1 ≤ (i :: r).length ∧ ((i :: r).length = c i + 1 → ∀ q, scFol nx (n - 1) (i :: q) → scMask n (i :: r) ≤ scMask n (i :: q))
  | i, [], h => by
    have hi : i = n - 1 := h
    refine ⟨by rw [hi, D.c0]; simp, fun _ q hq => ?_⟩
    cases q with
    | nil => exact Nat.le_refl _
    | cons j s => have := hq.1; omega
  | i, j :: r, h => by
    obtain ⟨h1, h2, h3⟩ := h
    have hj := scPath_le j r h3
    obtain ⟨g1, g2⟩ := D.best hn j r h3
    obtain ⟨k1, k2⟩ := D.h2 i (by omega) j h1 hj h2
    refine ⟨by simp only [List.length_cons] at g1 ⊢; omega, fun e q hq => ?_⟩
    simp only [List.length_cons] at e g1 g2
    have e1 : c i = c j + 1 := by omega
    have e2 := k2 e1
    cases q with
    | nil => have : i = n - 1 := hq; omega
    | cons p s =>
      obtain ⟨q1, q2, q3⟩ := hq
      have : scMask n (j :: r) ≤ scMask n (p :: s) := by
        by_cases hp : p = j
        · subst hp; exact g2 (by omega) s q3
        · have l1 := scMask_lt n (j :: r) j (scPath_inc hn j r h3)
          have l2 : 2 ^ (n - j) ≤ 2 ^ (n - 1 - p) := Nat.pow_le_pow_right (by omega) (by omega)
          have l3 : 2 ^ (n - 1 - p) ≤ scMask n (p :: s) := by rw [scMask]; omega
          omega
      exact Nat.add_le_add_left this _
end Go.Proofs.YtngegaodnokmbaaDoor
