/- What my pure proofs stand on: simp facts of the models' connectives, and rules for counted loops. -/
import Derived.Test.YtmmkkcmliofknaaGreatDoorBase
namespace Go.Proofs.YtmmkkcmliofknaaGreatDoor
open Go
set_option linter.unusedVariables false
set_option linter.unusedSimpArgs false
@[simp] theorem zAr {α β : Type} (a : α) (f : α → Option β) : bnd (some a) f = f a := by unfold bnd; rfl
@[simp] theorem zAy {β : Type} (t e : Option β) : ifB true t e = t := by unfold ifB; rfl
@[simp] theorem zAG {β : Type} (t e : Option β) : ifB false t e = e := by unfold ifB; rfl
theorem zBm {β : Type} (b : Bool) (t e : Option β) : ifB b t e = if b = true then t else e := by cases b <;> rfl
theorem zKg {β : Type} {c : Prop} [Decidable c] (a b : β) : (if c then some a else some b) = some (if c then a else b) := by split <;> rfl
theorem zBf {β : Type} {c : Prop} [Decidable c] (h : c) (k : Option β) : chk c k = k := by simp [chk, h]
@[simp] theorem zH2 {ρ σ β : Type} (r : ρ) (kr : ρ → Option β) (kn : σ → Option β) : zBh (.ret r) kr kn = kr r := by unfold zBh; rfl
@[simp] theorem zBx {ρ σ β : Type} (s : σ) (kr : ρ → Option β) (kn : σ → Option β) : zBh (.nxt s) kr kn = kn s := by unfold zBh; rfl
theorem zBl {n : Int} (h : -9223372036854775808 ≤ n ∧ n < 9223372036854775808) : w64 n = n := by
  rw [w64, IntKind.wrap_i64]; omega
theorem zJw {α : Type} (xs : List α) (i : Nat) : idx xs (i : Int) = xs[i]? := by simp [idx]
theorem zBs {α : Type} (xs : List α) (i : Nat) (h : i < xs.length) : idx xs (i : Int) = some xs[i] := by simp [idx, h]
theorem zDd {ρ σ : Type} {body : σ → Option (Stp ρ σ)} {s : σ} (n : Nat) (hn : n < 18446744073709551616) (S : Nat → σ → Prop) (Q : Outc ρ σ → Prop) (h0 : S 0 s)
    (step : ∀ i s, i < n → S i s → ∃ t, body s = some t ∧ (match t with | .ret r => Q (.ret r) | .brk s' => Q (.nxt s') | .cont s' => S (i + 1) s'))
    (last : ∀ s, S n s → ∃ t, body s = some t ∧ (match t with | .ret r => Q (.ret r) | .brk s' => Q (.nxt s') | .cont _ => False)) :
    ∃ o, zAO body s = some o ∧ Q o := by
  have key : ∀ k i s, n - i = k → i ≤ n → S i s → ∀ F, n - i < F → ∃ o, zHQ body F s = some o ∧ Q o := by
    intro k
    induction k with
    | zero =>
      intro i s hk hi hS F hF
      obtain rfl : i = n := by omega
      obtain ⟨t, ht, hq⟩ := last s hS
      obtain ⟨F, rfl⟩ : ∃ F', F = F' + 1 := ⟨F - 1, by omega⟩
      cases t with
      | ret r => exact ⟨_, by simp [zHQ, ht], hq⟩
      | brk s' => exact ⟨_, by simp [zHQ, ht], hq⟩
      | cont s' => exact hq.elim
    | succ k ih =>
      intro i s hk hi hS F hF
      obtain ⟨t, ht, hq⟩ := step i s (by omega) hS
      obtain ⟨F, rfl⟩ : ∃ F', F = F' + 1 := ⟨F - 1, by omega⟩
      cases t with
      | ret r => exact ⟨_, by simp [zHQ, ht], hq⟩
      | brk s' => exact ⟨_, by simp [zHQ, ht], hq⟩
      | cont s' =>
        obtain ⟨o, ho, hQ⟩ := ih (i + 1) s' (by omega) (by omega) hq F (by omega)
        exact ⟨o, by simp [zHQ, ht, ho], hQ⟩
  exact key n 0 s (by omega) (by omega) h0 zOi (by unfold zOi; omega)
theorem zBy {ρ σ : Type} {body : σ → Option (Stp ρ σ)} {s : σ} (n : Nat) (hn : n < 18446744073709551616) (st : Nat → σ) (s' : σ) (h0 : s = st 0)
    (step : ∀ i, i < n → body (st i) = some (.cont (st (i + 1)))) (last : body (st n) = some (.brk s')) : zAO body s = some (.nxt s') := by
  obtain ⟨o, ho, rfl⟩ := zDd (body := body) (s := s) n hn (fun i s => s = st i) (fun o => o = .nxt s') h0
    (fun i s hi hs => by subst hs; exact ⟨_, step i hi, rfl⟩) (fun s hs => by subst hs; exact ⟨_, last, rfl⟩)
  exact ho
theorem zIb {ρ σ : Type} {body : σ → Option (Stp ρ σ)} {s : σ} (n : Nat) (hn : n < 18446744073709551616) (st : Nat → σ) (p : Nat → Bool) (r : ρ) (s' : σ) (h0 : s = st 0)
    (step : ∀ i, i < n → body (st i) = some (if p i then .ret r else .cont (st (i + 1)))) (last : body (st n) = some (.brk s')) :
    zAO body s = some (if ∀ i, i < n → p i = false then .nxt s' else .ret r) := by
  obtain ⟨o, ho, hq⟩ := zDd (body := body) (s := s) n hn (fun i s => s = st i ∧ ∀ j, j < i → p j = false) (fun o => o = if ∀ i, i < n → p i = false then .nxt s' else .ret r) ⟨h0, by simp⟩
    (fun i s hi hs => by
      obtain ⟨rfl, hs⟩ := hs
      refine ⟨_, step i hi, ?_⟩
      cases hp : p i with
      | true =>
        have hn : ¬ ∀ i, i < n → p i = false := fun h => by rw [h i hi] at hp; cases hp
        simp only [if_true]; exact (if_neg hn).symm
      | false => refine ⟨rfl, fun j hj => ?_⟩; rcases Nat.lt_succ_iff_lt_or_eq.mp hj with h | h; exact hs j h; subst h; exact hp)
    (fun s hs => by obtain ⟨rfl, hs⟩ := hs; exact ⟨_, last, (if_pos hs).symm⟩)
  rw [ho, hq]
def zQ4 {α : Type} (g : Int → α → α) (c : Nat) : Int → List α → List α
  | _, [] => []
  | k, x :: xs => g k x :: zQ4 g c (k + c) xs
@[simp] theorem zNR {α : Type} (g : Int → α → α) (c : Nat) : ∀ (k : Int) (xs : List α), (zQ4 g c k xs).length = xs.length
  | _, [] => rfl
  | k, x :: xs => by simp [zQ4, zNR g c (k + c) xs]
theorem zMr {α : Type} (xs : List α) (i : Nat) (a : α) (h : i < xs.length) : idx (xs.set i a) (i : Int) = some a := by simp [idx, h]
theorem zLG {ρ σ : Type} {b1 b2 : σ → Option (Stp ρ σ)} (h : ∀ s, b1 s = b2 s) (s : σ) : zAO b1 s = zAO b2 s := by rw [show b1 = b2 from funext h]
theorem zBB {i n : Nat} (h : i < n) (hn : n < 4611686018427387904) : w64 ((i : Int) + 1) = ((i + 1 : Nat) : Int) := by rw [zBl (by omega)]; rfl
end Go.Proofs.YtmmkkcmliofknaaGreatDoor
