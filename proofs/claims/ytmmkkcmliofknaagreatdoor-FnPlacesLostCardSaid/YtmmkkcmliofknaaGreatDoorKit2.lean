/- Rules for loops over rows of rows: sums, copies, numbering. -/
import Derived.Test.YtmmkkcmliofknaaGreatDoorKit
namespace Go.Proofs.YtmmkkcmliofknaaGreatDoor
open Go
set_option linter.unusedVariables false
set_option linter.unusedSimpArgs false
def tot {β : Type} (n : β → Nat) (xs : List β) : Nat := (xs.map n).sum
theorem zLy {β : Type} (n : β → Nat) (xs : List β) (i : Nat) (h : i < xs.length) : tot n (xs.take (i + 1)) = tot n (xs.take i) + n xs[i] := by
  unfold tot
  rw [List.take_succ_eq_append_getElem h]
  simp only [List.map_append, List.map_cons, List.map_nil, List.sum_append, List.sum_cons, List.sum_nil, Nat.add_zero]
theorem zMG {β : Type} (n : β → Nat) : ∀ (xs : List β) (i : Nat), tot n (xs.take i) ≤ tot n xs
  | [], i => by simp [tot]
  | x :: xs, 0 => by simp [tot]
  | x :: xs, i + 1 => by have := zMG n xs i; simp only [tot, List.take_succ_cons, List.map_cons, List.sum_cons] at *; omega
theorem zSw {β : Type} (n : β → Nat) (xs : List β) (x : β) (h : x ∈ xs) : n x ≤ tot n xs := by
  induction xs with
  | nil => cases h
  | cons y ys ih =>
    simp only [tot, List.map_cons, List.sum_cons]
    rcases List.mem_cons.1 h with rfl | h
    · omega
    · have := ih h; simp only [tot] at this; omega
def zPh {β : Type} (f : Int → β → β) (n : β → Nat) : Int → List β → List β
  | _, [] => []
  | k, x :: xs => f k x :: zPh f n (k + n x) xs
@[simp] theorem zNp {β : Type} (f : Int → β → β) (n : β → Nat) : ∀ (k : Int) (xs : List β), (zPh f n k xs).length = xs.length
  | _, [] => rfl
  | k, x :: xs => by simp [zPh, zNp f n (k + n x) xs]
theorem zKV {σ α : Type} (f : σ → α → σ) (Inv : σ → Prop) : ∀ (xs : List α) (s : σ), Inv s → (∀ s x, x ∈ xs → Inv s → Inv (f s x)) → Inv (xs.foldl f s)
  | [], s, h, _ => h
  | x :: xs, s, h, hi => zKV f Inv xs (f s x) (hi s x List.mem_cons_self h) (fun s y hy => hi s y (List.mem_cons_of_mem _ hy))
theorem zLh {ρ σ α : Type} {body : σ × Int → Option (Stp ρ (σ × Int))} (xs : List α) (f : σ → α → σ) (Inv : σ → Prop) (s0 : σ) (h0 : Inv s0) (hx : xs.length < 4611686018427387904) (hi : ∀ s x, x ∈ xs → Inv s → Inv (f s x))
    (step : ∀ (i : Nat) (h : i < xs.length) (s : σ), Inv s → body (s, (i : Int)) = some (.cont (f s xs[i], ((i + 1 : Nat) : Int))))
    (last : ∀ s, Inv s → body (s, (xs.length : Int)) = some (.brk (s, (xs.length : Int)))) : zAO body (s0, 0) = some (.nxt (xs.foldl f s0, (xs.length : Int))) ∧ Inv (xs.foldl f s0) := by
  have hall : ∀ i, Inv ((xs.take i).foldl f s0) := fun i => zKV f Inv (xs.take i) s0 h0 (fun s x hx hs => hi s x (List.mem_of_mem_take hx) hs)
  refine ⟨zBy (body := body) xs.length (by omega) (fun i => ((xs.take i).foldl f s0, (i : Int))) _ (by simp) (fun i hi' => ?_) ?_, zKV f Inv xs s0 h0 hi⟩
  · rw [step i hi' _ (hall i), List.take_succ_eq_append_getElem hi', List.foldl_append]
    rfl
  · have := hall xs.length
    rw [List.take_length] at this ⊢
    exact last _ this
end Go.Proofs.YtmmkkcmliofknaaGreatDoor
