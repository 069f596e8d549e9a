/- Rules for loops over rows of rows: sums, copies, numbering. -/
import Derived.Test.YtmngaoalphpjiaaDoorKit
namespace Go.Proofs.YtmngaoalphpjiaaDoor
open Go
set_option linter.unusedVariables false
set_option linter.unusedSimpArgs false
def tot {β : Type} (n : β → Nat) (xs : List β) : Nat := (xs.map n).sum
theorem tot_take_succ {β : Type} (n : β → Nat) (xs : List β) (i : Nat) (h : i < xs.length) : tot n (xs.take (i + 1)) = tot n (xs.take i) + n xs[i] := by
  unfold tot
  rw [List.take_succ_eq_append_getElem h]
  simp only [List.map_append, List.map_cons, List.map_nil, List.sum_append, List.sum_cons, List.sum_nil, Nat.add_zero]
theorem tot_take_le {β : Type} (n : β → Nat) : ∀ (xs : List β) (i : Nat), tot n (xs.take i) ≤ tot n xs
  | [], i => by simp [tot]
  | x :: xs, 0 => by simp [tot]
  | x :: xs, i + 1 => by have := tot_take_le n xs i; simp only [tot, List.take_succ_cons, List.map_cons, List.sum_cons] at *; omega
theorem tot_mem {β : Type} (n : β → Nat) (xs : List β) (x : β) (h : x ∈ xs) : n x ≤ tot n xs := by
  induction xs with
  | nil => cases h
  | cons y ys ih =>
    simp only [tot, List.map_cons, List.sum_cons]
    rcases List.mem_cons.1 h with rfl | h
    · omega
    · have := ih h; simp only [tot] at this; omega
def markLL {β : Type} (f : Int → β → β) (n : β → Nat) : Int → List β → List β
  | _, [] => []
  | k, x :: xs => f k x :: markLL f n (k + n x) xs
@[simp] theorem markLL_length {β : Type} (f : Int → β → β) (n : β → Nat) : ∀ (k : Int) (xs : List β), (markLL f n k xs).length = xs.length
  | _, [] => rfl
  | k, x :: xs => by simp [markLL, markLL_length f n (k + n x) xs]
theorem loop_size {β : Type} {xs : List β} {body : Int × Int → Option (Stp Int (Int × Int))} (n : β → Nat) (m : Int) (hx : xs.length < 4611686018427387904) (hm : 0 ≤ m ∧ m ≤ 1048576)
    (step : ∀ (i : Nat) (k : Int) (h : i < xs.length), 0 ≤ k → k ≤ 1048576 → body (k, (i : Int)) = some (if k < (n xs[i] : Int) then .ret (-1) else .cont (k - n xs[i], ((i + 1 : Nat) : Int))))
    (last : ∀ k : Int, body (k, (xs.length : Int)) = some (.brk (k, (xs.length : Int)))) :
    loopF body (m, 0) = some (if m < ((tot n xs : Nat) : Int) then .ret (-1) else .nxt (m - ((tot n xs : Nat) : Int), (xs.length : Int))) := by
  obtain ⟨o, ho, rfl⟩ := loop_count (body := body) (s := (m, 0)) xs.length (by omega) (fun i s => s = (m - ((tot n (xs.take i) : Nat) : Int), (i : Int)) ∧ 0 ≤ s.1)
    (fun o => o = if m < ((tot n xs : Nat) : Int) then .ret (-1) else .nxt (m - ((tot n xs : Nat) : Int), (xs.length : Int))) ⟨by simp [tot], hm.1⟩
    (fun i s hi hs => by
      obtain ⟨rfl, h0⟩ := hs
      simp only at h0
      have hs := tot_take_succ n xs i hi
      have hle := tot_take_le n xs (i + 1)
      by_cases hlt : m - ((tot n (xs.take i) : Nat) : Int) < (n xs[i] : Int)
      · refine ⟨.ret (-1), by rw [step i _ hi h0 (by omega), if_pos hlt], ?_⟩
        show Outc.ret (-1) = _
        rw [if_pos (by omega)]
      · refine ⟨.cont (m - ((tot n (xs.take i) : Nat) : Int) - (n xs[i] : Int), ((i + 1 : Nat) : Int)), by rw [step i _ hi h0 (by omega), if_neg hlt], ?_, ?_⟩
        · rw [hs]
          have : m - ((tot n (xs.take i) : Nat) : Int) - (n xs[i] : Int) = m - ((tot n (xs.take i) + n xs[i] : Nat) : Int) := by omega
          rw [this]
        · show 0 ≤ m - ((tot n (xs.take i) : Nat) : Int) - (n xs[i] : Int)
          omega)
    (fun s hs => by
      obtain ⟨rfl, h0⟩ := hs
      simp only [List.take_length] at h0 ⊢
      exact ⟨_, last _, by simp only; rw [if_neg (by omega)]⟩)
  exact ho
end Go.Proofs.YtmngaoalphpjiaaDoor
