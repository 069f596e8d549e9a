/- Rules for loops over rows of rows: sums, copies, numbering. -/
import Derived.Test.YtpobaajdhfoomaaKit
namespace Go.Proofs.Ytpobaajdhfoomaa
open Go
set_option linter.unusedVariables false
set_option linter.unusedSimpArgs false
def tot {β : Type} (n : β → Nat) (xs : List β) : Nat := (xs.map n).sum
theorem tot_take_succ {β : Type} (n : β → Nat) (xs : List β) (i : Nat) (h : i < xs.length) : tot n (xs.take (i + 1)) = tot n (xs.take i) + n xs[i] := by
  unfold tot
  rw [List.take_succ_eq_append_getElem h]
  simp only [List.map_append, List.map_cons, List.map_nil, List.sum_append, List.sum_cons, List.sum_nil, Nat.add_zero]
theorem tot_take_le {β : Type} (n : β → Nat) : ∀ (xs : List β) (i : Nat), tot n (xs.take i) ≤ tot n xs
  | [], i => by simp [tot]
  | x :: xs, 0 => by simp [tot]
  | x :: xs, i + 1 => by have := tot_take_le n xs i; simp only [tot, List.take_succ_cons, List.map_cons, List.sum_cons] at *; omega
theorem tot_mem {β : Type} (n : β → Nat) (xs : List β) (x : β) (h : x ∈ xs) : n x ≤ tot n xs := by
  induction xs with
  | nil => cases h
  | cons y ys ih =>
    simp only [tot, List.map_cons, List.sum_cons]
    rcases List.mem_cons.1 h with rfl | h
    · omega
    · have := ih h; simp only [tot] at this; omega
theorem tot_mul {β : Type} (n : β → Nat) (c : Nat) (xs : List β) : tot (fun x => c * n x) xs = c * tot n xs := by
  induction xs with
  | nil => rfl
  | cons y ys ih => simp only [tot, List.map_cons, List.sum_cons] at *; rw [ih, Nat.mul_add]
def markLL {β : Type} (f : Int → β → β) (n : β → Nat) : Int → List β → List β
  | _, [] => []
  | k, x :: xs => f k x :: markLL f n (k + n x) xs
@[simp] theorem markLL_length {β : Type} (f : Int → β → β) (n : β → Nat) : ∀ (k : Int) (xs : List β), (markLL f n k xs).length = xs.length
  | _, [] => rfl
  | k, x :: xs => by simp [markLL, markLL_length f n (k + n x) xs]
theorem markLL_get {β : Type} (f : Int → β → β) (n : β → Nat) : ∀ (k : Int) (xs : List β) (i : Nat) (h : i < xs.length), (markLL f n k xs)[i]? = some (f (k + ((tot n (xs.take i) : Nat) : Int)) xs[i])
  | k, x :: xs, 0, h => by simp [markLL, tot]
  | k, x :: xs, i + 1, h => by
    have := markLL_get f n (k + n x) xs i (by simpa using h)
    simp only [markLL, List.getElem?_cons_succ, this, List.getElem_cons_succ]
    congr 2
    simp only [tot, List.take_succ_cons, List.map_cons, List.sum_cons]
    push_cast
    omega
theorem loop_markN {ρ β : Type} {body : List β × Int × Int → Option (Stp ρ (List β × Int × Int))} (n : β → Nat) (f : Int → β → β) (xs : List β) (k0 : Int) (hx : xs.length < 4611686018427387904) (hk : 0 ≤ k0) (hb : k0 + ((tot n xs : Nat) : Int) < 4611686018427387904)
    (step : ∀ (i : Nat) (ys : List β) (k : Int) (h : i < xs.length), ys.length = xs.length → ys[i]? = some xs[i] → 0 ≤ k → k ≤ k0 + ((tot n xs : Nat) : Int) → body (ys, k, (i : Int)) = some (.cont (ys.set i (f k xs[i]), k + n xs[i], ((i + 1 : Nat) : Int))))
    (last : ∀ (ys : List β) (k : Int), ys.length = xs.length → body (ys, k, (xs.length : Int)) = some (.brk (ys, k, (xs.length : Int)))) :
    loopF body (xs, k0, 0) = some (.nxt (markLL f n k0 xs, k0 + ((tot n xs : Nat) : Int), (xs.length : Int))) := by
  refine loop_run (body := body) xs.length (by omega) (fun i => ((markLL f n k0 xs).take i ++ xs.drop i, k0 + ((tot n (xs.take i) : Nat) : Int), (i : Int))) _ (by simp [tot]) (fun i hi => ?_) ?_
  · have hlen : ((markLL f n k0 xs).take i ++ xs.drop i).length = xs.length := by simp; omega
    have hti : ((markLL f n k0 xs).take i).length = i := by simp; omega
    have hti' : ((markLL f n k0 xs).take (i + 1)).length = i + 1 := by simp; omega
    have hle := tot_take_le n xs i
    rw [step i _ _ hi hlen (by rw [List.getElem?_append_right (by omega), hti, Nat.sub_self, List.getElem?_drop]; simp [hi]) (by omega) (by omega)]
    have e1 : ((markLL f n k0 xs).take i ++ xs.drop i).set i (f (k0 + ((tot n (xs.take i) : Nat) : Int)) xs[i]) = (markLL f n k0 xs).take (i + 1) ++ xs.drop (i + 1) := by
      apply List.ext_getElem?
      intro j
      by_cases hj : i = j
      · subst hj
        rw [List.getElem?_set_self (by omega), List.getElem?_append_left (by omega), List.getElem?_take_of_lt (by omega), markLL_get f n k0 xs i hi]
      · rw [List.getElem?_set_ne hj]
        by_cases hlt : j < i
        · rw [List.getElem?_append_left (by omega), List.getElem?_append_left (by omega), List.getElem?_take_of_lt hlt, List.getElem?_take_of_lt (by omega)]
        · rw [List.getElem?_append_right (by omega), List.getElem?_append_right (by omega), hti, hti', List.getElem?_drop, List.getElem?_drop]
          congr 1
          omega
    rw [e1, tot_take_succ n xs i hi]
    have e2 : k0 + ((tot n (xs.take i) : Nat) : Int) + (n xs[i] : Int) = k0 + ((tot n (xs.take i) + n xs[i] : Nat) : Int) := by omega
    rw [e2]
  · have e : (markLL f n k0 xs).take xs.length ++ xs.drop xs.length = markLL f n k0 xs := by
      rw [List.drop_length, List.append_nil, List.take_of_length_le (by simp)]
    rw [e, List.take_length]
    exact last _ _ (by simp)
theorem loop_heldN {ρ β : Type} {xs : List β} {body : Int × Int → Option (Stp ρ (Int × Int))} (n : β → Nat) (f : Int → β → β) (k0 : Int) (hx : xs.length < 4611686018427387904) (hk : 0 ≤ k0) (hb : k0 + ((tot n xs : Nat) : Int) < 4611686018427387904)
    (step : ∀ (i : Nat) (k : Int) (h : i < xs.length), 0 ≤ k → k ≤ k0 + ((tot n xs : Nat) : Int) → (markLL f n k0 xs)[i]? = some (f k xs[i]) → body (k, (i : Int)) = some (.cont (k + n xs[i], ((i + 1 : Nat) : Int))))
    (last : ∀ k : Int, body (k, (xs.length : Int)) = some (.brk (k, (xs.length : Int)))) :
    loopF body (k0, 0) = some (.nxt (k0 + ((tot n xs : Nat) : Int), (xs.length : Int))) := by
  refine loop_run (body := body) xs.length (by omega) (fun i => (k0 + ((tot n (xs.take i) : Nat) : Int), (i : Int))) _ (by simp [tot]) (fun i hi => ?_) (by rw [List.take_length]; exact last _)
  have hle := tot_take_le n xs i
  rw [step i _ hi (by omega) (by omega) (markLL_get f n k0 xs i hi), tot_take_succ n xs i hi]
  have e2 : k0 + ((tot n (xs.take i) : Nat) : Int) + (n xs[i] : Int) = k0 + ((tot n (xs.take i) + n xs[i] : Nat) : Int) := by omega
  rw [e2]
theorem loop_size {β : Type} {xs : List β} {body : Int × Int → Option (Stp Int (Int × Int))} (n : β → Nat) (m : Int) (hx : xs.length < 4611686018427387904) (hm : 0 ≤ m ∧ m ≤ 1048576)
    (step : ∀ (i : Nat) (k : Int) (h : i < xs.length), 0 ≤ k → k ≤ 1048576 → body (k, (i : Int)) = some (if k < (n xs[i] : Int) then .ret (-1) else .cont (k - n xs[i], ((i + 1 : Nat) : Int))))
    (last : ∀ k : Int, body (k, (xs.length : Int)) = some (.brk (k, (xs.length : Int)))) :
    loopF body (m, 0) = some (if m < ((tot n xs : Nat) : Int) then .ret (-1) else .nxt (m - ((tot n xs : Nat) : Int), (xs.length : Int))) := by
  obtain ⟨o, ho, rfl⟩ := loop_count (body := body) (s := (m, 0)) xs.length (by omega) (fun i s => s = (m - ((tot n (xs.take i) : Nat) : Int), (i : Int)) ∧ 0 ≤ s.1)
    (fun o => o = if m < ((tot n xs : Nat) : Int) then .ret (-1) else .nxt (m - ((tot n xs : Nat) : Int), (xs.length : Int))) ⟨by simp [tot], hm.1⟩
    (fun i s hi hs => by
      obtain ⟨rfl, h0⟩ := hs
      simp only at h0
      have hs := tot_take_succ n xs i hi
      have hle := tot_take_le n xs (i + 1)
      by_cases hlt : m - ((tot n (xs.take i) : Nat) : Int) < (n xs[i] : Int)
      · refine ⟨.ret (-1), by rw [step i _ hi h0 (by omega), if_pos hlt], ?_⟩
        show Outc.ret (-1) = _
        rw [if_pos (by omega)]
      · refine ⟨.cont (m - ((tot n (xs.take i) : Nat) : Int) - (n xs[i] : Int), ((i + 1 : Nat) : Int)), by rw [step i _ hi h0 (by omega), if_neg hlt], ?_, ?_⟩
        · rw [hs]
          have : m - ((tot n (xs.take i) : Nat) : Int) - (n xs[i] : Int) = m - ((tot n (xs.take i) + n xs[i] : Nat) : Int) := by omega
          rw [this]
        · show 0 ≤ m - ((tot n (xs.take i) : Nat) : Int) - (n xs[i] : Int)
          omega)
    (fun s hs => by
      obtain ⟨rfl, h0⟩ := hs
      simp only [List.take_length] at h0 ⊢
      exact ⟨_, last _, by simp only; rw [if_neg (by omega)]⟩)
  exact ho
end Go.Proofs.Ytpobaajdhfoomaa
