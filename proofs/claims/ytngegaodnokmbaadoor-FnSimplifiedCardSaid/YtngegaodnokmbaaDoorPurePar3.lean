/- Pure laws of the factors after several races. -/
import Derived.Test.YtngegaodnokmbaaDoorPurePar2
namespace Go.Proofs.YtngegaodnokmbaaDoor
open Go
set_option linter.unusedVariables false
set_option linter.unusedSimpArgs false
theorem loop_first {body : Int → Option (Stp Int Int)} (n : Nat) (hn : n < 4611686018427387904) (p : Nat → Bool)
    (step : ∀ i, i < n → body (i : Int) = some (if p i then .ret (i : Int) else .cont ((i + 1 : Nat) : Int))) (last : body (n : Int) = some (.brk (n : Int))) :
    ∃ o, loopF body 0 = some o ∧ ((∃ k : Int, 0 ≤ k ∧ o = .ret k ∧ ¬ ∀ i, i < n → p i = false) ∨ (o = .nxt (n : Int) ∧ ∀ i, i < n → p i = false)) := by
  refine loop_count (body := body) (s := 0) n (by omega) (fun i s => s = (i : Int) ∧ ∀ j, j < i → p j = false) _ ⟨rfl, by simp⟩ (fun i s hi hs => ?_) (fun s hs => ?_)
  · obtain ⟨rfl, hs⟩ := hs
    refine ⟨_, step i hi, ?_⟩
    cases hp : p i with
    | true => exact .inl ⟨(i : Int), by omega, rfl, fun h => by rw [h i hi] at hp; cases hp⟩
    | false =>
      refine ⟨rfl, fun j hj => ?_⟩
      rcases Nat.lt_succ_iff_lt_or_eq.mp hj with h | h
      · exact hs j h
      · subst h; exact hp
  · obtain ⟨rfl, hs⟩ := hs
    exact ⟨_, last, .inr ⟨rfl, hs⟩⟩
theorem any_at {β : Type} (xs : List β) (p : β → Bool) : (∀ i, i < xs.length → (xs[i]?.any p) = false) ↔ xs.any p = false := by
  rw [List.any_eq_false]
  constructor
  · intro h x hx
    obtain ⟨i, hi, rfl⟩ := List.mem_iff_getElem.1 hx
    have := h i hi
    rw [List.getElem?_eq_getElem hi] at this
    simpa using this
  · intro h i hi
    rw [List.getElem?_eq_getElem hi]
    simpa using h _ (List.getElem_mem hi)
end Go.Proofs.YtngegaodnokmbaaDoor
