/- Words for bytes that come from a string and are changed. -/
import Derived.Test.YtpobaajdhfoomaaBase11
import Derived.Lib.ConvBytes
import Derived.Laws.AppendOwn
namespace Go.Proofs.Ytpobaajdhfoomaa
open Go Go.RowKit Go.ChangeShapes Go.WideShapes
set_option linter.unusedVariables false
set_option linter.unusedSimpArgs false
def bysL (E : TypeId) (S : Nat → Prop) (w : World) (v : Value) (xs : List UInt8) : Prop :=
  ∃ (b : Nat) (arr : Array Value), v = .slice (some ⟨b, 0, none⟩) xs.length arr.size ∧ xs.length ≤ arr.size ∧ arr.size ≤ maxLen ∧ S b ∧ w.heap[b]? = some (.cells arr E (arr.size, arr.size + 1)) ∧ ∀ (i : Nat) (x : UInt8), xs[i]? = some x → arr[i]? = some (Value.int .u8 (x.toNat : Int))
section
variable {E : TypeId} {S : Nat → Prop} {w w' w0 : World} {v : Value} {xs : List UInt8} {Γ : List Ent}
theorem bysL.fr (h : bysL E S w v xs) (hf : ∀ k, S k → w'.heap[k]? = w.heap[k]?) : bysL E S w' v xs := by
  obtain ⟨b, arr, e, h1, h2, hb, hh, hc⟩ := h
  exact ⟨b, arr, e, h1, h2, hb, (hf b hb).trans hh, hc⟩
theorem bysL.rdL (h : bysL E S w v xs) : rdL S w v xs := by
  obtain ⟨b, arr, rfl, h1, h2, hb, hh, hc⟩ := h
  refine ⟨_, arr.size, rfl, h1, h2, fun _ => ⟨b, 0, rfl, hb, fun i x hx => ⟨[.int .u8 (x.toNat : Int)], rfl, fun j u hj => ?_⟩⟩⟩
  have hj0 : j = 0 := by
    have := (List.getElem?_eq_some_iff.1 hj).1
    simpa using this
  subst hj0
  have hu : Value.int .u8 (x.toNat : Int) = u := by simpa using hj
  subst hu
  have e : 0 + (i * GoT.sz UInt8 + 0) = i := by show 0 + (i * 1 + 0) = i; omega
  rw [e]
  rw [cell_at hh]
  exact hc i x hx
end
section
variable {P : Program} {N : Nat} {ops : Array Oper} {K : Fr → World → Prop} {F : Fr} {w0 w : World} {Γ : List Ent} {d : Nat} {ty t u e : TypeId} {pos : String} {aft : Array Edge} {x y : Operand} {by_ : Nat} {zv : Value}
end
end Go.Proofs.Ytpobaajdhfoomaa
