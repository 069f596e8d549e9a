/- More of my proof rules: slices whose elements hold slices. -/
import Derived.Test.YtngegaodnokmbaaDoorBase3
namespace Go.Proofs.YtngegaodnokmbaaDoor
open Go Go.RowKit Go.ChangeShapes Go.WideShapes
set_option linter.unusedVariables false
set_option linter.unusedSimpArgs false
set_option linter.unusedSectionVars false
section
variable {α : Type} [GoT α] {w0 w w1 : World} {Γ : List Ent} {E : TypeId} {S : Nat → Prop} {v : Value} {xs : List α}
end
class Wrap (β : Type) (α : outParam Type) [GoT β] [GoT α] where
  get : β → List α
  sz1 : GoT.sz β = 1
  rd : ∀ {S w cs x}, GoT.rd (α := β) S w cs x → ∃ u, cs = [u] ∧ rdL S w u (get x)
  own : ∀ {S w cs x}, GoT.own (α := β) S w cs x → ∃ u E, cs = [u] ∧ ownL E S w u (get x)
  close : ∀ {S w u E x}, ownL E S w u (get x) → GoT.own (α := β) S w [u] x
instance (α : Type) [GoT α] : Wrap (List α) α := ⟨id, rfl, fun h => h, fun ⟨u, E, h1, h2⟩ => ⟨u, E, h1, h2⟩, fun {S w u E x} h => ⟨u, E, rfl, h⟩⟩
instance : Wrap Race Finish := ⟨Race.Finishes, rfl, fun h => h, fun ⟨u, E, h1, h2⟩ => ⟨u, E, h1, h2⟩, fun {S w u E x} h => ⟨u, E, rfl, h⟩⟩
theorem rdL_one {α : Type} [GoT α] {S : Nat → Prop} {w : World} {v : Value} {xs : List α} (h : rdL S w v xs) : v.oneCell' = true := by
  obtain ⟨A, cap, rfl, _⟩ := h; rfl
structure SlV where
  val : Value
  is : ∃ A n c, val = .slice A n c
instance : Flat SlV := ⟨1, by decide, fun x => [x.1], fun _ => rfl, by rintro ⟨v, A, n, c, rfl⟩ u hu; simp at hu; subst hu; rfl⟩
section
variable {α β : Type} [GoT α] [GoT β] [Wrap β α] {w w' : World} {E : TypeId} {S : Nat → Prop} {v : Value} {xs : List β}
def Rows (us : List SlV) (xs : List β) (T : Nat → Nat → Prop) (w : World) : Prop := us.length = xs.length ∧ ∀ i (u : SlV) x, us[i]? = some u → xs[i]? = some x → ∃ E, ownL E (T i) w u.1 (Wrap.get (α := α) x)
end
section
variable {P : Program} {N : Nat} {ops : Array Oper} {K : Fr → World → Prop} {F : Fr} {w0 w : World} {Γ : List Ent} {d : Nat} {ty t e : TypeId} {pos : String} {aft : Array Edge} {x y : Operand} {sz by_ : Nat} {zv : Value}
variable {α β : Type} [GoT α] [GoT β] [Wrap β α]
end
end Go.Proofs.YtngegaodnokmbaaDoor
