/- Pure laws: tables. -/
import Derived.Test.YthkcfjlmblfipaaDoorPureT
namespace Go.Proofs.YthkcfjlmblfipaaDoor
open Go
set_option linter.unusedVariables false
set_option linter.unusedSimpArgs false
def badN (m : Int) (xs : List Int) (j : Nat) : Bool := match xs[j]? with
  | none => true
  | some x => !decide (0 ≤ x ∧ x ≤ m)
def OkRow (xs : List Int) (n m : Int) : Prop := (xs.length : Int) = n ∧ ∀ j, j < xs.length → badN m xs j = false
instance (xs : List Int) (n m : Int) : Decidable (OkRow xs n m) := by unfold OkRow; infer_instance
def badT (a : Table) (i : Nat) : Bool := match a.Points[i]?, a.Codes[i]? with
  | some p, some c => !decide (OkRow p a.Boats 10000) || !decide (OkRow c a.Boats 9)
  | _, _ => true
def IsTable (a : Table) : Prop := (1 ≤ a.Boats ∧ a.Boats ≤ 16) ∧ a.Points.length ≤ 12 ∧ a.Codes.length = a.Points.length ∧ ∀ i, i < a.Points.length → badT a i = false
instance (a : Table) : Decidable (IsTable a) := by unfold IsTable; infer_instance
end Go.Proofs.YthkcfjlmblfipaaDoor
