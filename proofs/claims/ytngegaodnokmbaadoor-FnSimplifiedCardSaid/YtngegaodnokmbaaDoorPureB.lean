/- Pure law of the bounded boats. -/
import Derived.Test.YtngegaodnokmbaaDoorPureR
namespace Go.Proofs.YtngegaodnokmbaaDoor
open Go
set_option linter.unusedVariables false
set_option linter.unusedSimpArgs false
def badRating (xs : List Rating) (i : Nat) : Bool := match xs[i]? with | none => true | some x => x.Boat != (i : Int) || !decide (1 ≤ x.Value ∧ x.Value ≤ 3000)
def IsRatings (n : Int) (xs : List Rating) : Prop := (1 ≤ n ∧ n ≤ 16) ∧ (xs.length : Int) = n ∧ ∀ i, i < xs.length → badRating xs i = false
instance (n : Int) (xs : List Rating) : Decidable (IsRatings n xs) := by unfold IsRatings; infer_instance
end Go.Proofs.YtngegaodnokmbaaDoor
