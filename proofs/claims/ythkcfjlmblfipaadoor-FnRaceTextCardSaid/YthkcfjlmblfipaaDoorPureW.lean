/- Pure laws of the speed curves: implied winds and times between curves. -/
import Derived.Test.YthkcfjlmblfipaaDoorPureR
namespace Go.Proofs.YthkcfjlmblfipaaDoor
open Go
set_option linter.unusedVariables false
set_option linter.unusedSimpArgs false
def badPoint (xs : List CurvePoint) (i : Nat) : Bool := match xs[i]? with
  | none => true
  | some x => !decide (0 ≤ x.Wind ∧ x.Wind ≤ 1000) || !decide (1 ≤ x.Pace ∧ x.Pace ≤ 1000000) || (decide (0 < i) && match xs[i - 1]? with | none => true | some y => decide (x.Wind ≤ y.Wind) || decide (y.Pace ≤ x.Pace))
def IsCurve (xs : List CurvePoint) : Prop := (2 ≤ xs.length ∧ xs.length ≤ 12) ∧ ∀ i, i < xs.length → badPoint xs i = false
instance (xs : List CurvePoint) : Decidable (IsCurve xs) := by unfold IsCurve; infer_instance
end Go.Proofs.YthkcfjlmblfipaaDoor
