/- Pure laws of the speed curves: implied winds and times between curves. -/
import Derived.Test.YtmmkkcmliofknaaGreatDoorPureR
namespace Go.Proofs.YtmmkkcmliofknaaGreatDoor
open Go
set_option linter.unusedVariables false
set_option linter.unusedSimpArgs false
def zR9 (xs : List CurvePoint) (i : Nat) : Bool := match xs[i]? with
  | none => true
  | some x => !decide (0 ≤ x.Wind ∧ x.Wind ≤ 1000) || !decide (1 ≤ x.Pace ∧ x.Pace ≤ 1000000) || (decide (0 < i) && match xs[i - 1]? with | none => true | some y => decide (x.Wind ≤ y.Wind) || decide (y.Pace ≤ x.Pace))
def zP3 (xs : List CurvePoint) : Prop := (2 ≤ xs.length ∧ xs.length ≤ 12) ∧ ∀ i, i < xs.length → zR9 xs i = false
instance (xs : List CurvePoint) : Decidable (zP3 xs) := by unfold zP3; infer_instance
end Go.Proofs.YtmmkkcmliofknaaGreatDoor
