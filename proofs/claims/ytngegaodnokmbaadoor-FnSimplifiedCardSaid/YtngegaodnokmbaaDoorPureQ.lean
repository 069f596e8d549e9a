/- Pure laws: series and penalties. -/
import Derived.Test.YtngegaodnokmbaaDoorPureR
import Derived.Test.YtngegaodnokmbaaDoorPureHH
import Derived.Test.YtngegaodnokmbaaDoorMod2
namespace Go.Proofs.YtngegaodnokmbaaDoor
open Go
set_option linter.unusedVariables false
set_option linter.unusedSimpArgs false
def badFin (xs : List Finish) (i : Nat) : Bool := match xs[i]? with
  | none => true
  | some x => x.Boat != (i : Int) || !decide (0 ≤ x.Code ∧ x.Code ≤ 9) || (if x.Code = 0 then !decide (1 ≤ x.Time ∧ x.Time ≤ 1000000000) else x.Time != 0)
def OkRace (n : Int) (xs : List Finish) : Prop := (xs.length : Int) = n ∧ ∀ i, i < xs.length → badFin xs i = false
instance (n : Int) (xs : List Finish) : Decidable (OkRace n xs) := by unfold OkRace; infer_instance
def IsSeries (a : Series) : Prop := (1 ≤ a.Boats ∧ a.Boats ≤ 16) ∧ (0 ≤ a.Scheme ∧ a.Scheme ≤ 1) ∧ a.Races.length ≤ 12 ∧ ∀ i (h : i < a.Races.length), OkRace a.Boats a.Races[i].Finishes
instance (a : Series) : Decidable (IsSeries a) := by unfold IsSeries; infer_instance
def OkPen (a : Series) (x : Penalty) : Prop := (0 ≤ x.Race ∧ x.Race ≤ (a.Races.length : Int) - 1) ∧ (0 ≤ x.Boat ∧ x.Boat ≤ a.Boats - 1) ∧
  ((x.Kind = 1 ∧ (x.Value = 6 ∨ x.Value = 7 ∨ x.Value = 5)) ∨ (x.Kind = 2 ∧ 1 ≤ x.Value ∧ x.Value ≤ 1000000000) ∨ (x.Kind = 3 ∧ 1 ≤ x.Value ∧ x.Value ≤ 100))
instance (a : Series) (x : Penalty) : Decidable (OkPen a x) := by unfold OkPen; infer_instance
def okVal (k v : Int) : Bool := if k = 1 then decide (v = 6 ∨ v = 7 ∨ v = 5) else if k = 2 then decide (1 ≤ v ∧ v ≤ 1000000000) else if k = 3 then decide (1 ≤ v ∧ v ≤ 100) else false
def badPen (a : Series) (xs : List Penalty) (i : Nat) : Bool := match xs[i]? with
  | none => true
  | some x => !decide (0 ≤ x.Race ∧ x.Race ≤ (a.Races.length : Int) - 1) || !decide (0 ≤ x.Boat ∧ x.Boat ≤ a.Boats - 1) || !okVal x.Kind x.Value
def ArePens (a : Series) (xs : List Penalty) : Prop := xs.length ≤ 60 ∧ ∀ i, i < xs.length → badPen a xs i = false
instance (a : Series) (xs : List Penalty) : Decidable (ArePens a xs) := by unfold ArePens; infer_instance
end Go.Proofs.YtngegaodnokmbaaDoor
