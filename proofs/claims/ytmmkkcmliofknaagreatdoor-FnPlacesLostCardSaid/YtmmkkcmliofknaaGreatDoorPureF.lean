/- Pure laws over drawn races and series: tables, points, orders. -/
import Derived.Test.YtmmkkcmliofknaaGreatDoorPureD
import Derived.Test.YtmmkkcmliofknaaGreatDoorPureX
namespace Go.Proofs.YtmmkkcmliofknaaGreatDoor
open Go
set_option linter.unusedVariables false
set_option linter.unusedSimpArgs false
theorem zQt (xs : List Finish) (g : Finish → Int) (n m : Int) (hn : (xs.length : Int) = n) (h : ∀ f ∈ xs, 0 ≤ g f ∧ g f ≤ m) : zIR (xs.map g) n m := by
  refine ⟨by simpa using hn, fun j hj => ?_⟩
  have hj' : j < xs.length := by simpa using hj
  unfold zLY
  simp only [List.getElem?_map, List.getElem?_eq_getElem hj', Option.map_some]
  simpa using h _ (List.getElem_mem hj')
end Go.Proofs.YtmmkkcmliofknaaGreatDoor
