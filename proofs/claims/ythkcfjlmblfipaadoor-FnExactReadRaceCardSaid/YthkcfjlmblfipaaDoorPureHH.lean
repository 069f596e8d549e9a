/- Pure facts of the laws' helpers over rows of rows. Printed by my generator. -/
import Derived.Test.YthkcfjlmblfipaaDoorKit2
import Derived.Test.YthkcfjlmblfipaaDoorPureH
namespace Go.Proofs.YthkcfjlmblfipaaDoor
open Go
set_option linter.unusedVariables false
set_option linter.unusedSimpArgs false
theorem p_eqRace (a : Race) (h : a.Finishes.length ≤ 1048576) : M.laws_eqRace a a = some true := by
  rw [M.laws_eqRace, p_eqFinishS _ h]; rfl
end Go.Proofs.YthkcfjlmblfipaaDoor
