/- Pure laws: the standing, the lead. -/
import Derived.Test.YtpobaajdhfoomaaPureCB2
namespace Go.Proofs.Ytpobaajdhfoomaa
open Go
set_option linter.unusedVariables false
set_option linter.unusedSimpArgs false
set_option linter.unusedSectionVars false
theorem sg_anti (a b : Int) : sg a b = - sg b a := by unfold sg; split <;> split <;> omega
section
variable (t : Table) (rule : List Int) (ht : IsTable t)
include ht
end
end Go.Proofs.Ytpobaajdhfoomaa
