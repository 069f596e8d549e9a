/- Pure facts of sorting: Go's stable sort of fewer than twenty numbers is insertion from the right. -/
import Derived.Test.YtngegaodnokmbaaDoorKit
import Derived.Test.YtngegaodnokmbaaDoorMod2
namespace Go.Proofs.YtngegaodnokmbaaDoor
open Go
set_option linter.unusedVariables false
set_option linter.unusedSimpArgs false
end Go.Proofs.YtngegaodnokmbaaDoor
