/- Pure laws: the order of a race. -/
import Derived.Test.YtngegaodnokmbaaDoorPureT
import Derived.Test.YtngegaodnokmbaaDoorPureSort
namespace Go.Proofs.YtngegaodnokmbaaDoor
open Go
set_option linter.unusedVariables false
set_option linter.unusedSimpArgs false
end Go.Proofs.YtngegaodnokmbaaDoor
