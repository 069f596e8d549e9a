/- Pure laws of par factors and of a race's new factors. -/
import Derived.Test.YtngegaodnokmbaaDoorPurePar
namespace Go.Proofs.YtngegaodnokmbaaDoor
open Go
set_option linter.unusedVariables false
set_option linter.unusedSimpArgs false
end Go.Proofs.YtngegaodnokmbaaDoor
