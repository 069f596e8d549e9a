/- Pure facts of the laws' helpers over rows of rows. Printed by my generator. -/
import Derived.Test.YtngegaodnokmbaaDoorKit2
import Derived.Test.YtngegaodnokmbaaDoorPureH
namespace Go.Proofs.YtngegaodnokmbaaDoor
open Go
set_option linter.unusedVariables false
set_option linter.unusedSimpArgs false
end Go.Proofs.YtngegaodnokmbaaDoor
