/- Pure facts of the laws' helpers: sizes, copies, comparisons, numbering. Printed by my generator. -/
import Derived.Test.YtngegaodnokmbaaDoorKit
import Derived.Test.YtngegaodnokmbaaDoorMod
namespace Go.Proofs.YtngegaodnokmbaaDoor
open Go
set_option linter.unusedVariables false
set_option linter.unusedSimpArgs false
end Go.Proofs.YtngegaodnokmbaaDoor
