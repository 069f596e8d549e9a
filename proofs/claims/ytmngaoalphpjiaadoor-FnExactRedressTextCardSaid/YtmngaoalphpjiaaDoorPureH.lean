/- Pure facts of the laws' helpers: sizes, copies, comparisons, numbering. Printed by my generator. -/
import Derived.Test.YtmngaoalphpjiaaDoorKit
import Derived.Test.YtmngaoalphpjiaaDoorMod
namespace Go.Proofs.YtmngaoalphpjiaaDoor
open Go
set_option linter.unusedVariables false
set_option linter.unusedSimpArgs false
end Go.Proofs.YtmngaoalphpjiaaDoor
