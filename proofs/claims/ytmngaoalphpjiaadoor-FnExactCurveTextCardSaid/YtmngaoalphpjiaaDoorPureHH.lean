/- Pure facts of the laws' helpers over rows of rows. Printed by my generator. -/
import Derived.Test.YtmngaoalphpjiaaDoorKit2
import Derived.Test.YtmngaoalphpjiaaDoorPureH
namespace Go.Proofs.YtmngaoalphpjiaaDoor
open Go
set_option linter.unusedVariables false
set_option linter.unusedSimpArgs false
end Go.Proofs.YtmngaoalphpjiaaDoor
