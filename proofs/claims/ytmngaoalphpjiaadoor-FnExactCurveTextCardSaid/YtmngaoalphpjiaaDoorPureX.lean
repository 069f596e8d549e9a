/- Pure laws: the order of a race. -/
import Derived.Test.YtmngaoalphpjiaaDoorPureT
import Derived.Test.YtmngaoalphpjiaaDoorPureSort
namespace Go.Proofs.YtmngaoalphpjiaaDoor
open Go
set_option linter.unusedVariables false
set_option linter.unusedSimpArgs false
end Go.Proofs.YtmngaoalphpjiaaDoor
