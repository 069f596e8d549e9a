/- Pure laws: the table of a series. -/
import Derived.Test.YtmngaoalphpjiaaDoorPureU
namespace Go.Proofs.YtmngaoalphpjiaaDoor
open Go
set_option linter.unusedVariables false
set_option linter.unusedSimpArgs false
end Go.Proofs.YtmngaoalphpjiaaDoor
