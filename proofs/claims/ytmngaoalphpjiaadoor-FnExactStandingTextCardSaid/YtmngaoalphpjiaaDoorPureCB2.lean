/- Pure laws: CompareBoats, DecidingRace, RanksOf. -/
import Derived.Test.YtmngaoalphpjiaaDoorPureCB
namespace Go.Proofs.YtmngaoalphpjiaaDoor
open Go
set_option linter.unusedVariables false
set_option linter.unusedSimpArgs false
end Go.Proofs.YtmngaoalphpjiaaDoor
