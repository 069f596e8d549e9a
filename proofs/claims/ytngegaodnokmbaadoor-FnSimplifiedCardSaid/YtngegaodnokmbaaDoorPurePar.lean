/- Pure laws of par times: codes, corrected times, and the sorted times of those that have finished. -/
import Derived.Test.YtngegaodnokmbaaDoorPureB
import Derived.Test.YtngegaodnokmbaaDoorPureX
import Derived.Test.YtngegaodnokmbaaDoorPureP
import Derived.Test.YtngegaodnokmbaaDoorMod3
namespace Go.Proofs.YtngegaodnokmbaaDoor
open Go
set_option linter.unusedVariables false
set_option linter.unusedSimpArgs false
end Go.Proofs.YtngegaodnokmbaaDoor
