/- Pure laws: CompareBoats, DecidingRace, RanksOf. -/
import Derived.Test.YtgelmamcinlahaaGreatPureCB
namespace Go.Proofs.YtgelmamcinlahaaGreat
open Go
set_option linter.unusedVariables false
set_option linter.unusedSimpArgs false
end Go.Proofs.YtgelmamcinlahaaGreat
