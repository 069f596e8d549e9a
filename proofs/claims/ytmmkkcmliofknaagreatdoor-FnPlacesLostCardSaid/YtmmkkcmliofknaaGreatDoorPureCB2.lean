/- Pure laws: CompareBoats, DecidingRace, RanksOf. -/
import Derived.Test.YtmmkkcmliofknaaGreatDoorPureCB
namespace Go.Proofs.YtmmkkcmliofknaaGreatDoor
open Go
set_option linter.unusedVariables false
set_option linter.unusedSimpArgs false
end Go.Proofs.YtmmkkcmliofknaaGreatDoor
