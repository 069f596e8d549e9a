/- Pure facts of the laws' helpers over rows of rows. Printed by my generator. -/
import Derived.Test.YtmmkkcmliofknaaGreatDoorKit2
import Derived.Test.YtmmkkcmliofknaaGreatDoorPureH
namespace Go.Proofs.YtmmkkcmliofknaaGreatDoor
open Go
set_option linter.unusedVariables false
set_option linter.unusedSimpArgs false
end Go.Proofs.YtmmkkcmliofknaaGreatDoor
