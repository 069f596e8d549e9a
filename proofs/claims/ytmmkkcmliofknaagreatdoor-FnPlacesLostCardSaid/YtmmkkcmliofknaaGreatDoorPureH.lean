/- Pure facts of the laws' helpers: sizes, copies, comparisons, numbering. Printed by my generator. -/
import Derived.Test.YtmmkkcmliofknaaGreatDoorKit
import Derived.Test.YtmmkkcmliofknaaGreatDoorMod
namespace Go.Proofs.YtmmkkcmliofknaaGreatDoor
open Go
set_option linter.unusedVariables false
set_option linter.unusedSimpArgs false
end Go.Proofs.YtmmkkcmliofknaaGreatDoor
