/- More models of the functions, printed by my generator. -/
import Derived.Test.YtmmkkcmliofknaaGreatDoorMod2
namespace Go.Proofs.YtmmkkcmliofknaaGreatDoor
open Go Go.RowKit Go.ChangeShapes Go.WideShapes
set_option linter.unusedVariables false
set_option linter.unusedSimpArgs false

end Go.Proofs.YtmmkkcmliofknaaGreatDoor
