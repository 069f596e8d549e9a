/- Words for strings that are joined. -/
import Derived.Test.YtmmkkcmliofknaaGreatDoorBase9
import Derived.Lib.Join
import Derived.Below
namespace Go.Proofs.YtmmkkcmliofknaaGreatDoor
open Go Go.RowKit Go.ChangeShapes Go.WideShapes
set_option linter.unusedVariables false
set_option linter.unusedSimpArgs false
def zSV (xs : List ByteArray) (sep : ByteArray) : ByteArray := bts (Lib.join (xs.map (·.data.toList)) sep.data.toList)
def zQN (xs : List ByteArray) (sep : ByteArray) : Option ByteArray := chk ((zSV xs sep).size ≤ 140737488355328 ∧ xs.length ≤ 140737488355328) (some (zSV xs sep))
end Go.Proofs.YtmmkkcmliofknaaGreatDoor
