/- Words for strings that are joined. -/
import Derived.Test.YtpnehnkhhibliaaBase9
import Derived.Lib.Join
import Derived.Below
namespace Go.Proofs.Ytpnehnkhhibliaa
open Go Go.RowKit Go.ChangeShapes Go.WideShapes
set_option linter.unusedVariables false
set_option linter.unusedSimpArgs false
def joinB (xs : List ByteArray) (sep : ByteArray) : ByteArray := bts (Lib.join (xs.map (·.data.toList)) sep.data.toList)
def M.strings_Join (xs : List ByteArray) (sep : ByteArray) : Option ByteArray := chk ((joinB xs sep).size ≤ 140737488355328 ∧ xs.length ≤ 140737488355328) (some (joinB xs sep))
end Go.Proofs.Ytpnehnkhhibliaa
