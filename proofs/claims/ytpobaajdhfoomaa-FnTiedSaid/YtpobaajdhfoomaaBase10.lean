/- Words for strings that are joined. -/
import Derived.Test.YtpobaajdhfoomaaBase9
import Derived.Lib.Join
import Derived.Below
namespace Go.Proofs.Ytpobaajdhfoomaa
open Go Go.RowKit Go.ChangeShapes Go.WideShapes
set_option linter.unusedVariables false
set_option linter.unusedSimpArgs false
end Go.Proofs.Ytpobaajdhfoomaa
