/- Words for shifts and bits. -/
import Derived.Test.YtpobaajdhfoomaaBase12
namespace Go.Proofs.Ytpobaajdhfoomaa
open Go Go.RowKit Go.ChangeShapes Go.WideShapes
set_option linter.unusedVariables false
set_option linter.unusedSimpArgs false
variable {P : Program} {F : Fr} {t u ty : TypeId} {w : World} {x y : Operand}
end Go.Proofs.Ytpobaajdhfoomaa
