/- More models of the functions, printed by my generator. -/
import Derived.Test.YtbkpfcpbpnmjaaaMod
import Derived.Test.YtbkpfcpbpnmjaaaBase5
namespace Go.Proofs.Ytbkpfcpbpnmjaaa
open Go Go.RowKit Go.ChangeShapes Go.WideShapes
set_option linter.unusedVariables false
set_option linter.unusedSimpArgs false

end Go.Proofs.Ytbkpfcpbpnmjaaa
