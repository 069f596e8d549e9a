/- Pure facts of the laws' helpers: sizes, copies, comparisons, numbering. Printed by my generator. -/
import Derived.Test.YtbkpfcpbpnmjaaaKit
import Derived.Test.YtbkpfcpbpnmjaaaMod
namespace Go.Proofs.Ytbkpfcpbpnmjaaa
open Go
set_option linter.unusedVariables false
set_option linter.unusedSimpArgs false
end Go.Proofs.Ytbkpfcpbpnmjaaa
