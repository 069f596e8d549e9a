/- Pure facts of the laws' helpers over rows of rows. Printed by my generator. -/
import Derived.Test.YtbkpfcpbpnmjaaaKit2
import Derived.Test.YtbkpfcpbpnmjaaaPureH
namespace Go.Proofs.Ytbkpfcpbpnmjaaa
open Go
set_option linter.unusedVariables false
set_option linter.unusedSimpArgs false
end Go.Proofs.Ytbkpfcpbpnmjaaa
