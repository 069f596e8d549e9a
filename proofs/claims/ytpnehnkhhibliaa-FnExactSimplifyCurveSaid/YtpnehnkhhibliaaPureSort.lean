/- Pure facts of sorting: Go's stable sort of fewer than twenty numbers is insertion from the right. -/
import Derived.Test.YtpnehnkhhibliaaKit
import Derived.Test.YtpnehnkhhibliaaMod2
namespace Go.Proofs.Ytpnehnkhhibliaa
open Go
set_option linter.unusedVariables false
set_option linter.unusedSimpArgs false
end Go.Proofs.Ytpnehnkhhibliaa
