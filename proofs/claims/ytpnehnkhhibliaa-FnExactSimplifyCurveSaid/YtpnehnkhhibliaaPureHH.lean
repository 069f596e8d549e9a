/- Pure facts of the laws' helpers over rows of rows. Printed by my generator. -/
import Derived.Test.YtpnehnkhhibliaaKit2
import Derived.Test.YtpnehnkhhibliaaPureH
namespace Go.Proofs.Ytpnehnkhhibliaa
open Go
set_option linter.unusedVariables false
set_option linter.unusedSimpArgs false
end Go.Proofs.Ytpnehnkhhibliaa
