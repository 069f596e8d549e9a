/- Pure laws: the order of a race. -/
import Derived.Test.YtpnehnkhhibliaaPureT
import Derived.Test.YtpnehnkhhibliaaPureSort
namespace Go.Proofs.Ytpnehnkhhibliaa
open Go
set_option linter.unusedVariables false
set_option linter.unusedSimpArgs false
end Go.Proofs.Ytpnehnkhhibliaa
