/- Pure law of the new factors: they stay in their bounds and move the right way. -/
import Derived.Test.YtpnehnkhhibliaaPureS
namespace Go.Proofs.Ytpnehnkhhibliaa
open Go
set_option linter.unusedVariables false
set_option linter.unusedSimpArgs false
end Go.Proofs.Ytpnehnkhhibliaa
