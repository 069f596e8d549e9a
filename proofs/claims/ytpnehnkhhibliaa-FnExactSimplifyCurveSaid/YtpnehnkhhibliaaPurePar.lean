/- Pure laws of par times: codes, corrected times, and the sorted times of those that have finished. -/
import Derived.Test.YtpnehnkhhibliaaPureB
import Derived.Test.YtpnehnkhhibliaaPureX
import Derived.Test.YtpnehnkhhibliaaPureP
import Derived.Test.YtpnehnkhhibliaaMod3
namespace Go.Proofs.Ytpnehnkhhibliaa
open Go
set_option linter.unusedVariables false
set_option linter.unusedSimpArgs false
end Go.Proofs.Ytpnehnkhhibliaa
