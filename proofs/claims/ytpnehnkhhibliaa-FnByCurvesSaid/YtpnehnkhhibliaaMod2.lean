/- More models of the functions, printed by my generator. -/
import Derived.Test.YtpnehnkhhibliaaMod
import Derived.Test.YtpnehnkhhibliaaBase5
namespace Go.Proofs.Ytpnehnkhhibliaa
open Go Go.RowKit Go.ChangeShapes Go.WideShapes
set_option linter.unusedVariables false
set_option linter.unusedSimpArgs false

end Go.Proofs.Ytpnehnkhhibliaa
