/- Pure facts of the laws' helpers over rows of rows. Printed by my generator. -/
import Derived.Test.YtpobaajdhfoomaaKit2
import Derived.Test.YtpobaajdhfoomaaPureH
namespace Go.Proofs.Ytpobaajdhfoomaa
open Go
set_option linter.unusedVariables false
set_option linter.unusedSimpArgs false
end Go.Proofs.Ytpobaajdhfoomaa
