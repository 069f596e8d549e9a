/- Pure laws: what is drawn is drawn without a fault, and is small. -/
import Derived.Test.YtgelmamcinlahaaGreatPureS
import Derived.Test.YtgelmamcinlahaaGreatPureV
namespace Go.Proofs.YtgelmamcinlahaaGreat
open Go
set_option linter.unusedVariables false
set_option linter.unusedSimpArgs false
end Go.Proofs.YtgelmamcinlahaaGreat
