/- Pure facts of the laws' helpers over rows of rows. Printed by my generator. -/
import Derived.Test.YthkcfjlmblfipaaDoorKit2
import Derived.Test.YthkcfjlmblfipaaDoorPureH
namespace Go.Proofs.YthkcfjlmblfipaaDoor
open Go
set_option linter.unusedVariables false
set_option linter.unusedSimpArgs false
end Go.Proofs.YthkcfjlmblfipaaDoor
