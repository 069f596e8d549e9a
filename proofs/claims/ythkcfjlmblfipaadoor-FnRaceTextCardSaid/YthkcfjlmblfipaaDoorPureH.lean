/- Pure facts of the laws' helpers: sizes, copies, comparisons, numbering. Printed by my generator. -/
import Derived.Test.YthkcfjlmblfipaaDoorKit
import Derived.Test.YthkcfjlmblfipaaDoorMod
namespace Go.Proofs.YthkcfjlmblfipaaDoor
open Go
set_option linter.unusedVariables false
set_option linter.unusedSimpArgs false
end Go.Proofs.YthkcfjlmblfipaaDoor
