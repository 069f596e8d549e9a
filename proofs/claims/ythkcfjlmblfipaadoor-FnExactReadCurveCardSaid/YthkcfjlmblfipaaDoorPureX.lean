/- Pure laws: the order of a race. -/
import Derived.Test.YthkcfjlmblfipaaDoorPureT
import Derived.Test.YthkcfjlmblfipaaDoorPureSort
namespace Go.Proofs.YthkcfjlmblfipaaDoor
open Go
set_option linter.unusedVariables false
set_option linter.unusedSimpArgs false
end Go.Proofs.YthkcfjlmblfipaaDoor
