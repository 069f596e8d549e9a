/- Pure laws: the table of a series. -/
import Derived.Test.YthkcfjlmblfipaaDoorPureU
namespace Go.Proofs.YthkcfjlmblfipaaDoor
open Go
set_option linter.unusedVariables false
set_option linter.unusedSimpArgs false
end Go.Proofs.YthkcfjlmblfipaaDoor
