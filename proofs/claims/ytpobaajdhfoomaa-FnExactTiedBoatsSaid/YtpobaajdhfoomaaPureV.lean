/- Pure laws: the table of a series. -/
import Derived.Test.YtpobaajdhfoomaaPureU
namespace Go.Proofs.Ytpobaajdhfoomaa
open Go
set_option linter.unusedVariables false
set_option linter.unusedSimpArgs false
end Go.Proofs.Ytpobaajdhfoomaa
