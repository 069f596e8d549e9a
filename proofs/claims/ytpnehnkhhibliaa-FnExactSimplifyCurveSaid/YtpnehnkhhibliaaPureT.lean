/- Pure laws: places, points and tables. -/
import Derived.Test.YtpnehnkhhibliaaPureQ
namespace Go.Proofs.Ytpnehnkhhibliaa
open Go
set_option linter.unusedVariables false
set_option linter.unusedSimpArgs false
def fill {α : Type} (L : List α) (z : α) (i : Nat) : List α := L.take i ++ List.replicate (L.length - i) z
end Go.Proofs.Ytpnehnkhhibliaa
