/- Rules for loops over rows of rows: sums, copies, numbering. -/
import Derived.Test.YtngegaodnokmbaaDoorKit
namespace Go.Proofs.YtngegaodnokmbaaDoor
open Go
set_option linter.unusedVariables false
set_option linter.unusedSimpArgs false
def markLL {β : Type} (f : Int → β → β) (n : β → Nat) : Int → List β → List β
  | _, [] => []
  | k, x :: xs => f k x :: markLL f n (k + n x) xs
@[simp] theorem markLL_length {β : Type} (f : Int → β → β) (n : β → Nat) : ∀ (k : Int) (xs : List β), (markLL f n k xs).length = xs.length
  | _, [] => rfl
  | k, x :: xs => by simp [markLL, markLL_length f n (k + n x) xs]
end Go.Proofs.YtngegaodnokmbaaDoor
