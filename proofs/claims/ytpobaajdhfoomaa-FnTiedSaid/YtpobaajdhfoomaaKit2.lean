/- Rules for loops over rows of rows: sums, copies, numbering. -/
import Derived.Test.YtpobaajdhfoomaaKit
namespace Go.Proofs.Ytpobaajdhfoomaa
open Go
set_option linter.unusedVariables false
set_option linter.unusedSimpArgs false
def tot {β : Type} (n : β → Nat) (xs : List β) : Nat := (xs.map n).sum
theorem tot_mem {β : Type} (n : β → Nat) (xs : List β) (x : β) (h : x ∈ xs) : n x ≤ tot n xs := by
  induction xs with
  | nil => cases h
  | cons y ys ih =>
    simp only [tot, List.map_cons, List.sum_cons]
    rcases List.mem_cons.1 h with rfl | h
    · omega
    · have := ih h; simp only [tot] at this; omega
def markLL {β : Type} (f : Int → β → β) (n : β → Nat) : Int → List β → List β
  | _, [] => []
  | k, x :: xs => f k x :: markLL f n (k + n x) xs
@[simp] theorem markLL_length {β : Type} (f : Int → β → β) (n : β → Nat) : ∀ (k : Int) (xs : List β), (markLL f n k xs).length = xs.length
  | _, [] => rfl
  | k, x :: xs => by simp [markLL, markLL_length f n (k + n x) xs]
end Go.Proofs.Ytpobaajdhfoomaa
