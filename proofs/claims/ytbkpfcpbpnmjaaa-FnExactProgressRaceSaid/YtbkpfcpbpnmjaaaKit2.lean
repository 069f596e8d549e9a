/- Rules for loops over rows of rows: sums, copies, numbering. -/
import Derived.Test.YtbkpfcpbpnmjaaaKit
namespace Go.Proofs.Ytbkpfcpbpnmjaaa
open Go
set_option linter.unusedVariables false
set_option linter.unusedSimpArgs false
def markLL {β : Type} (f : Int → β → β) (n : β → Nat) : Int → List β → List β
  | _, [] => []
  | k, x :: xs => f k x :: markLL f n (k + n x) xs
@[simp] theorem markLL_length {β : Type} (f : Int → β → β) (n : β → Nat) : ∀ (k : Int) (xs : List β), (markLL f n k xs).length = xs.length
  | _, [] => rfl
  | k, x :: xs => by simp [markLL, markLL_length f n (k + n x) xs]
theorem fold_inv {σ α : Type} (f : σ → α → σ) (Inv : σ → Prop) : ∀ (xs : List α) (s : σ), Inv s → (∀ s x, x ∈ xs → Inv s → Inv (f s x)) → Inv (xs.foldl f s)
  | [], s, h, _ => h
  | x :: xs, s, h, hi => fold_inv f Inv xs (f s x) (hi s x List.mem_cons_self h) (fun s y hy => hi s y (List.mem_cons_of_mem _ hy))
end Go.Proofs.Ytbkpfcpbpnmjaaa
