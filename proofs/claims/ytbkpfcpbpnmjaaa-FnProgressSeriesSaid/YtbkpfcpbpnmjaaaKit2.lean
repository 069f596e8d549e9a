/- Rules for loops over rows of rows: sums, copies, numbering. -/
import Derived.Test.YtbkpfcpbpnmjaaaKit
namespace Go.Proofs.Ytbkpfcpbpnmjaaa
open Go
set_option linter.unusedVariables false
set_option linter.unusedSimpArgs false
def markLL {β : Type} (f : Int → β → β) (n : β → Nat) : Int → List β → List β
  | _, [] => []
  | k, x :: xs => f k x :: markLL f n (k + n x) xs
@[simp] theorem markLL_length {β : Type} (f : Int → β → β) (n : β → Nat) : ∀ (k : Int) (xs : List β), (markLL f n k xs).length = xs.length
  | _, [] => rfl
  | k, x :: xs => by simp [markLL, markLL_length f n (k + n x) xs]
theorem fold_inv {σ α : Type} (f : σ → α → σ) (Inv : σ → Prop) : ∀ (xs : List α) (s : σ), Inv s → (∀ s x, x ∈ xs → Inv s → Inv (f s x)) → Inv (xs.foldl f s)
  | [], s, h, _ => h
  | x :: xs, s, h, hi => fold_inv f Inv xs (f s x) (hi s x List.mem_cons_self h) (fun s y hy => hi s y (List.mem_cons_of_mem _ hy))
theorem loop_fold {ρ σ α : Type} {body : σ × Int → Option (Stp ρ (σ × Int))} (xs : List α) (f : σ → α → σ) (Inv : σ → Prop) (s0 : σ) (h0 : Inv s0) (hx : xs.length < 4611686018427387904) (hi : ∀ s x, x ∈ xs → Inv s → Inv (f s x))
    (step : ∀ (i : Nat) (h : i < xs.length) (s : σ), Inv s → body (s, (i : Int)) = some (.cont (f s xs[i], ((i + 1 : Nat) : Int))))
    (last : ∀ s, Inv s → body (s, (xs.length : Int)) = some (.brk (s, (xs.length : Int)))) : loopF body (s0, 0) = some (.nxt (xs.foldl f s0, (xs.length : Int))) ∧ Inv (xs.foldl f s0) := by
  have hall : ∀ i, Inv ((xs.take i).foldl f s0) := fun i => fold_inv f Inv (xs.take i) s0 h0 (fun s x hx hs => hi s x (List.mem_of_mem_take hx) hs)
  refine ⟨loop_run (body := body) xs.length (by omega) (fun i => ((xs.take i).foldl f s0, (i : Int))) _ (by simp) (fun i hi' => ?_) ?_, fold_inv f Inv xs s0 h0 hi⟩
  · rw [step i hi' _ (hall i), List.take_succ_eq_append_getElem hi', List.foldl_append]
    rfl
  · have := hall xs.length
    rw [List.take_length] at this ⊢
    exact last _ this
end Go.Proofs.Ytbkpfcpbpnmjaaa
