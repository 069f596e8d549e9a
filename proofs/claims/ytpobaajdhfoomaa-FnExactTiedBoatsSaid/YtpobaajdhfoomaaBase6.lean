/- More of my proof rules: a row's name kept while the row is changed. -/
import Derived.Test.YtpobaajdhfoomaaBase5
namespace Go.Proofs.Ytpobaajdhfoomaa
open Go Go.RowKit Go.ChangeShapes Go.WideShapes
set_option linter.unusedVariables false
set_option linter.unusedSimpArgs false
set_option linter.unusedSectionVars false
theorem lA {α : Type} (a : α) (as bs : List α) : (a :: as) ++ bs = a :: (as ++ bs) := rfl
theorem lB {α : Type} (as : List α) : [] ++ as = as := rfl
theorem lC {α : Type} (a b : α) (as : List α) : (a :: as).set 0 b = b :: as := rfl
theorem lD {α : Type} (a b : α) (as : List α) (n : Nat) : (a :: as).set (n + 1) b = a :: as.set n b := rfl
theorem IxAddr.inj {v : Value} {sz : Nat} {i : Int} {b q b' q' : Nat} (h : IxAddr v sz i b q) (h' : IxAddr v sz i b' q') : b = b' ∧ q = q' := by
  obtain ⟨o, n, cap, e1, _, _, rfl⟩ := h
  obtain ⟨o', n', cap', e2, _, _, rfl⟩ := h'
  rw [e1] at e2
  injection e2 with e2
  injection e2 with e2
  injection e2 with e3 e4
  exact ⟨e3, by rw [e4]⟩
section
variable {α β : Type} [GoT α] [GoT β] [Wrap β α] {w0 w w' : World} {Γ : List Ent}
end
end Go.Proofs.Ytpobaajdhfoomaa
