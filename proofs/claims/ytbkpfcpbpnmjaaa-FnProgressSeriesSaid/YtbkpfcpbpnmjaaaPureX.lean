/- Pure laws: the order of a race. -/
import Derived.Test.YtbkpfcpbpnmjaaaPureT
import Derived.Test.YtbkpfcpbpnmjaaaPureSort
namespace Go.Proofs.Ytbkpfcpbpnmjaaa
open Go
set_option linter.unusedVariables false
set_option linter.unusedSimpArgs false
theorem ins_take {α : Type} (lt : α → α → Bool) (ra : List α) (x : α) (t : Nat) (ht : (ra.takeWhile (lt x)).length = t) : ra.reverse.take (ra.length - t) ++ [x] ++ ra.reverse.drop (ra.length - t) = (insB lt ra x).reverse := by
  have hk := tw_take (lt x) ra
  have hle := tw_le (lt x) ra
  rw [ht] at hk hle
  unfold insB
  rw [hk.1, hk.2, List.take_reverse, List.drop_reverse]
  have e : ra.length - (ra.length - t) = t := by omega
  rw [e]
  simp
end Go.Proofs.Ytbkpfcpbpnmjaaa
