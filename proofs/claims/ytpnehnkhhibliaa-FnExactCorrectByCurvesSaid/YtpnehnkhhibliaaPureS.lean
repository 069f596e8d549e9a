/- Pure facts of the drawing sources: every draw answers, within its bound. -/
import Derived.Test.YtpnehnkhhibliaaPureR
namespace Go.Proofs.Ytpnehnkhhibliaa
open Go
set_option linter.unusedVariables false
set_option linter.unusedSimpArgs false
theorem tm (n d : Int) (h : 0 ≤ n) : n.tmod d = n % d := by rw [Int.tmod_eq_emod]; simp [h]
theorem nxt {α β : Type} {m : Option α} {R : α → Prop} (hm : ∃ x, m = some x ∧ R x) {K : α → Option β} {Q : β → Prop} (hk : ∀ x, R x → ∃ b, K x = some b ∧ Q b) : ∃ b, bnd m K = some b ∧ Q b := by
  obtain ⟨x, rfl, hr⟩ := hm
  exact hk x hr
end Go.Proofs.Ytpnehnkhhibliaa
