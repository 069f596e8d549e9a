/- Pure laws: CompareBoats, DecidingRace, RanksOf. -/
import Derived.Test.YtpobaajdhfoomaaPureCB
namespace Go.Proofs.Ytpobaajdhfoomaa
open Go
set_option linter.unusedVariables false
set_option linter.unusedSimpArgs false
theorem p_boatsCode (t : Table) (rule : List Int) (a b : Int) (h : szT t ≤ 1048576) (hr : rule.length ≤ 1048576) : ∃ c, M.impl_boatsCode t rule a b = some c ∧ M.spec_l28Code t rule a b = some c ∧ (c = 0 → IsTable t ∧ IsRule3 rule ∧ (0 ≤ a ∧ a < t.Boats) ∧ 0 ≤ b ∧ b < t.Boats) := by
  obtain ⟨c1, c2⟩ := p_tableCode t rule a h hr
  obtain ⟨d1, d2⟩ := p_tableCode t rule b h hr
  simp only [M.impl_boatsCode, M.spec_l28Code, c1, c2, d1, d2, bnd_some]
  by_cases h0 : cdT t rule a = 0
  · refine ⟨cdT t rule b, by simp [h0], by simp [h0], fun hz => ?_⟩
    obtain ⟨e1, e2, e3, e4⟩ := cdT_zero t rule a h0
    obtain ⟨_, _, e5, e6⟩ := cdT_zero t rule b hz
    exact ⟨e1, e2, ⟨e3, e4⟩, e5, e6⟩
  · have e : (cdT t rule a != 0) = true := by simpa using h0
    exact ⟨cdT t rule a, by rw [e, ifB_true], by rw [e, ifB_true], fun hz => absurd hz h0⟩
end Go.Proofs.Ytpobaajdhfoomaa
