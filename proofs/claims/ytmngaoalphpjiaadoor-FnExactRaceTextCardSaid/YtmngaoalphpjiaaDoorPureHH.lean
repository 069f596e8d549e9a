/- Pure facts of the laws' helpers over rows of rows. Printed by my generator. -/
import Derived.Test.YtmngaoalphpjiaaDoorKit2
import Derived.Test.YtmngaoalphpjiaaDoorPureH
namespace Go.Proofs.YtmngaoalphpjiaaDoor
open Go
set_option linter.unusedVariables false
set_option linter.unusedSimpArgs false
theorem p_szRace (a : Race) (h : a.Finishes.length ≤ maxLen) (n : Int) (h0 : 0 ≤ n) (hn : n ≤ 1048576) : M.laws_szRace a n = some (if n < a.Finishes.length then -1 else n - a.Finishes.length) := by
  rw [M.laws_szRace, p_szFinishS _ h n h0 hn, bnd_some, ifB_if]
  by_cases h1 : n < a.Finishes.length
  · simp [h1]
  · rw [if_neg h1, if_neg (by simp; omega)]
theorem p_toRace (a : Race) (h : a.Finishes.length ≤ 1048576) : M.laws_toRace a = some a := by
  rw [M.laws_toRace, p_toFinishS _ h]; rfl
theorem p_eqRace (a : Race) (h : a.Finishes.length ≤ 1048576) : M.laws_eqRace a a = some true := by
  rw [M.laws_eqRace, p_eqFinishS _ h]; rfl
end Go.Proofs.YtmngaoalphpjiaaDoor
