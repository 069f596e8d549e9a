/- Pure facts of the laws' helpers: sizes, copies, comparisons, numbering. Printed by my generator. -/
import Derived.Test.YtmngaoalphpjiaaDoorKit
import Derived.Test.YtmngaoalphpjiaaDoorMod
namespace Go.Proofs.YtmngaoalphpjiaaDoor
open Go
set_option linter.unusedVariables false
set_option linter.unusedSimpArgs false
theorem p_szInt64S (xs : List Int) (h : xs.length ≤ maxLen) (n : Int) (h0 : 0 ≤ n) (hn : n ≤ 1048576) : M.laws_szInt64S xs n = some (if n < xs.length then -1 else n - xs.length) := by
  have hm : maxLen = 9223372036854775807 := rfl
  rw [M.laws_szInt64S, w64_of (by omega), ifB_if]
  by_cases h1 : n < xs.length
  · rw [if_pos h1, if_pos (by simp; omega)]
  · rw [if_neg h1, if_neg (by simp; omega)]
theorem p_toInt64S (xs : List Int) (h : xs.length ≤ 1048576) : M.laws_toInt64S xs = some xs := by
  have hl : loopF (M.laws_toInt64S_l1 xs) (List.replicate xs.length (0), 0) = some (.nxt (xs.map id, (xs.length : Int))) := by
    refine loop_copy xs id _ (by omega) (fun i hi ys hy => ?_) (fun ys => ?_)
    · have h1 : ((i : Int) < (xs.length : Int)) := by omega
      simp [M.laws_toInt64S_l1, h1, idx_lt xs i hi, idx_lt ys i (by omega), step64 hi (by omega)]
    · simp [M.laws_toInt64S_l1]
  rw [M.laws_toInt64S, chk_pos (by omega)]
  simp [hl, M.laws_toInt64S_a1]
theorem p_eqInt64S (xs : List Int) (h : xs.length ≤ 1048576) : M.laws_eqInt64S xs xs = some true := by
  have hl : loopF (M.laws_eqInt64S_l1 xs xs) 0 = some (.nxt (xs.length : Int)) := by
    refine loop_run xs.length (by omega) (fun i => (i : Int)) _ rfl (fun i hi => ?_) ?_
    · have h1 : ((i : Int) < (xs.length : Int)) := by omega
      simp [M.laws_eqInt64S_l1, h1, idx_lt xs i hi, step64 hi (by omega)]
    · simp [M.laws_eqInt64S_l1]
  simp [M.laws_eqInt64S, hl, M.laws_eqInt64S_a1]
end Go.Proofs.YtmngaoalphpjiaaDoor
