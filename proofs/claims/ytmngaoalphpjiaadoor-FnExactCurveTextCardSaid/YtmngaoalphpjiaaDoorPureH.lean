/- Pure facts of the laws' helpers: sizes, copies, comparisons, numbering. Printed by my generator. -/
import Derived.Test.YtmngaoalphpjiaaDoorKit
import Derived.Test.YtmngaoalphpjiaaDoorMod
namespace Go.Proofs.YtmngaoalphpjiaaDoor
open Go
set_option linter.unusedVariables false
set_option linter.unusedSimpArgs false
theorem p_szCurvePointS (xs : List CurvePoint) (h : xs.length ≤ maxLen) (n : Int) (h0 : 0 ≤ n) (hn : n ≤ 1048576) : M.laws_szCurvePointS xs n = some (if n < xs.length then -1 else n - xs.length) := by
  have hm : maxLen = 9223372036854775807 := rfl
  rw [M.laws_szCurvePointS, w64_of (by omega), ifB_if]
  by_cases h1 : n < xs.length
  · rw [if_pos h1, if_pos (by simp; omega)]
  · rw [if_neg h1, if_neg (by simp; omega)]
theorem p_toCurvePointS (xs : List CurvePoint) (h : xs.length ≤ 1048576) : M.laws_toCurvePointS xs = some xs := by
  have hl : loopF (M.laws_toCurvePointS_l1 xs) (List.replicate xs.length (CurvePoint.mk 0 0), 0) = some (.nxt (xs.map id, (xs.length : Int))) := by
    refine loop_copy xs id _ (by omega) (fun i hi ys hy => ?_) (fun ys => ?_)
    · have h1 : ((i : Int) < (xs.length : Int)) := by omega
      simp [M.laws_toCurvePointS_l1, h1, idx_lt xs i hi, idx_lt ys i (by omega), step64 hi (by omega), M.laws_toCurvePoint]
    · simp [M.laws_toCurvePointS_l1]
  rw [M.laws_toCurvePointS, chk_pos (by omega)]
  simp [hl, M.laws_toCurvePointS_a1]
theorem p_eqCurvePointS (xs : List CurvePoint) (h : xs.length ≤ 1048576) : M.laws_eqCurvePointS xs xs = some true := by
  have hl : loopF (M.laws_eqCurvePointS_l1 xs xs) 0 = some (.nxt (xs.length : Int)) := by
    refine loop_run xs.length (by omega) (fun i => (i : Int)) _ rfl (fun i hi => ?_) ?_
    · have h1 : ((i : Int) < (xs.length : Int)) := by omega
      simp [M.laws_eqCurvePointS_l1, h1, idx_lt xs i hi, step64 hi (by omega), M.laws_eqCurvePoint]
    · simp [M.laws_eqCurvePointS_l1]
  simp [M.laws_eqCurvePointS, hl, M.laws_eqCurvePointS_a1]
end Go.Proofs.YtmngaoalphpjiaaDoor
