/- Pure facts of the laws' helpers: sizes, copies, comparisons, numbering. Printed by my generator. -/
import Derived.Test.YtpnehnkhhibliaaKit
import Derived.Test.YtpnehnkhhibliaaMod
namespace Go.Proofs.Ytpnehnkhhibliaa
open Go
set_option linter.unusedVariables false
set_option linter.unusedSimpArgs false
theorem p_szCurvePointS (xs : List CurvePoint) (h : xs.length ≤ maxLen) (n : Int) (h0 : 0 ≤ n) (hn : n ≤ 1048576) : M.laws_szCurvePointS xs n = some (if n < xs.length then -1 else n - xs.length) := by
  have hm : maxLen = 9223372036854775807 := rfl
  rw [M.laws_szCurvePointS, w64_of (by omega), ifB_if]
  by_cases h1 : n < xs.length
  · rw [if_pos h1, if_pos (by simp; omega)]
  · rw [if_neg h1, if_neg (by simp; omega)]
theorem p_toCurvePointS (xs : List CurvePoint) (h : xs.length ≤ 1048576) : M.laws_toCurvePointS xs = some xs := by
  have hl : loopF (M.laws_toCurvePointS_l1 xs) (List.replicate xs.length (CurvePoint.mk 0 0), 0) = some (.nxt (xs.map id, (xs.length : Int))) := by
    refine loop_copy xs id _ (by omega) (fun i hi ys hy => ?_) (fun ys => ?_)
    · have h1 : ((i : Int) < (xs.length : Int)) := by omega
      simp [M.laws_toCurvePointS_l1, h1, idx_lt xs i hi, idx_lt ys i (by omega), step64 hi (by omega), M.laws_toCurvePoint]
    · simp [M.laws_toCurvePointS_l1]
  rw [M.laws_toCurvePointS, chk_pos (by omega)]
  simp [hl, M.laws_toCurvePointS_a1]
theorem p_eqCurvePointS (xs : List CurvePoint) (h : xs.length ≤ 1048576) : M.laws_eqCurvePointS xs xs = some true := by
  have hl : loopF (M.laws_eqCurvePointS_l1 xs xs) 0 = some (.nxt (xs.length : Int)) := by
    refine loop_run xs.length (by omega) (fun i => (i : Int)) _ rfl (fun i hi => ?_) ?_
    · have h1 : ((i : Int) < (xs.length : Int)) := by omega
      simp [M.laws_eqCurvePointS_l1, h1, idx_lt xs i hi, step64 hi (by omega), M.laws_eqCurvePoint]
    · simp [M.laws_eqCurvePointS_l1]
  simp [M.laws_eqCurvePointS, hl, M.laws_eqCurvePointS_a1]
def gCurvePoint : Int → CurvePoint → CurvePoint := fun k _ => CurvePoint.mk k (k + 1)
theorem p_markCurvePointS (xs : List CurvePoint) (k : Int) (h : xs.length ≤ 1048576) (h0 : 0 ≤ k) (hk : k ≤ 1073741824) : M.laws_markCurvePointS xs k = some (k + ((2 * xs.length : Nat) : Int), markL gCurvePoint 2 k xs) := by
  have hl : loopF (M.laws_markCurvePointS_l1) (xs, k, 0) = some (.nxt (markL gCurvePoint 2 k xs, k + ((2 * xs.length : Nat) : Int), (xs.length : Int))) := by
    refine loop_mark 2 gCurvePoint xs k (by omega) h0 (by omega) (fun i ys k hi hy hk0 hk1 => ?_) (fun ys k hy => ?_)
    · have h1 : ((i : Int) < (ys.length : Int)) := by omega
      have h2 := step64 hi (by omega)
      have w0 : w64 (k + 1) = k + 1 := w64_of (by omega)
      have w1 : w64 (k + 1 + 1) = k + 2 := by rw [w64_of (by omega)]; omega
      simp [M.laws_markCurvePointS_l1, h1, idx_lt ys i hi, set_at, hi, h2, gCurvePoint, w0, w1]
    · simp [M.laws_markCurvePointS_l1, hy]
  simp [M.laws_markCurvePointS, hl, M.laws_markCurvePointS_a1]
theorem p_heldCurvePointS (xs : List CurvePoint) (k : Int) (h : xs.length ≤ 1048576) (h0 : 0 ≤ k) (hk : k ≤ 1073741824) : M.laws_heldCurvePointS (markL gCurvePoint 2 k xs) k = some (k + ((2 * xs.length : Nat) : Int)) := by
  have hl : loopF (M.laws_heldCurvePointS_l1 (markL gCurvePoint 2 k xs)) (k, 0) = some (.nxt (k + ((2 * xs.length : Nat) : Int), (xs.length : Int))) := by
    refine loop_held 2 gCurvePoint k (by omega) h0 (by omega) (fun i k' hi hk0 hk1 hg => ?_) (fun k' => ?_)
    · have h1 : ((i : Int) < ((markL gCurvePoint 2 k xs).length : Int)) := by rw [markL_length]; omega
      have h2 := step64 hi (by omega)
      have w0 : w64 (k' + 1) = k' + 1 := w64_of (by omega)
      have w1 : w64 (k' + 1 + 1) = k' + 2 := by rw [w64_of (by omega)]; omega
      have h3 : idx (markL gCurvePoint 2 k xs) (i : Int) = some (gCurvePoint k' xs[i]) := by rw [idx_nat, hg]
      simp only [M.laws_heldCurvePointS_l1, h1, decide_true, ifB_true, h3, bnd_some, h2]
      simp [gCurvePoint, w0, w1]
    · simp [M.laws_heldCurvePointS_l1]
  simp [M.laws_heldCurvePointS, hl, M.laws_heldCurvePointS_a1]
end Go.Proofs.Ytpnehnkhhibliaa
