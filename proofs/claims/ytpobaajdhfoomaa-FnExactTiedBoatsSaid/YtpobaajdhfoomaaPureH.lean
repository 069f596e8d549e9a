/- Pure facts of the laws' helpers: sizes, copies, comparisons, numbering. Printed by my generator. -/
import Derived.Test.YtpobaajdhfoomaaKit
import Derived.Test.YtpobaajdhfoomaaMod
namespace Go.Proofs.Ytpobaajdhfoomaa
open Go
set_option linter.unusedVariables false
set_option linter.unusedSimpArgs false
theorem p_szInt64S (xs : List Int) (h : xs.length ≤ maxLen) (n : Int) (h0 : 0 ≤ n) (hn : n ≤ 1048576) : M.laws_szInt64S xs n = some (if n < xs.length then -1 else n - xs.length) := by
  have hm : maxLen = 9223372036854775807 := rfl
  rw [M.laws_szInt64S, w64_of (by omega), ifB_if]
  by_cases h1 : n < xs.length
  · rw [if_pos h1, if_pos (by simp; omega)]
  · rw [if_neg h1, if_neg (by simp; omega)]
theorem p_toInt64S (xs : List Int) (h : xs.length ≤ 1048576) : M.laws_toInt64S xs = some xs := by
  have hl : loopF (M.laws_toInt64S_l1 xs) (List.replicate xs.length (0), 0) = some (.nxt (xs.map id, (xs.length : Int))) := by
    refine loop_copy xs id _ (by omega) (fun i hi ys hy => ?_) (fun ys => ?_)
    · have h1 : ((i : Int) < (xs.length : Int)) := by omega
      simp [M.laws_toInt64S_l1, h1, idx_lt xs i hi, idx_lt ys i (by omega), step64 hi (by omega)]
    · simp [M.laws_toInt64S_l1]
  rw [M.laws_toInt64S, chk_pos (by omega)]
  simp [hl, M.laws_toInt64S_a1]
theorem p_eqInt64S (xs : List Int) (h : xs.length ≤ 1048576) : M.laws_eqInt64S xs xs = some true := by
  have hl : loopF (M.laws_eqInt64S_l1 xs xs) 0 = some (.nxt (xs.length : Int)) := by
    refine loop_run xs.length (by omega) (fun i => (i : Int)) _ rfl (fun i hi => ?_) ?_
    · have h1 : ((i : Int) < (xs.length : Int)) := by omega
      simp [M.laws_eqInt64S_l1, h1, idx_lt xs i hi, step64 hi (by omega)]
    · simp [M.laws_eqInt64S_l1]
  simp [M.laws_eqInt64S, hl, M.laws_eqInt64S_a1]
def gInt64 : Int → Int → Int := fun k _ => k
theorem p_markInt64S (xs : List Int) (k : Int) (h : xs.length ≤ 1048576) (h0 : 0 ≤ k) (hk : k ≤ 1073741824) : M.laws_markInt64S xs k = some (k + ((1 * xs.length : Nat) : Int), markL gInt64 1 k xs) := by
  have hl : loopF (M.laws_markInt64S_l1) (xs, k, 0) = some (.nxt (markL gInt64 1 k xs, k + ((1 * xs.length : Nat) : Int), (xs.length : Int))) := by
    refine loop_mark 1 gInt64 xs k (by omega) h0 (by omega) (fun i ys k hi hy hk0 hk1 => ?_) (fun ys k hy => ?_)
    · have h1 : ((i : Int) < (ys.length : Int)) := by omega
      have h2 := step64 hi (by omega)
      have w0 : w64 (k + 1) = k + 1 := w64_of (by omega)
      simp [M.laws_markInt64S_l1, h1, idx_lt ys i hi, set_at, hi, h2, gInt64, w0]
    · simp [M.laws_markInt64S_l1, hy]
  simp [M.laws_markInt64S, hl, M.laws_markInt64S_a1]
theorem p_heldInt64S (xs : List Int) (k : Int) (h : xs.length ≤ 1048576) (h0 : 0 ≤ k) (hk : k ≤ 1073741824) : M.laws_heldInt64S (markL gInt64 1 k xs) k = some (k + ((1 * xs.length : Nat) : Int)) := by
  have hl : loopF (M.laws_heldInt64S_l1 (markL gInt64 1 k xs)) (k, 0) = some (.nxt (k + ((1 * xs.length : Nat) : Int), (xs.length : Int))) := by
    refine loop_held 1 gInt64 k (by omega) h0 (by omega) (fun i k' hi hk0 hk1 hg => ?_) (fun k' => ?_)
    · have h1 : ((i : Int) < ((markL gInt64 1 k xs).length : Int)) := by rw [markL_length]; omega
      have h2 := step64 hi (by omega)
      have w0 : w64 (k' + 1) = k' + 1 := w64_of (by omega)
      have h3 : idx (markL gInt64 1 k xs) (i : Int) = some (gInt64 k' xs[i]) := by rw [idx_nat, hg]
      simp only [M.laws_heldInt64S_l1, h1, decide_true, ifB_true, h3, bnd_some, h2]
      simp [gInt64, w0]
    · simp [M.laws_heldInt64S_l1]
  simp [M.laws_heldInt64S, hl, M.laws_heldInt64S_a1]
end Go.Proofs.Ytpobaajdhfoomaa
