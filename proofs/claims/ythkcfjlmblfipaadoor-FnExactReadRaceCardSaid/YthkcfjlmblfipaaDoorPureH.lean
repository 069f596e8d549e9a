/- Pure facts of the laws' helpers: sizes, copies, comparisons, numbering. Printed by my generator. -/
import Derived.Test.YthkcfjlmblfipaaDoorKit
import Derived.Test.YthkcfjlmblfipaaDoorMod
namespace Go.Proofs.YthkcfjlmblfipaaDoor
open Go
set_option linter.unusedVariables false
set_option linter.unusedSimpArgs false
theorem p_eqFinishS (xs : List Finish) (h : xs.length ≤ 1048576) : M.laws_eqFinishS xs xs = some true := by
  have hl : loopF (M.laws_eqFinishS_l1 xs xs) 0 = some (.nxt (xs.length : Int)) := by
    refine loop_run xs.length (by omega) (fun i => (i : Int)) _ rfl (fun i hi => ?_) ?_
    · have h1 : ((i : Int) < (xs.length : Int)) := by omega
      simp [M.laws_eqFinishS_l1, h1, idx_lt xs i hi, step64 hi (by omega), M.laws_eqFinish]
    · simp [M.laws_eqFinishS_l1]
  simp [M.laws_eqFinishS, hl, M.laws_eqFinishS_a1]
def gFinish : Int → Finish → Finish := fun k _ => Finish.mk k (k + 1) (k + 2)
theorem p_markFinishS (xs : List Finish) (k : Int) (h : xs.length ≤ 1048576) (h0 : 0 ≤ k) (hk : k ≤ 1073741824) : M.laws_markFinishS xs k = some (k + ((3 * xs.length : Nat) : Int), markL gFinish 3 k xs) := by
  have hl : loopF (M.laws_markFinishS_l1) (xs, k, 0) = some (.nxt (markL gFinish 3 k xs, k + ((3 * xs.length : Nat) : Int), (xs.length : Int))) := by
    refine loop_mark 3 gFinish xs k (by omega) h0 (by omega) (fun i ys k hi hy hk0 hk1 => ?_) (fun ys k hy => ?_)
    · have h1 : ((i : Int) < (ys.length : Int)) := by omega
      have h2 := step64 hi (by omega)
      have w0 : w64 (k + 1) = k + 1 := w64_of (by omega)
      have w1 : w64 (k + 1 + 1) = k + 2 := by rw [w64_of (by omega)]; omega
      have w2 : w64 (k + 2 + 1) = k + 3 := by rw [w64_of (by omega)]; omega
      simp [M.laws_markFinishS_l1, h1, idx_lt ys i hi, set_at, hi, h2, gFinish, w0, w1, w2]
    · simp [M.laws_markFinishS_l1, hy]
  simp [M.laws_markFinishS, hl, M.laws_markFinishS_a1]
theorem p_heldFinishS (xs : List Finish) (k : Int) (h : xs.length ≤ 1048576) (h0 : 0 ≤ k) (hk : k ≤ 1073741824) : M.laws_heldFinishS (markL gFinish 3 k xs) k = some (k + ((3 * xs.length : Nat) : Int)) := by
  have hl : loopF (M.laws_heldFinishS_l1 (markL gFinish 3 k xs)) (k, 0) = some (.nxt (k + ((3 * xs.length : Nat) : Int), (xs.length : Int))) := by
    refine loop_held 3 gFinish k (by omega) h0 (by omega) (fun i k' hi hk0 hk1 hg => ?_) (fun k' => ?_)
    · have h1 : ((i : Int) < ((markL gFinish 3 k xs).length : Int)) := by rw [markL_length]; omega
      have h2 := step64 hi (by omega)
      have w0 : w64 (k' + 1) = k' + 1 := w64_of (by omega)
      have w1 : w64 (k' + 1 + 1) = k' + 2 := by rw [w64_of (by omega)]; omega
      have w2 : w64 (k' + 2 + 1) = k' + 3 := by rw [w64_of (by omega)]; omega
      have h3 : idx (markL gFinish 3 k xs) (i : Int) = some (gFinish k' xs[i]) := by rw [idx_nat, hg]
      simp only [M.laws_heldFinishS_l1, h1, decide_true, ifB_true, h3, bnd_some, h2]
      simp [gFinish, w0, w1, w2]
    · simp [M.laws_heldFinishS_l1]
  simp [M.laws_heldFinishS, hl, M.laws_heldFinishS_a1]
end Go.Proofs.YthkcfjlmblfipaaDoor
