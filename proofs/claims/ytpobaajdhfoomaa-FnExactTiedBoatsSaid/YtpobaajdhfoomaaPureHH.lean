/- Pure facts of the laws' helpers over rows of rows. Printed by my generator. -/
import Derived.Test.YtpobaajdhfoomaaKit2
import Derived.Test.YtpobaajdhfoomaaPureH
namespace Go.Proofs.Ytpobaajdhfoomaa
open Go
set_option linter.unusedVariables false
set_option linter.unusedSimpArgs false
theorem p_szInt64SS (xs : List (List Int)) (h : xs.length ≤ maxLen) (hr : ∀ x ∈ xs, x.length ≤ maxLen) (n : Int) (h0 : 0 ≤ n) (hn : n ≤ 1048576) : M.laws_szInt64SS xs n = some (if n < xs.length then -1 else if n - xs.length < ((tot (fun x : List Int => x.length) xs : Nat) : Int) then -1 else n - xs.length - ((tot (fun x : List Int => x.length) xs : Nat) : Int)) := by
  have hm : maxLen = 9223372036854775807 := rfl
  rw [M.laws_szInt64SS, w64_of (by omega), ifB_if]
  by_cases h1 : n < xs.length
  · rw [if_pos (by simp; omega), if_pos h1]
  · rw [if_neg (by simp; omega), if_neg h1]
    have hl : loopF (M.laws_szInt64SS_l1 xs) (n - xs.length, 0) = _ := loop_size (xs := xs) (body := M.laws_szInt64SS_l1 xs) (fun x : List Int => x.length) (n - xs.length) (by omega) (by omega) (fun i k hi hk0 hk1 => by
      have e1 : (i : Int) < xs.length := by omega
      simp only [M.laws_szInt64SS_l1, e1, decide_true, ifB_true, idx_lt xs i hi, bnd_some, p_szInt64S _ (hr _ (List.getElem_mem hi)) k hk0 hk1, step64 hi (by omega)]
      by_cases h3 : k < (xs[i].length : Int)
      · rw [if_pos h3, if_pos h3]; rfl
      · rw [if_neg h3, if_neg h3, ifB_if, if_neg (by simp; omega)]) (fun k => by simp [M.laws_szInt64SS_l1])
    rw [hl, bnd_some]
    by_cases h2 : n - xs.length < ((tot (fun x : List Int => x.length) xs : Nat) : Int)
    · rw [if_pos h2, if_pos h2]; rfl
    · rw [if_neg h2, if_neg h2]; rfl
theorem p_toInt64SS (xs : List (List Int)) (h : xs.length ≤ 1048576) (hr : ∀ x ∈ xs, x.length ≤ 1048576) : M.laws_toInt64SS xs = some xs := by
  have hl : loopF (M.laws_toInt64SS_l1 xs) (List.replicate xs.length ([] : List Int), 0) = some (.nxt (xs.map id, (xs.length : Int))) := by
    refine loop_copy xs id _ (by omega) (fun i hi ys hy => ?_) (fun ys => ?_)
    · have h1 : ((i : Int) < (xs.length : Int)) := by omega
      simp only [M.laws_toInt64SS_l1, h1, decide_true, ifB_true, idx_lt xs i hi, idx_lt ys i (by omega), bnd_some, step64 hi (by omega), p_toInt64S _ (hr _ (List.getElem_mem hi)), Int.toNat_natCast, id]
    · simp only [M.laws_toInt64SS_l1, Int.lt_irrefl, decide_false, ifB_false]
  have hc : (0 : Int) ≤ (xs.length : Int) ∧ (xs.length : Int) < 1099511627776 := by omega
  rw [M.laws_toInt64SS, chk_pos hc, Int.toNat_natCast, hl, List.map_id]
  rfl
theorem p_eqInt64SS (xs : List (List Int)) (h : xs.length ≤ 1048576) (hr : ∀ x ∈ xs, x.length ≤ 1048576) : M.laws_eqInt64SS xs xs = some true := by
  have hl : loopF (M.laws_eqInt64SS_l1 xs xs) 0 = some (.nxt (xs.length : Int)) := by
    refine loop_run xs.length (by omega) (fun i => (i : Int)) _ rfl (fun i hi => ?_) ?_
    · have h1 : ((i : Int) < (xs.length : Int)) := by omega
      simp [M.laws_eqInt64SS_l1, h1, idx_lt xs i hi, step64 hi (by omega), p_eqInt64S _ (hr _ (List.getElem_mem hi))]
    · simp [M.laws_eqInt64SS_l1]
  simp [M.laws_eqInt64SS, hl, M.laws_eqInt64SS_a1]
theorem p_markInt64SS (xs : List (List Int)) (k : Int) (h : xs.length ≤ 1048576) (hr : tot (fun x : List Int => x.length) xs ≤ 1048576) (h0 : 0 ≤ k) (hk : k ≤ 536870912) : M.laws_markInt64SS xs k = some (k + ((tot (fun x : List Int => 1 * x.length) xs : Nat) : Int), markLL (fun k x => markL gInt64 1 k x) (fun x : List Int => 1 * x.length) k xs) := by
  have ht : tot (fun x : List Int => 1 * x.length) xs = 1 * tot (fun x : List Int => x.length) xs := tot_mul (fun x : List Int => x.length) 1 xs
  have hl : loopF (M.laws_markInt64SS_l1) (xs, k, 0) = _ := loop_markN (body := M.laws_markInt64SS_l1) (fun x : List Int => 1 * x.length) (fun k x => markL gInt64 1 k x) xs k (by omega) h0 (by omega) (fun i ys k' hi hy hyi hk0 hk1 => by
    have h1 : ((i : Int) < (ys.length : Int)) := by omega
    have hrow := tot_mem (fun x : List Int => x.length) xs xs[i] (List.getElem_mem hi)
    have hi2 : idx ys (i : Int) = some xs[i] := by rw [idx_nat, hyi]
    simp only [M.laws_markInt64SS_l1, h1, decide_true, ifB_true, hi2, bnd_some, p_markInt64S xs[i] k' (by omega) hk0 (by omega), step64 hi (by omega), Int.toNat_natCast]) (fun ys k' hy => by simp [M.laws_markInt64SS_l1, hy])
  rw [M.laws_markInt64SS, hl]
  rfl
theorem p_heldInt64SS (xs : List (List Int)) (k : Int) (h : xs.length ≤ 1048576) (hr : tot (fun x : List Int => x.length) xs ≤ 1048576) (h0 : 0 ≤ k) (hk : k ≤ 536870912) : M.laws_heldInt64SS (markLL (fun k x => markL gInt64 1 k x) (fun x : List Int => 1 * x.length) k xs) k = some (k + ((tot (fun x : List Int => 1 * x.length) xs : Nat) : Int)) := by
  have ht : tot (fun x : List Int => 1 * x.length) xs = 1 * tot (fun x : List Int => x.length) xs := tot_mul (fun x : List Int => x.length) 1 xs
  have hl : loopF (M.laws_heldInt64SS_l1 (markLL (fun k x => markL gInt64 1 k x) (fun x : List Int => 1 * x.length) k xs)) (k, 0) = _ := loop_heldN (xs := xs) (body := M.laws_heldInt64SS_l1 (markLL (fun k x => markL gInt64 1 k x) (fun x : List Int => 1 * x.length) k xs)) (fun x : List Int => 1 * x.length) (fun k x => markL gInt64 1 k x) k (by omega) h0 (by omega) (fun i k' hi hk0 hk1 hg => by
    have h1 : ((i : Int) < ((markLL (fun k x => markL gInt64 1 k x) (fun x : List Int => 1 * x.length) k xs).length : Int)) := by rw [markLL_length]; omega
    have hrow := tot_mem (fun x : List Int => x.length) xs xs[i] (List.getElem_mem hi)
    have hi2 : idx (markLL (fun k x => markL gInt64 1 k x) (fun x : List Int => 1 * x.length) k xs) (i : Int) = some ((fun k x => markL gInt64 1 k x) k' xs[i]) := by rw [idx_nat, hg]
    simp only [M.laws_heldInt64SS_l1, h1, decide_true, ifB_true, hi2, bnd_some, p_heldInt64S xs[i] k' (by omega) hk0 (by omega), step64 hi (by omega)]
    rw [ifB_if, if_neg (by simp; omega)]) (fun k' => by simp [M.laws_heldInt64SS_l1])
  rw [M.laws_heldInt64SS, hl]
  rfl
end Go.Proofs.Ytpobaajdhfoomaa
