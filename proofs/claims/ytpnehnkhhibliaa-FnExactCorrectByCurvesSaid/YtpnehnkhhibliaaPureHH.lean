/- Pure facts of the laws' helpers over rows of rows. Printed by my generator. -/
import Derived.Test.YtpnehnkhhibliaaKit2
import Derived.Test.YtpnehnkhhibliaaPureH
namespace Go.Proofs.Ytpnehnkhhibliaa
open Go
set_option linter.unusedVariables false
set_option linter.unusedSimpArgs false
theorem p_szCurvePointSS (xs : List (List CurvePoint)) (h : xs.length ≤ maxLen) (hr : ∀ x ∈ xs, x.length ≤ maxLen) (n : Int) (h0 : 0 ≤ n) (hn : n ≤ 1048576) : M.laws_szCurvePointSS xs n = some (if n < xs.length then -1 else if n - xs.length < ((tot (fun x : List CurvePoint => x.length) xs : Nat) : Int) then -1 else n - xs.length - ((tot (fun x : List CurvePoint => x.length) xs : Nat) : Int)) := by
  have hm : maxLen = 9223372036854775807 := rfl
  rw [M.laws_szCurvePointSS, w64_of (by omega), ifB_if]
  by_cases h1 : n < xs.length
  · rw [if_pos (by simp; omega), if_pos h1]
  · rw [if_neg (by simp; omega), if_neg h1]
    have hl : loopF (M.laws_szCurvePointSS_l1 xs) (n - xs.length, 0) = _ := loop_size (xs := xs) (body := M.laws_szCurvePointSS_l1 xs) (fun x : List CurvePoint => x.length) (n - xs.length) (by omega) (by omega) (fun i k hi hk0 hk1 => by
      have e1 : (i : Int) < xs.length := by omega
      simp only [M.laws_szCurvePointSS_l1, e1, decide_true, ifB_true, idx_lt xs i hi, bnd_some, p_szCurvePointS _ (hr _ (List.getElem_mem hi)) k hk0 hk1, step64 hi (by omega)]
      by_cases h3 : k < (xs[i].length : Int)
      · rw [if_pos h3, if_pos h3]; rfl
      · rw [if_neg h3, if_neg h3, ifB_if, if_neg (by simp; omega)]) (fun k => by simp [M.laws_szCurvePointSS_l1])
    rw [hl, bnd_some]
    by_cases h2 : n - xs.length < ((tot (fun x : List CurvePoint => x.length) xs : Nat) : Int)
    · rw [if_pos h2, if_pos h2]; rfl
    · rw [if_neg h2, if_neg h2]; rfl
theorem p_toCurvePointSS (xs : List (List CurvePoint)) (h : xs.length ≤ 1048576) (hr : ∀ x ∈ xs, x.length ≤ 1048576) : M.laws_toCurvePointSS xs = some xs := by
  have hl : loopF (M.laws_toCurvePointSS_l1 xs) (List.replicate xs.length ([] : List CurvePoint), 0) = some (.nxt (xs.map id, (xs.length : Int))) := by
    refine loop_copy xs id _ (by omega) (fun i hi ys hy => ?_) (fun ys => ?_)
    · have h1 : ((i : Int) < (xs.length : Int)) := by omega
      simp only [M.laws_toCurvePointSS_l1, h1, decide_true, ifB_true, idx_lt xs i hi, idx_lt ys i (by omega), bnd_some, step64 hi (by omega), p_toCurvePointS _ (hr _ (List.getElem_mem hi)), Int.toNat_natCast, id]
    · simp only [M.laws_toCurvePointSS_l1, Int.lt_irrefl, decide_false, ifB_false]
  have hc : (0 : Int) ≤ (xs.length : Int) ∧ (xs.length : Int) < 1099511627776 := by omega
  rw [M.laws_toCurvePointSS, chk_pos hc, Int.toNat_natCast, hl, List.map_id]
  rfl
theorem p_eqCurvePointSS (xs : List (List CurvePoint)) (h : xs.length ≤ 1048576) (hr : ∀ x ∈ xs, x.length ≤ 1048576) : M.laws_eqCurvePointSS xs xs = some true := by
  have hl : loopF (M.laws_eqCurvePointSS_l1 xs xs) 0 = some (.nxt (xs.length : Int)) := by
    refine loop_run xs.length (by omega) (fun i => (i : Int)) _ rfl (fun i hi => ?_) ?_
    · have h1 : ((i : Int) < (xs.length : Int)) := by omega
      simp [M.laws_eqCurvePointSS_l1, h1, idx_lt xs i hi, step64 hi (by omega), p_eqCurvePointS _ (hr _ (List.getElem_mem hi))]
    · simp [M.laws_eqCurvePointSS_l1]
  simp [M.laws_eqCurvePointSS, hl, M.laws_eqCurvePointSS_a1]
theorem p_markCurvePointSS (xs : List (List CurvePoint)) (k : Int) (h : xs.length ≤ 1048576) (hr : tot (fun x : List CurvePoint => x.length) xs ≤ 1048576) (h0 : 0 ≤ k) (hk : k ≤ 536870912) : M.laws_markCurvePointSS xs k = some (k + ((tot (fun x : List CurvePoint => 2 * x.length) xs : Nat) : Int), markLL (fun k x => markL gCurvePoint 2 k x) (fun x : List CurvePoint => 2 * x.length) k xs) := by
  have ht : tot (fun x : List CurvePoint => 2 * x.length) xs = 2 * tot (fun x : List CurvePoint => x.length) xs := tot_mul (fun x : List CurvePoint => x.length) 2 xs
  have hl : loopF (M.laws_markCurvePointSS_l1) (xs, k, 0) = _ := loop_markN (body := M.laws_markCurvePointSS_l1) (fun x : List CurvePoint => 2 * x.length) (fun k x => markL gCurvePoint 2 k x) xs k (by omega) h0 (by omega) (fun i ys k' hi hy hyi hk0 hk1 => by
    have h1 : ((i : Int) < (ys.length : Int)) := by omega
    have hrow := tot_mem (fun x : List CurvePoint => x.length) xs xs[i] (List.getElem_mem hi)
    have hi2 : idx ys (i : Int) = some xs[i] := by rw [idx_nat, hyi]
    simp only [M.laws_markCurvePointSS_l1, h1, decide_true, ifB_true, hi2, bnd_some, p_markCurvePointS xs[i] k' (by omega) hk0 (by omega), step64 hi (by omega), Int.toNat_natCast]) (fun ys k' hy => by simp [M.laws_markCurvePointSS_l1, hy])
  rw [M.laws_markCurvePointSS, hl]
  rfl
end Go.Proofs.Ytpnehnkhhibliaa
