/- Pure laws: comparing two boats; ranks. -/
import Derived.Test.YtpobaajdhfoomaaPureK3
namespace Go.Proofs.Ytpobaajdhfoomaa
open Go
set_option linter.unusedVariables false
set_option linter.unusedSimpArgs false
theorem sum_app (ys : List Int) : ∀ xs : List Int, (xs ++ ys).sum = xs.sum + ys.sum
  | [] => by simp
  | x :: xs => by simp [sum_app ys xs]; omega
def Bd (m : Int) (xs : List Int) : Prop := ∀ x ∈ xs, 0 ≤ x ∧ x ≤ m
theorem sum_bd (m : Int) (hm : 0 ≤ m) : ∀ (xs : List Int), Bd m xs → 0 ≤ xs.sum ∧ xs.sum ≤ m * (xs.length : Int)
  | [], _ => by simp
  | x :: xs, h => by
    have h1 := h x List.mem_cons_self
    have h2 := sum_bd m hm xs (fun y hy => h y (List.mem_cons_of_mem _ hy))
    simp only [List.sum_cons, List.length_cons]
    have e : m * ((xs.length + 1 : Nat) : Int) = m * (xs.length : Int) + m := by rw [Int.natCast_add, Int.mul_add]; simp
    omega
theorem take_bd (m : Int) (xs : List Int) (h : Bd m xs) (i : Nat) : Bd m (xs.take i) := fun x hx => h x (List.mem_of_mem_take hx)
theorem p_sumI (xs : List Int) (h : Bd 10000 xs) (hl : xs.length ≤ 1000) : M.spec_l27Sum xs = some xs.sum := by
  have hb : loopF (M.spec_l27Sum_l1 xs) (0, 0) = some (.nxt (xs.sum, (xs.length : Int))) := by
    refine loop_run xs.length (by omega) (fun i => ((xs.take i).sum, (i : Int))) _ (by simp) (fun i hi => ?_) ?_
    · have e1 : ((i : Int) < (xs.length : Int)) := by omega
      have h1 := sum_bd 10000 (by omega) _ (take_bd 10000 xs h i)
      have h2 := h xs[i] (List.getElem_mem hi)
      have h3 : (xs.take i).length ≤ 1000 := by simp; omega
      have e2 : (xs.take (i + 1)).sum = (xs.take i).sum + xs[i] := by rw [List.take_succ_eq_append_getElem hi, sum_app]; simp
      simp only [M.spec_l27Sum_l1, e1, decide_true, ifB_true, idx_lt _ i hi, bnd_some, step64 hi (by omega), e2]
      rw [w64_of (by omega)]
    · simp [M.spec_l27Sum_l1]
  rw [M.spec_l27Sum, hb]; rfl
theorem ctK_bd (t : Table) (rule : List Int) (b : Int) (ht : IsTable t) (h0 : 0 ≤ b) (h1 : b < t.Boats) : Bd 10000 (ctK t rule b) := fun x hx => by
  unfold ctK at hx
  obtain ⟨k, hk, rfl⟩ := List.mem_map.1 hx
  obtain ⟨⟨r, _, _, g1, g2⟩, _⟩ := tab_get t ht b h0 h1 k (List.mem_filter.1 hk).1
  exact ⟨g1, g2⟩
theorem ctK_le (t : Table) (rule : List Int) (b : Int) (ht : IsTable t) : (ctK t rule b).length ≤ 12 := by have := ctK_len t rule b; have := ht.2.1; omega
theorem ntK_sum (t : Table) (rule : List Int) (b : Int) (ht : IsTable t) (h0 : 0 ≤ b) (h1 : b < t.Boats) : ntK t rule b = (ctK t rule b).sum := by
  have := ctK_le t rule b ht
  unfold ntK; rw [p_sumI _ (ctK_bd t rule b ht h0 h1) (by omega)]; rfl
theorem ntK_bd (t : Table) (rule : List Int) (b : Int) (ht : IsTable t) (h0 : 0 ≤ b) (h1 : b < t.Boats) : 0 ≤ ntK t rule b ∧ ntK t rule b ≤ 120000 := by
  have h := sum_bd 10000 (by omega) _ (ctK_bd t rule b ht h0 h1)
  have := ctK_le t rule b ht
  rw [ntK_sum t rule b ht h0 h1]; omega
end Go.Proofs.Ytpobaajdhfoomaa
