/- Pure law of the history of a boat's factors. -/
import Derived.Test.YtbkpfcpbpnmjaaaPurePar3
namespace Go.Proofs.Ytbkpfcpbpnmjaaa
open Go
set_option linter.unusedVariables false
set_option linter.unusedSimpArgs false
def atV (b : Int) (r : List Rating) : Int := (r[b.toNat]?.map (fun x => x.Value)).getD 0
theorem idx_atV (r : List Rating) (b : Int) (h0 : 0 ≤ b) (h1 : b < (r.length : Int)) : ∃ x, idx r b = some x ∧ x.Value = atV b r := by
  have h2 : b.toNat < r.length := by omega
  refine ⟨r[b.toNat], ?_, by unfold atV; rw [List.getElem?_eq_getElem h2]; rfl⟩
  unfold idx
  rw [if_pos h0, List.getElem?_eq_getElem h2]
def histR (a : ProgressRules) (rs : List Rating) (races : List (List Finish)) (b : Int) : List Int := (stepsR a rs races races.length).map (atV b)
theorem histR_len (a : ProgressRules) (rs : List Rating) (races : List (List Finish)) (b : Int) : (histR a rs races b).length = races.length + 1 := by simp [histR, stepsR_len]
theorem histR_get (a : ProgressRules) (rs : List Rating) (races : List (List Finish)) (b : Int) (i : Nat) (h : i ≤ races.length) : (histR a rs races b)[i]? = some (atV b (serR a rs (races.take i))) := by
  unfold histR
  rw [List.getElem?_map, stepsR_get a rs races _ i h]
  rfl
theorem histR_take (a : ProgressRules) (rs : List Rating) (races : List (List Finish)) (b : Int) (i : Nat) (h : i ≤ races.length) : (histR a rs races b).take (i + 1) = (histR a rs races b).take i ++ [atV b (serR a rs (races.take i))] := by
  have hl := histR_len a rs races b
  have h1 := histR_get a rs races b i h
  obtain ⟨h2, h3⟩ := List.getElem?_eq_some_iff.1 h1
  rw [List.take_succ_eq_append_getElem h2, h3]
def histRes (a : ProgressRules) (n : Int) (races : List (List Finish)) (rs : List Rating) (b : Int) : List Int × Int := if codeS a n races rs = 0 then if 0 ≤ b ∧ b ≤ n - 1 then (histR a rs races b, 0) else ([], 4) else ([], codeS a n races rs)
theorem p_implHist (a : ProgressRules) (n : Int) (races : List (List Finish)) (rs : List Rating) (b : Int) (h : races.length ≤ 1048576) (hx : ∀ xs ∈ races, xs.length ≤ 1048576) (h' : rs.length ≤ 1048576) : M.impl_FactorHistory a n races rs b = some (histRes a n races rs b) := by
  simp only [M.impl_FactorHistory, p_implSteps a n races rs h hx h', bnd_some, ifB_if, stepsRes, histRes, p_within]
  by_cases h0 : codeS a n races rs = 0
  · obtain ⟨ha, h20, hg, hr⟩ := codeS_ok h0
    have hn := hr.1
    rw [if_pos h0, if_neg (by simp), if_pos h0, w64_of (n := n - 1) (by omega)]
    by_cases hb : 0 ≤ b ∧ b ≤ n - 1
    · rw [if_neg (by simp; omega), if_pos hb]
      have hl := histR_len a rs races b
      have hloop : loopF (M.impl_FactorHistory_l1 b (stepsR a rs races races.length, 0)) (([] : List Int), 0) = some (.nxt (histR a rs races b, ((races.length + 1 : Nat) : Int))) := by
        have e0 : (histR a rs races b, ((races.length + 1 : Nat) : Int)) = ((histR a rs races b).take (races.length + 1), ((races.length + 1 : Nat) : Int)) := by rw [List.take_of_length_le (by omega)]
        rw [e0]
        refine loop_run (races.length + 1) (by omega) (fun i => ((histR a rs races b).take i, (i : Int))) _ (by simp) (fun i hi => ?_) ?_
        · have h1 : ((i : Int) < (((stepsR a rs races races.length).length : Nat) : Int)) := by rw [stepsR_len]; omega
          have hs : IsRatings n (serR a rs (races.take i)) := serR_ok ha (fun xs hm => hg xs (List.mem_of_mem_take hm)) hr
          obtain ⟨x, hx1, hx2⟩ := idx_atV (serR a rs (races.take i)) b hb.1 (by have := hs.2.1; omega)
          rw [histR_take a rs races b i (by omega)]
          simp only [M.impl_FactorHistory_l1, h1, decide_true, ifB_true, idx_nat, stepsR_get a rs races _ i (by omega : i ≤ races.length), bnd_some, hx1, step64 hi (by omega), hx2]
          rw [chk_pos (by simp; omega)]
        · have h1 : ¬ ((((races.length + 1 : Nat) : Int)) < (((stepsR a rs races races.length).length : Nat) : Int)) := by rw [stepsR_len]; omega
          simp only [M.impl_FactorHistory_l1, h1, decide_false, ifB_false]
      rw [hloop]
      rfl
    · rw [if_pos (by simp; omega), if_neg hb]
  · rw [if_neg h0, if_pos (by simp [h0]), if_neg h0]
end Go.Proofs.Ytbkpfcpbpnmjaaa
