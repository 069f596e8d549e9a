/- Pure laws: the table of a series. -/
import Derived.Test.YtpobaajdhfoomaaPureU
namespace Go.Proofs.Ytpobaajdhfoomaa
open Go
set_option linter.unusedVariables false
set_option linter.unusedSimpArgs false
theorem tot_le {β : Type} (n : β → Nat) (c : Nat) : ∀ (xs : List β), (∀ x ∈ xs, n x ≤ c) → tot n xs ≤ c * xs.length
  | [], _ => by simp [tot]
  | x :: xs, h => by
    have h1 := tot_le n c xs (fun y hy => h y (List.mem_cons_of_mem _ hy))
    have h2 := h x List.mem_cons_self
    simp only [tot, List.map_cons, List.sum_cons, List.length_cons] at *
    rw [Nat.mul_add]
    omega
def tblP (a : Series) (r : Race) : List Int := r.Finishes.map (pts r.Finishes a.Scheme)
def tblC (r : Race) : List Int := r.Finishes.map Finish.Code
def tbl (a : Series) : Table := ⟨a.Boats, a.Races.map (tblP a), a.Races.map tblC⟩
theorem p_specTableOf (a : Series) (h : szS a ≤ 1048576) : M.spec_TableOf a = some (if IsSeries a then (tbl a, 0) else (⟨0, [], []⟩, 1)) := by
  rw [M.spec_TableOf, p_specIsSeries a h, bnd_some, ifB_if]
  by_cases hs : IsSeries a
  · rw [if_pos hs, if_neg (by simp [hs])]
    unfold szS at h
    have hr := row_le (fun x : Race => x.Finishes.length) a.Races 1048576 (by omega)
    have hl : loopF (M.spec_TableOf_l1 a) (([] : List (List Int)), ([] : List (List Int)), 0) = some (.nxt (a.Races.map (tblP a), a.Races.map tblC, (a.Races.length : Int))) := by
      refine loop_run a.Races.length (by omega) (fun i => ((a.Races.map (tblP a)).take i, (a.Races.map tblC).take i, (i : Int))) _ rfl (fun i hi => ?_) ?_
      · have h2 : ((i : Int) < (a.Races.length : Int)) := by omega
        have hri := hr _ (List.getElem_mem hi)
        have hl2 : loopF (M.spec_TableOf_l2 a ((a.Races.map (tblP a)).take i, (a.Races.map tblC).take i, (i : Int))) (([] : List Int), 0) = some (.nxt (tblC a.Races[i], (a.Races[i].Finishes.length : Int))) := by
          refine loop_run a.Races[i].Finishes.length (by omega) (fun j => ((a.Races[i].Finishes.map Finish.Code).take j, (j : Int))) _ rfl (fun j hj => ?_) ?_
          · have h3 : ((j : Int) < (a.Races[i].Finishes.length : Int)) := by omega
            have hlt : ((a.Races[i].Finishes.map Finish.Code).take j).length + 1 < 1099511627776 := by simp; omega
            simp only [M.spec_TableOf_l2, idx_lt a.Races i hi, h3, decide_true, ifB_true, idx_lt _ j hj, bnd_some, step64 hj (by omega), List.length_singleton, chk_pos hlt, take_map_succ Finish.Code _ j hj]
          · have : (a.Races[i].Finishes.map Finish.Code).take a.Races[i].Finishes.length = a.Races[i].Finishes.map Finish.Code := by rw [List.take_of_length_le (by simp)]
            simp [M.spec_TableOf_l2, idx_lt a.Races i hi, this, tblC]
        have hlt1 : ((a.Races.map (tblP a)).take i).length + 1 < 1099511627776 := by simp; omega
        have hlt2 : ((a.Races.map tblC).take i).length + 1 < 1099511627776 := by simp; omega
        simp only [M.spec_TableOf_l1, M.spec_TableOf_a2, h2, decide_true, ifB_true, idx_lt _ i hi, bnd_some, hl2, outc_nxt, p_l26Points _ a.Scheme hs.2.1 hri, step64 hi (by omega), List.length_singleton, chk_pos hlt1, chk_pos hlt2, take_map_succ (tblP a) _ i hi, take_map_succ tblC _ i hi]
        rfl
      · have e1 : (a.Races.map (tblP a)).take a.Races.length = a.Races.map (tblP a) := by rw [List.take_of_length_le (by simp)]
        have e2 : (a.Races.map tblC).take a.Races.length = a.Races.map tblC := by rw [List.take_of_length_le (by simp)]
        simp [M.spec_TableOf_l1, e1, e2]
    rw [hl]; rfl
  · rw [if_neg hs, if_pos (by simp [hs])]
end Go.Proofs.Ytpobaajdhfoomaa
