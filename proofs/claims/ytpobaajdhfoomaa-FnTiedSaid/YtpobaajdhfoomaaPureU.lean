/- Pure laws: tables. -/
import Derived.Test.YtpobaajdhfoomaaPureT
namespace Go.Proofs.Ytpobaajdhfoomaa
open Go
set_option linter.unusedVariables false
set_option linter.unusedSimpArgs false
def badN (m : Int) (xs : List Int) (j : Nat) : Bool := match xs[j]? with
  | none => true
  | some x => !decide (0 ≤ x ∧ x ≤ m)
def OkRow (xs : List Int) (n m : Int) : Prop := (xs.length : Int) = n ∧ ∀ j, j < xs.length → badN m xs j = false
instance (xs : List Int) (n m : Int) : Decidable (OkRow xs n m) := by unfold OkRow; infer_instance
theorem p_areRow (xs : List Int) (n m : Int) (h : xs.length ≤ 1048576) : M.impl_areRow xs n m = some (decide (OkRow xs n m)) := by
  have hl : loopF (M.impl_areRow_l1 xs m) 0 = some (if ∀ i, i < xs.length → badN m xs i = false then .nxt (xs.length : Int) else .ret false) := by
    refine loop_find xs.length (by omega) (fun i => (i : Int)) (badN m xs) false _ rfl (fun i hi => ?_) ?_
    · have h1 : ((i : Int) < (xs.length : Int)) := by omega
      simp only [M.impl_areRow_l1, h1, decide_true, ifB_true, idx_lt xs i hi, bnd_some, p_within, step64 hi (by omega), ifB_if, if_true]
      unfold badN
      simp only [List.getElem?_eq_getElem hi, ite_some]
    · simp [M.impl_areRow_l1]
  unfold OkRow
  rw [M.impl_areRow, hl, bnd_some]
  by_cases h2 : ∀ j, j < xs.length → badN m xs j = false
  · rw [if_pos h2, outc_nxt, M.impl_areRow_a1]
    by_cases h3 : (xs.length : Int) = n
    · rw [show ((xs.length : Int) == n) = true by simp [h3]]; exact congrArg some (decide_eq_true ⟨h3, h2⟩).symm
    · rw [show ((xs.length : Int) == n) = false by simp [h3]]; exact congrArg some (decide_eq_false (fun hh => h3 hh.1)).symm
  · rw [if_neg h2, outc_ret]; exact congrArg some (decide_eq_false (fun hh => h2 hh.2)).symm
def badT (a : Table) (i : Nat) : Bool := match a.Points[i]?, a.Codes[i]? with
  | some p, some c => !decide (OkRow p a.Boats 10000) || !decide (OkRow c a.Boats 9)
  | _, _ => true
def IsTable (a : Table) : Prop := (1 ≤ a.Boats ∧ a.Boats ≤ 16) ∧ a.Points.length ≤ 12 ∧ a.Codes.length = a.Points.length ∧ ∀ i, i < a.Points.length → badT a i = false
instance (a : Table) : Decidable (IsTable a) := by unfold IsTable; infer_instance
theorem p_implIsTable (a : Table) (h : szT a ≤ 1048576) : M.impl_IsTable a = some (decide (IsTable a)) := by
  unfold szT at h
  have hp := row_le (fun x : List Int => x.length) a.Points 1048576 (by omega)
  have hc := row_le (fun x : List Int => x.length) a.Codes 1048576 (by omega)
  unfold IsTable
  simp only [M.impl_IsTable, M.impl_IsTable_j1, p_within, bnd_some, ifB_if, if_true]
  by_cases h1 : 1 ≤ a.Boats ∧ a.Boats ≤ 16
  · by_cases h2 : a.Points.length ≤ 12
    · have h2' : ¬ (12 < (a.Points.length : Int)) := by omega
      by_cases h3 : a.Codes.length = a.Points.length
      · have hl : loopF (M.impl_IsTable_l1 a) 0 = some (if ∀ i, i < a.Points.length → badT a i = false then .nxt (a.Points.length : Int) else .ret false) := by
          refine loop_find a.Points.length (by omega) (fun i => (i : Int)) (badT a) false _ rfl (fun i hi => ?_) ?_
          · have e1 : ((i : Int) < (a.Points.length : Int)) := by omega
            have hi2 : i < a.Codes.length := by omega
            simp only [M.impl_IsTable_l1, M.impl_IsTable_j2, e1, decide_true, ifB_true, idx_lt a.Points i hi, idx_lt a.Codes i hi2, bnd_some, p_areRow _ _ _ (hp _ (List.getElem_mem hi)), p_areRow _ _ _ (hc _ (List.getElem_mem hi2)), step64 hi (by omega), ifB_if, if_true]
            unfold badT
            simp only [List.getElem?_eq_getElem hi, List.getElem?_eq_getElem hi2]
            by_cases h4 : OkRow a.Points[i] a.Boats 10000 <;> simp [h4, ite_some]
          · simp [M.impl_IsTable_l1]
        rw [if_neg (by simp [h1]), if_neg (by simp [h2']), if_neg (by simp [h3]), hl, bnd_some]
        by_cases h4 : ∀ i, i < a.Points.length → badT a i = false
        · rw [if_pos h4, outc_nxt, M.impl_IsTable_a1]; exact congrArg some (decide_eq_true ⟨h1, h2, h3, h4⟩).symm
        · rw [if_neg h4, outc_ret]; exact congrArg some (decide_eq_false (fun hh => h4 hh.2.2.2)).symm
      · have h3' : ¬ a.Points.length = a.Codes.length := fun e => h3 e.symm
        rw [if_neg (by simp [h1]), if_neg (by simp [h2']), if_pos (by simp; omega)]; exact congrArg some (decide_eq_false (fun hh => h3 hh.2.2.1)).symm
    · rw [if_neg (by simp [h1]), if_pos (by simp; omega)]; exact congrArg some (decide_eq_false (fun hh => h2 hh.2.1)).symm
  · rw [if_pos (by simp [h1])]; exact congrArg some (decide_eq_false (fun hh => h1 hh.1)).symm
theorem p_specIsTable (a : Table) (h : szT a ≤ 1048576) : M.spec_IsTable a = some (decide (IsTable a)) := by
  unfold szT at h
  have hp := row_le (fun x : List Int => x.length) a.Points 1048576 (by omega)
  have hc := row_le (fun x : List Int => x.length) a.Codes 1048576 (by omega)
  unfold IsTable
  simp only [M.spec_IsTable, M.spec_IsTable_j1, p_l01In, bnd_some, ifB_if, if_true]
  by_cases h1 : 1 ≤ a.Boats ∧ a.Boats ≤ 16
  · by_cases h2 : a.Points.length ≤ 12
    · have h2' : ¬ (12 < (a.Points.length : Int)) := by omega
      by_cases h3 : a.Codes.length = a.Points.length
      · have hl : loopF (M.spec_IsTable_l1 a) 0 = some (if ∀ i, i < a.Points.length → badT a i = false then .nxt (a.Points.length : Int) else .ret false) := by
          refine loop_find a.Points.length (by omega) (fun i => (i : Int)) (badT a) false _ rfl (fun i hi => ?_) ?_
          · have e1 : ((i : Int) < (a.Points.length : Int)) := by omega
            have hi2 : i < a.Codes.length := by omega
            have hb : badT a i = (!decide (OkRow a.Points[i] a.Boats 10000) || !decide (OkRow a.Codes[i] a.Boats 9)) := by
              unfold badT; simp only [List.getElem?_eq_getElem hi, List.getElem?_eq_getElem hi2]
            simp only [M.spec_IsTable_l1, M.spec_IsTable_j2, e1, decide_true, ifB_true, idx_lt a.Points i hi, idx_lt a.Codes i hi2, bnd_some, ifB_if, if_true, hb]
            by_cases h4 : (a.Points[i].length : Int) = a.Boats
            · by_cases h5 : (a.Codes[i].length : Int) = a.Boats
              · have hl2 : loopF (M.spec_IsTable_l2 a (i : Int)) 0 = some (if ∀ k, k < a.Boats.toNat → (badN 10000 a.Points[i] k || badN 9 a.Codes[i] k) = false then .nxt (a.Boats.toNat : Int) else .ret false) := by
                  refine loop_find a.Boats.toNat (by omega) (fun k => (k : Int)) (fun k => badN 10000 a.Points[i] k || badN 9 a.Codes[i] k) false _ rfl (fun k hk => ?_) ?_
                  · have e2 : ((k : Int) < a.Boats) := by omega
                    have k1 : k < a.Points[i].length := by omega
                    have k2 : k < a.Codes[i].length := by omega
                    simp only [M.spec_IsTable_l2, M.spec_IsTable_j3, M.spec_l26Code, e2, decide_true, ifB_true, idx_lt a.Points i hi, idx_lt a.Codes i hi2, idx_lt a.Points[i] k k1, idx_lt a.Codes[i] k k2, bnd_some, p_l01In, step64 hk (by omega), ifB_if, if_true]
                    unfold badN
                    simp only [List.getElem?_eq_getElem k1, List.getElem?_eq_getElem k2]
                    by_cases h6 : 0 ≤ a.Points[i][k] ∧ a.Points[i][k] ≤ 10000 <;> simp [h6, ite_some]
                  · have : ¬ (((a.Boats.toNat : Nat) : Int) < a.Boats) := by omega
                    simp only [M.spec_IsTable_l2, this, decide_false, ifB_false]
                rw [if_neg (by simp [h4]), if_neg (by simp [h5]), hl2, bnd_some]
                by_cases h6 : ∀ j, j < a.Points[i].length → badN 10000 a.Points[i] j = false
                · have r1 : OkRow a.Points[i] a.Boats 10000 := ⟨h4, h6⟩
                  by_cases h7 : ∀ j, j < a.Codes[i].length → badN 9 a.Codes[i] j = false
                  · have r2 : OkRow a.Codes[i] a.Boats 9 := ⟨h5, h7⟩
                    rw [if_pos (fun k hk => by rw [h6 k (by omega), h7 k (by omega)]; rfl), outc_nxt, M.spec_IsTable_a2, step64 hi (by omega)]
                    simp [r1, r2]
                  · have r2 : ¬ OkRow a.Codes[i] a.Boats 9 := fun hh => h7 hh.2
                    rw [if_neg (fun hh => h7 fun j hj => by have := hh j (by omega); simp at this; exact this.2), outc_ret]
                    simp [r2]
                · have r1 : ¬ OkRow a.Points[i] a.Boats 10000 := fun hh => h6 hh.2
                  rw [if_neg (fun hh => h6 fun j hj => by have := hh j (by omega); simp at this; exact this.1), outc_ret]
                  simp [r1]
              · have h5' : ¬ OkRow a.Codes[i] a.Boats 9 := fun hh => h5 hh.1
                rw [if_neg (by simp [h4]), if_pos (by simp [h5])]; simp [h5']
            · have h4' : ¬ OkRow a.Points[i] a.Boats 10000 := fun hh => h4 hh.1
              rw [if_pos (by simp [h4])]; simp [h4']
          · simp [M.spec_IsTable_l1]
        rw [if_neg (by simp [h1]), if_neg (by simp [h2']), if_neg (by simp [h3]), hl, bnd_some]
        by_cases h4 : ∀ i, i < a.Points.length → badT a i = false
        · rw [if_pos h4, outc_nxt, M.spec_IsTable_a1]; exact congrArg some (decide_eq_true ⟨h1, h2, h3, h4⟩).symm
        · rw [if_neg h4, outc_ret]; exact congrArg some (decide_eq_false (fun hh => h4 hh.2.2.2)).symm
      · rw [if_neg (by simp [h1]), if_neg (by simp [h2']), if_pos (by simp; omega)]; exact congrArg some (decide_eq_false (fun hh => h3 hh.2.2.1)).symm
    · rw [if_neg (by simp [h1]), if_pos (by simp; omega)]; exact congrArg some (decide_eq_false (fun hh => h2 hh.2.1)).symm
  · rw [if_pos (by simp [h1])]; exact congrArg some (decide_eq_false (fun hh => h1 hh.1)).symm
end Go.Proofs.Ytpobaajdhfoomaa
