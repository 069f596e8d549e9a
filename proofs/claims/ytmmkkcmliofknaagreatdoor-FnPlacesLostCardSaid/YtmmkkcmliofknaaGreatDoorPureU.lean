/- Pure laws: tables. -/
import Derived.Test.YtmmkkcmliofknaaGreatDoorPureT
namespace Go.Proofs.YtmmkkcmliofknaaGreatDoor
open Go
set_option linter.unusedVariables false
set_option linter.unusedSimpArgs false
def zLY (m : Int) (xs : List Int) (j : Nat) : Bool := match xs[j]? with
  | none => true
  | some x => !decide (0 ≤ x ∧ x ≤ m)
def zIR (xs : List Int) (n m : Int) : Prop := (xs.length : Int) = n ∧ ∀ j, j < xs.length → zLY m xs j = false
instance (xs : List Int) (n m : Int) : Decidable (zIR xs n m) := by unfold zIR; infer_instance
theorem zOZ (xs : List Int) (n m : Int) (h : xs.length ≤ 1048576) : zIc xs n m = some (decide (zIR xs n m)) := by
  have hl : zAO (zHI xs m) 0 = some (if ∀ i, i < xs.length → zLY m xs i = false then .nxt (xs.length : Int) else .ret false) := by
    refine zIb xs.length (by omega) (fun i => (i : Int)) (zLY m xs) false _ rfl (fun i hi => ?_) ?_
    · have h1 : ((i : Int) < (xs.length : Int)) := by omega
      simp only [zHI, h1, decide_true, zAy, zBs xs i hi, zAr, zGw, zBB hi (by omega), zBm, if_true]
      unfold zLY
      simp only [List.getElem?_eq_getElem hi, zKg]
    · simp [zHI]
  unfold zIR
  rw [zIc, hl, zAr]
  by_cases h2 : ∀ j, j < xs.length → zLY m xs j = false
  · rw [if_pos h2, zBx, zHH]
    by_cases h3 : (xs.length : Int) = n
    · rw [show ((xs.length : Int) == n) = true by simp [h3]]; exact congrArg some (decide_eq_true ⟨h3, h2⟩).symm
    · rw [show ((xs.length : Int) == n) = false by simp [h3]]; exact congrArg some (decide_eq_false (fun hh => h3 hh.1)).symm
  · rw [if_neg h2, zH2]; exact congrArg some (decide_eq_false (fun hh => h2 hh.2)).symm
def zMM (a : Table) (i : Nat) : Bool := match a.Points[i]?, a.Codes[i]? with
  | some p, some c => !decide (zIR p a.Boats 10000) || !decide (zIR c a.Boats 9)
  | _, _ => true
def zCm (a : Table) : Prop := (1 ≤ a.Boats ∧ a.Boats ≤ 16) ∧ a.Points.length ≤ 12 ∧ a.Codes.length = a.Points.length ∧ ∀ i, i < a.Points.length → zMM a i = false
instance (a : Table) : Decidable (zCm a) := by unfold zCm; infer_instance
theorem zNs (a : Table) (h : szT a ≤ 1048576) : zIu a = some (decide (zCm a)) := by
  unfold szT at h
  have hp := zLb (fun x : List Int => x.length) a.Points 1048576 (by omega)
  have hc := zLb (fun x : List Int => x.length) a.Codes 1048576 (by omega)
  unfold zCm
  simp only [zIu, zFg, zGw, zAr, zBm, if_true]
  by_cases h1 : 1 ≤ a.Boats ∧ a.Boats ≤ 16
  · by_cases h2 : a.Points.length ≤ 12
    · have h2' : ¬ (12 < (a.Points.length : Int)) := by omega
      by_cases h3 : a.Codes.length = a.Points.length
      · have hl : zAO (zGM a) 0 = some (if ∀ i, i < a.Points.length → zMM a i = false then .nxt (a.Points.length : Int) else .ret false) := by
          refine zIb a.Points.length (by omega) (fun i => (i : Int)) (zMM a) false _ rfl (fun i hi => ?_) ?_
          · have e1 : ((i : Int) < (a.Points.length : Int)) := by omega
            have hi2 : i < a.Codes.length := by omega
            simp only [zGM, zGL, e1, decide_true, zAy, zBs a.Points i hi, zBs a.Codes i hi2, zAr, zOZ _ _ _ (hp _ (List.getElem_mem hi)), zOZ _ _ _ (hc _ (List.getElem_mem hi2)), zBB hi (by omega), zBm, if_true]
            unfold zMM
            simp only [List.getElem?_eq_getElem hi, List.getElem?_eq_getElem hi2]
            by_cases h4 : zIR a.Points[i] a.Boats 10000 <;> simp [h4, zKg]
          · simp [zGM]
        rw [if_neg (by simp [h1]), if_neg (by simp [h2']), if_neg (by simp [h3]), hl, zAr]
        by_cases h4 : ∀ i, i < a.Points.length → zMM a i = false
        · rw [if_pos h4, zBx, zGK]; exact congrArg some (decide_eq_true ⟨h1, h2, h3, h4⟩).symm
        · rw [if_neg h4, zH2]; exact congrArg some (decide_eq_false (fun hh => h4 hh.2.2.2)).symm
      · have h3' : ¬ a.Points.length = a.Codes.length := fun e => h3 e.symm
        rw [if_neg (by simp [h1]), if_neg (by simp [h2']), if_pos (by simp; omega)]; exact congrArg some (decide_eq_false (fun hh => h3 hh.2.2.1)).symm
    · rw [if_neg (by simp [h1]), if_pos (by simp; omega)]; exact congrArg some (decide_eq_false (fun hh => h2 hh.2.1)).symm
  · rw [if_pos (by simp [h1])]; exact congrArg some (decide_eq_false (fun hh => h1 hh.1)).symm
theorem zNt (a : Table) (h : szT a ≤ 1048576) : zJR a = some (decide (zCm a)) := by
  unfold szT at h
  have hp := zLb (fun x : List Int => x.length) a.Points 1048576 (by omega)
  have hc := zLb (fun x : List Int => x.length) a.Codes 1048576 (by omega)
  unfold zCm
  simp only [zJR, zIg, zEV, zAr, zBm, if_true]
  by_cases h1 : 1 ≤ a.Boats ∧ a.Boats ≤ 16
  · by_cases h2 : a.Points.length ≤ 12
    · have h2' : ¬ (12 < (a.Points.length : Int)) := by omega
      by_cases h3 : a.Codes.length = a.Points.length
      · have hl : zAO (zIf a) 0 = some (if ∀ i, i < a.Points.length → zMM a i = false then .nxt (a.Points.length : Int) else .ret false) := by
          refine zIb a.Points.length (by omega) (fun i => (i : Int)) (zMM a) false _ rfl (fun i hi => ?_) ?_
          · have e1 : ((i : Int) < (a.Points.length : Int)) := by omega
            have hi2 : i < a.Codes.length := by omega
            have hb : zMM a i = (!decide (zIR a.Points[i] a.Boats 10000) || !decide (zIR a.Codes[i] a.Boats 9)) := by
              unfold zMM; simp only [List.getElem?_eq_getElem hi, List.getElem?_eq_getElem hi2]
            simp only [zIf, zJd, e1, decide_true, zAy, zBs a.Points i hi, zBs a.Codes i hi2, zAr, zBm, if_true, hb]
            by_cases h4 : (a.Points[i].length : Int) = a.Boats
            · by_cases h5 : (a.Codes[i].length : Int) = a.Boats
              · have hl2 : zAO (zIe a (i : Int)) 0 = some (if ∀ k, k < a.Boats.toNat → (zLY 10000 a.Points[i] k || zLY 9 a.Codes[i] k) = false then .nxt (a.Boats.toNat : Int) else .ret false) := by
                  refine zIb a.Boats.toNat (by omega) (fun k => (k : Int)) (fun k => zLY 10000 a.Points[i] k || zLY 9 a.Codes[i] k) false _ rfl (fun k hk => ?_) ?_
                  · have e2 : ((k : Int) < a.Boats) := by omega
                    have k1 : k < a.Points[i].length := by omega
                    have k2 : k < a.Codes[i].length := by omega
                    simp only [zIe, zJc, zHC, e2, decide_true, zAy, zBs a.Points i hi, zBs a.Codes i hi2, zBs a.Points[i] k k1, zBs a.Codes[i] k k2, zAr, zEV, zBB hk (by omega), zBm, if_true]
                    unfold zLY
                    simp only [List.getElem?_eq_getElem k1, List.getElem?_eq_getElem k2]
                    by_cases h6 : 0 ≤ a.Points[i][k] ∧ a.Points[i][k] ≤ 10000 <;> simp [h6, zKg]
                  · have : ¬ (((a.Boats.toNat : Nat) : Int) < a.Boats) := by omega
                    simp only [zIe, this, decide_false, zAG]
                rw [if_neg (by simp [h4]), if_neg (by simp [h5]), hl2, zAr]
                by_cases h6 : ∀ j, j < a.Points[i].length → zLY 10000 a.Points[i] j = false
                · have r1 : zIR a.Points[i] a.Boats 10000 := ⟨h4, h6⟩
                  by_cases h7 : ∀ j, j < a.Codes[i].length → zLY 9 a.Codes[i] j = false
                  · have r2 : zIR a.Codes[i] a.Boats 9 := ⟨h5, h7⟩
                    rw [if_pos (fun k hk => by rw [h6 k (by omega), h7 k (by omega)]; rfl), zBx, zJ6, zBB hi (by omega)]
                    simp [r1, r2]
                  · have r2 : ¬ zIR a.Codes[i] a.Boats 9 := fun hh => h7 hh.2
                    rw [if_neg (fun hh => h7 fun j hj => by have := hh j (by omega); simp at this; exact this.2), zH2]
                    simp [r2]
                · have r1 : ¬ zIR a.Points[i] a.Boats 10000 := fun hh => h6 hh.2
                  rw [if_neg (fun hh => h6 fun j hj => by have := hh j (by omega); simp at this; exact this.1), zH2]
                  simp [r1]
              · have h5' : ¬ zIR a.Codes[i] a.Boats 9 := fun hh => h5 hh.1
                rw [if_neg (by simp [h4]), if_pos (by simp [h5])]; simp [h5']
            · have h4' : ¬ zIR a.Points[i] a.Boats 10000 := fun hh => h4 hh.1
              rw [if_pos (by simp [h4])]; simp [h4']
          · simp [zIf]
        rw [if_neg (by simp [h1]), if_neg (by simp [h2']), if_neg (by simp [h3]), hl, zAr]
        by_cases h4 : ∀ i, i < a.Points.length → zMM a i = false
        · rw [if_pos h4, zBx, zJ5]; exact congrArg some (decide_eq_true ⟨h1, h2, h3, h4⟩).symm
        · rw [if_neg h4, zH2]; exact congrArg some (decide_eq_false (fun hh => h4 hh.2.2.2)).symm
      · rw [if_neg (by simp [h1]), if_neg (by simp [h2']), if_pos (by simp; omega)]; exact congrArg some (decide_eq_false (fun hh => h3 hh.2.2.1)).symm
    · rw [if_neg (by simp [h1]), if_pos (by simp; omega)]; exact congrArg some (decide_eq_false (fun hh => h2 hh.2.1)).symm
  · rw [if_pos (by simp [h1])]; exact congrArg some (decide_eq_false (fun hh => h1 hh.1)).symm
end Go.Proofs.YtmmkkcmliofknaaGreatDoor
