/- Pure laws: series and penalties. -/
import Derived.Test.YtmmkkcmliofknaaGreatDoorPureR
import Derived.Test.YtmmkkcmliofknaaGreatDoorPureHH
import Derived.Test.YtmmkkcmliofknaaGreatDoorMod2
namespace Go.Proofs.YtmmkkcmliofknaaGreatDoor
open Go
set_option linter.unusedVariables false
set_option linter.unusedSimpArgs false
def zJE (xs : List Finish) (i : Nat) : Bool := match xs[i]? with
  | none => true
  | some x => x.Boat != (i : Int) || !decide (0 ≤ x.Code ∧ x.Code ≤ 9) || (if x.Code = 0 then !decide (1 ≤ x.Time ∧ x.Time ≤ 1000000000) else x.Time != 0)
def zJk (n : Int) (xs : List Finish) : Prop := (xs.length : Int) = n ∧ ∀ i, i < xs.length → zJE xs i = false
instance (n : Int) (xs : List Finish) : Decidable (zJk n xs) := by unfold zJk; infer_instance
theorem zQz (n : Int) (r : Race) (h : r.Finishes.length ≤ 1048576) : zIt n r = some (decide (zJk n r.Finishes)) := by
  have hl : zAO (zGJ r) 0 = some (if ∀ i, i < r.Finishes.length → zJE r.Finishes i = false then .nxt (r.Finishes.length : Int) else .ret false) := by
    refine zIb r.Finishes.length (by omega) (fun i => (i : Int)) (zJE r.Finishes) false _ rfl (fun i hi => ?_) ?_
    · have h1 : ((i : Int) < (r.Finishes.length : Int)) := by omega
      simp only [zGJ, zGI, zDl, zHC, h1, decide_true, zAy, zBs r.Finishes i hi, zAr, zEV, zBB hi (by omega), zBm, if_true]
      unfold zJE
      simp only [List.getElem?_eq_getElem hi]
      by_cases h3 : r.Finishes[i].Boat = (i : Int)
      · by_cases h4 : 0 ≤ r.Finishes[i].Code ∧ r.Finishes[i].Code ≤ 9
        · by_cases h5 : r.Finishes[i].Code = 0
          · by_cases h6 : 1 ≤ r.Finishes[i].Time ∧ r.Finishes[i].Time ≤ 1000000000 <;> simp [h3, h5, h6]
          · by_cases h6 : r.Finishes[i].Time = 0 <;> simp [h3, h4, h5, h6]
        · simp [h3, h4]
      · simp [h3]
    · simp [zGJ]
  unfold zJk
  simp only [zIt, hl, zAr, zGH, zBm]
  by_cases h2 : (r.Finishes.length : Int) = n
  · by_cases h3 : ∀ i, i < r.Finishes.length → zJE r.Finishes i = false
    · rw [if_pos h3, if_neg (by simp [h2])]; exact congrArg some (decide_eq_true ⟨h2, h3⟩).symm
    · rw [if_neg h3, if_neg (by simp [h2])]; exact congrArg some (decide_eq_false (fun hh => h3 hh.2)).symm
  · rw [if_pos (by simp [h2])]; exact congrArg some (decide_eq_false (fun hh => h2 hh.1)).symm
theorem zPs (x : Finish) : zH5 x = some (decide (0 ≤ x.Boat ∧ x.Boat ≤ 15) && (if x.Code = 0 then decide (1 ≤ x.Time ∧ x.Time ≤ 1000000000) else decide (1 ≤ x.Code ∧ x.Code ≤ 9) && (x.Time == 0))) := by
  simp only [zH5, zF1, zEH, zD3, zGw, zAr, zBm]
  by_cases h5 : x.Code = 0
  · by_cases h6 : 0 ≤ x.Boat ∧ x.Boat ≤ 15 <;> simp [h5, h6]
  · by_cases h6 : 0 ≤ x.Boat ∧ x.Boat ≤ 15
    · by_cases h7 : 1 ≤ x.Code ∧ x.Code ≤ 9 <;> simp [h5, h6, h7]
    · simp [h5, h6]
theorem zNr (n : Int) (xs : List Finish) (h : xs.length ≤ 1048576) : zF2 n xs = some (decide ((1 ≤ n ∧ n ≤ 16) ∧ zJk n xs)) := by
  unfold zJk
  simp only [zF2, zEA, zGw, zAr, zBm]
  by_cases h1 : 1 ≤ n ∧ n ≤ 16
  · by_cases h2 : (xs.length : Int) = n
    · have hl : zAO (zEz xs) 0 = some (if ∀ i, i < xs.length → zJE xs i = false then .nxt (xs.length : Int) else .ret false) := by
        refine zIb xs.length (by omega) (fun i => (i : Int)) (zJE xs) false _ rfl (fun i hi => ?_) ?_
        · have e1 : ((i : Int) < (xs.length : Int)) := by omega
          simp only [zEz, zEy, e1, decide_true, zAy, zBs xs i hi, zAr, zPs, zBB hi (by omega), zBm, if_true]
          unfold zJE
          simp only [List.getElem?_eq_getElem hi]
          by_cases h3 : xs[i].Boat = (i : Int)
          · have hb : 0 ≤ xs[i].Boat ∧ xs[i].Boat ≤ 15 := by omega
            by_cases h5 : xs[i].Code = 0
            · by_cases h6 : 1 ≤ xs[i].Time ∧ xs[i].Time ≤ 1000000000 <;> simp [h3, h5, h6] <;> omega
            · have hc : (1 ≤ xs[i].Code ∧ xs[i].Code ≤ 9) ↔ (0 ≤ xs[i].Code ∧ xs[i].Code ≤ 9) := by omega
              simp only [hc]
              by_cases h4 : 0 ≤ xs[i].Code ∧ xs[i].Code ≤ 9
              · by_cases h6 : xs[i].Time = 0 <;> simp [h3, h4, h5, h6] <;> omega
              · simp [h3, h4, h5]
          · simp [h3]
        · simp [zEz]
      simp only [hl, zAr, zEx]
      by_cases h3 : ∀ i, i < xs.length → zJE xs i = false
      · rw [if_pos h3]; simp only [h1, h2, and_self, decide_true, Bool.not_true, Bool.false_eq_true, if_false, bne_self_eq_false, zBx]
        exact congrArg some (decide_eq_true ⟨trivial, trivial, h3⟩).symm
      · rw [if_neg h3]; simp only [h1, h2, and_self, decide_true, Bool.not_true, Bool.false_eq_true, if_false, bne_self_eq_false, zH2]
        exact congrArg some (decide_eq_false (fun hh => h3 hh.2.2)).symm
    · simp [h1, h2]
  · simp [h1]
def zBM (a : Series) : Prop := (1 ≤ a.Boats ∧ a.Boats ≤ 16) ∧ (0 ≤ a.Scheme ∧ a.Scheme ≤ 1) ∧ a.Races.length ≤ 12 ∧ ∀ i (h : i < a.Races.length), zJk a.Boats a.Races[i].Finishes
instance (a : Series) : Decidable (zBM a) := by unfold zBM; infer_instance
def szS (a : Series) : Nat := a.Races.length + tot (fun x : Race => x.Finishes.length) a.Races
def szT (a : Table) : Nat := a.Points.length + tot (fun x : List Int => x.length) a.Points + (a.Codes.length + tot (fun x : List Int => x.length) a.Codes)
theorem zLb {β : Type} (n : β → Nat) (xs : List β) (m : Nat) (h : tot n xs ≤ m) : ∀ x ∈ xs, n x ≤ m := fun x hx => Nat.le_trans (zSw n xs x hx) h
theorem zN5 (n : Int) (r : Race) (h : r.Finishes.length ≤ 1048576) : zIO n r = some (decide ((1 ≤ n ∧ n ≤ 16) ∧ zJk n r.Finishes)) := by
  rw [zIO, zNr n r.Finishes h]; rfl
def zKH (n : Int) (xs : List Race) (i : Nat) : Bool := match xs[i]? with | none => true | some x => !decide (zJk n x.Finishes)
theorem zNf (n : Int) (xs : List Race) : (∀ i, i < xs.length → zKH n xs i = false) ↔ ∀ i (h : i < xs.length), zJk n xs[i].Finishes := by
  constructor
  · intro h i hi; have := h i hi; unfold zKH at this; simp only [List.getElem?_eq_getElem hi] at this; simpa using this
  · intro h i hi; unfold zKH; simp only [List.getElem?_eq_getElem hi]; simpa using h i hi
theorem zLc (a : Series) (h : szS a ≤ 1048576) : zGA a = some (decide (zBM a)) := by
  unfold szS at h
  have hr := zLb (fun x : Race => x.Finishes.length) a.Races 1048576 (by omega)
  have hl : zAO (zF4 a) 0 = some (if ∀ i, i < a.Races.length → zKH a.Boats a.Races i = false then .nxt (a.Races.length : Int) else .ret false) := by
    refine zIb a.Races.length (by omega) (fun i => (i : Int)) (zKH a.Boats a.Races) false _ rfl (fun i hi => ?_) ?_
    · have h1 : ((i : Int) < (a.Races.length : Int)) := by omega
      simp only [zF4, h1, decide_true, zAy, zBs a.Races i hi, zAr, zQz _ _ (hr _ (List.getElem_mem hi)), zBB hi (by omega), zBm, if_true]
      unfold zKH
      simp only [List.getElem?_eq_getElem hi, zKg]
    · simp [zF4]
  unfold zBM
  simp only [zGA, zEI, zF3, zEV, zAr, hl, zBm, zNf]
  by_cases h1 : 1 ≤ a.Boats ∧ a.Boats ≤ 16
  · by_cases h2 : 0 ≤ a.Scheme ∧ a.Scheme ≤ 1
    · by_cases h3 : a.Races.length ≤ 12
      · have h3' : ¬ (12 < (a.Races.length : Int)) := by omega
        by_cases h4 : ∀ i (h : i < a.Races.length), zJk a.Boats a.Races[i].Finishes
        · simp only [h1, h2, h3, h3', h4, and_self, implies_true, decide_true, decide_false, Bool.not_true, Bool.false_eq_true, if_false, if_true, zBx]
        · simp only [h1, h2, h3, h3', h4, and_self, and_false, decide_true, decide_false, Bool.not_true, Bool.false_eq_true, if_false, if_true, zH2]
      · have h3' : 12 < (a.Races.length : Int) := by omega
        simp [h1, h2, h3, h3']
    · simp [h1, h2]
  · simp [h1]
theorem zJl (a : Series) (h : szS a ≤ 1048576) : zGC a = some (decide (zBM a)) := by
  unfold szS at h
  have hr := zLb (fun x : Race => x.Finishes.length) a.Races 1048576 (by omega)
  have hl : zAO (zGa a) 0 = some (if ∀ i, i < a.Races.length → (!decide (1 ≤ a.Boats ∧ a.Boats ≤ 16) || zKH a.Boats a.Races i) = false then .nxt (a.Races.length : Int) else .ret false) := by
    refine zIb a.Races.length (by omega) (fun i => (i : Int)) (fun i => !decide (1 ≤ a.Boats ∧ a.Boats ≤ 16) || zKH a.Boats a.Races i) false _ rfl (fun i hi => ?_) ?_
    · have h1 : ((i : Int) < (a.Races.length : Int)) := by omega
      simp only [zGa, h1, decide_true, zAy, zBs a.Races i hi, zAr, zN5 _ _ (hr _ (List.getElem_mem hi)), zBB hi (by omega), zBm, if_true]
      unfold zKH
      simp only [List.getElem?_eq_getElem hi]
      by_cases h2 : 1 ≤ a.Boats ∧ a.Boats ≤ 16 <;> simp [h2, zKg]
    · simp [zGa]
  unfold zBM
  simp only [zGC, zEL, zF9, zIT, zGw, zAr, hl, zBm]
  by_cases h1 : 1 ≤ a.Boats ∧ a.Boats ≤ 16
  · simp only [h1, and_self, decide_true, Bool.not_true, Bool.false_or, zNf]
    by_cases h4 : ∀ i (h : i < a.Races.length), zJk a.Boats a.Races[i].Finishes
    · rw [if_pos h4, zBx]
      by_cases h2 : 0 ≤ a.Scheme ∧ a.Scheme ≤ 1
      · by_cases h3 : a.Races.length ≤ 12
        · have h3' : (a.Races.length : Int) ≤ 12 := by omega
          simp [h2, h3, h3', h4]
        · have h3' : ¬ (a.Races.length : Int) ≤ 12 := by omega
          simp [h2, h3, h3']
      · simp [h2]
    · rw [if_neg h4, zH2]
      simp [h4]
  · have e1 : ∀ o : Outc Bool Int, (zBh o (fun x => some x) fun s => if decide (1 ≤ a.Boats ∧ a.Boats ≤ 16) = true then (if decide (0 ≤ a.Scheme ∧ a.Scheme ≤ 1) = true then some (decide ((a.Races.length : Int) ≤ 12)) else some false) else some false) = zBh o (fun x => some x) (fun _ => some false) := fun o => by cases o <;> simp [h1]
    rw [e1]
    split <;> simp [h1]
def zSZ (a : Series) (x : Penalty) : Prop := (0 ≤ x.Race ∧ x.Race ≤ (a.Races.length : Int) - 1) ∧ (0 ≤ x.Boat ∧ x.Boat ≤ a.Boats - 1) ∧
  ((x.Kind = 1 ∧ (x.Value = 6 ∨ x.Value = 7 ∨ x.Value = 5)) ∨ (x.Kind = 2 ∧ 1 ≤ x.Value ∧ x.Value ≤ 1000000000) ∨ (x.Kind = 3 ∧ 1 ≤ x.Value ∧ x.Value ≤ 100))
instance (a : Series) (x : Penalty) : Decidable (zSZ a x) := by unfold zSZ; infer_instance
def zJ7 (k v : Int) : Bool := if k = 1 then decide (v = 6 ∨ v = 7 ∨ v = 5) else if k = 2 then decide (1 ≤ v ∧ v ≤ 1000000000) else if k = 3 then decide (1 ≤ v ∧ v ≤ 100) else false
theorem zLU (k v : Int) : zGB k v = some (zJ7 k v) := by
  simp only [zGB, zE1, zD8, zEV, zAr, zBm, zJ7]
  by_cases h1 : k = 1
  · by_cases h2 : v = 6
    · simp [h1, h2]
    · by_cases h3 : v = 7 <;> by_cases h4 : v = 5 <;> simp [h1, h2, h3, h4] <;> omega
  · by_cases h2 : k = 2
    · simp [h2]
    · by_cases h3 : k = 3 <;> simp [h1, h2, h3]
theorem zMI (x : Penalty) : zFV x = some (zJ7 x.Kind x.Value) := by
  simp only [zFV, zFB, zDR, zCK, zIH, zGw, zAr, zBm, zJ7]
  by_cases h1 : x.Kind = 1
  · by_cases h2 : x.Value = 6
    · simp [h1, h2]
    · by_cases h3 : x.Value = 7 <;> by_cases h4 : x.Value = 5 <;> simp [h1, h2, h3, h4] <;> omega
  · by_cases h2 : x.Kind = 2
    · simp [h2]
    · by_cases h3 : x.Kind = 3 <;> simp [h1, h2, h3]
def zMx (a : Series) (xs : List Penalty) (i : Nat) : Bool := match xs[i]? with
  | none => true
  | some x => !decide (0 ≤ x.Race ∧ x.Race ≤ (a.Races.length : Int) - 1) || !decide (0 ≤ x.Boat ∧ x.Boat ≤ a.Boats - 1) || !zJ7 x.Kind x.Value
def zD1 (a : Series) (xs : List Penalty) : Prop := xs.length ≤ 60 ∧ ∀ i, i < xs.length → zMx a xs i = false
instance (a : Series) (xs : List Penalty) : Decidable (zD1 a xs) := by unfold zD1; infer_instance
theorem zPt (a : Series) (xs : List Penalty) (hb : 1 ≤ a.Boats ∧ a.Boats ≤ 16) (hr : a.Races.length ≤ 12) (h : xs.length ≤ 1048576) : zFp a xs = some (decide (zD1 a xs)) := by
  have hl : zAO (zDF a xs) 0 = some (if ∀ i, i < xs.length → zMx a xs i = false then .nxt (xs.length : Int) else .ret false) := by
    refine zIb xs.length (by omega) (fun i => (i : Int)) (zMx a xs) false _ rfl (fun i hi => ?_) ?_
    · have h1 : ((i : Int) < (xs.length : Int)) := by omega
      simp only [zDF, zDE, h1, decide_true, zAy, zBs xs i hi, zAr, zEV, zLU, zBl (show -9223372036854775808 ≤ (a.Races.length : Int) - 1 ∧ (a.Races.length : Int) - 1 < 9223372036854775808 by omega), zBl (show -9223372036854775808 ≤ a.Boats - 1 ∧ a.Boats - 1 < 9223372036854775808 by omega), zBB hi (by omega), zBm, if_true]
      unfold zMx
      simp only [List.getElem?_eq_getElem hi]
      by_cases h2 : 0 ≤ xs[i].Race ∧ xs[i].Race ≤ (a.Races.length : Int) - 1
      · by_cases h3 : 0 ≤ xs[i].Boat ∧ xs[i].Boat ≤ a.Boats - 1 <;> simp [h2, h3, zKg]
      · simp [h2]
    · simp [zDF]
  unfold zD1
  simp only [zFp, hl, zAr, zEK]
  by_cases h2 : ∀ i, i < xs.length → zMx a xs i = false
  · rw [if_pos h2, zBx]
    by_cases h3 : xs.length ≤ 60
    · rw [decide_eq_true (show (xs.length : Int) ≤ 60 by omega)]; exact congrArg some (decide_eq_true ⟨h3, h2⟩).symm
    · rw [decide_eq_false (show ¬ (xs.length : Int) ≤ 60 by omega)]; exact congrArg some (decide_eq_false (fun hh => h3 hh.1)).symm
  · rw [if_neg h2, zH2]; exact congrArg some (decide_eq_false (fun hh => h2 hh.2)).symm
theorem zNg (a : Series) (xs : List Penalty) : zFC a xs = zFp a xs := by
  have e : ∀ s, zFS a xs s = zDF a xs s := fun s => by
    simp only [zFS, zDF, zCV, zDE, zGw, zEV, zLU, zMI, zAr]
  simp only [zFC, zFp, zLG e, zD9, zEK]
end Go.Proofs.YtmmkkcmliofknaaGreatDoor
