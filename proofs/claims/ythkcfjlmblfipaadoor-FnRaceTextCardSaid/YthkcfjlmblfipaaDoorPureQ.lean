/- Pure laws: series and penalties. -/
import Derived.Test.YthkcfjlmblfipaaDoorPureR
import Derived.Test.YthkcfjlmblfipaaDoorPureHH
import Derived.Test.YthkcfjlmblfipaaDoorMod2
namespace Go.Proofs.YthkcfjlmblfipaaDoor
open Go
set_option linter.unusedVariables false
set_option linter.unusedSimpArgs false
def badFin (xs : List Finish) (i : Nat) : Bool := match xs[i]? with
  | none => true
  | some x => x.Boat != (i : Int) || !decide (0 ≤ x.Code ∧ x.Code ≤ 9) || (if x.Code = 0 then !decide (1 ≤ x.Time ∧ x.Time ≤ 1000000000) else x.Time != 0)
def OkRace (n : Int) (xs : List Finish) : Prop := (xs.length : Int) = n ∧ ∀ i, i < xs.length → badFin xs i = false
instance (n : Int) (xs : List Finish) : Decidable (OkRace n xs) := by unfold OkRace; infer_instance
theorem p_l26Race (n : Int) (r : Race) (h : r.Finishes.length ≤ 1048576) : M.spec_l26Race n r = some (decide (OkRace n r.Finishes)) := by
  have hl : loopF (M.spec_l26Race_l1 r) 0 = some (if ∀ i, i < r.Finishes.length → badFin r.Finishes i = false then .nxt (r.Finishes.length : Int) else .ret false) := by
    refine loop_find r.Finishes.length (by omega) (fun i => (i : Int)) (badFin r.Finishes) false _ rfl (fun i hi => ?_) ?_
    · have h1 : ((i : Int) < (r.Finishes.length : Int)) := by omega
      simp only [M.spec_l26Race_l1, M.spec_l26Race_j1, M.spec_l26Race_j2, M.spec_l26Code, h1, decide_true, ifB_true, idx_lt r.Finishes i hi, bnd_some, p_l01In, step64 hi (by omega), ifB_if, if_true]
      unfold badFin
      simp only [List.getElem?_eq_getElem hi]
      by_cases h3 : r.Finishes[i].Boat = (i : Int)
      · by_cases h4 : 0 ≤ r.Finishes[i].Code ∧ r.Finishes[i].Code ≤ 9
        · by_cases h5 : r.Finishes[i].Code = 0
          · by_cases h6 : 1 ≤ r.Finishes[i].Time ∧ r.Finishes[i].Time ≤ 1000000000 <;> simp [h3, h5, h6]
          · by_cases h6 : r.Finishes[i].Time = 0 <;> simp [h3, h4, h5, h6]
        · simp [h3, h4]
      · simp [h3]
    · simp [M.spec_l26Race_l1]
  unfold OkRace
  simp only [M.spec_l26Race, hl, bnd_some, M.spec_l26Race_a1, ifB_if]
  by_cases h2 : (r.Finishes.length : Int) = n
  · by_cases h3 : ∀ i, i < r.Finishes.length → badFin r.Finishes i = false
    · rw [if_pos h3, if_neg (by simp [h2])]; exact congrArg some (decide_eq_true ⟨h2, h3⟩).symm
    · rw [if_neg h3, if_neg (by simp [h2])]; exact congrArg some (decide_eq_false (fun hh => h3 hh.2)).symm
  · rw [if_pos (by simp [h2])]; exact congrArg some (decide_eq_false (fun hh => h2 hh.1)).symm
theorem p_IsFinish (x : Finish) : M.impl_IsFinish x = some (decide (0 ≤ x.Boat ∧ x.Boat ≤ 15) && (if x.Code = 0 then decide (1 ≤ x.Time ∧ x.Time ≤ 1000000000) else decide (1 ≤ x.Code ∧ x.Code ≤ 9) && (x.Time == 0))) := by
  simp only [M.impl_IsFinish, M.impl_IsFinish_j1, M.impl_IsFinish_j2, M.impl_isBoat, p_within, bnd_some, ifB_if]
  by_cases h5 : x.Code = 0
  · by_cases h6 : 0 ≤ x.Boat ∧ x.Boat ≤ 15 <;> simp [h5, h6]
  · by_cases h6 : 0 ≤ x.Boat ∧ x.Boat ≤ 15
    · by_cases h7 : 1 ≤ x.Code ∧ x.Code ≤ 9 <;> simp [h5, h6, h7]
    · simp [h5, h6]
theorem p_areFinishes (n : Int) (xs : List Finish) (h : xs.length ≤ 1048576) : M.impl_areFinishes n xs = some (decide ((1 ≤ n ∧ n ≤ 16) ∧ OkRace n xs)) := by
  unfold OkRace
  simp only [M.impl_areFinishes, M.impl_areFinishes_j1, p_within, bnd_some, ifB_if]
  by_cases h1 : 1 ≤ n ∧ n ≤ 16
  · by_cases h2 : (xs.length : Int) = n
    · have hl : loopF (M.impl_areFinishes_l1 xs) 0 = some (if ∀ i, i < xs.length → badFin xs i = false then .nxt (xs.length : Int) else .ret false) := by
        refine loop_find xs.length (by omega) (fun i => (i : Int)) (badFin xs) false _ rfl (fun i hi => ?_) ?_
        · have e1 : ((i : Int) < (xs.length : Int)) := by omega
          simp only [M.impl_areFinishes_l1, M.impl_areFinishes_j2, e1, decide_true, ifB_true, idx_lt xs i hi, bnd_some, p_IsFinish, step64 hi (by omega), ifB_if, if_true]
          unfold badFin
          simp only [List.getElem?_eq_getElem hi]
          by_cases h3 : xs[i].Boat = (i : Int)
          · have hb : 0 ≤ xs[i].Boat ∧ xs[i].Boat ≤ 15 := by omega
            by_cases h5 : xs[i].Code = 0
            · by_cases h6 : 1 ≤ xs[i].Time ∧ xs[i].Time ≤ 1000000000 <;> simp [h3, h5, h6] <;> omega
            · have hc : (1 ≤ xs[i].Code ∧ xs[i].Code ≤ 9) ↔ (0 ≤ xs[i].Code ∧ xs[i].Code ≤ 9) := by omega
              simp only [hc]
              by_cases h4 : 0 ≤ xs[i].Code ∧ xs[i].Code ≤ 9
              · by_cases h6 : xs[i].Time = 0 <;> simp [h3, h4, h5, h6] <;> omega
              · simp [h3, h4, h5]
          · simp [h3]
        · simp [M.impl_areFinishes_l1]
      simp only [hl, bnd_some, M.impl_areFinishes_a1]
      by_cases h3 : ∀ i, i < xs.length → badFin xs i = false
      · rw [if_pos h3]; simp only [h1, h2, and_self, decide_true, Bool.not_true, Bool.false_eq_true, if_false, bne_self_eq_false, outc_nxt]
        exact congrArg some (decide_eq_true ⟨trivial, trivial, h3⟩).symm
      · rw [if_neg h3]; simp only [h1, h2, and_self, decide_true, Bool.not_true, Bool.false_eq_true, if_false, bne_self_eq_false, outc_ret]
        exact congrArg some (decide_eq_false (fun hh => h3 hh.2.2)).symm
    · simp [h1, h2]
  · simp [h1]
def IsSeries (a : Series) : Prop := (1 ≤ a.Boats ∧ a.Boats ≤ 16) ∧ (0 ≤ a.Scheme ∧ a.Scheme ≤ 1) ∧ a.Races.length ≤ 12 ∧ ∀ i (h : i < a.Races.length), OkRace a.Boats a.Races[i].Finishes
instance (a : Series) : Decidable (IsSeries a) := by unfold IsSeries; infer_instance
theorem p_specIsRace (n : Int) (r : Race) (h : r.Finishes.length ≤ 1048576) : M.spec_IsRace n r = some (decide ((1 ≤ n ∧ n ≤ 16) ∧ OkRace n r.Finishes)) := by
  simp only [M.spec_IsRace, M.spec_IsRace_j1, p_l01In, bnd_some, p_l26Race n r h, ifB_if]
  by_cases h1 : 1 ≤ n ∧ n ≤ 16 <;> simp [h1]
theorem p_implIsRace (n : Int) (r : Race) (h : r.Finishes.length ≤ 1048576) : M.impl_IsRace n r = some (decide ((1 ≤ n ∧ n ≤ 16) ∧ OkRace n r.Finishes)) := by
  rw [M.impl_IsRace, p_areFinishes n r.Finishes h]; rfl
def OkPen (a : Series) (x : Penalty) : Prop := (0 ≤ x.Race ∧ x.Race ≤ (a.Races.length : Int) - 1) ∧ (0 ≤ x.Boat ∧ x.Boat ≤ a.Boats - 1) ∧
  ((x.Kind = 1 ∧ (x.Value = 6 ∨ x.Value = 7 ∨ x.Value = 5)) ∨ (x.Kind = 2 ∧ 1 ≤ x.Value ∧ x.Value ≤ 1000000000) ∨ (x.Kind = 3 ∧ 1 ≤ x.Value ∧ x.Value ≤ 100))
instance (a : Series) (x : Penalty) : Decidable (OkPen a x) := by unfold OkPen; infer_instance
def okVal (k v : Int) : Bool := if k = 1 then decide (v = 6 ∨ v = 7 ∨ v = 5) else if k = 2 then decide (1 ≤ v ∧ v ≤ 1000000000) else if k = 3 then decide (1 ≤ v ∧ v ≤ 100) else false
def badPen (a : Series) (xs : List Penalty) (i : Nat) : Bool := match xs[i]? with
  | none => true
  | some x => !decide (0 ≤ x.Race ∧ x.Race ≤ (a.Races.length : Int) - 1) || !decide (0 ≤ x.Boat ∧ x.Boat ≤ a.Boats - 1) || !okVal x.Kind x.Value
def ArePens (a : Series) (xs : List Penalty) : Prop := xs.length ≤ 60 ∧ ∀ i, i < xs.length → badPen a xs i = false
instance (a : Series) (xs : List Penalty) : Decidable (ArePens a xs) := by unfold ArePens; infer_instance
end Go.Proofs.YthkcfjlmblfipaaDoor
