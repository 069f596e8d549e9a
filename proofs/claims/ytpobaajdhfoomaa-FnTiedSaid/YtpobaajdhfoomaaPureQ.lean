/- Pure laws: series and penalties. -/
import Derived.Test.YtpobaajdhfoomaaPureR
import Derived.Test.YtpobaajdhfoomaaPureHH
import Derived.Test.YtpobaajdhfoomaaMod2
namespace Go.Proofs.Ytpobaajdhfoomaa
open Go
set_option linter.unusedVariables false
set_option linter.unusedSimpArgs false
def badFin (xs : List Finish) (i : Nat) : Bool := match xs[i]? with
  | none => true
  | some x => x.Boat != (i : Int) || !decide (0 ≤ x.Code ∧ x.Code ≤ 9) || (if x.Code = 0 then !decide (1 ≤ x.Time ∧ x.Time ≤ 1000000000) else x.Time != 0)
def OkRace (n : Int) (xs : List Finish) : Prop := (xs.length : Int) = n ∧ ∀ i, i < xs.length → badFin xs i = false
instance (n : Int) (xs : List Finish) : Decidable (OkRace n xs) := by unfold OkRace; infer_instance
theorem p_l26Race (n : Int) (r : Race) (h : r.Finishes.length ≤ 1048576) : M.spec_l26Race n r = some (decide (OkRace n r.Finishes)) := by
  have hl : loopF (M.spec_l26Race_l1 r) 0 = some (if ∀ i, i < r.Finishes.length → badFin r.Finishes i = false then .nxt (r.Finishes.length : Int) else .ret false) := by
    refine loop_find r.Finishes.length (by omega) (fun i => (i : Int)) (badFin r.Finishes) false _ rfl (fun i hi => ?_) ?_
    · have h1 : ((i : Int) < (r.Finishes.length : Int)) := by omega
      simp only [M.spec_l26Race_l1, M.spec_l26Race_j1, M.spec_l26Race_j2, M.spec_l26Code, h1, decide_true, ifB_true, idx_lt r.Finishes i hi, bnd_some, p_l01In, step64 hi (by omega), ifB_if, if_true]
      unfold badFin
      simp only [List.getElem?_eq_getElem hi]
      by_cases h3 : r.Finishes[i].Boat = (i : Int)
      · by_cases h4 : 0 ≤ r.Finishes[i].Code ∧ r.Finishes[i].Code ≤ 9
        · by_cases h5 : r.Finishes[i].Code = 0
          · by_cases h6 : 1 ≤ r.Finishes[i].Time ∧ r.Finishes[i].Time ≤ 1000000000 <;> simp [h3, h5, h6]
          · by_cases h6 : r.Finishes[i].Time = 0 <;> simp [h3, h4, h5, h6]
        · simp [h3, h4]
      · simp [h3]
    · simp [M.spec_l26Race_l1]
  unfold OkRace
  simp only [M.spec_l26Race, hl, bnd_some, M.spec_l26Race_a1, ifB_if]
  by_cases h2 : (r.Finishes.length : Int) = n
  · by_cases h3 : ∀ i, i < r.Finishes.length → badFin r.Finishes i = false
    · rw [if_pos h3, if_neg (by simp [h2])]; exact congrArg some (decide_eq_true ⟨h2, h3⟩).symm
    · rw [if_neg h3, if_neg (by simp [h2])]; exact congrArg some (decide_eq_false (fun hh => h3 hh.2)).symm
  · rw [if_pos (by simp [h2])]; exact congrArg some (decide_eq_false (fun hh => h2 hh.1)).symm
def IsSeries (a : Series) : Prop := (1 ≤ a.Boats ∧ a.Boats ≤ 16) ∧ (0 ≤ a.Scheme ∧ a.Scheme ≤ 1) ∧ a.Races.length ≤ 12 ∧ ∀ i (h : i < a.Races.length), OkRace a.Boats a.Races[i].Finishes
instance (a : Series) : Decidable (IsSeries a) := by unfold IsSeries; infer_instance
def szS (a : Series) : Nat := a.Races.length + tot (fun x : Race => x.Finishes.length) a.Races
def szT (a : Table) : Nat := a.Points.length + tot (fun x : List Int => x.length) a.Points + (a.Codes.length + tot (fun x : List Int => x.length) a.Codes)
theorem row_le {β : Type} (n : β → Nat) (xs : List β) (m : Nat) (h : tot n xs ≤ m) : ∀ x ∈ xs, n x ≤ m := fun x hx => Nat.le_trans (tot_mem n xs x hx) h
def badRow (n : Int) (xs : List Race) (i : Nat) : Bool := match xs[i]? with | none => true | some x => !decide (OkRace n x.Finishes)
theorem badRow_iff (n : Int) (xs : List Race) : (∀ i, i < xs.length → badRow n xs i = false) ↔ ∀ i (h : i < xs.length), OkRace n xs[i].Finishes := by
  constructor
  · intro h i hi; have := h i hi; unfold badRow at this; simp only [List.getElem?_eq_getElem hi] at this; simpa using this
  · intro h i hi; unfold badRow; simp only [List.getElem?_eq_getElem hi]; simpa using h i hi
theorem p_specIsSeries (a : Series) (h : szS a ≤ 1048576) : M.spec_IsSeries a = some (decide (IsSeries a)) := by
  unfold szS at h
  have hr := row_le (fun x : Race => x.Finishes.length) a.Races 1048576 (by omega)
  have hl : loopF (M.spec_IsSeries_l1 a) 0 = some (if ∀ i, i < a.Races.length → badRow a.Boats a.Races i = false then .nxt (a.Races.length : Int) else .ret false) := by
    refine loop_find a.Races.length (by omega) (fun i => (i : Int)) (badRow a.Boats a.Races) false _ rfl (fun i hi => ?_) ?_
    · have h1 : ((i : Int) < (a.Races.length : Int)) := by omega
      simp only [M.spec_IsSeries_l1, h1, decide_true, ifB_true, idx_lt a.Races i hi, bnd_some, p_l26Race _ _ (hr _ (List.getElem_mem hi)), step64 hi (by omega), ifB_if, if_true]
      unfold badRow
      simp only [List.getElem?_eq_getElem hi, ite_some]
    · simp [M.spec_IsSeries_l1]
  unfold IsSeries
  simp only [M.spec_IsSeries, M.spec_IsSeries_j1, M.spec_IsSeries_a1, p_l01In, bnd_some, hl, ifB_if, badRow_iff]
  by_cases h1 : 1 ≤ a.Boats ∧ a.Boats ≤ 16
  · by_cases h2 : 0 ≤ a.Scheme ∧ a.Scheme ≤ 1
    · by_cases h3 : a.Races.length ≤ 12
      · have h3' : ¬ (12 < (a.Races.length : Int)) := by omega
        by_cases h4 : ∀ i (h : i < a.Races.length), OkRace a.Boats a.Races[i].Finishes
        · simp only [h1, h2, h3, h3', h4, and_self, implies_true, decide_true, decide_false, Bool.not_true, Bool.false_eq_true, if_false, if_true, outc_nxt]
        · simp only [h1, h2, h3, h3', h4, and_self, and_false, decide_true, decide_false, Bool.not_true, Bool.false_eq_true, if_false, if_true, outc_ret]
      · have h3' : 12 < (a.Races.length : Int) := by omega
        simp [h1, h2, h3, h3']
    · simp [h1, h2]
  · simp [h1]
def OkPen (a : Series) (x : Penalty) : Prop := (0 ≤ x.Race ∧ x.Race ≤ (a.Races.length : Int) - 1) ∧ (0 ≤ x.Boat ∧ x.Boat ≤ a.Boats - 1) ∧
  ((x.Kind = 1 ∧ (x.Value = 6 ∨ x.Value = 7 ∨ x.Value = 5)) ∨ (x.Kind = 2 ∧ 1 ≤ x.Value ∧ x.Value ≤ 1000000000) ∨ (x.Kind = 3 ∧ 1 ≤ x.Value ∧ x.Value ≤ 100))
instance (a : Series) (x : Penalty) : Decidable (OkPen a x) := by unfold OkPen; infer_instance
def okVal (k v : Int) : Bool := if k = 1 then decide (v = 6 ∨ v = 7 ∨ v = 5) else if k = 2 then decide (1 ≤ v ∧ v ≤ 1000000000) else if k = 3 then decide (1 ≤ v ∧ v ≤ 100) else false
def badPen (a : Series) (xs : List Penalty) (i : Nat) : Bool := match xs[i]? with
  | none => true
  | some x => !decide (0 ≤ x.Race ∧ x.Race ≤ (a.Races.length : Int) - 1) || !decide (0 ≤ x.Boat ∧ x.Boat ≤ a.Boats - 1) || !okVal x.Kind x.Value
def ArePens (a : Series) (xs : List Penalty) : Prop := xs.length ≤ 60 ∧ ∀ i, i < xs.length → badPen a xs i = false
instance (a : Series) (xs : List Penalty) : Decidable (ArePens a xs) := by unfold ArePens; infer_instance
end Go.Proofs.Ytpobaajdhfoomaa
