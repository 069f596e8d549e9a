/- Pure laws: series and penalties. -/
import Derived.Test.YtgelmamcinlahaaGreatPureR
import Derived.Test.YtgelmamcinlahaaGreatPureHH
import Derived.Test.YtgelmamcinlahaaGreatMod2
namespace Go.Proofs.YtgelmamcinlahaaGreat
open Go
set_option linter.unusedVariables false
set_option linter.unusedSimpArgs false
def badFin (xs : List Finish) (i : Nat) : Bool := match xs[i]? with
  | none => true
  | some x => x.Boat != (i : Int) || !decide (0 ≤ x.Code ∧ x.Code ≤ 9) || (if x.Code = 0 then !decide (1 ≤ x.Time ∧ x.Time ≤ 1000000000) else x.Time != 0)
def OkRace (n : Int) (xs : List Finish) : Prop := (xs.length : Int) = n ∧ ∀ i, i < xs.length → badFin xs i = false
instance (n : Int) (xs : List Finish) : Decidable (OkRace n xs) := by unfold OkRace; infer_instance
theorem p_l26Race (n : Int) (r : Race) (h : r.Finishes.length ≤ 1048576) : M.spec_l26Race n r = some (decide (OkRace n r.Finishes)) := by
  have hl : loopF (M.spec_l26Race_l1 r) 0 = some (if ∀ i, i < r.Finishes.length → badFin r.Finishes i = false then .nxt (r.Finishes.length : Int) else .ret false) := by
    refine loop_find r.Finishes.length (by omega) (fun i => (i : Int)) (badFin r.Finishes) false _ rfl (fun i hi => ?_) ?_
    · have h1 : ((i : Int) < (r.Finishes.length : Int)) := by omega
      simp only [M.spec_l26Race_l1, M.spec_l26Race_j1, M.spec_l26Race_j2, M.spec_l26Code, h1, decide_true, ifB_true, idx_lt r.Finishes i hi, bnd_some, p_l01In, step64 hi (by omega), ifB_if, if_true]
      unfold badFin
      simp only [List.getElem?_eq_getElem hi]
      by_cases h3 : r.Finishes[i].Boat = (i : Int)
      · by_cases h4 : 0 ≤ r.Finishes[i].Code ∧ r.Finishes[i].Code ≤ 9
        · by_cases h5 : r.Finishes[i].Code = 0
          · by_cases h6 : 1 ≤ r.Finishes[i].Time ∧ r.Finishes[i].Time ≤ 1000000000 <;> simp [h3, h5, h6]
          · by_cases h6 : r.Finishes[i].Time = 0 <;> simp [h3, h4, h5, h6]
        · simp [h3, h4]
      · simp [h3]
    · simp [M.spec_l26Race_l1]
  unfold OkRace
  simp only [M.spec_l26Race, hl, bnd_some, M.spec_l26Race_a1, ifB_if]
  by_cases h2 : (r.Finishes.length : Int) = n
  · by_cases h3 : ∀ i, i < r.Finishes.length → badFin r.Finishes i = false
    · rw [if_pos h3, if_neg (by simp [h2])]; exact congrArg some (decide_eq_true ⟨h2, h3⟩).symm
    · rw [if_neg h3, if_neg (by simp [h2])]; exact congrArg some (decide_eq_false (fun hh => h3 hh.2)).symm
  · rw [if_pos (by simp [h2])]; exact congrArg some (decide_eq_false (fun hh => h2 hh.1)).symm
theorem p_IsFinish (x : Finish) : M.impl_IsFinish x = some (decide (0 ≤ x.Boat ∧ x.Boat ≤ 15) && (if x.Code = 0 then decide (1 ≤ x.Time ∧ x.Time ≤ 1000000000) else decide (1 ≤ x.Code ∧ x.Code ≤ 9) && (x.Time == 0))) := by
  simp only [M.impl_IsFinish, M.impl_IsFinish_j1, M.impl_IsFinish_j2, M.impl_isBoat, p_within, bnd_some, ifB_if]
  by_cases h5 : x.Code = 0
  · by_cases h6 : 0 ≤ x.Boat ∧ x.Boat ≤ 15 <;> simp [h5, h6]
  · by_cases h6 : 0 ≤ x.Boat ∧ x.Boat ≤ 15
    · by_cases h7 : 1 ≤ x.Code ∧ x.Code ≤ 9 <;> simp [h5, h6, h7]
    · simp [h5, h6]
theorem p_areFinishes (n : Int) (xs : List Finish) (h : xs.length ≤ 1048576) : M.impl_areFinishes n xs = some (decide ((1 ≤ n ∧ n ≤ 16) ∧ OkRace n xs)) := by
  unfold OkRace
  simp only [M.impl_areFinishes, M.impl_areFinishes_j1, p_within, bnd_some, ifB_if]
  by_cases h1 : 1 ≤ n ∧ n ≤ 16
  · by_cases h2 : (xs.length : Int) = n
    · have hl : loopF (M.impl_areFinishes_l1 xs) 0 = some (if ∀ i, i < xs.length → badFin xs i = false then .nxt (xs.length : Int) else .ret false) := by
        refine loop_find xs.length (by omega) (fun i => (i : Int)) (badFin xs) false _ rfl (fun i hi => ?_) ?_
        · have e1 : ((i : Int) < (xs.length : Int)) := by omega
          simp only [M.impl_areFinishes_l1, M.impl_areFinishes_j2, e1, decide_true, ifB_true, idx_lt xs i hi, bnd_some, p_IsFinish, step64 hi (by omega), ifB_if, if_true]
          unfold badFin
          simp only [List.getElem?_eq_getElem hi]
          by_cases h3 : xs[i].Boat = (i : Int)
          · have hb : 0 ≤ xs[i].Boat ∧ xs[i].Boat ≤ 15 := by omega
            by_cases h5 : xs[i].Code = 0
            · by_cases h6 : 1 ≤ xs[i].Time ∧ xs[i].Time ≤ 1000000000 <;> simp [h3, h5, h6] <;> omega
            · have hc : (1 ≤ xs[i].Code ∧ xs[i].Code ≤ 9) ↔ (0 ≤ xs[i].Code ∧ xs[i].Code ≤ 9) := by omega
              simp only [hc]
              by_cases h4 : 0 ≤ xs[i].Code ∧ xs[i].Code ≤ 9
              · by_cases h6 : xs[i].Time = 0 <;> simp [h3, h4, h5, h6] <;> omega
              · simp [h3, h4, h5]
          · simp [h3]
        · simp [M.impl_areFinishes_l1]
      simp only [hl, bnd_some, M.impl_areFinishes_a1]
      by_cases h3 : ∀ i, i < xs.length → badFin xs i = false
      · rw [if_pos h3]; simp only [h1, h2, and_self, decide_true, Bool.not_true, Bool.false_eq_true, if_false, bne_self_eq_false, outc_nxt]
        exact congrArg some (decide_eq_true ⟨trivial, trivial, h3⟩).symm
      · rw [if_neg h3]; simp only [h1, h2, and_self, decide_true, Bool.not_true, Bool.false_eq_true, if_false, bne_self_eq_false, outc_ret]
        exact congrArg some (decide_eq_false (fun hh => h3 hh.2.2)).symm
    · simp [h1, h2]
  · simp [h1]
def IsSeries (a : Series) : Prop := (1 ≤ a.Boats ∧ a.Boats ≤ 16) ∧ (0 ≤ a.Scheme ∧ a.Scheme ≤ 1) ∧ a.Races.length ≤ 12 ∧ ∀ i (h : i < a.Races.length), OkRace a.Boats a.Races[i].Finishes
instance (a : Series) : Decidable (IsSeries a) := by unfold IsSeries; infer_instance
def szS (a : Series) : Nat := a.Races.length + tot (fun x : Race => x.Finishes.length) a.Races
theorem row_le {β : Type} (n : β → Nat) (xs : List β) (m : Nat) (h : tot n xs ≤ m) : ∀ x ∈ xs, n x ≤ m := fun x hx => Nat.le_trans (tot_mem n xs x hx) h
theorem p_szSeries (a : Series) (h : OkD.ok a) (n : Int) (h0 : 0 ≤ n) (hn : n ≤ 1048576) : M.laws_szSeries a n = some (if n < (szS a : Int) then -1 else n - (szS a : Int)) := by
  have hl : a.Races.length ≤ maxLen := h.2.2.1
  have hr : ∀ x ∈ a.Races, x.Finishes.length ≤ maxLen := fun x hx => (h.2.2.2 x hx).1
  rw [M.laws_szSeries, p_szRaceS a.Races hl hr n h0 hn, bnd_some, ifB_if]
  unfold szS
  push_cast
  by_cases h1 : n < (a.Races.length : Int)
  · rw [if_pos h1, if_pos (by decide), if_pos (by omega)]
  · rw [if_neg h1]
    by_cases h2 : n - (a.Races.length : Int) < ((tot (fun x : Race => x.Finishes.length) a.Races : Nat) : Int)
    · rw [if_pos h2, if_pos (by decide), if_pos (by omega)]
    · rw [if_neg h2, if_neg (by simp; omega), if_neg (by omega)]; congr 1; omega
theorem p_toSeries (a : Series) (h : szS a ≤ 1048576) : M.laws_toSeries a = some a := by
  unfold szS at h
  rw [M.laws_toSeries, p_toRaceS _ (by omega) (row_le (fun x : Race => x.Finishes.length) a.Races 1048576 (by omega))]; rfl
theorem p_eqSeries (a : Series) (h : szS a ≤ 1048576) : M.laws_eqSeries a a = some true := by
  unfold szS at h
  simp [M.laws_eqSeries, p_eqRaceS _ (by omega) (row_le (fun x : Race => x.Finishes.length) a.Races 1048576 (by omega))]
theorem p_implIsRace (n : Int) (r : Race) (h : r.Finishes.length ≤ 1048576) : M.impl_IsRace n r = some (decide ((1 ≤ n ∧ n ≤ 16) ∧ OkRace n r.Finishes)) := by
  rw [M.impl_IsRace, p_areFinishes n r.Finishes h]; rfl
def badRow (n : Int) (xs : List Race) (i : Nat) : Bool := match xs[i]? with | none => true | some x => !decide (OkRace n x.Finishes)
theorem badRow_iff (n : Int) (xs : List Race) : (∀ i, i < xs.length → badRow n xs i = false) ↔ ∀ i (h : i < xs.length), OkRace n xs[i].Finishes := by
  constructor
  · intro h i hi; have := h i hi; unfold badRow at this; simp only [List.getElem?_eq_getElem hi] at this; simpa using this
  · intro h i hi; unfold badRow; simp only [List.getElem?_eq_getElem hi]; simpa using h i hi
theorem p_specIsSeries (a : Series) (h : szS a ≤ 1048576) : M.spec_IsSeries a = some (decide (IsSeries a)) := by
  unfold szS at h
  have hr := row_le (fun x : Race => x.Finishes.length) a.Races 1048576 (by omega)
  have hl : loopF (M.spec_IsSeries_l1 a) 0 = some (if ∀ i, i < a.Races.length → badRow a.Boats a.Races i = false then .nxt (a.Races.length : Int) else .ret false) := by
    refine loop_find a.Races.length (by omega) (fun i => (i : Int)) (badRow a.Boats a.Races) false _ rfl (fun i hi => ?_) ?_
    · have h1 : ((i : Int) < (a.Races.length : Int)) := by omega
      simp only [M.spec_IsSeries_l1, h1, decide_true, ifB_true, idx_lt a.Races i hi, bnd_some, p_l26Race _ _ (hr _ (List.getElem_mem hi)), step64 hi (by omega), ifB_if, if_true]
      unfold badRow
      simp only [List.getElem?_eq_getElem hi, ite_some]
    · simp [M.spec_IsSeries_l1]
  unfold IsSeries
  simp only [M.spec_IsSeries, M.spec_IsSeries_j1, M.spec_IsSeries_a1, p_l01In, bnd_some, hl, ifB_if, badRow_iff]
  by_cases h1 : 1 ≤ a.Boats ∧ a.Boats ≤ 16
  · by_cases h2 : 0 ≤ a.Scheme ∧ a.Scheme ≤ 1
    · by_cases h3 : a.Races.length ≤ 12
      · have h3' : ¬ (12 < (a.Races.length : Int)) := by omega
        by_cases h4 : ∀ i (h : i < a.Races.length), OkRace a.Boats a.Races[i].Finishes
        · simp only [h1, h2, h3, h3', h4, and_self, implies_true, decide_true, decide_false, Bool.not_true, Bool.false_eq_true, if_false, if_true, outc_nxt]
        · simp only [h1, h2, h3, h3', h4, and_self, and_false, decide_true, decide_false, Bool.not_true, Bool.false_eq_true, if_false, if_true, outc_ret]
      · have h3' : 12 < (a.Races.length : Int) := by omega
        simp [h1, h2, h3, h3']
    · simp [h1, h2]
  · simp [h1]
theorem p_implIsSeries (a : Series) (h : szS a ≤ 1048576) : M.impl_IsSeries a = some (decide (IsSeries a)) := by
  unfold szS at h
  have hr := row_le (fun x : Race => x.Finishes.length) a.Races 1048576 (by omega)
  have hl : loopF (M.impl_IsSeries_l1 a) 0 = some (if ∀ i, i < a.Races.length → (!decide (1 ≤ a.Boats ∧ a.Boats ≤ 16) || badRow a.Boats a.Races i) = false then .nxt (a.Races.length : Int) else .ret false) := by
    refine loop_find a.Races.length (by omega) (fun i => (i : Int)) (fun i => !decide (1 ≤ a.Boats ∧ a.Boats ≤ 16) || badRow a.Boats a.Races i) false _ rfl (fun i hi => ?_) ?_
    · have h1 : ((i : Int) < (a.Races.length : Int)) := by omega
      simp only [M.impl_IsSeries_l1, h1, decide_true, ifB_true, idx_lt a.Races i hi, bnd_some, p_implIsRace _ _ (hr _ (List.getElem_mem hi)), step64 hi (by omega), ifB_if, if_true]
      unfold badRow
      simp only [List.getElem?_eq_getElem hi]
      by_cases h2 : 1 ≤ a.Boats ∧ a.Boats ≤ 16 <;> simp [h2, ite_some]
    · simp [M.impl_IsSeries_l1]
  unfold IsSeries
  simp only [M.impl_IsSeries, M.impl_IsSeries_j1, M.impl_IsSeries_a1, M.impl_isScheme, p_within, bnd_some, hl, ifB_if]
  by_cases h1 : 1 ≤ a.Boats ∧ a.Boats ≤ 16
  · simp only [h1, and_self, decide_true, Bool.not_true, Bool.false_or, badRow_iff]
    by_cases h4 : ∀ i (h : i < a.Races.length), OkRace a.Boats a.Races[i].Finishes
    · rw [if_pos h4, outc_nxt]
      by_cases h2 : 0 ≤ a.Scheme ∧ a.Scheme ≤ 1
      · by_cases h3 : a.Races.length ≤ 12
        · have h3' : (a.Races.length : Int) ≤ 12 := by omega
          simp [h2, h3, h3', h4]
        · have h3' : ¬ (a.Races.length : Int) ≤ 12 := by omega
          simp [h2, h3, h3']
      · simp [h2]
    · rw [if_neg h4, outc_ret]
      simp [h4]
  · have e1 : ∀ o : Outc Bool Int, (outc o (fun x => some x) fun s => if decide (1 ≤ a.Boats ∧ a.Boats ≤ 16) = true then (if decide (0 ≤ a.Scheme ∧ a.Scheme ≤ 1) = true then some (decide ((a.Races.length : Int) ≤ 12)) else some false) else some false) = outc o (fun x => some x) (fun _ => some false) := fun o => by cases o <;> simp [h1]
    rw [e1]
    split <;> simp [h1]
def OkPen (a : Series) (x : Penalty) : Prop := (0 ≤ x.Race ∧ x.Race ≤ (a.Races.length : Int) - 1) ∧ (0 ≤ x.Boat ∧ x.Boat ≤ a.Boats - 1) ∧
  ((x.Kind = 1 ∧ (x.Value = 6 ∨ x.Value = 7 ∨ x.Value = 5)) ∨ (x.Kind = 2 ∧ 1 ≤ x.Value ∧ x.Value ≤ 1000000000) ∨ (x.Kind = 3 ∧ 1 ≤ x.Value ∧ x.Value ≤ 100))
instance (a : Series) (x : Penalty) : Decidable (OkPen a x) := by unfold OkPen; infer_instance
def okVal (k v : Int) : Bool := if k = 1 then decide (v = 6 ∨ v = 7 ∨ v = 5) else if k = 2 then decide (1 ≤ v ∧ v ≤ 1000000000) else if k = 3 then decide (1 ≤ v ∧ v ≤ 100) else false
theorem p_l21Value (k v : Int) : M.spec_l21Value k v = some (okVal k v) := by
  simp only [M.spec_l21Value, M.spec_l21Code, M.spec_l21Code_j1, p_l01In, bnd_some, ifB_if, okVal]
  by_cases h1 : k = 1
  · by_cases h2 : v = 6
    · simp [h1, h2]
    · by_cases h3 : v = 7 <;> by_cases h4 : v = 5 <;> simp [h1, h2, h3, h4] <;> omega
  · by_cases h2 : k = 2
    · simp [h2]
    · by_cases h3 : k = 3 <;> simp [h1, h2, h3]
theorem p_isPenalty (x : Penalty) : M.impl_isPenalty x = some (okVal x.Kind x.Value) := by
  simp only [M.impl_isPenalty, M.impl_isPenalty_j1, M.impl_isPenaltyCode, M.impl_isPenaltyCode_j1, M.impl_isElapsed, p_within, bnd_some, ifB_if, okVal]
  by_cases h1 : x.Kind = 1
  · by_cases h2 : x.Value = 6
    · simp [h1, h2]
    · by_cases h3 : x.Value = 7 <;> by_cases h4 : x.Value = 5 <;> simp [h1, h2, h3, h4] <;> omega
  · by_cases h2 : x.Kind = 2
    · simp [h2]
    · by_cases h3 : x.Kind = 3 <;> simp [h1, h2, h3]
def badPen (a : Series) (xs : List Penalty) (i : Nat) : Bool := match xs[i]? with
  | none => true
  | some x => !decide (0 ≤ x.Race ∧ x.Race ≤ (a.Races.length : Int) - 1) || !decide (0 ≤ x.Boat ∧ x.Boat ≤ a.Boats - 1) || !okVal x.Kind x.Value
def ArePens (a : Series) (xs : List Penalty) : Prop := xs.length ≤ 60 ∧ ∀ i, i < xs.length → badPen a xs i = false
instance (a : Series) (xs : List Penalty) : Decidable (ArePens a xs) := by unfold ArePens; infer_instance
theorem p_l21Valid (a : Series) (xs : List Penalty) (hb : 1 ≤ a.Boats ∧ a.Boats ≤ 16) (hr : a.Races.length ≤ 12) (h : xs.length ≤ 1048576) : M.spec_l21Valid a xs = some (decide (ArePens a xs)) := by
  have hl : loopF (M.spec_l21Valid_l1 a xs) 0 = some (if ∀ i, i < xs.length → badPen a xs i = false then .nxt (xs.length : Int) else .ret false) := by
    refine loop_find xs.length (by omega) (fun i => (i : Int)) (badPen a xs) false _ rfl (fun i hi => ?_) ?_
    · have h1 : ((i : Int) < (xs.length : Int)) := by omega
      simp only [M.spec_l21Valid_l1, M.spec_l21Valid_j1, h1, decide_true, ifB_true, idx_lt xs i hi, bnd_some, p_l01In, p_l21Value, w64_of (show -9223372036854775808 ≤ (a.Races.length : Int) - 1 ∧ (a.Races.length : Int) - 1 < 9223372036854775808 by omega), w64_of (show -9223372036854775808 ≤ a.Boats - 1 ∧ a.Boats - 1 < 9223372036854775808 by omega), step64 hi (by omega), ifB_if, if_true]
      unfold badPen
      simp only [List.getElem?_eq_getElem hi]
      by_cases h2 : 0 ≤ xs[i].Race ∧ xs[i].Race ≤ (a.Races.length : Int) - 1
      · by_cases h3 : 0 ≤ xs[i].Boat ∧ xs[i].Boat ≤ a.Boats - 1 <;> simp [h2, h3, ite_some]
      · simp [h2]
    · simp [M.spec_l21Valid_l1]
  unfold ArePens
  simp only [M.spec_l21Valid, hl, bnd_some, M.spec_l21Valid_a1]
  by_cases h2 : ∀ i, i < xs.length → badPen a xs i = false
  · rw [if_pos h2, outc_nxt]
    by_cases h3 : xs.length ≤ 60
    · rw [decide_eq_true (show (xs.length : Int) ≤ 60 by omega)]; exact congrArg some (decide_eq_true ⟨h3, h2⟩).symm
    · rw [decide_eq_false (show ¬ (xs.length : Int) ≤ 60 by omega)]; exact congrArg some (decide_eq_false (fun hh => h3 hh.1)).symm
  · rw [if_neg h2, outc_ret]; exact congrArg some (decide_eq_false (fun hh => h2 hh.2)).symm
theorem e_arePenalties (a : Series) (xs : List Penalty) : M.impl_arePenalties a xs = M.spec_l21Valid a xs := by
  have e : ∀ s, M.impl_arePenalties_l1 a xs s = M.spec_l21Valid_l1 a xs s := fun s => by
    simp only [M.impl_arePenalties_l1, M.spec_l21Valid_l1, M.impl_arePenalties_j1, M.spec_l21Valid_j1, p_within, p_l01In, p_l21Value, p_isPenalty, bnd_some]
  simp only [M.impl_arePenalties, M.spec_l21Valid, loop_congr e, M.impl_arePenalties_a1, M.spec_l21Valid_a1]
end Go.Proofs.YtgelmamcinlahaaGreat
