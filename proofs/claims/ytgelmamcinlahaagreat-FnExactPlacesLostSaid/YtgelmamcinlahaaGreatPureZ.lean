/- Pure laws over drawn series and penalties. -/
import Derived.Test.YtgelmamcinlahaaGreatPureD
import Derived.Test.YtgelmamcinlahaaGreatPureY
import Derived.Test.YtgelmamcinlahaaGreatPureX
namespace Go.Proofs.YtgelmamcinlahaaGreat
open Go
set_option linter.unusedVariables false
set_option linter.unusedSimpArgs false
def get2 (rs : List Race) (i k : Nat) : Option Finish := match rs[i]? with
  | none => none
  | some x => x.Finishes[k]?
theorem get2_upd1 (f : Finish → Finish) (rs : List Race) (r b : Int) (i k : Nat) : get2 (upd1 f rs r b) i k = if r.toNat = i ∧ b.toNat = k then (get2 rs i k).map f else get2 rs i k := by
  unfold upd1
  by_cases hr : r.toNat = i
  · subst hr
    cases hx : rs[r.toNat]? with
    | none => simp [get2, hx]
    | some x =>
      simp only
      obtain ⟨hlt, _⟩ := List.getElem?_eq_some_iff.1 hx
      by_cases hb : b.toNat = k
      · subst hb
        cases hg : x.Finishes[b.toNat]? with
        | none => simp [get2, hx, hg]
        | some g =>
          obtain ⟨hlt2, _⟩ := List.getElem?_eq_some_iff.1 hg
          simp [get2, hx, hg, List.getElem?_set_self hlt, List.getElem?_set_self hlt2]
      · cases hg : x.Finishes[b.toNat]? with
        | none => simp [get2, hx, hb]
        | some g => simp [get2, hx, hb, List.getElem?_set_self hlt, List.getElem?_set_ne hb]
  · have e : ∀ y : Race, (rs.set r.toNat y)[i]? = rs[i]? := fun y => List.getElem?_set_ne hr
    rw [if_neg (by simp [hr])]
    cases hx : rs[r.toNat]? with
    | none => rfl
    | some x =>
      simp only
      cases hg : x.Finishes[b.toNat]? with
      | none => rfl
      | some g => simp only [get2, e]
def okPn (n : Nat) (b : Int) (x : Penalty) : Prop := (0 ≤ x.Race ∧ x.Race < (n : Int)) ∧ (0 ≤ x.Boat ∧ x.Boat < b) ∧ okVal x.Kind x.Value = true
theorem pens_ok (a : Series) (xs : List Penalty) (h : ArePens a xs) : ∀ x ∈ xs, okPn a.Races.length a.Boats x := fun x hx => by
  obtain ⟨i, hi, rfl⟩ := List.mem_iff_getElem.1 hx
  exact pen_ok a xs h i hi
def OkFs (rs : List Race) : Prop := ∀ i k f, get2 rs i k = some f → f.Boat = (k : Int) ∧ FinOk f
theorem okFs_pT (n : Nat) (b : Int) (rs : List Race) (x : Penalty) (hx : okPn n b x) (h : OkFs rs) : OkFs (pT rs x) := by
  unfold pT
  split
  · rename_i hk
    intro i k f hf
    rw [get2_upd1] at hf
    split at hf
    · obtain ⟨g, hg, rfl⟩ := Option.map_eq_some_iff.1 hf
      have hg' := h i k g hg
      have hv := hx.2.2
      unfold okVal at hv
      rw [if_neg (by omega), if_pos hk] at hv
      have hv' : 1 ≤ x.Value ∧ x.Value ≤ 1000000000 := by simpa using hv
      unfold tmF
      split
      · rename_i hc
        have ht := hg'.2.2.1 hc
        refine ⟨hg'.1, hg'.2.1, fun _ => ?_, fun hc' => (hc' hc).elim⟩
        simp only
        rw [w64_of (by omega)]
        omega
      · exact hg'
    · exact h i k f hf
  · exact h
theorem okFs_pC (n : Nat) (b : Int) (rs : List Race) (x : Penalty) (hx : okPn n b x) (h : OkFs rs) : OkFs (pC rs x) := by
  unfold pC
  split
  · rename_i hk
    intro i k f hf
    rw [get2_upd1] at hf
    split at hf
    · rename_i hik
      obtain ⟨g, hg, rfl⟩ := Option.map_eq_some_iff.1 hf
      have hv := hx.2.2
      unfold okVal at hv
      rw [if_pos hk] at hv
      have hv' : x.Value = 6 ∨ x.Value = 7 ∨ x.Value = 5 := by simpa using hv
      have hb := hx.2.1.1
      exact ⟨by simp only; omega, ⟨by simp only; omega, by simp only; omega⟩, fun hc => by simp only at hc; omega, fun _ => rfl⟩
    · exact h i k f hf
  · exact h
theorem okFs_start (a : Series) (hs : IsSeries a) : OkFs a.Races := fun i k f hf => by
  unfold get2 at hf
  split at hf
  · cases hf
  · rename_i x hx
    obtain ⟨hi, rfl⟩ := List.getElem?_eq_some_iff.1 hx
    obtain ⟨hk, rfl⟩ := List.getElem?_eq_some_iff.1 hf
    have hr := hs.2.2.2 i hi
    refine ⟨?_, fin_ok _ _ hr k hk⟩
    have hb := hr.2 k hk
    unfold badFin at hb
    simp only [List.getElem?_eq_getElem hk, Bool.or_eq_false_iff, bne_eq_false_iff_eq] at hb
    exact hb.1.1
theorem okRace_of (n : Int) (x : Race) (rs : List Race) (i : Nat) (hi : rs[i]? = some x) (hl : (x.Finishes.length : Int) = n) (h : OkFs rs) : OkRace n x.Finishes := by
  refine ⟨hl, fun k hk => ?_⟩
  obtain ⟨h1, h2⟩ := h i k x.Finishes[k] (by unfold get2; rw [hi]; simp [hk])
  unfold badFin
  simp only [List.getElem?_eq_getElem hk]
  have hc := h2.1
  by_cases h0 : x.Finishes[k].Code = 0
  · have := h2.2.1 h0
    simp [h1, h0, this]
  · have := h2.2.2 h0
    simp [h1, h0, hc, this]
theorem penR_series (a : Series) (xs : List Penalty) (hs : IsSeries a) (hp : ArePens a xs) : IsSeries ⟨a.Boats, a.Scheme, penR a xs⟩ := by
  have hI := (p_series a xs hs hp).2.2
  have hok := pens_ok a xs hp
  have hF : OkFs (penR a xs) := by
    have f1 := fold_inv pT OkFs xs a.Races (okFs_start a hs) (fun s x hx h => okFs_pT _ _ s x (hok x hx) h)
    exact fold_inv pC OkFs xs _ f1 (fun s x hx h => okFs_pC _ _ s x (hok x hx) h)
  refine ⟨hs.1, hs.2.1, by have := hI.1; have := hs.2.2.1; simp only; omega, fun i hi => ?_⟩
  exact okRace_of _ _ (penR a xs) i (List.getElem?_eq_getElem hi) (hI.2 i hi) hF
end Go.Proofs.YtgelmamcinlahaaGreat
