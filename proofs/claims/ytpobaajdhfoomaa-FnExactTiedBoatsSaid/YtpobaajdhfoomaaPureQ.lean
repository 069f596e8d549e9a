/- Pure laws: series and penalties. -/
import Derived.Test.YtpobaajdhfoomaaPureR
import Derived.Test.YtpobaajdhfoomaaPureHH
import Derived.Test.YtpobaajdhfoomaaMod2
namespace Go.Proofs.Ytpobaajdhfoomaa
open Go
set_option linter.unusedVariables false
set_option linter.unusedSimpArgs false
def badFin (xs : List Finish) (i : Nat) : Bool := match xs[i]? with
  | none => true
  | some x => x.Boat != (i : Int) || !decide (0 ≤ x.Code ∧ x.Code ≤ 9) || (if x.Code = 0 then !decide (1 ≤ x.Time ∧ x.Time ≤ 1000000000) else x.Time != 0)
def OkRace (n : Int) (xs : List Finish) : Prop := (xs.length : Int) = n ∧ ∀ i, i < xs.length → badFin xs i = false
instance (n : Int) (xs : List Finish) : Decidable (OkRace n xs) := by unfold OkRace; infer_instance
def IsSeries (a : Series) : Prop := (1 ≤ a.Boats ∧ a.Boats ≤ 16) ∧ (0 ≤ a.Scheme ∧ a.Scheme ≤ 1) ∧ a.Races.length ≤ 12 ∧ ∀ i (h : i < a.Races.length), OkRace a.Boats a.Races[i].Finishes
instance (a : Series) : Decidable (IsSeries a) := by unfold IsSeries; infer_instance
def szT (a : Table) : Nat := a.Points.length + tot (fun x : List Int => x.length) a.Points + (a.Codes.length + tot (fun x : List Int => x.length) a.Codes)
theorem row_le {β : Type} (n : β → Nat) (xs : List β) (m : Nat) (h : tot n xs ≤ m) : ∀ x ∈ xs, n x ≤ m := fun x hx => Nat.le_trans (tot_mem n xs x hx) h
theorem p_szTable (a : Table) (h : OkD.ok a) (n : Int) (h0 : 0 ≤ n) (hn : n ≤ 1048576) : M.laws_szTable a n = some (if n < (szT a : Int) then -1 else n - (szT a : Int)) := by
  have hl : a.Points.length ≤ maxLen := h.2.1.1
  have hr : ∀ x ∈ a.Points, x.length ≤ maxLen := fun x hx => (h.2.1.2 x hx).1
  have hl2 : a.Codes.length ≤ maxLen := h.2.2.1
  have hr2 : ∀ x ∈ a.Codes, x.length ≤ maxLen := fun x hx => (h.2.2.2 x hx).1
  rw [M.laws_szTable, p_szInt64SS a.Points hl hr n h0 hn, bnd_some, ifB_if]
  unfold szT
  push_cast
  by_cases h1 : n < (a.Points.length : Int)
  · rw [if_pos h1, if_pos (by decide), if_pos (by omega)]
  · rw [if_neg h1]
    by_cases h2 : n - (a.Points.length : Int) < ((tot (fun x : List Int => x.length) a.Points : Nat) : Int)
    · rw [if_pos h2, if_pos (by decide), if_pos (by omega)]
    · rw [if_neg h2, if_neg (by simp; omega), p_szInt64SS a.Codes hl2 hr2 _ (by omega) (by omega), bnd_some, ifB_if]
      by_cases h3 : n - (a.Points.length : Int) - ((tot (fun x : List Int => x.length) a.Points : Nat) : Int) < (a.Codes.length : Int)
      · rw [if_pos h3, if_pos (by decide), if_pos (by omega)]
      · rw [if_neg h3]
        by_cases h4 : n - (a.Points.length : Int) - ((tot (fun x : List Int => x.length) a.Points : Nat) : Int) - (a.Codes.length : Int) < ((tot (fun x : List Int => x.length) a.Codes : Nat) : Int)
        · rw [if_pos h4, if_pos (by decide), if_pos (by omega)]
        · rw [if_neg h4, if_neg (by simp; omega), if_neg (by omega)]; congr 1; omega
theorem p_toTable (a : Table) (h : szT a ≤ 1048576) : M.laws_toTable a = some a := by
  unfold szT at h
  rw [M.laws_toTable, p_toInt64SS _ (by omega) (row_le (fun x : List Int => x.length) a.Points 1048576 (by omega)), bnd_some, p_toInt64SS _ (by omega) (row_le (fun x : List Int => x.length) a.Codes 1048576 (by omega))]; rfl
theorem p_eqTable (a : Table) (h : szT a ≤ 1048576) : M.laws_eqTable a a = some true := by
  unfold szT at h
  simp [M.laws_eqTable, p_eqInt64SS _ (by omega) (row_le (fun x : List Int => x.length) a.Points 1048576 (by omega)), p_eqInt64SS _ (by omega) (row_le (fun x : List Int => x.length) a.Codes 1048576 (by omega))]
def OkPen (a : Series) (x : Penalty) : Prop := (0 ≤ x.Race ∧ x.Race ≤ (a.Races.length : Int) - 1) ∧ (0 ≤ x.Boat ∧ x.Boat ≤ a.Boats - 1) ∧
  ((x.Kind = 1 ∧ (x.Value = 6 ∨ x.Value = 7 ∨ x.Value = 5)) ∨ (x.Kind = 2 ∧ 1 ≤ x.Value ∧ x.Value ≤ 1000000000) ∨ (x.Kind = 3 ∧ 1 ≤ x.Value ∧ x.Value ≤ 100))
instance (a : Series) (x : Penalty) : Decidable (OkPen a x) := by unfold OkPen; infer_instance
def okVal (k v : Int) : Bool := if k = 1 then decide (v = 6 ∨ v = 7 ∨ v = 5) else if k = 2 then decide (1 ≤ v ∧ v ≤ 1000000000) else if k = 3 then decide (1 ≤ v ∧ v ≤ 100) else false
def badPen (a : Series) (xs : List Penalty) (i : Nat) : Bool := match xs[i]? with
  | none => true
  | some x => !decide (0 ≤ x.Race ∧ x.Race ≤ (a.Races.length : Int) - 1) || !decide (0 ≤ x.Boat ∧ x.Boat ≤ a.Boats - 1) || !okVal x.Kind x.Value
def ArePens (a : Series) (xs : List Penalty) : Prop := xs.length ≤ 60 ∧ ∀ i, i < xs.length → badPen a xs i = false
instance (a : Series) (xs : List Penalty) : Decidable (ArePens a xs) := by unfold ArePens; infer_instance
end Go.Proofs.Ytpobaajdhfoomaa
