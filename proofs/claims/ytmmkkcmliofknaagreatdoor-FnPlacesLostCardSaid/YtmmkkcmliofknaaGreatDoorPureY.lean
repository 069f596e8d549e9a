/- Pure laws: series after penalties. -/
import Derived.Test.YtmmkkcmliofknaaGreatDoorPureV
namespace Go.Proofs.YtmmkkcmliofknaaGreatDoor
open Go
set_option linter.unusedVariables false
set_option linter.unusedSimpArgs false
def zO0 (f : Finish → Finish) (rs : List Race) (r b : Int) : List Race := match rs[r.toNat]? with
  | none => rs
  | some x => match x.Finishes[b.toNat]? with
    | none => rs
    | some g => rs.set r.toNat ⟨x.Finishes.set b.toNat (f g)⟩
def tmF (v : Int) (g : Finish) : Finish := if g.Code = 0 then ⟨g.Boat, g.Code, min 1000000000 (w64 (g.Time + v))⟩ else g
def pT (rs : List Race) (x : Penalty) : List Race := if x.Kind = 2 then zO0 (tmF x.Value) rs x.Race x.Boat else rs
def pC (rs : List Race) (x : Penalty) : List Race := if x.Kind = 1 then zO0 (fun _ => ⟨x.Boat, x.Value, 0⟩) rs x.Race x.Boat else rs
def zIY (a : Series) (xs : List Penalty) : List Race := xs.foldl pC (xs.foldl pT a.Races)
def zJV (n : Nat) (b : Int) (rs : List Race) : Prop := rs.length = n ∧ ∀ i (h : i < rs.length), (rs[i].Finishes.length : Int) = b
theorem zO1 (f : Finish → Finish) (n : Nat) (b : Int) (rs : List Race) (r k : Int) (h : zJV n b rs) : zJV n b (zO0 f rs r k) := by
  unfold zO0
  split
  · exact h
  · rename_i x hx
    split
    · exact h
    · rename_i g hg
      obtain ⟨hr, hx2⟩ := List.getElem?_eq_some_iff.1 hx
      refine ⟨by simpa using h.1, fun i hi => ?_⟩
      simp only [List.length_set] at hi
      by_cases hri : r.toNat = i
      · subst hri
        rw [List.getElem_set_self]
        simp only [List.length_set]
        rw [← hx2]; exact h.2 _ hi
      · rw [List.getElem_set_ne hri]; exact h.2 i hi
theorem zTl (n : Nat) (b : Int) (rs : List Race) (x : Penalty) (h : zJV n b rs) : zJV n b (pT rs x) := by
  unfold pT; split
  · exact zO1 _ n b rs _ _ h
  · exact h
theorem zTm (n : Nat) (b : Int) (rs : List Race) (x : Penalty) (h : zJV n b rs) : zJV n b (pC rs x) := by
  unfold pC; split
  · exact zO1 _ n b rs _ _ h
  · exact h
theorem zMB (a : Series) (xs : List Penalty) (h : zD1 a xs) (i : Nat) (hi : i < xs.length) : (0 ≤ xs[i].Race ∧ xs[i].Race < (a.Races.length : Int)) ∧ (0 ≤ xs[i].Boat ∧ xs[i].Boat < a.Boats) ∧ zJ7 xs[i].Kind xs[i].Value = true := by
  have hb := h.2 i hi
  unfold zMx at hb
  simp only [List.getElem?_eq_getElem hi, Bool.or_eq_false_iff, Bool.not_eq_false', decide_eq_true_eq] at hb
  exact ⟨⟨hb.1.1.1, by have := hb.1.1.2; omega⟩, ⟨hb.1.2.1, by have := hb.1.2.2; omega⟩, hb.2⟩
theorem zOb {α : Type} (xs : List α) (k : Int) (h0 : 0 ≤ k) (h1 : k < (xs.length : Int)) : ∃ (h : k.toNat < xs.length), idx xs k = some xs[k.toNat] ∧ xs[k.toNat]? = some xs[k.toNat] := by
  have h : k.toNat < xs.length := by omega
  refine ⟨h, ?_, List.getElem?_eq_getElem h⟩
  unfold idx
  rw [if_pos h0, List.getElem?_eq_getElem h]
theorem zNm {α : Type} (xs : List α) (i : Nat) (h : i < xs.length) : xs.set i xs[i] = xs := by
  apply List.ext_getElem?
  intro j
  by_cases hj : i = j
  · subst hj; rw [List.getElem?_set_self h, List.getElem?_eq_getElem h]
  · rw [List.getElem?_set_ne hj]
theorem zTn (a : Series) (hs : zBM a) : zAO (zFL a) (([] : List Race), 0) = some (.nxt (a.Races, (a.Races.length : Int))) := by
  have hn := hs.2.2.1
  refine zBy a.Races.length (by omega) (fun i => (a.Races.take i, (i : Int))) _ rfl (fun i hi => ?_) ?_
  · have h2 : ((i : Int) < (a.Races.length : Int)) := by omega
    have hr := (hs.2.2.2 i hi).1
    have hb := hs.1.2
    have e : Race.mk ([] ++ a.Races[i].Finishes) = a.Races[i] := rfl
    have e1 : a.Races.take (i + 1) = a.Races.take i ++ [a.Races[i]] := List.take_succ_eq_append_getElem hi
    simp only [zFL, h2, decide_true, zAy, zBs _ i hi, zAr, e, zBB hi (by omega), e1]
    rw [zBf (by simp; omega), zBf (by simp; omega)]
  · simp [zFL]
theorem zSO (a : Series) (hs : zBM a) : zAO (zDa a) (([] : List Race), 0) = some (.nxt (a.Races, (a.Races.length : Int))) := by
  have hn := hs.2.2.1
  refine zBy a.Races.length (by omega) (fun i => (a.Races.take i, (i : Int))) _ rfl (fun i hi => ?_) ?_
  · have h2 : ((i : Int) < (a.Races.length : Int)) := by omega
    have hr := (hs.2.2.2 i hi).1
    have hb := hs.1.2
    have e : Race.mk ([] ++ a.Races[i].Finishes) = a.Races[i] := rfl
    have e1 : a.Races.take (i + 1) = a.Races.take i ++ [a.Races[i]] := List.take_succ_eq_append_getElem hi
    simp only [zDa, h2, decide_true, zAy, zBs _ i hi, zAr, e, zBB hi (by omega), e1]
    rw [zBf (by simp; omega), zBf (by simp; omega)]
  · simp [zDa]
theorem zSP (a : Series) (xs : List Penalty) (hs : zBM a) (hp : zD1 a xs) (rs : List Race) (h0 : zJV a.Races.length a.Boats rs) : (zAO (zDh xs) (rs, 0) = some (.nxt (xs.foldl pT rs, (xs.length : Int))) ∧ zAO (zB4 xs) (rs, 0) = some (.nxt (xs.foldl pT rs, (xs.length : Int)))) ∧ zJV a.Races.length a.Boats (xs.foldl pT rs) := by
  have hl := hp.1
  have hstep : ∀ (i : Nat) (h : i < xs.length) (s : List Race), zJV a.Races.length a.Boats s → zDh xs (s, (i : Int)) = some (.cont (pT s xs[i], ((i + 1 : Nat) : Int))) ∧ zB4 xs (s, (i : Int)) = some (.cont (pT s xs[i], ((i + 1 : Nat) : Int))) := fun i hi s hI => by
    have h2 : ((i : Int) < (xs.length : Int)) := by omega
    obtain ⟨⟨a1, a2⟩, ⟨b1, b2⟩, _⟩ := zMB a xs hp i hi
    obtain ⟨r1, r2, r3⟩ := zOb s xs[i].Race a1 (by have := hI.1; omega)
    obtain ⟨f1, f2, f3⟩ := zOb s[xs[i].Race.toNat].Finishes xs[i].Boat b1 (by rw [hI.2 _ r1]; exact b2)
    simp only [zDh, zFJ, zFI, zHw, zHD, zB4, zC8, zC7, zEv, h2, decide_true, zAy, zBs xs i hi, zAr, r2, f2, zBB hi (by omega), zBm, if_true]
    unfold pT zO0 tmF
    simp only [r3, f3]
    by_cases hk : xs[i].Kind = 2
    · by_cases hc : s[xs[i].Race.toNat].Finishes[xs[i].Boat.toNat].Code = 0
      · simp [hk, hc]
      · have e1 : (s[xs[i].Race.toNat].Finishes.set xs[i].Boat.toNat s[xs[i].Race.toNat].Finishes[xs[i].Boat.toNat]) = s[xs[i].Race.toNat].Finishes := zNm _ _ f1
        have e2 : s.set xs[i].Race.toNat s[xs[i].Race.toNat] = s := zNm _ _ r1
        simp [hk, hc, e1, e2]
    · simp [hk]
  have hI : ∀ s x, x ∈ xs → zJV a.Races.length a.Boats s → zJV a.Races.length a.Boats (pT s x) := fun s x _ h => zTl _ _ s x h
  have l1 := zLh (body := zDh xs) xs pT (zJV a.Races.length a.Boats) rs h0 (by omega) hI (fun i hi s h => (hstep i hi s h).1) (fun s _ => by simp [zDh])
  have l2 := zLh (body := zB4 xs) xs pT (zJV a.Races.length a.Boats) rs h0 (by omega) hI (fun i hi s h => (hstep i hi s h).2) (fun s _ => by simp [zB4])
  exact ⟨⟨l1.1, l2.1⟩, l1.2⟩
theorem zTo (a : Series) (xs : List Penalty) (hs : zBM a) (hp : zD1 a xs) (rs : List Race) (h0 : zJV a.Races.length a.Boats rs) : (zAO (zDg xs) (rs, 0) = some (.nxt (xs.foldl pC rs, (xs.length : Int))) ∧ zAO (zB3 xs) (rs, 0) = some (.nxt (xs.foldl pC rs, (xs.length : Int)))) ∧ zJV a.Races.length a.Boats (xs.foldl pC rs) := by
  have hl := hp.1
  have hstep : ∀ (i : Nat) (h : i < xs.length) (s : List Race), zJV a.Races.length a.Boats s → zDg xs (s, (i : Int)) = some (.cont (pC s xs[i], ((i + 1 : Nat) : Int))) ∧ zB3 xs (s, (i : Int)) = some (.cont (pC s xs[i], ((i + 1 : Nat) : Int))) := fun i hi s hI => by
    have h2 : ((i : Int) < (xs.length : Int)) := by omega
    obtain ⟨⟨a1, a2⟩, ⟨b1, b2⟩, _⟩ := zMB a xs hp i hi
    obtain ⟨r1, r2, r3⟩ := zOb s xs[i].Race a1 (by have := hI.1; omega)
    obtain ⟨f1, f2, f3⟩ := zOb s[xs[i].Race.toNat].Finishes xs[i].Boat b1 (by rw [hI.2 _ r1]; exact b2)
    simp only [zDg, zFG, zHv, zB3, zC5, zEu, h2, decide_true, zAy, zBs xs i hi, zAr, r2, f2, zBB hi (by omega), zBm, if_true]
    unfold pC zO0
    simp only [r3, f3]
    by_cases hk : xs[i].Kind = 1 <;> simp [hk]
  have hI : ∀ s x, x ∈ xs → zJV a.Races.length a.Boats s → zJV a.Races.length a.Boats (pC s x) := fun s x _ h => zTm _ _ s x h
  have l1 := zLh (body := zDg xs) xs pC (zJV a.Races.length a.Boats) rs h0 (by omega) hI (fun i hi s h => (hstep i hi s h).1) (fun s _ => by simp [zDg])
  have l2 := zLh (body := zB3 xs) xs pC (zJV a.Races.length a.Boats) rs h0 (by omega) hI (fun i hi s h => (hstep i hi s h).2) (fun s _ => by simp [zB3])
  exact ⟨⟨l1.1, l2.1⟩, l1.2⟩
theorem zTU (a : Series) (hs : zBM a) : zJV a.Races.length a.Boats a.Races := ⟨rfl, fun i hi => (hs.2.2.2 i hi).1⟩
theorem zO2 (a : Series) (xs : List Penalty) (hs : zBM a) (hp : zD1 a xs) : zHM a xs = some ⟨a.Boats, a.Scheme, zIY a xs⟩ ∧ zEi a xs = some ⟨a.Boats, a.Scheme, zIY a xs⟩ ∧ zJV a.Races.length a.Boats (zIY a xs) := by
  obtain ⟨⟨t1, t2⟩, t3⟩ := zSP a xs hs hp a.Races (zTU a hs)
  obtain ⟨⟨c1, c2⟩, c3⟩ := zTo a xs hs hp _ t3
  refine ⟨?_, ?_, c3⟩
  · simp only [zHM, zTn a hs, zAr, zBx, zFK, t1, zFH, c1, zFF, zIY]
  · simp only [zEi, zSO a hs, zAr, zBx, zC9, t2, zC6, c2, zC4, zIY]
def zLd (a : Series) (xs : List Penalty) : Int := if zBM a then (if zD1 a xs then 0 else 2) else 1
theorem zOc (a : Series) (xs : List Penalty) (h1 : szS a ≤ 1048576) (h : xs.length ≤ 1048576) : zEM a xs = some (zLd a xs) ∧ zFW a xs = some (zLd a xs) := by
  unfold zLd
  simp only [zEM, zFW, zJl a h1, zLc a h1, zAr, zNg, zBm]
  by_cases hs : zBM a
  · by_cases hp : zD1 a xs <;> simp [hs, hp, zPt a xs hs.1 hs.2.2.1 h]
  · simp [hs]
theorem zKq (a : Series) (xs : List Penalty) : zLd a xs = 0 ↔ zBM a ∧ zD1 a xs := by
  unfold zLd
  by_cases hs : zBM a
  · by_cases hp : zD1 a xs <;> simp [hs, hp]
  · simp [hs]
end Go.Proofs.YtmmkkcmliofknaaGreatDoor
