/- Pure laws: series after penalties. -/
import Derived.Test.YtgelmamcinlahaaGreatPureV
namespace Go.Proofs.YtgelmamcinlahaaGreat
open Go
set_option linter.unusedVariables false
set_option linter.unusedSimpArgs false
def upd1 (f : Finish → Finish) (rs : List Race) (r b : Int) : List Race := match rs[r.toNat]? with
  | none => rs
  | some x => match x.Finishes[b.toNat]? with
    | none => rs
    | some g => rs.set r.toNat ⟨x.Finishes.set b.toNat (f g)⟩
def tmF (v : Int) (g : Finish) : Finish := if g.Code = 0 then ⟨g.Boat, g.Code, min 1000000000 (w64 (g.Time + v))⟩ else g
def pT (rs : List Race) (x : Penalty) : List Race := if x.Kind = 2 then upd1 (tmF x.Value) rs x.Race x.Boat else rs
def pC (rs : List Race) (x : Penalty) : List Race := if x.Kind = 1 then upd1 (fun _ => ⟨x.Boat, x.Value, 0⟩) rs x.Race x.Boat else rs
def penR (a : Series) (xs : List Penalty) : List Race := xs.foldl pC (xs.foldl pT a.Races)
def InvR (n : Nat) (b : Int) (rs : List Race) : Prop := rs.length = n ∧ ∀ i (h : i < rs.length), (rs[i].Finishes.length : Int) = b
theorem upd1_inv (f : Finish → Finish) (n : Nat) (b : Int) (rs : List Race) (r k : Int) (h : InvR n b rs) : InvR n b (upd1 f rs r k) := by
  unfold upd1
  split
  · exact h
  · rename_i x hx
    split
    · exact h
    · rename_i g hg
      obtain ⟨hr, hx2⟩ := List.getElem?_eq_some_iff.1 hx
      refine ⟨by simpa using h.1, fun i hi => ?_⟩
      simp only [List.length_set] at hi
      by_cases hri : r.toNat = i
      · subst hri
        rw [List.getElem_set_self]
        simp only [List.length_set]
        rw [← hx2]; exact h.2 _ hi
      · rw [List.getElem_set_ne hri]; exact h.2 i hi
theorem pT_inv (n : Nat) (b : Int) (rs : List Race) (x : Penalty) (h : InvR n b rs) : InvR n b (pT rs x) := by
  unfold pT; split
  · exact upd1_inv _ n b rs _ _ h
  · exact h
theorem pC_inv (n : Nat) (b : Int) (rs : List Race) (x : Penalty) (h : InvR n b rs) : InvR n b (pC rs x) := by
  unfold pC; split
  · exact upd1_inv _ n b rs _ _ h
  · exact h
theorem pen_ok (a : Series) (xs : List Penalty) (h : ArePens a xs) (i : Nat) (hi : i < xs.length) : (0 ≤ xs[i].Race ∧ xs[i].Race < (a.Races.length : Int)) ∧ (0 ≤ xs[i].Boat ∧ xs[i].Boat < a.Boats) ∧ okVal xs[i].Kind xs[i].Value = true := by
  have hb := h.2 i hi
  unfold badPen at hb
  simp only [List.getElem?_eq_getElem hi, Bool.or_eq_false_iff, Bool.not_eq_false', decide_eq_true_eq] at hb
  exact ⟨⟨hb.1.1.1, by have := hb.1.1.2; omega⟩, ⟨hb.1.2.1, by have := hb.1.2.2; omega⟩, hb.2⟩
theorem idx_in {α : Type} (xs : List α) (k : Int) (h0 : 0 ≤ k) (h1 : k < (xs.length : Int)) : ∃ (h : k.toNat < xs.length), idx xs k = some xs[k.toNat] ∧ xs[k.toNat]? = some xs[k.toNat] := by
  have h : k.toNat < xs.length := by omega
  refine ⟨h, ?_, List.getElem?_eq_getElem h⟩
  unfold idx
  rw [if_pos h0, List.getElem?_eq_getElem h]
theorem set_same {α : Type} (xs : List α) (i : Nat) (h : i < xs.length) : xs.set i xs[i] = xs := by
  apply List.ext_getElem?
  intro j
  by_cases hj : i = j
  · subst hj; rw [List.getElem?_set_self h, List.getElem?_eq_getElem h]
  · rw [List.getElem?_set_ne hj]
theorem p_copy (a : Series) (hs : IsSeries a) : loopF (M.spec_l21Series_l1 a) (([] : List Race), 0) = some (.nxt (a.Races, (a.Races.length : Int))) := by
  have hn := hs.2.2.1
  refine loop_run a.Races.length (by omega) (fun i => (a.Races.take i, (i : Int))) _ rfl (fun i hi => ?_) ?_
  · have h2 : ((i : Int) < (a.Races.length : Int)) := by omega
    have hr := (hs.2.2.2 i hi).1
    have hb := hs.1.2
    have e : Race.mk ([] ++ a.Races[i].Finishes) = a.Races[i] := rfl
    have e1 : a.Races.take (i + 1) = a.Races.take i ++ [a.Races[i]] := List.take_succ_eq_append_getElem hi
    simp only [M.spec_l21Series_l1, h2, decide_true, ifB_true, idx_lt _ i hi, bnd_some, e, step64 hi (by omega), e1]
    rw [chk_pos (by simp; omega), chk_pos (by simp; omega)]
  · simp [M.spec_l21Series_l1]
theorem p_copyI (a : Series) (hs : IsSeries a) : loopF (M.impl_penalizedSeries_l1 a) (([] : List Race), 0) = some (.nxt (a.Races, (a.Races.length : Int))) := by
  have hn := hs.2.2.1
  refine loop_run a.Races.length (by omega) (fun i => (a.Races.take i, (i : Int))) _ rfl (fun i hi => ?_) ?_
  · have h2 : ((i : Int) < (a.Races.length : Int)) := by omega
    have hr := (hs.2.2.2 i hi).1
    have hb := hs.1.2
    have e : Race.mk ([] ++ a.Races[i].Finishes) = a.Races[i] := rfl
    have e1 : a.Races.take (i + 1) = a.Races.take i ++ [a.Races[i]] := List.take_succ_eq_append_getElem hi
    simp only [M.impl_penalizedSeries_l1, h2, decide_true, ifB_true, idx_lt _ i hi, bnd_some, e, step64 hi (by omega), e1]
    rw [chk_pos (by simp; omega), chk_pos (by simp; omega)]
  · simp [M.impl_penalizedSeries_l1]
theorem p_time (a : Series) (xs : List Penalty) (hs : IsSeries a) (hp : ArePens a xs) (rs : List Race) (h0 : InvR a.Races.length a.Boats rs) : (loopF (M.spec_l21Series_l2 xs) (rs, 0) = some (.nxt (xs.foldl pT rs, (xs.length : Int))) ∧ loopF (M.impl_penalizedSeries_l2 xs) (rs, 0) = some (.nxt (xs.foldl pT rs, (xs.length : Int)))) ∧ InvR a.Races.length a.Boats (xs.foldl pT rs) := by
  have hl := hp.1
  have hstep : ∀ (i : Nat) (h : i < xs.length) (s : List Race), InvR a.Races.length a.Boats s → M.spec_l21Series_l2 xs (s, (i : Int)) = some (.cont (pT s xs[i], ((i + 1 : Nat) : Int))) ∧ M.impl_penalizedSeries_l2 xs (s, (i : Int)) = some (.cont (pT s xs[i], ((i + 1 : Nat) : Int))) := fun i hi s hI => by
    have h2 : ((i : Int) < (xs.length : Int)) := by omega
    obtain ⟨⟨a1, a2⟩, ⟨b1, b2⟩, _⟩ := pen_ok a xs hp i hi
    obtain ⟨r1, r2, r3⟩ := idx_in s xs[i].Race a1 (by have := hI.1; omega)
    obtain ⟨f1, f2, f3⟩ := idx_in s[xs[i].Race.toNat].Finishes xs[i].Boat b1 (by rw [hI.2 _ r1]; exact b2)
    simp only [M.spec_l21Series_l2, M.spec_l21Series_j5, M.spec_l21Series_j4, M.spec_l21Series_j3, M.spec_l26Done, M.impl_penalizedSeries_l2, M.impl_penalizedSeries_j5, M.impl_penalizedSeries_j4, M.impl_penalizedSeries_j3, h2, decide_true, ifB_true, idx_lt xs i hi, bnd_some, r2, f2, step64 hi (by omega), ifB_if, if_true]
    unfold pT upd1 tmF
    simp only [r3, f3]
    by_cases hk : xs[i].Kind = 2
    · by_cases hc : s[xs[i].Race.toNat].Finishes[xs[i].Boat.toNat].Code = 0
      · simp [hk, hc]
      · have e1 : (s[xs[i].Race.toNat].Finishes.set xs[i].Boat.toNat s[xs[i].Race.toNat].Finishes[xs[i].Boat.toNat]) = s[xs[i].Race.toNat].Finishes := set_same _ _ f1
        have e2 : s.set xs[i].Race.toNat s[xs[i].Race.toNat] = s := set_same _ _ r1
        simp [hk, hc, e1, e2]
    · simp [hk]
  have hI : ∀ s x, x ∈ xs → InvR a.Races.length a.Boats s → InvR a.Races.length a.Boats (pT s x) := fun s x _ h => pT_inv _ _ s x h
  have l1 := loop_fold (body := M.spec_l21Series_l2 xs) xs pT (InvR a.Races.length a.Boats) rs h0 (by omega) hI (fun i hi s h => (hstep i hi s h).1) (fun s _ => by simp [M.spec_l21Series_l2])
  have l2 := loop_fold (body := M.impl_penalizedSeries_l2 xs) xs pT (InvR a.Races.length a.Boats) rs h0 (by omega) hI (fun i hi s h => (hstep i hi s h).2) (fun s _ => by simp [M.impl_penalizedSeries_l2])
  exact ⟨⟨l1.1, l2.1⟩, l1.2⟩
theorem p_code (a : Series) (xs : List Penalty) (hs : IsSeries a) (hp : ArePens a xs) (rs : List Race) (h0 : InvR a.Races.length a.Boats rs) : (loopF (M.spec_l21Series_l3 xs) (rs, 0) = some (.nxt (xs.foldl pC rs, (xs.length : Int))) ∧ loopF (M.impl_penalizedSeries_l3 xs) (rs, 0) = some (.nxt (xs.foldl pC rs, (xs.length : Int)))) ∧ InvR a.Races.length a.Boats (xs.foldl pC rs) := by
  have hl := hp.1
  have hstep : ∀ (i : Nat) (h : i < xs.length) (s : List Race), InvR a.Races.length a.Boats s → M.spec_l21Series_l3 xs (s, (i : Int)) = some (.cont (pC s xs[i], ((i + 1 : Nat) : Int))) ∧ M.impl_penalizedSeries_l3 xs (s, (i : Int)) = some (.cont (pC s xs[i], ((i + 1 : Nat) : Int))) := fun i hi s hI => by
    have h2 : ((i : Int) < (xs.length : Int)) := by omega
    obtain ⟨⟨a1, a2⟩, ⟨b1, b2⟩, _⟩ := pen_ok a xs hp i hi
    obtain ⟨r1, r2, r3⟩ := idx_in s xs[i].Race a1 (by have := hI.1; omega)
    obtain ⟨f1, f2, f3⟩ := idx_in s[xs[i].Race.toNat].Finishes xs[i].Boat b1 (by rw [hI.2 _ r1]; exact b2)
    simp only [M.spec_l21Series_l3, M.spec_l21Series_j2, M.spec_l21Series_j1, M.impl_penalizedSeries_l3, M.impl_penalizedSeries_j2, M.impl_penalizedSeries_j1, h2, decide_true, ifB_true, idx_lt xs i hi, bnd_some, r2, f2, step64 hi (by omega), ifB_if, if_true]
    unfold pC upd1
    simp only [r3, f3]
    by_cases hk : xs[i].Kind = 1 <;> simp [hk]
  have hI : ∀ s x, x ∈ xs → InvR a.Races.length a.Boats s → InvR a.Races.length a.Boats (pC s x) := fun s x _ h => pC_inv _ _ s x h
  have l1 := loop_fold (body := M.spec_l21Series_l3 xs) xs pC (InvR a.Races.length a.Boats) rs h0 (by omega) hI (fun i hi s h => (hstep i hi s h).1) (fun s _ => by simp [M.spec_l21Series_l3])
  have l2 := loop_fold (body := M.impl_penalizedSeries_l3 xs) xs pC (InvR a.Races.length a.Boats) rs h0 (by omega) hI (fun i hi s h => (hstep i hi s h).2) (fun s _ => by simp [M.impl_penalizedSeries_l3])
  exact ⟨⟨l1.1, l2.1⟩, l1.2⟩
theorem inv_a (a : Series) (hs : IsSeries a) : InvR a.Races.length a.Boats a.Races := ⟨rfl, fun i hi => (hs.2.2.2 i hi).1⟩
theorem p_series (a : Series) (xs : List Penalty) (hs : IsSeries a) (hp : ArePens a xs) : M.spec_l21Series a xs = some ⟨a.Boats, a.Scheme, penR a xs⟩ ∧ M.impl_penalizedSeries a xs = some ⟨a.Boats, a.Scheme, penR a xs⟩ ∧ InvR a.Races.length a.Boats (penR a xs) := by
  obtain ⟨⟨t1, t2⟩, t3⟩ := p_time a xs hs hp a.Races (inv_a a hs)
  obtain ⟨⟨c1, c2⟩, c3⟩ := p_code a xs hs hp _ t3
  refine ⟨?_, ?_, c3⟩
  · simp only [M.spec_l21Series, p_copy a hs, bnd_some, outc_nxt, M.spec_l21Series_a1, t1, M.spec_l21Series_a2, c1, M.spec_l21Series_a3, penR]
  · simp only [M.impl_penalizedSeries, p_copyI a hs, bnd_some, outc_nxt, M.impl_penalizedSeries_a1, t2, M.impl_penalizedSeries_a2, c2, M.impl_penalizedSeries_a3, penR]
def penC (a : Series) (xs : List Penalty) : Int := if IsSeries a then (if ArePens a xs then 0 else 2) else 1
theorem p_codes (a : Series) (xs : List Penalty) (h1 : szS a ≤ 1048576) (h : xs.length ≤ 1048576) : M.impl_penaltyCode a xs = some (penC a xs) ∧ M.spec_l21Result a xs = some (penC a xs) := by
  unfold penC
  simp only [M.impl_penaltyCode, M.spec_l21Result, p_implIsSeries a h1, p_specIsSeries a h1, bnd_some, e_arePenalties, ifB_if]
  by_cases hs : IsSeries a
  · by_cases hp : ArePens a xs <;> simp [hs, hp, p_l21Valid a xs hs.1 hs.2.2.1 h]
  · simp [hs]
theorem penC_zero (a : Series) (xs : List Penalty) : penC a xs = 0 ↔ IsSeries a ∧ ArePens a xs := by
  unfold penC
  by_cases hs : IsSeries a
  · by_cases hp : ArePens a xs <;> simp [hs, hp]
  · simp [hs]
end Go.Proofs.YtgelmamcinlahaaGreat
