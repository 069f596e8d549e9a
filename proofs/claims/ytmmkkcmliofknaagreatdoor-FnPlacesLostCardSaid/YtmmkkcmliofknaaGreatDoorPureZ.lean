/- Pure laws over drawn series and penalties. -/
import Derived.Test.YtmmkkcmliofknaaGreatDoorPureD
import Derived.Test.YtmmkkcmliofknaaGreatDoorPureY
import Derived.Test.YtmmkkcmliofknaaGreatDoorPureX
namespace Go.Proofs.YtmmkkcmliofknaaGreatDoor
open Go
set_option linter.unusedVariables false
set_option linter.unusedSimpArgs false
def zMN (rs : List Race) (i k : Nat) : Option Finish := match rs[i]? with
  | none => none
  | some x => x.Finishes[k]?
theorem zNK (f : Finish → Finish) (rs : List Race) (r b : Int) (i k : Nat) : zMN (zO0 f rs r b) i k = if r.toNat = i ∧ b.toNat = k then (zMN rs i k).map f else zMN rs i k := by
  unfold zO0
  by_cases hr : r.toNat = i
  · subst hr
    cases hx : rs[r.toNat]? with
    | none => simp [zMN, hx]
    | some x =>
      simp only
      obtain ⟨hlt, _⟩ := List.getElem?_eq_some_iff.1 hx
      by_cases hb : b.toNat = k
      · subst hb
        cases hg : x.Finishes[b.toNat]? with
        | none => simp [zMN, hx, hg]
        | some g =>
          obtain ⟨hlt2, _⟩ := List.getElem?_eq_some_iff.1 hg
          simp [zMN, hx, hg, List.getElem?_set_self hlt, List.getElem?_set_self hlt2]
      · cases hg : x.Finishes[b.toNat]? with
        | none => simp [zMN, hx, hb]
        | some g => simp [zMN, hx, hb, List.getElem?_set_self hlt, List.getElem?_set_ne hb]
  · have e : ∀ y : Race, (rs.set r.toNat y)[i]? = rs[i]? := fun y => List.getElem?_set_ne hr
    rw [if_neg (by simp [hr])]
    cases hx : rs[r.toNat]? with
    | none => rfl
    | some x =>
      simp only
      cases hg : x.Finishes[b.toNat]? with
      | none => rfl
      | some g => simp only [zMN, e]
def zTp (n : Nat) (b : Int) (x : Penalty) : Prop := (0 ≤ x.Race ∧ x.Race < (n : Int)) ∧ (0 ≤ x.Boat ∧ x.Boat < b) ∧ zJ7 x.Kind x.Value = true
theorem zSQ (a : Series) (xs : List Penalty) (h : zD1 a xs) : ∀ x ∈ xs, zTp a.Races.length a.Boats x := fun x hx => by
  obtain ⟨i, hi, rfl⟩ := List.mem_iff_getElem.1 hx
  exact zMB a xs h i hi
def zOd (rs : List Race) : Prop := ∀ i k f, zMN rs i k = some f → f.Boat = (k : Int) ∧ zS3 f
theorem zSR (n : Nat) (b : Int) (rs : List Race) (x : Penalty) (hx : zTp n b x) (h : zOd rs) : zOd (pT rs x) := by
  unfold pT
  split
  · rename_i hk
    intro i k f hf
    rw [zNK] at hf
    split at hf
    · obtain ⟨g, hg, rfl⟩ := Option.map_eq_some_iff.1 hf
      have hg' := h i k g hg
      have hv := hx.2.2
      unfold zJ7 at hv
      rw [if_neg (by omega), if_pos hk] at hv
      have hv' : 1 ≤ x.Value ∧ x.Value ≤ 1000000000 := by simpa using hv
      unfold tmF
      split
      · rename_i hc
        have ht := hg'.2.2.1 hc
        refine ⟨hg'.1, hg'.2.1, fun _ => ?_, fun hc' => (hc' hc).elim⟩
        simp only
        rw [zBl (by omega)]
        omega
      · exact hg'
    · exact h i k f hf
  · exact h
theorem zSS (n : Nat) (b : Int) (rs : List Race) (x : Penalty) (hx : zTp n b x) (h : zOd rs) : zOd (pC rs x) := by
  unfold pC
  split
  · rename_i hk
    intro i k f hf
    rw [zNK] at hf
    split at hf
    · rename_i hik
      obtain ⟨g, hg, rfl⟩ := Option.map_eq_some_iff.1 hf
      have hv := hx.2.2
      unfold zJ7 at hv
      rw [if_pos hk] at hv
      have hv' : x.Value = 6 ∨ x.Value = 7 ∨ x.Value = 5 := by simpa using hv
      have hb := hx.2.1.1
      exact ⟨by simp only; omega, ⟨by simp only; omega, by simp only; omega⟩, fun hc => by simp only at hc; omega, fun _ => rfl⟩
    · exact h i k f hf
  · exact h
theorem zPz (a : Series) (hs : zBM a) : zOd a.Races := fun i k f hf => by
  unfold zMN at hf
  split at hf
  · cases hf
  · rename_i x hx
    obtain ⟨hi, rfl⟩ := List.getElem?_eq_some_iff.1 hx
    obtain ⟨hk, rfl⟩ := List.getElem?_eq_some_iff.1 hf
    have hr := hs.2.2.2 i hi
    refine ⟨?_, zSa _ _ hr k hk⟩
    have hb := hr.2 k hk
    unfold zJE at hb
    simp only [List.getElem?_eq_getElem hk, Bool.or_eq_false_iff, bne_eq_false_iff_eq] at hb
    exact hb.1.1
theorem zQA (n : Int) (x : Race) (rs : List Race) (i : Nat) (hi : rs[i]? = some x) (hl : (x.Finishes.length : Int) = n) (h : zOd rs) : zJk n x.Finishes := by
  refine ⟨hl, fun k hk => ?_⟩
  obtain ⟨h1, h2⟩ := h i k x.Finishes[k] (by unfold zMN; rw [hi]; simp [hk])
  unfold zJE
  simp only [List.getElem?_eq_getElem hk]
  have hc := h2.1
  by_cases h0 : x.Finishes[k].Code = 0
  · have := h2.2.1 h0
    simp [h1, h0, this]
  · have := h2.2.2 h0
    simp [h1, h0, hc, this]
theorem zLe (a : Series) (xs : List Penalty) (hs : zBM a) (hp : zD1 a xs) : zBM ⟨a.Boats, a.Scheme, zIY a xs⟩ := by
  have hI := (zO2 a xs hs hp).2.2
  have hok := zSQ a xs hp
  have hF : zOd (zIY a xs) := by
    have f1 := zKV pT zOd xs a.Races (zPz a hs) (fun s x hx h => zSR _ _ s x (hok x hx) h)
    exact zKV pC zOd xs _ f1 (fun s x hx h => zSS _ _ s x (hok x hx) h)
  refine ⟨hs.1, hs.2.1, by have := hI.1; have := hs.2.2.1; simp only; omega, fun i hi => ?_⟩
  exact zQA _ _ (zIY a xs) i (List.getElem?_eq_getElem hi) (hI.2 i hi) hF
theorem zMO {c : List UInt8} {a d : Int} (h : OkS c a d) (v : Series) (hb : v.Boats ≤ 1000) (hr : v.Races.length ≤ 1000) : ∃ b, zGy ⟨c, a, d⟩ v = some b ∧ OkS c b.2.1 b.2.2 := by
  refine nx h _ (by omega) fun x31 a1 d1 h _ _ => ?_
  refine nx h _ (by omega) fun x38 a2 d2 h _ _ => ?_
  refine nx h 3 (by omega) fun x45 a3 d3 h _ _ => ?_
  refine zFr (fun _ => ?_) (fun _ => zFr (fun _ => ?_) (fun _ => zFr (fun _ => ?_) (fun _ => ⟨_, rfl, h⟩)))
  · refine nx h 3 (by omega) fun r a4 d4 h hr hr' => ?_
    refine nxt (zHO _ _ hr (by simp; omega)) fun x _ => ⟨_, rfl, h⟩
  · refine nx h 8 (by omega) fun r a4 d4 h hr hr' => ⟨_, rfl, h⟩
  · refine nx h 100 (by omega) fun r a4 d4 h hr hr' => ⟨_, rfl, h⟩
theorem zQB {c : List UInt8} {a d : Int} (h : OkS c a d) : ∃ b, zJg ⟨c, a, d⟩ = some b ∧ OkS c b.2.1 b.2.2 ∧ szS b.1.1 ≤ 1048576 ∧ b.1.2.length ≤ 100 ∧ b.1.1.Boats ≤ 1000 := by
  refine nxt (zNW h) fun x7 hx => ?_
  obtain ⟨h, hb, hR⟩ := hx
  have hsz : szS x7.1 ≤ 1048576 := zSC x7.1.Races 20 x7.1.Boats x7.1.Scheme hR (by omega)
  have hRl := hR.1
  refine nx h 6 (by omega) fun x20 a2 d2 h hr hr' => ?_
  have hl : ∃ o, zAO (zEa ⟨c, a, d⟩ x7) (a2, d2, ([] : List Penalty), x20) = some o ∧ ∃ a' d' L k, o = .nxt (a', d', L, k) ∧ OkS c a' d' ∧ L.length ≤ 6 := by
    refine zDd 6 (by omega) (fun i s => OkS c s.1 s.2.1 ∧ s.2.2.1.length ≤ i ∧ s.2.2.2 ≤ 6 - (i : Int)) _ ⟨h, by simp, by simp only; omega⟩ (fun i s hi hs => ?_) (fun s hs => ?_)
    · obtain ⟨a1, d1, L, k⟩ := s
      obtain ⟨h1, h2, h3⟩ := hs
      simp only at h1 h2 h3
      by_cases hk : 0 < k
      · by_cases hq : 0 < (x7.1.Races.length : Int)
        · obtain ⟨b, e1, e2⟩ := zMO h1 x7.1 (by omega) (by omega)
          refine ⟨.cont (b.2.1, b.2.2, L ++ [b.1], w64 (k - 1)), ?_, e2, by simp; omega, ?_⟩
          · simp only [zEa, zDm, hk, hq, decide_true, zAy, e1, zAr]
            rw [zBf (by simp; omega)]
          · simp only
            rw [zBl (by omega)]; omega
        · exact ⟨.brk (a1, d1, L, k), by simp only [zEa, zDm, hk, hq, decide_true, decide_false, zAy, zAG], a1, d1, L, k, rfl, h1, by omega⟩
      · exact ⟨.brk (a1, d1, L, k), by simp only [zEa, zDm, hk, decide_false, zAG], a1, d1, L, k, rfl, h1, by omega⟩
    · obtain ⟨a1, d1, L, k⟩ := s
      obtain ⟨h1, h2, h3⟩ := hs
      simp only at h1 h2 h3
      have hk : ¬ (0 < k) := by omega
      exact ⟨.brk (a1, d1, L, k), by simp only [zEa, zDm, hk, decide_false, zAG], a1, d1, L, k, rfl, h1, by omega⟩
  obtain ⟨o, ho, a3, d3, L, k, rfl, h1, h2⟩ := hl
  rw [ho, zAr, zBx, zGU]
  refine zFr (fun _ => ⟨_, rfl, h1, hsz, by simp only; omega, by simp only; omega⟩) (fun hf => ?_)
  have hL : ¬ (L.length : Int) = 0 := by simpa using hf
  refine nx h1 (L.length : Int) (by omega) fun x88 a4 d4 h hr hr' => ?_
  have hr2 : x88 < (L.length : Int) := by omega
  have fin : ∀ a5 d5 Q, OkS c a5 d5 → Q.length ≤ 100 → ∃ b, zCC x7 (a5, d5, Q) = some b ∧ OkS c b.2.1 b.2.2 ∧ szS b.1.1 ≤ 1048576 ∧ b.1.2.length ≤ 100 ∧ b.1.1.Boats ≤ 1000 := fun a5 d5 Q h5 h6 => ⟨_, rfl, h5, hsz, h6, by simp only; omega⟩
  refine nx h 24 (by omega) fun x241 a5 d5 h _ _ => ?_
  refine zFr (fun _ => ?_) (fun _ => zFr (fun _ => ?_) (fun _ => zFr (fun _ => ?_) (fun _ => zFr (fun _ => ?_) (fun _ => zFr (fun _ => ?_) (fun _ => fin _ _ _ h (by simp only; omega))))))
  · refine nxt (zHO _ _ hr hr2) fun y _ => fin _ _ _ h (by simp; omega)
  · refine nxt (zHO _ _ hr hr2) fun y _ => fin _ _ _ h (by simp; omega)
  · refine nx h 2 (by omega) fun x336 a6 d6 h _ _ => ?_
    refine nxt (zHO _ _ hr hr2) fun y _ => fin _ _ _ h (by simp; omega)
  · refine nxt (zHO _ _ hr hr2) fun y _ => fin _ _ _ h (by simp; omega)
  · refine nxt (zHO _ _ hr hr2) fun y _ => nxt (zHO _ _ hr hr2) fun y _ => nxt (zHO _ _ hr hr2) fun y _ => fin _ _ _ h (by simp; omega)
end Go.Proofs.YtmmkkcmliofknaaGreatDoor
