/- Pure laws over drawn series and penalties. -/
import Derived.Test.YtgelmamcinlahaaPureD
import Derived.Test.YtgelmamcinlahaaPureY
import Derived.Test.YtgelmamcinlahaaPureX
namespace Go.Proofs.Ytgelmamcinlahaa
open Go
set_option linter.unusedVariables false
set_option linter.unusedSimpArgs false

theorem eqL_self (xs : List Int) : eqL xs xs = true := (eqL_iff xs xs).2 rfl
theorem p_w6Races (a : Race) (h : a.Finishes.length ≤ 1048576) : M.laws_w6Races a a = some true := by
  have hl : loopF (M.laws_w6Races_l1 a a) 0 = some (.nxt (a.Finishes.length : Int)) := by
    refine loop_run a.Finishes.length (by omega) (fun i => (i : Int)) _ rfl (fun i hi => ?_) ?_
    · have h1 : ((i : Int) < (a.Finishes.length : Int)) := by omega
      simp only [M.laws_w6Races_l1, h1, decide_true, ifB_true, idx_lt _ i hi, bnd_some, eqL_self, Bool.not_true, ifB_false, step64 hi (by omega)]
    · simp [M.laws_w6Races_l1]
  simp only [M.laws_w6Races, hl, bnd_some, outc_nxt, M.laws_w6Races_a1, bne_self_eq_false, ifB_false]
theorem p_w6Series (a : Series) (h : szS a ≤ 1048576) : M.laws_w6Series a a = some true := by
  unfold szS at h
  have hr := row_le (fun x : Race => x.Finishes.length) a.Races 1048576 (by omega)
  have hl : loopF (M.laws_w6Series_l1 a a) 0 = some (.nxt (a.Races.length : Int)) := by
    refine loop_run a.Races.length (by omega) (fun i => (i : Int)) _ rfl (fun i hi => ?_) ?_
    · have h1 : ((i : Int) < (a.Races.length : Int)) := by omega
      simp only [M.laws_w6Series_l1, h1, decide_true, ifB_true, idx_lt _ i hi, bnd_some, p_w6Races _ (hr _ (List.getElem_mem hi)), Bool.not_true, ifB_false, step64 hi (by omega)]
    · simp [M.laws_w6Series_l1]
  simp only [M.laws_w6Series, M.laws_w6Series_j1, hl, bnd_some, outc_nxt, M.laws_w6Series_a1, bne_self_eq_false, ifB_false]
/-- the finish of a boat in a race -/
def get2 (rs : List Race) (i k : Nat) : Option Finish := match rs[i]? with
  | none => none
  | some x => x.Finishes[k]?
theorem get2_upd1 (f : Finish → Finish) (rs : List Race) (r b : Int) (i k : Nat) : get2 (upd1 f rs r b) i k = if r.toNat = i ∧ b.toNat = k then (get2 rs i k).map f else get2 rs i k := by
  unfold upd1
  by_cases hr : r.toNat = i
  · subst hr
    cases hx : rs[r.toNat]? with
    | none => simp [get2, hx]
    | some x =>
      simp only
      obtain ⟨hlt, _⟩ := List.getElem?_eq_some_iff.1 hx
      by_cases hb : b.toNat = k
      · subst hb
        cases hg : x.Finishes[b.toNat]? with
        | none => simp [get2, hx, hg]
        | some g =>
          obtain ⟨hlt2, _⟩ := List.getElem?_eq_some_iff.1 hg
          simp [get2, hx, hg, List.getElem?_set_self hlt, List.getElem?_set_self hlt2]
      · cases hg : x.Finishes[b.toNat]? with
        | none => simp [get2, hx, hb]
        | some g => simp [get2, hx, hb, List.getElem?_set_self hlt, List.getElem?_set_ne hb]
  · have e : ∀ y : Race, (rs.set r.toNat y)[i]? = rs[i]? := fun y => List.getElem?_set_ne hr
    rw [if_neg (by simp [hr])]
    cases hx : rs[r.toNat]? with
    | none => rfl
    | some x =>
      simp only
      cases hg : x.Finishes[b.toNat]? with
      | none => rfl
      | some g => simp only [get2, e]
def okPn (n : Nat) (b : Int) (x : Penalty) : Prop := (0 ≤ x.Race ∧ x.Race < (n : Int)) ∧ (0 ≤ x.Boat ∧ x.Boat < b) ∧ okVal x.Kind x.Value = true
theorem pens_ok (a : Series) (xs : List Penalty) (h : ArePens a xs) : ∀ x ∈ xs, okPn a.Races.length a.Boats x := fun x hx => by
  obtain ⟨i, hi, rfl⟩ := List.mem_iff_getElem.1 hx
  exact pen_ok a xs h i hi
theorem unnamed (xs : List Penalty) (i k : Nat) (rs : List Race) (hp : ∀ x ∈ xs, 0 ≤ x.Race ∧ 0 ≤ x.Boat) (hn : ∀ x ∈ xs, ¬ (x.Race = (i : Int) ∧ x.Boat = (k : Int))) : get2 (xs.foldl pC (xs.foldl pT rs)) i k = get2 rs i k := by
  have hne : ∀ x ∈ xs, ¬ (x.Race.toNat = i ∧ x.Boat.toNat = k) := fun x hx hh => hn x hx ⟨by have := (hp x hx).1; omega, by have := (hp x hx).2; omega⟩
  have h1 : ∀ x ∈ xs, ∀ rs, get2 (pT rs x) i k = get2 rs i k := fun x hx rs => by
    unfold pT; split
    · rw [get2_upd1, if_neg (hne x hx)]
    · rfl
  have h2 : ∀ x ∈ xs, ∀ rs, get2 (pC rs x) i k = get2 rs i k := fun x hx rs => by
    unfold pC; split
    · rw [get2_upd1, if_neg (hne x hx)]
    · rfl
  have f1 := fold_inv pT (fun s => get2 s i k = get2 rs i k) xs rs rfl (fun s x hx hs => (h1 x hx s).trans hs)
  exact fold_inv pC (fun s => get2 s i k = get2 rs i k) xs _ f1 (fun s x hx hs => (h2 x hx s).trans hs)
def OkFs (rs : List Race) : Prop := ∀ i k f, get2 rs i k = some f → f.Boat = (k : Int) ∧ FinOk f
theorem okFs_pT (n : Nat) (b : Int) (rs : List Race) (x : Penalty) (hx : okPn n b x) (h : OkFs rs) : OkFs (pT rs x) := by
  unfold pT
  split
  · rename_i hk
    intro i k f hf
    rw [get2_upd1] at hf
    split at hf
    · obtain ⟨g, hg, rfl⟩ := Option.map_eq_some_iff.1 hf
      have hg' := h i k g hg
      have hv := hx.2.2
      unfold okVal at hv
      rw [if_neg (by omega), if_pos hk] at hv
      have hv' : 1 ≤ x.Value ∧ x.Value ≤ 1000000000 := by simpa using hv
      unfold tmF
      split
      · rename_i hc
        have ht := hg'.2.2.1 hc
        refine ⟨hg'.1, hg'.2.1, fun _ => ?_, fun hc' => (hc' hc).elim⟩
        simp only
        rw [w64_of (by omega)]
        omega
      · exact hg'
    · exact h i k f hf
  · exact h
theorem okFs_pC (n : Nat) (b : Int) (rs : List Race) (x : Penalty) (hx : okPn n b x) (h : OkFs rs) : OkFs (pC rs x) := by
  unfold pC
  split
  · rename_i hk
    intro i k f hf
    rw [get2_upd1] at hf
    split at hf
    · rename_i hik
      obtain ⟨g, hg, rfl⟩ := Option.map_eq_some_iff.1 hf
      have hv := hx.2.2
      unfold okVal at hv
      rw [if_pos hk] at hv
      have hv' : x.Value = 6 ∨ x.Value = 7 ∨ x.Value = 5 := by simpa using hv
      have hb := hx.2.1.1
      exact ⟨by simp only; omega, ⟨by simp only; omega, by simp only; omega⟩, fun hc => by simp only at hc; omega, fun _ => rfl⟩
    · exact h i k f hf
  · exact h
theorem okFs_start (a : Series) (hs : IsSeries a) : OkFs a.Races := fun i k f hf => by
  unfold get2 at hf
  split at hf
  · cases hf
  · rename_i x hx
    obtain ⟨hi, rfl⟩ := List.getElem?_eq_some_iff.1 hx
    obtain ⟨hk, rfl⟩ := List.getElem?_eq_some_iff.1 hf
    have hr := hs.2.2.2 i hi
    refine ⟨?_, fin_ok _ _ hr k hk⟩
    have hb := hr.2 k hk
    unfold badFin at hb
    simp only [List.getElem?_eq_getElem hk, Bool.or_eq_false_iff, bne_eq_false_iff_eq] at hb
    exact hb.1.1
theorem okRace_of (n : Int) (x : Race) (rs : List Race) (i : Nat) (hi : rs[i]? = some x) (hl : (x.Finishes.length : Int) = n) (h : OkFs rs) : OkRace n x.Finishes := by
  refine ⟨hl, fun k hk => ?_⟩
  obtain ⟨h1, h2⟩ := h i k x.Finishes[k] (by unfold get2; rw [hi]; simp [hk])
  unfold badFin
  simp only [List.getElem?_eq_getElem hk]
  have hc := h2.1
  by_cases h0 : x.Finishes[k].Code = 0
  · have := h2.2.1 h0
    simp [h1, h0, this]
  · have := h2.2.2 h0
    simp [h1, h0, hc, this]
theorem penR_series (a : Series) (xs : List Penalty) (hs : IsSeries a) (hp : ArePens a xs) : IsSeries ⟨a.Boats, a.Scheme, penR a xs⟩ := by
  have hI := (p_series a xs hs hp).2.2
  have hok := pens_ok a xs hp
  have hF : OkFs (penR a xs) := by
    have f1 := fold_inv pT OkFs xs a.Races (okFs_start a hs) (fun s x hx h => okFs_pT _ _ s x (hok x hx) h)
    exact fold_inv pC OkFs xs _ f1 (fun s x hx h => okFs_pC _ _ s x (hok x hx) h)
  refine ⟨hs.1, hs.2.1, by have := hI.1; have := hs.2.2.1; simp only; omega, fun i hi => ?_⟩
  exact okRace_of _ _ (penR a xs) i (List.getElem?_eq_getElem hi) (hI.2 i hi) hF

/-! draws -/
theorem p_21DrawPenalty {c : List UInt8} {a d : Int} (h : OkS c a d) (v : Series) (hb : v.Boats ≤ 1000) (hr : v.Races.length ≤ 1000) : ∃ b, M.spec_l21DrawPenalty ⟨c, a, d⟩ v = some b ∧ OkS c b.2.1 b.2.2 := by
  refine nx h _ (by omega) fun x31 a1 d1 h _ _ => ?_
  refine nx h _ (by omega) fun x38 a2 d2 h _ _ => ?_
  refine nx h 3 (by omega) fun x45 a3 d3 h _ _ => ?_
  refine ifB_ex (fun _ => ?_) (fun _ => ifB_ex (fun _ => ?_) (fun _ => ifB_ex (fun _ => ?_) (fun _ => ⟨_, rfl, h⟩)))
  · refine nx h 3 (by omega) fun r a4 d4 h hr hr' => ?_
    refine nxt (idx_some _ _ hr (by simp; omega)) fun x _ => ⟨_, rfl, h⟩
  · refine nx h 8 (by omega) fun r a4 d4 h hr hr' => ⟨_, rfl, h⟩
  · refine nx h 100 (by omega) fun r a4 d4 h hr hr' => ⟨_, rfl, h⟩
theorem p_21Draw {c : List UInt8} {a d : Int} (h : OkS c a d) : ∃ b, M.spec_l21Draw ⟨c, a, d⟩ = some b ∧ OkS c b.2.1 b.2.2 ∧ szS b.1.1 ≤ 1048576 ∧ b.1.2.length ≤ 100 := by
  refine nxt (p_DrawSeries h) fun x7 hx => ?_
  obtain ⟨h, hb, hR⟩ := hx
  have hsz : szS x7.1 ≤ 1048576 := okRs_sz x7.1.Races 20 x7.1.Boats x7.1.Scheme hR (by omega)
  have hRl := hR.1
  refine nx h 6 (by omega) fun x20 a2 d2 h hr hr' => ?_
  have hl : ∃ o, loopF (M.spec_l21Draw_l1 ⟨c, a, d⟩ x7) (a2, d2, ([] : List Penalty), x20) = some o ∧ ∃ a' d' L k, o = .nxt (a', d', L, k) ∧ OkS c a' d' ∧ L.length ≤ 6 := by
    refine loop_count 6 (by omega) (fun i s => OkS c s.1 s.2.1 ∧ s.2.2.1.length ≤ i ∧ s.2.2.2 ≤ 6 - (i : Int)) _ ⟨h, by simp, by simp only; omega⟩ (fun i s hi hs => ?_) (fun s hs => ?_)
    · obtain ⟨a1, d1, L, k⟩ := s
      obtain ⟨h1, h2, h3⟩ := hs
      simp only at h1 h2 h3
      by_cases hk : 0 < k
      · by_cases hq : 0 < (x7.1.Races.length : Int)
        · obtain ⟨b, e1, e2⟩ := p_21DrawPenalty h1 x7.1 (by omega) (by omega)
          refine ⟨.cont (b.2.1, b.2.2, L ++ [b.1], w64 (k - 1)), ?_, e2, by simp; omega, ?_⟩
          · simp only [M.spec_l21Draw_l1, M.spec_l21Draw_j3, hk, hq, decide_true, ifB_true, e1, bnd_some]
            rw [chk_pos (by simp; omega)]
          · simp only
            rw [w64_of (by omega)]; omega
        · exact ⟨.brk (a1, d1, L, k), by simp only [M.spec_l21Draw_l1, M.spec_l21Draw_j3, hk, hq, decide_true, decide_false, ifB_true, ifB_false], a1, d1, L, k, rfl, h1, by omega⟩
      · exact ⟨.brk (a1, d1, L, k), by simp only [M.spec_l21Draw_l1, M.spec_l21Draw_j3, hk, decide_false, ifB_false], a1, d1, L, k, rfl, h1, by omega⟩
    · obtain ⟨a1, d1, L, k⟩ := s
      obtain ⟨h1, h2, h3⟩ := hs
      simp only at h1 h2 h3
      have hk : ¬ (0 < k) := by omega
      exact ⟨.brk (a1, d1, L, k), by simp only [M.spec_l21Draw_l1, M.spec_l21Draw_j3, hk, decide_false, ifB_false], a1, d1, L, k, rfl, h1, by omega⟩
  obtain ⟨o, ho, a3, d3, L, k, rfl, h1, h2⟩ := hl
  rw [ho, bnd_some, outc_nxt, M.spec_l21Draw_a1]
  refine ifB_ex (fun _ => ⟨_, rfl, h1, hsz, by simp only; omega⟩) (fun hf => ?_)
  have hL : ¬ (L.length : Int) = 0 := by simpa using hf
  refine nx h1 (L.length : Int) (by omega) fun x88 a4 d4 h hr hr' => ?_
  have hr2 : x88 < (L.length : Int) := by omega
  have fin : ∀ a5 d5 Q, OkS c a5 d5 → Q.length ≤ 100 → ∃ b, M.spec_l21Draw_j2 x7 (a5, d5, Q) = some b ∧ OkS c b.2.1 b.2.2 ∧ szS b.1.1 ≤ 1048576 ∧ b.1.2.length ≤ 100 := fun a5 d5 Q h5 h6 => ⟨_, rfl, h5, hsz, h6⟩
  refine nx h 24 (by omega) fun x241 a5 d5 h _ _ => ?_
  refine ifB_ex (fun _ => ?_) (fun _ => ifB_ex (fun _ => ?_) (fun _ => ifB_ex (fun _ => ?_) (fun _ => ifB_ex (fun _ => ?_) (fun _ => ifB_ex (fun _ => ?_) (fun _ => fin _ _ _ h (by simp only; omega))))))
  · refine nxt (idx_some _ _ hr hr2) fun y _ => fin _ _ _ h (by simp; omega)
  · refine nxt (idx_some _ _ hr hr2) fun y _ => fin _ _ _ h (by simp; omega)
  · refine nx h 2 (by omega) fun x336 a6 d6 h _ _ => ?_
    refine nxt (idx_some _ _ hr hr2) fun y _ => fin _ _ _ h (by simp; omega)
  · refine nxt (idx_some _ _ hr hr2) fun y _ => fin _ _ _ h (by simp; omega)
  · refine nxt (idx_some _ _ hr hr2) fun y _ => nxt (idx_some _ _ hr hr2) fun y _ => nxt (idx_some _ _ hr hr2) fun y _ => fin _ _ _ h (by simp; omega)
theorem p_DrawPenalizedSeries (c : List UInt8) (h : c.length ≤ 4096) : ∃ b, M.spec_DrawPenalizedSeries c = some b ∧ szS b.1 ≤ 1048576 ∧ b.2.length ≤ 100 := by
  obtain ⟨d, h1, h2⟩ := p_From c (by omega)
  rw [M.spec_DrawPenalizedSeries, h1]
  refine nxt (p_21Draw h2) fun x hx => ⟨_, rfl, hx.2⟩
theorem pure_FnPenalties (c : List UInt8) (hc : OkD.ok c) : M.laws_FnPenalties c = some true := by
  rw [M.laws_FnPenalties, p_big, bnd_some, ifB_if]
  by_cases hb : 4096 < (c.length : Int)
  · simp [hb]
  · rw [if_neg (by simpa using hb)]
    obtain ⟨⟨a, xs⟩, hd, hsz, hlen⟩ := p_DrawPenalizedSeries c (by omega)
    simp only at hsz hlen
    obtain ⟨h1, h2⟩ := p_PenalizedSeries a xs hsz (by omega)
    have h3 := penS_sz a xs
    have h4 := p_implIsPenalties a xs hsz (by omega)
    rw [hd]
    simp only [bnd_some, h1, h2, h4, p_w6Series _ h3, bne_self_eq_false, ifB_false, Bool.not_true]
    by_cases hv : IsSeries a ∧ ArePens a xs
    · obtain ⟨hs, hp⟩ := hv
      have hz : penC a xs = 0 := (penC_zero a xs).2 ⟨hs, hp⟩
      have er : penS a xs = (⟨a.Boats, a.Scheme, penR a xs⟩, 0) := by unfold penS; rw [if_pos hz]
      have hI := (p_series a xs hs hp).2.2
      have hok := pens_ok a xs hp
      have hS := penR_series a xs hs hp
      have hsz2 : szS (⟨a.Boats, a.Scheme, penR a xs⟩ : Series) ≤ 1048576 := by rw [er] at h3; exact h3
      rw [er]
      have e0 : ((0 : Int) == 0) = true := by decide
      simp only [hs, hp, and_self, decide_true, e0, bne_self_eq_false, ifB_false, M.laws_FnPenalties_j1]
      have hnr := hs.2.2.1
      have hl1 : loopF (M.laws_FnPenalties_l1 (a, xs) (⟨a.Boats, a.Scheme, penR a xs⟩, 0)) 0 = some (.nxt (a.Races.length : Int)) := by
        refine loop_run a.Races.length (by omega) (fun i => (i : Int)) _ rfl (fun i hi => ?_) ?_
        · have e1 : ((i : Int) < (a.Races.length : Int)) := by omega
          have hri := (hs.2.2.2 i hi).1
          have hb16 := hs.1.2
          have hi2 : i < (penR a xs).length := by rw [hI.1]; exact hi
          have hlen2 := hI.2 i hi2
          have hl2 : loopF (M.laws_FnPenalties_l2 (a, xs) (⟨a.Boats, a.Scheme, penR a xs⟩, 0) (i : Int)) 0 = some (.nxt (a.Races[i].Finishes.length : Int)) := by
            refine loop_run a.Races[i].Finishes.length (by omega) (fun k => (k : Int)) _ rfl (fun k hk => ?_) ?_
            · have e2 : ((k : Int) < (a.Races[i].Finishes.length : Int)) := by omega
              have hk2 : k < (penR a xs)[i].Finishes.length := by omega
              have hl3 : loopF (M.laws_FnPenalties_l3 (a, xs) (i : Int) (k : Int)) (false, 0) = some (.nxt (xs.any (fun x => x.Race == (i : Int) && x.Boat == (k : Int)), (xs.length : Int))) := by
                refine loop_run xs.length (by omega) (fun m => ((xs.take m).any (fun x => x.Race == (i : Int) && x.Boat == (k : Int)), (m : Int))) _ (by simp) (fun m hm => ?_) ?_
                · have e3 : ((m : Int) < (xs.length : Int)) := by omega
                  have et : (xs.take (m + 1)).any (fun x => x.Race == (i : Int) && x.Boat == (k : Int)) = ((xs.take m).any (fun x => x.Race == (i : Int) && x.Boat == (k : Int)) || (xs[m].Race == (i : Int) && xs[m].Boat == (k : Int))) := by
                    rw [List.take_succ_eq_append_getElem hm, List.any_append]; simp
                  simp only [M.laws_FnPenalties_l3, M.laws_FnPenalties_j3, M.laws_FnPenalties_j4, e3, decide_true, ifB_true, idx_lt _ m hm, bnd_some, step64 hm (by omega), et]
                  cases (xs.take m).any (fun x => x.Race == (i : Int) && x.Boat == (k : Int))
                  · simp only [ifB_false, Bool.false_or]
                    cases xs[m].Race == (i : Int) <;> simp
                  · simp
                · simp [M.laws_FnPenalties_l3]
              simp only [M.laws_FnPenalties_l2, idx_lt _ i hi, bnd_some, e2, decide_true, ifB_true, hl3, outc_nxt, M.laws_FnPenalties_a3, M.laws_FnPenalties_j2, idx_lt _ i hi2, idx_lt _ k hk, idx_lt _ k hk2, step64 hk (by omega)]
              cases hany : xs.any (fun x => x.Race == (i : Int) && x.Boat == (k : Int))
              · have hun := unnamed xs i k a.Races (fun x hx => ⟨(hok x hx).1.1, (hok x hx).2.1.1⟩) (fun x hx hh => by
                  have := List.any_eq_false.1 hany x hx
                  simp [hh.1, hh.2] at this)
                have hun' : get2 (penR a xs) i k = get2 a.Races i k := hun
                unfold get2 at hun'
                rw [List.getElem?_eq_getElem hi, List.getElem?_eq_getElem hi2] at hun'
                simp only [List.getElem?_eq_getElem hk, List.getElem?_eq_getElem hk2] at hun'
                have hun2 : (penR a xs)[i].Finishes[k] = a.Races[i].Finishes[k] := by injection hun'
                simp only [Bool.not_false, ifB_true, hun2, eqL_self, Bool.not_true, ifB_false]
              · simp only [Bool.not_true, ifB_false]
            · simp only [M.laws_FnPenalties_l2, idx_lt _ i hi, bnd_some, Int.lt_irrefl, decide_false, ifB_false]
          simp only [M.laws_FnPenalties_l1, e1, decide_true, ifB_true, hl2, bnd_some, outc_nxt, M.laws_FnPenalties_a2, step64 hi (by omega)]
        · simp [M.laws_FnPenalties_l1]
      simp only [hl1, bnd_some, outc_nxt, M.laws_FnPenalties_a1, p_implIsSeries _ hsz2, hS, decide_true]
    · have hz : penC a xs ≠ 0 := fun h => hv ((penC_zero a xs).1 h)
      have er : (penS a xs).2 = penC a xs := by unfold penS; rw [if_neg hz]
      have e1 : (penC a xs == 0) = false := by simp [hz]
      have e2 : (penC a xs != 0) = true := by simp [hz]
      simp only [er, hv, decide_false, e1, e2, bne_self_eq_false, ifB_false, ifB_true, M.laws_FnPenalties_j1]
end Go.Proofs.Ytgelmamcinlahaa
