/- Pure law: percentages only add points. -/
import Derived.Test.YtgelmamcinlahaaPurePT
import Derived.Test.YtgelmamcinlahaaPureF
namespace Go.Proofs.Ytgelmamcinlahaa
open Go
set_option linter.unusedVariables false
set_option linter.unusedSimpArgs false

theorem foldl_filter_id {σ α : Type} (f : σ → α → σ) (p : α → Bool) (h : ∀ s x, p x = false → f s x = s) : ∀ (xs : List α) (s : σ), (xs.filter p).foldl f s = xs.foldl f s
  | [], s => rfl
  | x :: xs, s => by
    cases hp : p x with
    | true => rw [List.filter_cons_of_pos hp]; exact foldl_filter_id f p h xs (f s x)
    | false => rw [List.filter_cons_of_neg (by simp [hp]), List.foldl_cons, h s x hp]; exact foldl_filter_id f p h xs s
def noPct (x : Penalty) : Bool := x.Kind != 3
theorem rest_pens (a : Series) (xs : List Penalty) (hp : ArePens a xs) : ArePens a (xs.filter noPct) := by
  refine ⟨Nat.le_trans (List.length_filter_le _ _) hp.1, fun i hi => ?_⟩
  have hm := (List.mem_filter.1 (List.getElem_mem hi)).1
  obtain ⟨j, hj, e⟩ := List.mem_iff_getElem.1 hm
  have h2 := hp.2 j hj
  unfold badPen at h2 ⊢
  rw [List.getElem?_eq_getElem hj, e] at h2
  rw [List.getElem?_eq_getElem hi]
  exact h2
theorem rest_penR (a : Series) (xs : List Penalty) : penR a (xs.filter noPct) = penR a xs := by
  unfold penR
  rw [foldl_filter_id pT noPct (fun s x hx => by
      have h3 : x.Kind = 3 := by simpa [noPct] using hx
      unfold pT; rw [if_neg (by omega)]),
    foldl_filter_id pC noPct (fun s x hx => by
      have h3 : x.Kind = 3 := by simpa [noPct] using hx
      unfold pC; rw [if_neg (by omega)])]
theorem rest_sum (b : Int) (xs : List Penalty) (k c : Nat) : sumP b (xs.filter noPct) k c = 0 := by
  have h := tot_le (nP b k c) 0 (xs.filter noPct) (fun x hx => by
    have h2 := (List.mem_filter.1 hx).2
    have h3 : x.Kind ≠ 3 := by simpa [noPct] using h2
    unfold nP
    rw [if_neg (fun h => h3 h.1)]
    exact Nat.le_refl _)
  unfold sumP; omega
theorem rest_ptT (a : Series) (xs : List Penalty) : ptT a (xs.filter noPct) = tbl ⟨a.Boats, a.Scheme, penR a xs⟩ := by
  unfold ptT tbl
  rw [rest_penR]
  congr 1
  apply List.ext_getElem
  · simp [ptsP]
  · intro i h1 h2
    simp only [ptsP, List.getElem_mapIdx, List.getElem_map, tblP]
    apply List.ext_getElem
    · simp [rowP]
    · intro j h3 h4
      simp only [rowP, List.getElem_mapIdx, List.getElem_map, cellP, rest_sum]
      split <;> omega
theorem cellP_ge (b s : Int) (xs : List Penalty) (k c : Nat) (fs : List Finish) (f : Finish) : pts fs s f ≤ cellP b s xs k c fs f := by
  unfold cellP
  split <;> omega
theorem p_DrawPenalizedTable (c : List UInt8) (h : c.length ≤ 4096) : ∃ b, M.spec_DrawPenalizedTable c = some b ∧ szS b.1 ≤ 1048576 ∧ b.2.length ≤ 100 := by
  obtain ⟨d, h1, h2⟩ := p_From c (by omega)
  rw [M.spec_DrawPenalizedTable, h1]
  refine nxt (p_21Draw h2) fun x hx => ⟨_, rfl, hx.2⟩
theorem pure_FnPenalizedTable (c : List UInt8) (hc : OkD.ok c) : M.laws_FnPenalizedTable c = some true := by
  rw [M.laws_FnPenalizedTable, p_big, bnd_some, ifB_if]
  by_cases hb : 4096 < (c.length : Int)
  · simp [hb]
  · rw [if_neg (by simpa using hb)]
    obtain ⟨⟨a, xs⟩, hd, hsz, hlen⟩ := p_DrawPenalizedTable c (by omega)
    simp only at hsz hlen
    obtain ⟨h1, h2⟩ := p_PenalizedTable a xs hsz (by omega)
    have h3 := penT_sz a xs
    rw [hd]
    simp only [bnd_some, h1, h2, p_w6Tables _ h3, bne_self_eq_false, ifB_false, Bool.not_true, M.laws_FnPenalizedTable_j1]
    by_cases hv : IsSeries a ∧ ArePens a xs
    · obtain ⟨hs, hp⟩ := hv
      have hz : penC a xs = 0 := (penC_zero a xs).2 ⟨hs, hp⟩
      have er : penT a xs = (ptT a xs, 0) := by unfold penT; rw [if_pos hz]
      have hp' := rest_pens a xs hp
      have hz' : penC a (xs.filter noPct) = 0 := (penC_zero a _).2 ⟨hs, hp'⟩
      have er' : penT a (xs.filter noPct) = (tbl ⟨a.Boats, a.Scheme, penR a xs⟩, 0) := by unfold penT; rw [if_pos hz', rest_ptT]
      have es : penS a xs = (⟨a.Boats, a.Scheme, penR a xs⟩, 0) := by unfold penS; rw [if_pos hz]
      have hS := penR_series a xs hs hp
      have hsz2 : szS (⟨a.Boats, a.Scheme, penR a xs⟩ : Series) ≤ 1048576 := by have := series_le _ hS; omega
      have ht2 : szT (tbl ⟨a.Boats, a.Scheme, penR a xs⟩) ≤ 1048576 := by have := series_le _ hS; rw [szT_tbl]; omega
      have hq1 := (p_PenalizedTable a (xs.filter noPct) hsz (Nat.le_trans (List.length_filter_le _ _) (by omega))).1
      have hq2 := (p_PenalizedSeries a xs hsz (by omega)).2
      have hq3 := p_implTableOf ⟨a.Boats, a.Scheme, penR a xs⟩ hsz2
      rw [if_pos hS] at hq3
      have hl1 : loopF (M.laws_FnPenalizedTable_l1 (a, xs)) (([] : List Penalty), 0) = some (.nxt (xs.filter noPct, (xs.length : Int))) := by
        refine loop_run xs.length (by omega) (fun i => ((xs.take i).filter noPct, (i : Int))) _ (by simp) (fun i hi => ?_) ?_
        · have e1 : ((i : Int) < (xs.length : Int)) := by omega
          have hle : ((xs.take i).filter noPct).length ≤ 100 := Nat.le_trans (List.length_filter_le _ _) (by simp; omega)
          have et : (xs.take (i + 1)).filter noPct = (xs.take i).filter noPct ++ if noPct xs[i] then [xs[i]] else [] := by
            rw [List.take_succ_eq_append_getElem hi, List.filter_append]
            cases hno : noPct xs[i] <;> simp [hno]
          simp only [M.laws_FnPenalizedTable_l1, M.laws_FnPenalizedTable_j3, M.laws_FnPenalizedTable_j4, e1, decide_true, ifB_true, idx_lt _ i hi, bnd_some, step64 hi (by omega), et]
          rw [chk_pos (by simp; omega)]
          unfold noPct
          cases xs[i].Kind != 3 <;> simp
        · simp [M.laws_FnPenalizedTable_l1]
      have hl2 : loopF (M.laws_FnPenalizedTable_l2 (ptT a xs, 0) (tbl ⟨a.Boats, a.Scheme, penR a xs⟩, 0)) 0 = some (.nxt ((penR a xs).length : Int)) := by
        have hR12 : (penR a xs).length ≤ 12 := hS.2.2.1
        refine loop_run (penR a xs).length (by omega) (fun i => (i : Int)) _ rfl (fun i hi => ?_) ?_
        · have e1 : ((i : Int) < ((tbl ⟨a.Boats, a.Scheme, penR a xs⟩).Points.length : Int)) := by simp [tbl]; omega
          have g1 : idx (tbl ⟨a.Boats, a.Scheme, penR a xs⟩).Points (i : Int) = some (tblP ⟨a.Boats, a.Scheme, penR a xs⟩ (penR a xs)[i]) := by rw [idx_lt _ i (by simpa [tbl] using hi)]; simp [tbl]
          have g2 : idx (ptT a xs).Points (i : Int) = some (rowP a.Boats a.Scheme xs i (penR a xs)[i]) := by rw [idx_lt _ i (by simpa [ptT, ptsP] using hi)]; simp [ptT, ptsP]
          have hri := (hS.2.2.2 i hi).1
          have hb16 := hs.1.2
          simp only at hri
          have hl3 : loopF (M.laws_FnPenalizedTable_l3 (ptT a xs, 0) (tbl ⟨a.Boats, a.Scheme, penR a xs⟩, 0) (i : Int)) 0 = some (.nxt ((penR a xs)[i].Finishes.length : Int)) := by
            refine loop_run (penR a xs)[i].Finishes.length (by omega) (fun k => (k : Int)) _ rfl (fun k hk => ?_) ?_
            · have e2 : ((k : Int) < ((tblP ⟨a.Boats, a.Scheme, penR a xs⟩ (penR a xs)[i]).length : Int)) := by simp [tblP]; omega
              have g3 : idx (tblP ⟨a.Boats, a.Scheme, penR a xs⟩ (penR a xs)[i]) (k : Int) = some (pts (penR a xs)[i].Finishes a.Scheme (penR a xs)[i].Finishes[k]) := by rw [idx_lt _ k (by simpa [tblP] using hk)]; simp [tblP]
              have g4 : idx (rowP a.Boats a.Scheme xs i (penR a xs)[i]) (k : Int) = some (cellP a.Boats a.Scheme xs i k (penR a xs)[i].Finishes (penR a xs)[i].Finishes[k]) := by rw [idx_lt _ k (by simpa [rowP] using hk)]; simp [rowP]
              have hge := cellP_ge a.Boats a.Scheme xs i k (penR a xs)[i].Finishes (penR a xs)[i].Finishes[k]
              have hlt : decide (cellP a.Boats a.Scheme xs i k (penR a xs)[i].Finishes (penR a xs)[i].Finishes[k] < pts (penR a xs)[i].Finishes a.Scheme (penR a xs)[i].Finishes[k]) = false := by simp; omega
              simp only [M.laws_FnPenalizedTable_l3, g1, bnd_some, e2, decide_true, ifB_true, g2, g3, g4, hlt, ifB_false, step64 hk (by omega)]
            · simp [M.laws_FnPenalizedTable_l3, g1, tblP]
          simp only [M.laws_FnPenalizedTable_l2, e1, decide_true, ifB_true, hl3, bnd_some, outc_nxt, M.laws_FnPenalizedTable_a3, step64 hi (by omega)]
        · simp [M.laws_FnPenalizedTable_l2, tbl]
      rw [er]
      simp only [bne_self_eq_false, ifB_false, hl1, bnd_some, outc_nxt, M.laws_FnPenalizedTable_a1, hq1, er', hq2, es, hq3, p_w6Tables _ ht2, Bool.not_true, M.laws_FnPenalizedTable_j2, hl2, M.laws_FnPenalizedTable_a2]
    · have hz : penC a xs ≠ 0 := fun h => hv ((penC_zero a xs).1 h)
      have er : (penT a xs).2 = penC a xs := by unfold penT; rw [if_neg hz]
      have e2 : (penC a xs != 0) = true := by simp [hz]
      simp only [er, e2, ifB_true]
end Go.Proofs.Ytgelmamcinlahaa
