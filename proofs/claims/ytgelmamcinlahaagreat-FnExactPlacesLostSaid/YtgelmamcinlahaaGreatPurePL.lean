/- Pure law: the places that a boat loses. -/
import Derived.Test.YtgelmamcinlahaaGreatPureCB2
import Derived.Test.YtgelmamcinlahaaGreatPurePT
import Derived.Test.YtgelmamcinlahaaGreatPureF
namespace Go.Proofs.YtgelmamcinlahaaGreat
open Go
set_option linter.unusedVariables false
set_option linter.unusedSimpArgs false
theorem isTable_ptT (a : Series) (xs : List Penalty) (hs : IsSeries a) (hp : ArePens a xs) : IsTable (ptT a xs) := by
  have hS := penR_series a xs hs hp
  refine ⟨hs.1, by have := hS.2.2.1; simpa [ptT, ptsP] using this, by simp [ptT, ptsP], fun i hi => ?_⟩
  have hi' : i < (penR a xs).length := by simpa [ptT, ptsP] using hi
  have hr := hS.2.2.2 i hi'
  simp only at hr
  have hb := hs.1.2
  have hlen := hr.1
  unfold badT
  simp only [ptT, ptsP, List.getElem?_map, List.getElem?_mapIdx, List.getElem?_eq_getElem hi', Option.map_some]
  have r1 : OkRow (rowP a.Boats a.Scheme xs i (penR a xs)[i]) a.Boats 10000 := by
    refine ⟨by simpa [rowP] using hlen, fun j hj => ?_⟩
    have hj' : j < (penR a xs)[i].Finishes.length := by simpa [rowP] using hj
    unfold badN
    simp only [rowP, List.getElem?_mapIdx, List.getElem?_eq_getElem hj', Option.map_some]
    have b1 := pts_bdP (penR a xs)[i].Finishes a.Scheme (penR a xs)[i].Finishes[j] (by omega)
    have b2 := pts_bdP (penR a xs)[i].Finishes a.Scheme ⟨0, 4, 0⟩ (by omega)
    have hc : 0 ≤ cellP a.Boats a.Scheme xs i j (penR a xs)[i].Finishes (penR a xs)[i].Finishes[j] ∧ cellP a.Boats a.Scheme xs i j (penR a xs)[i].Finishes (penR a xs)[i].Finishes[j] ≤ 10000 := by
      unfold cellP
      split <;> omega
    simpa using hc
  have r2 : OkRow (tblC (penR a xs)[i]) a.Boats 9 := okRow_map _ _ _ _ hlen (fun f hf => by
    obtain ⟨j, hj, rfl⟩ := List.mem_iff_getElem.1 hf
    exact (fin_ok _ _ hr j hj).1)
  simp [r1, r2]
theorem ptT_nil (a : Series) (hs : IsSeries a) : ptT a [] = tbl a := by
  have e : penR a [] = a.Races := rfl
  unfold ptT tbl
  rw [e]
  congr 1
  apply List.ext_getElem
  · simp [ptsP]
  · intro i h1 h2
    simp only [ptsP, List.getElem_mapIdx, List.getElem_map, tblP]
    apply List.ext_getElem
    · simp [rowP]
    · intro j h3 h4
      have hz : ∀ b k c, sumP b [] k c = 0 := fun b k c => rfl
      simp only [rowP, List.getElem_mapIdx, List.getElem_map, cellP, hz]
      split <;> omega
theorem p_PlacesLost (a : Series) (xs : List Penalty) (rule : List Int) (b : Int) (h1 : szS a ≤ 1048576) (h : xs.length ≤ 1048576) (hr : rule.length ≤ 1048576) : ∃ r, M.impl_PlacesLost a xs rule b = some r ∧ M.spec_PlacesLost a xs rule b = some r := by
  obtain ⟨c1, c2⟩ := p_codes a xs h1 h
  simp only [M.impl_PlacesLost, M.spec_PlacesLost, M.impl_PlacesLost_j1, M.spec_PlacesLost_j2, M.spec_PlacesLost_j1, c1, c2, bnd_some, p_implIsDiscardRule rule hr, p_specIsDiscardRule rule hr, p_within, p_l01In]
  by_cases h0 : penC a xs = 0
  · obtain ⟨hs, hp⟩ := (penC_zero a xs).1 h0
    have hb := hs.1
    have e : w64 (a.Boats - 1) = a.Boats - 1 := w64_of (by omega)
    by_cases h2 : IsRule3 rule
    · by_cases h3 : 0 ≤ b ∧ b ≤ a.Boats - 1
      · have hpn : ArePens a [] := ⟨by simp, fun i hi => by simp at hi⟩
        have T1 := isTable_ptT a xs hs hp
        have T2 := isTable_ptT a [] hs hpn
        obtain ⟨s1, s2⟩ := p_table a xs hs hp
        obtain ⟨s3, s4⟩ := p_table a [] hs hpn
        have t3 : M.impl_tableOf a = some (tbl a) := by
          have t1 := p_implTableOf a h1
          rw [if_pos hs, M.impl_TableOf, p_implIsSeries a h1, bnd_some, ifB_if, if_neg (by simp [hs])] at t1
          cases hq : M.impl_tableOf a with
          | none => rw [hq] at t1; cases t1
          | some t => rw [hq] at t1; simp at t1; rw [t1]
        rw [ptT_nil a hs] at T2 s4
        have b0 : 0 ≤ b := h3.1
        have b1 : b < a.Boats := by omega
        have rl := rule_le rule h2
        have k1 := p_implRanks _ rule T1 rl
        have k2 := p_implRanks _ rule T2 rl
        have k3 := p_specRank _ rule b T1 b0 b1 rl
        have k4 := p_specRank _ rule b T2 b0 b1 rl
        have i1 : idx (rksB (ptT a xs) rule) b = some (rkB (ptT a xs) rule b) := by
          have := rksB_get (ptT a xs) rule b.toNat (show b.toNat < a.Boats.toNat by omega)
          unfold idx; rw [if_pos b0, this]
          congr 2
          omega
        have i2 : idx (rksB (tbl a) rule) b = some (rkB (tbl a) rule b) := by
          have := rksB_get (tbl a) rule b.toNat (show b.toNat < a.Boats.toNat by omega)
          unfold idx; rw [if_pos b0, this]
          congr 2
          omega
        refine ⟨(w64 (rkB (ptT a xs) rule b - rkB (tbl a) rule b), 0), ?_, ?_⟩
        · simp [h0, h2, h3, e, s1, k1, t3, k2, i1, i2]
        · simp [h0, h2, h3, e, s2, k3, s4, k4]
      · exact ⟨(0, 2), by simp [h0, h2, h3, e], by simp [h0, h2, h3, e]⟩
    · exact ⟨(0, 2), by simp [h0, h2], by simp [h0, h2]⟩
  · have e0 : (penC a xs != 0) = true := by simpa using h0
    have e1 : (penC a xs == 0) = false := by simpa using h0
    exact ⟨(0, penC a xs), by rw [e0, ifB_true], by simp only [e1, e0, ifB_false, ifB_true]⟩
theorem pure_FnExactPlacesLost (a : Series) (ha : OkD.ok a) (xs : List Penalty) (hx : OkD.ok xs) (rule : List Int) (hr : OkD.ok rule) (b : Int) (hb : i64ok b) : M.laws_FnExactPlacesLost a xs rule b = some true := by
  rw [M.laws_FnExactPlacesLost, ifB_if]
  by_cases hq : (1048576 : Int) < (rule.length : Int)
  · rw [if_pos (by simpa using hq)]
  · have hq' : rule.length ≤ 1048576 := by omega
    rw [if_neg (by simpa using hq), p_szSeries a ha _ (by omega) (by omega), bnd_some, ifB_if]
    by_cases hl : (1048576 : Int) < (szS a : Int)
    · simp [hl]
    · have hl' : szS a ≤ 1048576 := by omega
      rw [if_neg hl, if_neg (by simp; omega), p_szPenaltyS xs hx.1 _ (by omega) (by omega), bnd_some, ifB_if]
      by_cases hk : (1048576 : Int) - (szS a : Int) < (xs.length : Int)
      · simp [hk]
      · have hk' : xs.length ≤ 1048576 := by omega
        rw [if_neg hk, if_neg (by simp; omega)]
        obtain ⟨r, h1, h2⟩ := p_PlacesLost a xs rule b hl' hk' hq'
        simp only [p_toSeries a hl', p_toPenaltyS xs hk', p_toInt64S rule hq', bnd_some, h1, h2, p_eqSeries a hl', p_eqPenaltyS xs hk', p_eqInt64S rule hq', M.laws_FnExactPlacesLost_j1, bne_self_eq_false, Bool.not_true, ifB_false]
end Go.Proofs.YtgelmamcinlahaaGreat
