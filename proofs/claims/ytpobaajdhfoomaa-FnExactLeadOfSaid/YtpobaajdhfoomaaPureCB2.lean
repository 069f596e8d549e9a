/- Pure laws: CompareBoats, DecidingRace, RanksOf. -/
import Derived.Test.YtpobaajdhfoomaaPureCB
namespace Go.Proofs.Ytpobaajdhfoomaa
open Go
set_option linter.unusedVariables false
set_option linter.unusedSimpArgs false

theorem p_boatsCode (t : Table) (rule : List Int) (a b : Int) (h : szT t ≤ 1048576) (hr : rule.length ≤ 1048576) : ∃ c, M.impl_boatsCode t rule a b = some c ∧ M.spec_l28Code t rule a b = some c ∧ (c = 0 → IsTable t ∧ IsRule3 rule ∧ (0 ≤ a ∧ a < t.Boats) ∧ 0 ≤ b ∧ b < t.Boats) := by
  obtain ⟨c1, c2⟩ := p_tableCode t rule a h hr
  obtain ⟨d1, d2⟩ := p_tableCode t rule b h hr
  simp only [M.impl_boatsCode, M.spec_l28Code, c1, c2, d1, d2, bnd_some]
  by_cases h0 : cdT t rule a = 0
  · refine ⟨cdT t rule b, by simp [h0], by simp [h0], fun hz => ?_⟩
    obtain ⟨e1, e2, e3, e4⟩ := cdT_zero t rule a h0
    obtain ⟨_, _, e5, e6⟩ := cdT_zero t rule b hz
    exact ⟨e1, e2, ⟨e3, e4⟩, e5, e6⟩
  · have e : (cdT t rule a != 0) = true := by simpa using h0
    exact ⟨cdT t rule a, by rw [e, ifB_true], by rw [e, ifB_true], fun hz => absurd hz h0⟩
theorem p_CompareBoats (t : Table) (rule : List Int) (a b : Int) (h : szT t ≤ 1048576) (hr : rule.length ≤ 1048576) : ∃ r, M.impl_CompareBoats t rule a b = some r ∧ M.spec_CompareBoats t rule a b = some r ∧ (r.2.2 = 0 → IsTable t ∧ IsRule3 rule ∧ (0 ≤ a ∧ a < t.Boats) ∧ (0 ≤ b ∧ b < t.Boats) ∧ r = ((cmpB t rule a b).1, (cmpB t rule a b).2.1, 0)) := by
  obtain ⟨c, c1, c2, c3⟩ := p_boatsCode t rule a b h hr
  by_cases h0 : c = 0
  · obtain ⟨ht, hu, ⟨a0, a1⟩, b0, b1⟩ := c3 h0
    obtain ⟨k1, k2⟩ := p_compare t rule a b ht a0 a1 b0 b1 (rule_le rule hu)
    refine ⟨((cmpB t rule a b).1, (cmpB t rule a b).2.1, 0), ?_, ?_, fun _ => ⟨ht, hu, ⟨a0, a1⟩, ⟨b0, b1⟩, rfl⟩⟩
    · simp only [M.impl_CompareBoats, c1, h0, bnd_some, bne_self_eq_false, ifB_false, k1]
    · simp only [M.spec_CompareBoats, c2, h0, bnd_some, bne_self_eq_false, ifB_false, k2]
  · have e : (c != 0) = true := by simpa using h0
    refine ⟨(0, 0, c), ?_, ?_, fun hz => absurd hz h0⟩
    · simp only [M.impl_CompareBoats, c1, bnd_some, e, ifB_true]
    · simp only [M.spec_CompareBoats, c2, bnd_some, e, ifB_true]
theorem p_DecidingRace (t : Table) (rule : List Int) (a b : Int) (h : szT t ≤ 1048576) (hr : rule.length ≤ 1048576) : ∃ r, M.impl_DecidingRace t rule a b = some r ∧ M.spec_DecidingRace t rule a b = some r := by
  obtain ⟨c, c1, c2, c3⟩ := p_boatsCode t rule a b h hr
  by_cases h0 : c = 0
  · obtain ⟨ht, hu, ⟨a0, a1⟩, b0, b1⟩ := c3 h0
    obtain ⟨k1, k2⟩ := p_compare t rule a b ht a0 a1 b0 b1 (rule_le rule hu)
    refine ⟨if (cmpB t rule a b).2.1 = 3 then ((cmpB t rule a b).2.2, 0) else (0, 4), ?_, ?_⟩
    · simp only [M.impl_DecidingRace, c1, h0, bnd_some, bne_self_eq_false, ifB_false, k1, ifB_if]
      by_cases h3 : (cmpB t rule a b).2.1 = 3 <;> simp [h3]
    · simp only [M.spec_DecidingRace, c2, h0, bnd_some, bne_self_eq_false, ifB_false, k2, ifB_if]
      by_cases h3 : (cmpB t rule a b).2.1 = 3 <;> simp [h3]
  · have e : (c != 0) = true := by simpa using h0
    refine ⟨(0, c), ?_, ?_⟩
    · simp only [M.impl_DecidingRace, c1, bnd_some, e, ifB_true]
    · simp only [M.spec_DecidingRace, c2, bnd_some, e, ifB_true]
theorem p_RanksOf (t : Table) (rule : List Int) (h : szT t ≤ 1048576) (hr : rule.length ≤ 1048576) : ∃ r, M.spec_RanksOf t rule = some r ∧ M.impl_RanksOf t rule = some r ∧ r.1.length ≤ 1048576 ∧ (r.2 = 0 → IsTable t ∧ IsRule3 rule ∧ r = (rksB t rule, 0)) := by
  obtain ⟨c1, c2⟩ := p_tableCode t rule 0 h hr
  by_cases h0 : cdT t rule 0 = 0
  · obtain ⟨ht, hu, a0, a1⟩ := cdT_zero t rule 0 h0
    have hb := ht.1
    refine ⟨(rksB t rule, 0), ?_, ?_, by rw [rksB_len]; omega, fun _ => ⟨ht, hu, rfl⟩⟩
    · have hl : loopF (M.spec_RanksOf_l1 t rule) (([] : List Int), 0) = some (.nxt (rksB t rule, (t.Boats.toNat : Int))) := by
        refine loop_run t.Boats.toNat (by omega) (fun i => ((rksB t rule).take i, (i : Int))) _ (by simp) (fun i hi => ?_) ?_
        · have e1 : ((i : Int) < t.Boats) := by omega
          have lR := rksB_len t rule
          have g := rksB_get t rule i hi
          have iR : i < (rksB t rule).length := by omega
          rw [List.getElem?_eq_getElem iR] at g
          injection g with g
          simp only [M.spec_RanksOf_l1, e1, decide_true, ifB_true, p_specRank t rule (i : Int) ht (by omega) e1 (rule_le rule hu), bnd_some, step64 hi (by omega)]
          rw [chk_pos (by simp; omega), List.take_succ_eq_append_getElem iR, g]
        · have e1 : ¬ ((t.Boats.toNat : Int) < t.Boats) := by omega
          have ea : (rksB t rule).take t.Boats.toNat = rksB t rule := by rw [← rksB_len t rule]; exact List.take_length
          simp only [M.spec_RanksOf_l1, e1, decide_false, ifB_false, ea]
      simp only [M.spec_RanksOf, c2, h0, bnd_some, bne_self_eq_false, ifB_false, hl, outc_nxt, M.spec_RanksOf_a1]
    · simp only [M.impl_RanksOf, c1, h0, bnd_some, bne_self_eq_false, ifB_false, p_implRanks t rule ht (rule_le rule hu)]
  · have e : (cdT t rule 0 != 0) = true := by simpa using h0
    refine ⟨([], cdT t rule 0), ?_, ?_, by simp, fun hz => absurd hz h0⟩
    · simp only [M.spec_RanksOf, c2, bnd_some, e, ifB_true]
    · simp only [M.impl_RanksOf, c1, bnd_some, e, ifB_true]
theorem pure_FnExactCompareBoats (t : Table) (ht : OkD.ok t) (rule : List Int) (hr : OkD.ok rule) (a : Int) (ha : i64ok a) (b : Int) (hb : i64ok b) : M.laws_FnExactCompareBoats t rule a b = some true := by
  rw [M.laws_FnExactCompareBoats, ifB_if]
  by_cases hk : (1048576 : Int) < (rule.length : Int)
  · rw [if_pos (by simpa using hk)]
  · rw [if_neg (by simpa using hk), p_szTable t ht _ (by omega) (by omega), bnd_some, ifB_if]
    by_cases hl : (1048576 : Int) < (szT t : Int)
    · simp [hl]
    · have hl' : szT t ≤ 1048576 := by omega
      have hk' : rule.length ≤ 1048576 := by omega
      rw [if_neg hl, if_neg (by simp; omega)]
      obtain ⟨r, h1, h2, _⟩ := p_CompareBoats t rule a b hl' hk'
      simp only [p_toTable t hl', p_toInt64S rule hk', bnd_some, h1, h2, p_eqTable t hl', p_eqInt64S rule hk', M.laws_FnExactCompareBoats_j1, bne_self_eq_false, Bool.not_true, ifB_false]
theorem pure_FnExactDecidingRace (t : Table) (ht : OkD.ok t) (rule : List Int) (hr : OkD.ok rule) (a : Int) (ha : i64ok a) (b : Int) (hb : i64ok b) : M.laws_FnExactDecidingRace t rule a b = some true := by
  rw [M.laws_FnExactDecidingRace, ifB_if]
  by_cases hk : (1048576 : Int) < (rule.length : Int)
  · rw [if_pos (by simpa using hk)]
  · rw [if_neg (by simpa using hk), p_szTable t ht _ (by omega) (by omega), bnd_some, ifB_if]
    by_cases hl : (1048576 : Int) < (szT t : Int)
    · simp [hl]
    · have hl' : szT t ≤ 1048576 := by omega
      have hk' : rule.length ≤ 1048576 := by omega
      rw [if_neg hl, if_neg (by simp; omega)]
      obtain ⟨r, h1, h2⟩ := p_DecidingRace t rule a b hl' hk'
      simp only [p_toTable t hl', p_toInt64S rule hk', bnd_some, h1, h2, p_eqTable t hl', p_eqInt64S rule hk', M.laws_FnExactDecidingRace_j1, bne_self_eq_false, Bool.not_true, ifB_false]
theorem pure_FnExactRanksOf (t : Table) (ht : OkD.ok t) (rule : List Int) (hr : OkD.ok rule) : M.laws_FnExactRanksOf t rule = some true := by
  rw [M.laws_FnExactRanksOf, ifB_if]
  by_cases hk : (1048576 : Int) < (rule.length : Int)
  · rw [if_pos (by simpa using hk)]
  · rw [if_neg (by simpa using hk), p_szTable t ht _ (by omega) (by omega), bnd_some, ifB_if]
    by_cases hl : (1048576 : Int) < (szT t : Int)
    · simp [hl]
    · have hl' : szT t ≤ 1048576 := by omega
      have hk' : rule.length ≤ 1048576 := by omega
      rw [if_neg hl, if_neg (by simp; omega)]
      obtain ⟨r, h1, h2, h3, _⟩ := p_RanksOf t rule hl' hk'
      obtain ⟨q1, T1, m1, m2, m3⟩ := p_mkTable t hl'
      have e0 : (Table.mk t.Boats t.Points t.Codes) = t := rfl
      have e1 : decide (q1 + ((1 * rule.length : Nat) : Int) < 0) = false := by simp; omega
      have e2 : decide ((1 : Int) + ((1 * r.1.length : Nat) : Int) < 0) = false := by simp; omega
      simp only [p_toTable t hl', p_toInt64S rule hk', bnd_some, h1, h2, p_eqInt64S r.1 h3, p_eqTable t hl', p_eqInt64S rule hk', M.laws_FnExactRanksOf_j1, M.laws_FnExactRanksOf_j2, M.laws_FnExactRanksOf_j3, e0, m1, p_markInt64S rule q1 hk' m2 (by omega), e1, bne_self_eq_false, Bool.not_true, ifB_false, e2, p_markInt64S r.1 1 h3 (by omega) (by omega), p_heldInt64S r.1 1 h3 (by omega) (by omega)]
end Go.Proofs.Ytpobaajdhfoomaa
