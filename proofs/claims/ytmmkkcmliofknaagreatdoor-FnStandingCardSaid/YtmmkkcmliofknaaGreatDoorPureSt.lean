/- Pure laws over drawn tables: standings. -/
import Derived.Test.YtmmkkcmliofknaaGreatDoorPureCh
import Derived.Test.YtmmkkcmliofknaaGreatDoorPureTx2
namespace Go.Proofs.YtmmkkcmliofknaaGreatDoor
open Go
set_option linter.unusedVariables false
set_option linter.unusedSimpArgs false
theorem p_impCmp (t : Table) (rule : List Int) (a b : Int) (h : szT t ≤ 1048576) (hr : rule.length ≤ 1048576) (ht : IsTable t) (hu : IsRule3 rule) (a0 : 0 ≤ a) (a1 : a < t.Boats) (b0 : 0 ≤ b) (b1 : b < t.Boats) :
    M.impl_CompareBoats t rule a b = some ((cmpB t rule a b).1, (cmpB t rule a b).2.1, 0) := by
  have ca : cdT t rule a = 0 := by unfold cdT; rw [if_pos ht, if_pos ⟨hu, a0, by omega⟩]
  have cb : cdT t rule b = 0 := by unfold cdT; rw [if_pos ht, if_pos ⟨hu, b0, by omega⟩]
  obtain ⟨k1, _⟩ := p_compare t rule a b ht a0 a1 b0 b1 (rule_le rule hu)
  obtain ⟨c1, _⟩ := p_tableCode t rule a h hr
  obtain ⟨d1, _⟩ := p_tableCode t rule b h hr
  simp only [M.impl_CompareBoats, M.impl_boatsCode, c1, d1, ca, cb, bnd_some, bne_self_eq_false, ifB_false, k1]
theorem p_DrawSt (c : List UInt8) (h : c.length ≤ 4096) : ∃ b, M.spec_DrawStandingOf c = some b ∧ szT b.1 ≤ 1048576 ∧ b.2.length ≤ 10 := by
  obtain ⟨q, hq, hq1, hq2⟩ := p_28Draw c h
  refine ⟨(q.1, q.2.1), ?_, hq1, hq2⟩
  simp only [M.spec_DrawStandingOf, M.spec_l28DrawTable, hq, bnd_some]
theorem pure_FnStanding (c : List UInt8) (hc : OkD.ok c) : M.laws_FnStanding c = some true := by
  rw [M.laws_FnStanding, p_big, bnd_some, ifB_if]
  by_cases hl : 4096 < (c.length : Int)
  · simp [hl]
  · rw [if_neg (by simpa using hl)]
    obtain ⟨⟨t, rule⟩, hD, hq1, hq2⟩ := p_DrawSt c (by omega)
    simp only at hq1 hq2
    have hr : rule.length ≤ 1048576 := by omega
    obtain ⟨r, s1, s2, s3, s4⟩ := p_StandingOf t rule hq1 hr
    obtain ⟨x, x1, x2⟩ := p_StandingText t rule hq1 hr
    simp only [hD, bnd_some, s1, s2, bne_self_eq_false, ifB_false, p_likeInts _ s3, Bool.not_true, x1, x2, sEq_refl, M.laws_FnStanding_j1]
    rcases s4 with ⟨hz, ht, hu, hre⟩ | ⟨hz, hre⟩
    · have e0 : (r.2 != 0) = false := by simp [hz]
      have hb := ht.1
      have hr3 := rule_le rule hu
      have h0 : cdT t rule 0 = 0 := by unfold cdT; rw [if_pos ht, if_pos ⟨hu, by omega, by omega⟩]
      obtain ⟨c1, _⟩ := p_tableCode t rule 0 hq1 hr
      have hR : M.impl_RanksOf t rule = some (rksB t rule, 0) := by
        simp only [M.impl_RanksOf, c1, h0, bnd_some, bne_self_eq_false, ifB_false, p_implRanks t rule ht hr3]
      have hlen := rksB_len t rule
      have e1 : (((rksB t rule).length : Int) != t.Boats) = false := by simp; omega
      have hsl := sdB_len t rule ht
      have hso := sdB_sorted t rule t.Boats.toNat
      have hri : ∀ b, 0 ≤ b → b < t.Boats → idx (rksB t rule) b = some (rkB t rule b) := fun b b0 b1 => by
        have := rksB_get t rule b.toNat (by omega)
        unfold idx
        rw [if_pos b0, this, Int.toNat_of_nonneg b0]
      simp only [e0, ifB_false, hR, bnd_some, bne_self_eq_false, e1, M.laws_FnStanding_j2]
      rw [hre]
      have hin : ∀ b ∈ sdB t rule t.Boats.toNat, 0 ≤ b ∧ b < t.Boats := fun b hbm => inB t ht b ((sdB_mem t rule b _).1 hbm).1
      generalize sdB t rule t.Boats.toNat = L at *
      have hloop : loopF (M.laws_FnStanding_l1 (t, rule) (L, 0) (rksB t rule, 0)) 0 = some (.nxt (L.length : Int)) := by
        refine loop_run L.length (by omega) (fun i => (i : Int)) _ rfl (fun i hi => ?_) (by simp [M.laws_FnStanding_l1])
        have g1 : (i : Int) < (L.length : Int) := by omega
        obtain ⟨b0, b1⟩ := hin _ (List.getElem_mem hi)
        have hk : loopF (M.laws_FnStanding_l2 (t, rule) (L, 0) (i : Int)) (0, 0) = some (.nxt ((((idxs t.Boats.toNat).countP (betB t rule L[i]) : Nat) : Int), ((t.Boats.toNat : Nat) : Int))) := by
          refine loop_run t.Boats.toNat (by omega) (fun k => ((((idxs k).countP (betB t rule L[i]) : Nat) : Int), (k : Int))) _ rfl (fun k hk => ?_) ?_
          · have g2 : (k : Int) < t.Boats := by omega
            have hc1 := cntI_le (betB t rule L[i]) k
            have hc2 := cntI_succ (betB t rule L[i]) k
            simp only [M.laws_FnStanding_l2, M.laws_FnStanding_j5, M.laws_FnStanding_j4, g2, decide_true, ifB_true, idx_lt L i hi, bnd_some, p_impCmp t rule (k : Int) L[i] hq1 hr ht hu (by omega) g2 b0 b1, bne_self_eq_false, ifB_false, step64 hk (by omega)]
            by_cases hd : (cmpB t rule (k : Int) L[i]).1 < 0
            · have hbt : betB t rule L[i] (k : Int) = true := by unfold betB; simpa using hd
              rw [hbt, if_pos rfl] at hc2
              rw [decide_eq_true hd, ifB_true, w64_of (by omega), hc2]
              rfl
            · have hbt : betB t rule L[i] (k : Int) = false := by unfold betB; simpa using hd
              rw [hbt, if_neg (by simp)] at hc2
              rw [decide_eq_false hd, ifB_false, hc2]
              rfl
          · have g2 : ¬ (((t.Boats.toNat : Nat) : Int) < t.Boats) := by omega
            simp only [M.laws_FnStanding_l2, g2, decide_false, ifB_false]
        have hc1 := cntI_le (betB t rule L[i]) t.Boats.toNat
        have e2 : (rkB t rule L[i] != w64 ((((idxs t.Boats.toNat).countP (betB t rule L[i]) : Nat) : Int) + 1)) = false := by
          rw [w64_of (by omega)]
          unfold rkB
          simp
          omega
        simp only [M.laws_FnStanding_l1, g1, decide_true, ifB_true, hk, bnd_some, outc_nxt, M.laws_FnStanding_a2, idx_lt L i hi, hri _ b0 b1, e2, ifB_false, M.laws_FnStanding_j3]
        by_cases hi0 : 0 < i
        · have hi1 : i - 1 < L.length := by omega
          have e3 : w64 ((i : Int) - 1) = ((i - 1 : Nat) : Int) := by rw [w64_of (by omega)]; omega
          obtain ⟨p0, p1⟩ := hin _ (List.getElem_mem hi1)
          have hp := (List.pairwise_iff_getElem.1 hso) (i - 1) i hi1 hi (by omega)
          have e4 : decide (rkB t rule L[i] < rkB t rule L[i - 1]) = false := decide_eq_false (by unfold RS at hp; omega)
          rw [decide_eq_true (show (0 : Int) < (i : Int) by omega), ifB_true]
          simp only [e3, idx_lt L (i - 1) hi1, bnd_some, hri _ p0 p1, hri _ b0 b1, e4, ifB_false, step64 hi (by omega)]
        · rw [decide_eq_false (show ¬ (0 : Int) < (i : Int) by omega), ifB_false]
          simp only [ifB_false, step64 hi (by omega)]
      rw [hloop]
      rfl
    · have e0 : (r.2 != 0) = true := by simpa using hz
      simp only [e0, ifB_false, ifB_true]
end Go.Proofs.YtmmkkcmliofknaaGreatDoor
