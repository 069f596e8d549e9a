/- Pure laws over drawn tables: the chain of tie-breaks. -/
import Derived.Test.YtpobaajdhfoomaaPureDz
import Derived.Test.YtpobaajdhfoomaaPureCO
namespace Go.Proofs.Ytpobaajdhfoomaa
open Go
set_option linter.unusedVariables false
set_option linter.unusedSimpArgs false
theorem find_in {α : Type} {p : α → Bool} {xs : List α} {i : α} (h : xs.find? p = some i) : p i = true := List.find?_some h
theorem bne_comm' (a b : Int) : (a != b) = (b != a) := by
  by_cases h : a = b
  · rw [h]
  · have e1 : (a != b) = true := by simpa using h
    have e2 : (b != a) = true := by simpa using fun hh => h hh.symm
    rw [e1, e2]
theorem dfF_comm (x y : List Int) : dfF y x = dfF x y := by
  unfold dfF
  rw [Nat.min_comm]
  congr 1
  funext i
  exact bne_comm' _ _
theorem dfL_comm (t : Table) (a b : Int) : dfL t b a = dfL t a b := by
  unfold dfL
  congr 1
  funext i
  exact bne_comm' _ _
theorem sg_ne {a b : Int} (h : a ≠ b) : sg a b ≠ 0 := by unfold sg; split <;> (try split) <;> omega
theorem sg_rng (a b : Int) : -1 ≤ sg a b ∧ sg a b ≤ 1 := by unfold sg; split <;> (try split) <;> omega
theorem ch_comm (t : Table) (rule : List Int) (a b : Int) : (cmpB t rule b a).1 = - (cmpB t rule a b).1 ∧ (cmpB t rule b a).2.1 = (cmpB t rule a b).2.1 := by
  unfold cmpB
  by_cases h : ntK t rule a = ntK t rule b
  · rw [if_neg (fun hh => hh h.symm), if_neg (fun hh => hh h), dfF_comm]
    cases hd : dfF (stK t rule a) (stK t rule b) with
    | some i => exact ⟨sg_anti _ _, rfl⟩
    | none =>
      simp only [lstB, dfL_comm t a b]
      cases hl : dfL t a b with
      | some j => exact ⟨sg_anti _ _, rfl⟩
      | none => exact ⟨rfl, rfl⟩
  · rw [if_pos (fun hh => h hh.symm), if_pos h]
    exact ⟨sg_anti _ _, rfl⟩
theorem ch_steps (t : Table) (rule : List Int) (a b : Int) : (-1 ≤ (cmpB t rule a b).1 ∧ (cmpB t rule a b).1 ≤ 1) ∧ ((cmpB t rule a b).2.1 = 1 ↔ ntK t rule a ≠ ntK t rule b) ∧ ((cmpB t rule a b).1 = 0 ↔ (cmpB t rule a b).2.1 = 0) := by
  unfold cmpB
  by_cases h : ntK t rule a = ntK t rule b
  · rw [if_neg (fun hh => hh h)]
    cases hd : dfF (stK t rule a) (stK t rule b) with
    | some i =>
      have hne : (stK t rule a).getD i 0 ≠ (stK t rule b).getD i 0 := by have := find_in hd; simpa using this
      exact ⟨sg_rng _ _, ⟨fun q => absurd q (by simp), fun q => absurd h q⟩, ⟨fun q => absurd q (sg_ne hne), fun q => absurd q (by simp)⟩⟩
    | none =>
      simp only [lstB]
      cases hl : dfL t a b with
      | some j =>
        have hne : ptK t a ((t.Points.length - 1 - j : Nat) : Int) ≠ ptK t b ((t.Points.length - 1 - j : Nat) : Int) := by have := find_in hl; simpa using this
        exact ⟨sg_rng _ _, ⟨fun q => absurd q (by simp), fun q => absurd h q⟩, ⟨fun q => absurd q (sg_ne hne), fun q => absurd q (by simp)⟩⟩
      | none => exact ⟨by simp, ⟨fun q => absurd q (by simp), fun q => absurd h q⟩, by simp⟩
  · rw [if_pos h]
    exact ⟨sg_rng _ _, ⟨fun _ => h, fun _ => rfl⟩, ⟨fun q => absurd q (sg_ne h), fun q => absurd q (by simp)⟩⟩
theorem p_Net2 (t : Table) (rule : List Int) (b : Int) (h : szT t ≤ 1048576) (hr : rule.length ≤ 1048576) (h0 : cdT t rule b = 0) : M.impl_NetPoints t rule b = some (ntK t rule b, 0) := by
  obtain ⟨c1, c2⟩ := p_tableCode t rule b h hr
  obtain ⟨ht, hru, b0, b1⟩ := cdT_zero t rule b h0
  obtain ⟨n1, n2⟩ := p_net t rule b ht b0 b1 (rule_le rule hru)
  simp only [M.impl_NetPoints, c1, h0, bnd_some, bne_self_eq_false, ifB_false, n1]
def lensP (R : List (List Int)) : List Nat := R.map List.length
theorem lensP_set (R : List (List Int)) (i : Nat) (hi : i < R.length) (y : List Int) (hy : y.length = R[i].length) : lensP (R.set i y) = lensP R := by
  apply List.ext_getElem
  · simp [lensP]
  · intro j h1 h2
    simp only [lensP, List.getElem_map, List.getElem_set]
    by_cases hj : i = j
    · subst hj; rw [if_pos rfl, hy]
    · rw [if_neg hj]
theorem lensP_len {R R0 : List (List Int)} (h : lensP R = lensP R0) : R.length = R0.length := by have := congrArg List.length h; simpa [lensP] using this
theorem lensP_at {R R0 : List (List Int)} (h : lensP R = lensP R0) (i : Nat) (hi : i < R.length) (hi' : i < R0.length) : R[i].length = R0[i].length := by
  have h2 : (lensP R)[i]? = (lensP R0)[i]? := by rw [h]
  simpa [lensP, hi, hi'] using h2
theorem p_28Draw (c : List UInt8) (h : c.length ≤ 4096) : ∃ b, M.spec_l28Draw c = some b ∧ szT b.1 ≤ 1048576 ∧ b.2.1.length ≤ 10 := by
  obtain ⟨d, h1, h2⟩ := p_From c (by omega)
  rw [M.spec_l28Draw, h1]
  refine nxt (p_26DrawTable h2) fun x11 hx => ?_
  obtain ⟨h3, ht⟩ := hx
  have hb := ht.1
  have hb0 := ht.2.1
  have hP := ht.2.2.1
  have fin : ∀ (a1 d1 : Int) (R : List (List Int)), OkS c a1 d1 → lensP R = lensP x11.1.Points → ∃ b, M.spec_l28Draw_j1 c x11 (a1, d1, R) = some b ∧ szT b.1 ≤ 1048576 ∧ b.2.1.length ≤ 10 := fun a1 d1 R h4 hR => by
    have hok : OkTb (Table.mk x11.1.Boats R x11.1.Codes) := ⟨hb, hb0, ⟨by rw [lensP_len hR]; exact hP.1, fun r hr => by
      obtain ⟨i, hi, rfl⟩ := List.mem_iff_getElem.1 hr
      rw [lensP_at hR i hi (by rw [← lensP_len hR]; exact hi)]
      exact hP.2 _ (List.getElem_mem _)⟩, ht.2.2.2⟩
    simp only [M.spec_l28Draw_j1]
    refine nxt (p_27DrawRule h4) fun x27 hx => ?_
    obtain ⟨h5, hr⟩ := hx
    have hbt : ∀ (a5 d5 : Int), OkS c a5 d5 → ∃ q, M.spec_l27DrawBoat (Src.mk c a5 d5) (Table.mk x11.1.Boats R x11.1.Codes) = some q ∧ OkS c q.2.1 q.2.2 := fun a5 d5 h5 => by
      refine nx h5 24 (by omega) fun x a6 d6 h6 _ _ => ?_
      refine ifB_ex (fun _ => ?_) (fun _ => ?_)
      · exact nx h6 2 (by omega) fun x a7 d7 h7 _ _ => ⟨_, rfl, h7⟩
      · exact nx h6 _ (by simp only; omega) fun x a7 d7 h7 _ _ => ⟨_, rfl, h7⟩
    refine nxt (hbt _ _ h5) fun x40 h6 => ?_
    refine nxt (hbt _ _ h6) fun x50 h7 => ⟨_, rfl, hok.sz, hr⟩
  have fin2 : ∀ (a1 d1 : Int) (b : Bool), OkS c a1 d1 → (b = true → M.spec_IsTable x11.1 = some true) → ∃ q, M.spec_l28Draw_j2 c x11 (a1, d1, b) = some q ∧ szT q.1 ≤ 1048576 ∧ q.2.1.length ≤ 10 := fun a1 d1 b h4 hbt => by
    refine ifB_ex (fun hbb => ?_) (fun _ => fin _ _ _ h4 rfl)
    rw [chk_pos (hbt (by simpa using hbb))]
    obtain ⟨o, ho, a2, d2, R, k, rfl, h5, hR⟩ := loop_count (body := M.spec_l28Draw_l1 c) (s := (a1, d1, x11.1.Points, 0)) x11.1.Points.length (by omega)
      (fun i s => ∃ a1 d1 R, s = (a1, d1, R, (i : Int)) ∧ OkS c a1 d1 ∧ lensP R = lensP x11.1.Points) (fun o => ∃ a1 d1 R k, o = .nxt (a1, d1, R, k) ∧ OkS c a1 d1 ∧ lensP R = lensP x11.1.Points) ⟨_, _, _, rfl, h4, rfl⟩
      (fun i s hi hs => by
        obtain ⟨a1, d1, R, rfl, h1, hR⟩ := hs
        have hRl := lensP_len hR
        have g1 : (i : Int) < (R.length : Int) := by omega
        have hm : x11.1.Points[i].length ≤ 16 := hP.2 _ (List.getElem_mem hi)
        obtain ⟨o, ho, a2, d2, R2, k2, rfl, h2, hR2⟩ := loop_count (body := M.spec_l28Draw_l2 c (a1, d1, R, (i : Int))) (s := (a1, d1, R, 0)) x11.1.Points[i].length (by omega)
          (fun j s => ∃ a2 d2 R2, s = (a2, d2, R2, (j : Int)) ∧ OkS c a2 d2 ∧ lensP R2 = lensP x11.1.Points) (fun o => ∃ a2 d2 R2 k2, o = .nxt (a2, d2, R2, k2) ∧ OkS c a2 d2 ∧ lensP R2 = lensP x11.1.Points) ⟨a1, d1, R, rfl, h1, hR⟩
          (fun j s hj hs => by
            obtain ⟨a2, d2, R2, rfl, h2, hR2⟩ := hs
            have hRl2 := lensP_len hR2
            have hi2 : i < R2.length := by omega
            have hlen := lensP_at hR2 i hi2 hi
            have g2 : (j : Int) < (R2[i].length : Int) := by omega
            have g3 : w64 ((j : Int) + 1) = ((j + 1 : Nat) : Int) := by rw [w64_of (by omega)]; rfl
            have hj2 : j < R2[i].length := by omega
            simp only [M.spec_l28Draw_l2, idx_lt R2 i hi2, bnd_some, g2, decide_true, ifB_true, idx_lt _ j hj2]
            refine nx h2 3 (by omega) fun x a3 d3 h3 _ _ => ?_
            exact ⟨_, rfl, a3, d3, _, by rw [g3], h3, by simp only [Int.toNat_natCast]; rw [lensP_set _ i hi2 _ (by simp), hR2]⟩)
          (fun s hs => by
            obtain ⟨a2, d2, R2, rfl, h2, hR2⟩ := hs
            have hRl2 := lensP_len hR2
            have hi2 : i < R2.length := by omega
            have hlen := lensP_at hR2 i hi2 hi
            have g2 : ¬ ((x11.1.Points[i].length : Int) < (R2[i].length : Int)) := by omega
            refine ⟨.brk (a2, d2, R2, (x11.1.Points[i].length : Int)), ?_, a2, d2, R2, _, rfl, h2, hR2⟩
            simp only [M.spec_l28Draw_l2, idx_lt R2 i hi2, bnd_some, g2, decide_false, ifB_false])
        simp only [M.spec_l28Draw_l1, g1, decide_true, ifB_true, ho, bnd_some, outc_nxt, M.spec_l28Draw_a2]
        exact ⟨_, rfl, a2, d2, R2, by rw [w64_of (by omega)]; rfl, h2, hR2⟩)
      (fun s hs => by
        obtain ⟨a1, d1, R, rfl, h1, hR⟩ := hs
        have hRl := lensP_len hR
        have g1 : ¬ ((x11.1.Points.length : Int) < (R.length : Int)) := by omega
        refine ⟨.brk (a1, d1, R, (x11.1.Points.length : Int)), ?_, a1, d1, R, _, rfl, h1, hR⟩
        simp only [M.spec_l28Draw_l1, g1, decide_false, ifB_false])
    rw [ho]
    simp only [bnd_some, outc_nxt, M.spec_l28Draw_a1]
    exact fin _ _ _ h5 hR
  refine nx h3 2 (by omega) fun x a4 d4 h4 _ _ => ?_
  refine ifB_ex (fun _ => ?_) (fun _ => fin2 _ _ _ h4 (fun hf => by simp at hf))
  rw [p_specIsTable x11.1 ht.sz, bnd_some]
  exact fin2 _ _ _ h4 (fun hh => by rw [p_specIsTable x11.1 ht.sz, hh])
theorem pure_FnChain (c : List UInt8) (hc : OkD.ok c) : M.laws_FnChain c = some true := by
  rw [M.laws_FnChain, p_big, bnd_some, ifB_if]
  by_cases hl : 4096 < (c.length : Int)
  · simp [hl]
  · rw [if_neg (by simpa using hl)]
    obtain ⟨q, hq, hq1, hq2⟩ := p_28Draw c (by omega)
    obtain ⟨t, rule, a, b⟩ := q
    simp only at hq1 hq2
    have hr : rule.length ≤ 1048576 := by omega
    have hD : M.spec_DrawCompareBoats c = some (t, rule, a, b) := by rw [M.spec_DrawCompareBoats, hq]; rfl
    obtain ⟨r, r1, r2, r3⟩ := p_CompareBoats t rule a b hq1 hr
    obtain ⟨u, u1, u2, u3⟩ := p_CompareBoats t rule b a hq1 hr
    simp only [hD, bnd_some, r1, r2, bne_self_eq_false, ifB_false, M.laws_FnChain_j1]
    by_cases h0 : r.2.2 = 0
    · have eh0 : (r.2.2 != 0) = false := by simp [h0]
      obtain ⟨ht, hru, ⟨a0, a1⟩, ⟨b0, b1⟩, hre⟩ := r3 h0
      have ca : cdT t rule a = 0 := by unfold cdT; rw [if_pos ht, if_pos ⟨hru, a0, by omega⟩]
      have cb : cdT t rule b = 0 := by unfold cdT; rw [if_pos ht, if_pos ⟨hru, b0, by omega⟩]
      have hu0 : u.2.2 = 0 := by
        obtain ⟨k1, _⟩ := p_compare t rule b a ht b0 b1 a0 a1 (rule_le rule hru)
        have e : M.impl_CompareBoats t rule b a = some ((cmpB t rule b a).1, (cmpB t rule b a).2.1, 0) := by
          obtain ⟨c1, _⟩ := p_tableCode t rule a hq1 hr
          obtain ⟨d1, _⟩ := p_tableCode t rule b hq1 hr
          simp only [M.impl_CompareBoats, M.impl_boatsCode, c1, d1, ca, cb, bnd_some, bne_self_eq_false, ifB_false, k1]
        exact congrArg (fun q : Int × Int × Int => q.2.2) (Option.some.inj (u1.symm.trans e))
      obtain ⟨_, _, _, _, hue⟩ := u3 hu0
      obtain ⟨s, s1, s2, s3⟩ := p_SortedPoints t rule a hq1 hr
      obtain ⟨m1, m2⟩ := ch_comm t rule a b
      obtain ⟨n1, n2, n3⟩ := ch_steps t rule a b
      simp only [eh0, u1, bnd_some, p_Net2 t rule a hq1 hr ca, p_Net2 t rule b hq1 hr cb, s1, s2, hu0, bne_self_eq_false, ifB_false, p_likeInts _ s3, Bool.not_true, M.laws_FnChain_j2, ifB_false, M.laws_FnChain_j3]
      rw [hre, hue]
      simp only [m1, m2]
      rw [w64_of (by omega)]
      have e1 : (-(cmpB t rule a b).1 == 0 - (cmpB t rule a b).1) = true := by rw [beq_iff_eq]; omega
      have e2 : ((ntK t rule a != ntK t rule b) == ((cmpB t rule a b).2.1 == 1)) = true := by
        rw [beq_iff_eq]
        by_cases hn : ntK t rule a = ntK t rule b
        · have : ¬ (cmpB t rule a b).2.1 = 1 := fun h => n2.1 h hn
          simp [hn, this]
        · have := n2.2 hn
          simp [hn, this]
      have e3 : (((cmpB t rule a b).1 == 0) == ((cmpB t rule a b).2.1 == 0)) = true := by
        rw [beq_iff_eq]
        by_cases hn : (cmpB t rule a b).1 = 0
        · have := n3.1 hn
          rw [hn, this]
        · have : ¬ (cmpB t rule a b).2.1 = 0 := fun h => hn (n3.2 h)
          rw [show ((cmpB t rule a b).1 == 0) = false from by simpa using hn, show ((cmpB t rule a b).2.1 == 0) = false from by simpa using this]
      rw [e1, ifB_true, beq_self_eq_true, ifB_true, e2, ifB_true, e3]
    · have eh0 : (r.2.2 != 0) = true := by simpa using h0
      rw [eh0, ifB_true]
end Go.Proofs.Ytpobaajdhfoomaa
