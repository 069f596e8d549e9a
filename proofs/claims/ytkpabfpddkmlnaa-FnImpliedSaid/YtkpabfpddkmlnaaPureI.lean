/- Pure law of the implied winds over drawn curves. -/
import Derived.Test.YtkpabfpddkmlnaaPureS
import Derived.Test.YtkpabfpddkmlnaaPureW
namespace Go.Proofs.Ytkpabfpddkmlnaa
open Go
set_option linter.unusedVariables false
set_option linter.unusedSimpArgs false

theorem p_24Draw {c : List UInt8} {a d : Int} (h : OkS c a d) : ∃ b, M.spec_l24Draw ⟨c, a, d⟩ = some b ∧ (OkS c b.2.1 b.2.2 ∧ b.1.length ≤ 6) := by
  refine nx h 60 (by omega) fun x8 a1 d1 h hr8 hr8' => ?_
  refine nx h 4000 (by omega) fun x13 a1 d1 h hr13 hr13' => ?_
  refine nx h 5 (by omega) fun x18 a1 d1 h hr18 hr18' => ?_
  have e1 : w64 (3000 + x13) = 3000 + x13 := w64_of (by omega)
  have e2 : w64 (2 + x18) = 2 + x18 := w64_of (by omega)
  simp only [e1, e2]
  obtain ⟨o, ho, a2, d2, out, p, q, n, rfl, h2, hlen⟩ := loop_count (body := M.spec_l24Draw_l1 ⟨c, a, d⟩) (s := (a1, d1, ([] : List CurvePoint), x8, 3000 + x13, 2 + x18)) (2 + x18).toNat (by omega)
    (fun i s => ∃ a2 d2 out p q, s = (a2, d2, out, p, q, 2 + x18 - (i : Int)) ∧ OkS c a2 d2 ∧ out.length = i ∧ 0 ≤ p ∧ p ≤ 60 + 100 * (i : Int) ∧ 1 ≤ q ∧ q ≤ 7000)
    (fun o => ∃ a2 d2 out p q n, o = .nxt (a2, d2, out, p, q, n) ∧ OkS c a2 d2 ∧ (2 ≤ out.length ∧ out.length ≤ 6))
    ⟨a1, d1, [], x8, 3000 + x13, by simp, h, rfl, by omega, by omega, by omega, by omega⟩
    (fun i s hi hs => by
      obtain ⟨a2, d2, out, p, q, rfl, h2, hl, hp0, hp1, hq0, hq1⟩ := hs
      have g1 : (0 : Int) < 2 + x18 - (i : Int) := by omega
      simp only [M.spec_l24Draw_l1, g1, decide_true, ifB_true]
      rw [chk_pos (by simp; omega)]
      refine nx h2 60 (by omega) fun y1 a3 d3 h3 hy hy' => ?_
      refine nx h3 500 (by omega) fun y2 a4 d4 h4 hz hz' => ?_
      have g2 : w64 (2 + x18 - (i : Int) - 1) = 2 + x18 - ((i + 1 : Nat) : Int) := by rw [w64_of (by omega)]; omega
      have g3 : w64 (w64 (p + 1) + y1) = p + 1 + y1 := by rw [w64_of (n := p + 1) (by omega), w64_of (by omega)]
      have g4 : w64 (w64 (q - 1) - y2) = q - 1 - y2 := by rw [w64_of (n := q - 1) (by omega), w64_of (by omega)]
      refine ⟨.cont (a4, d4, out ++ [⟨p, q⟩], p + 1 + y1, max 1 (q - 1 - y2), 2 + x18 - ((i + 1 : Nat) : Int)), by simp only [g2, g3, g4], a4, d4, _, _, _, rfl, h4, by simp [hl], by omega, by omega, by omega, by omega⟩)
    (fun s hs => by
      obtain ⟨a2, d2, out, p, q, rfl, h2, hl, _⟩ := hs
      have g1 : ¬ ((0 : Int) < 2 + x18 - (((2 + x18).toNat : Nat) : Int)) := by omega
      refine ⟨.brk (a2, d2, out, p, q, 2 + x18 - (((2 + x18).toNat : Nat) : Int)), ?_, a2, d2, out, p, q, _, rfl, h2, by omega, by omega⟩
      simp only [M.spec_l24Draw_l1, g1, decide_false, ifB_false])
  rw [ho]
  simp only [bnd_some, outc_nxt, M.spec_l24Draw_a1]
  refine nx h2 _ (by omega) fun x74 a1 d1 h hk hk' => ?_
  refine nx h 30 (by omega) fun x188 a1 d1 h hr hr' => ?_
  have hk2 : x74 < (out.length : Int) := by omega
  refine ifB_ex (fun _ => ?_) (fun _ => ifB_ex (fun _ => ?_) (fun _ => ifB_ex (fun _ => ?_) (fun _ => ?_)))
  · refine nx h 4 (by omega) fun x a1 d1 h hr hr' => ?_
    refine nxt (idx_some _ _ hr (by simp; omega)) fun x _ => ?_
    refine nxt (idx_some _ _ hk hk2) fun x _ => ⟨_, rfl, h, by simp only [List.length_set]; omega⟩
  · refine nx h 4 (by omega) fun x a1 d1 h hr hr' => ?_
    refine nxt (idx_some _ _ hr (by simp; omega)) fun x _ => ?_
    refine nxt (idx_some _ _ hk hk2) fun x _ => ⟨_, rfl, h, by simp only [List.length_set]; omega⟩
  · rw [chk_pos (by omega)]
    exact ⟨_, rfl, h, by simp only; rw [subL_length _ (by omega)]; omega⟩
  · exact ⟨_, rfl, h, by simp only; omega⟩
theorem p_DrawDistance {c : List UInt8} {a d : Int} (h : OkS c a d) : ∃ b, M.spec_l23DrawDistance ⟨c, a, d⟩ = some b ∧ OkS c b.2.1 b.2.2 := by
  refine nx h 24 (by omega) fun r a1 d1 h1 hr hr' => ?_
  refine ifB_ex (fun _ => ?_) (fun _ => ?_)
  · refine nx h1 4 (by omega) fun r a2 d2 h2 hr hr' => ?_
    refine nxt (idx_some _ _ hr (by simp; omega)) fun x _ => ⟨_, rfl, h2⟩
  · refine nx h1 60000 (by omega) fun r a2 d2 h2 hr hr' => ⟨_, rfl, h2⟩
theorem p_DrawTime22 {c : List UInt8} {a d : Int} (h : OkS c a d) : ∃ b, M.spec_l22DrawTime ⟨c, a, d⟩ = some b ∧ OkS c b.2.1 b.2.2 := by
  refine nx h 20 (by omega) fun r a1 d1 h1 hr hr' => ?_
  refine ifB_ex (fun _ => ?_) (fun _ => ?_)
  · refine nx h1 4 (by omega) fun r a2 d2 h2 hr hr' => ?_
    refine nxt (idx_some _ _ hr (by simp; omega)) fun x _ => ⟨_, rfl, h2⟩
  · refine nx h1 80000 (by omega) fun r a2 d2 h2 hr hr' => ⟨_, rfl, h2⟩
theorem p_24DrawTime {c : List UInt8} {a d : Int} (h : OkS c a d) (xs : List CurvePoint) (hx : xs.length ≤ 1048576) : ∃ b, M.spec_l24DrawTime ⟨c, a, d⟩ xs = some b ∧ OkS c b.2.1 b.2.2 := by
  rw [M.spec_l24DrawTime]
  refine nxt (p_DrawDistance h) fun x7 h => ?_
  have other : ∀ a1 d1, OkS c a1 d1 → ∃ b, M.spec_l24DrawTime_j1 ⟨c, a, d⟩ xs x7 (a1, d1, true) = some b ∧ OkS c b.2.1 b.2.2 := by
    intro a1 d1 h
    simp only [M.spec_l24DrawTime_j1, ifB_true]
    refine nxt (p_DrawTime22 h) fun x h => ⟨_, rfl, h⟩
  rw [p_specIsCurve xs hx, bnd_some]
  refine ifB_ex (fun _ => other _ _ h) (fun hc => ?_)
  simp only [M.spec_l23Distance, p_l01In, bnd_some]
  refine ifB_ex (fun _ => other _ _ h) (fun hd => ?_)
  have hc : IsCurve xs := by simpa using hc
  have hd : 1 ≤ x7.1 ∧ x7.1 ≤ 10000000 := by simpa using hd
  refine nx h 16 (by omega) fun x68 a1 d1 h hr hr' => ?_
  cases hz : (x68 == 0) with
  | true => exact other _ _ h
  | false =>
    simp only [M.spec_l24DrawTime_j1, ifB_false]
    refine nx h 300 (by omega) fun x41 a1 d1 h hr hr' => ?_
    obtain ⟨q, hq, _⟩ := p_time hc x41 x7.1 hd
    simp only [hq, bnd_some]
    refine nx h 200 (by omega) fun x51 a1 d1 h hr hr' => ⟨_, rfl, h⟩
theorem p_DrawImplied (c : List UInt8) (h : c.length ≤ 4096) : ∃ b, M.spec_DrawImpliedWind c = some b ∧ b.1.length ≤ 6 := by
  obtain ⟨d, h1, h2⟩ := p_From c h
  rw [M.spec_DrawImpliedWind, h1]
  refine nxt (p_24Draw h2) fun x9 h => ?_
  refine nxt (p_24DrawTime h.1 x9.1 (by omega)) fun x16 h' => ⟨_, rfl, h.2⟩
theorem p_windF {xs : List CurvePoint} (h : IsCurve xs) (t d : Int) (hd : 1 ≤ d ∧ d ≤ 10000000) : ∃ r, M.spec_l24Wind xs t d = some r ∧ M.impl_impliedWind xs t d = some r ∧
    ((r = -1) ∨ (0 ≤ r ∧ r ≤ 1000 ∧ (∃ q, M.impl_curveTime xs r d = some q ∧ q ≤ t) ∧ (0 < r → ∃ q, M.impl_curveTime xs (r - 1) d = some q ∧ t < q))) := by
  obtain ⟨r, h1, h2⟩ := p_wind h t d hd
  refine ⟨r, h1, h2, ?_⟩
  obtain ⟨o, ho, hq⟩ := loop_count (body := M.impl_impliedWind_l1 xs t d) (s := 0) 1001 (by omega) (fun i s => s = (i : Int) ∧ (0 < i → ∃ q, M.impl_curveTime xs ((i : Int) - 1) d = some q ∧ t < q))
    (fun o => (∃ s, o = .nxt s) ∨ ∃ r : Int, o = .ret r ∧ 0 ≤ r ∧ r ≤ 1000 ∧ (∃ q, M.impl_curveTime xs r d = some q ∧ q ≤ t) ∧ (0 < r → ∃ q, M.impl_curveTime xs (r - 1) d = some q ∧ t < q)) ⟨rfl, fun h => by omega⟩
    (fun i s hi hs => by
      obtain ⟨rfl, hs⟩ := hs
      obtain ⟨q, _, g2, _⟩ := p_time h (i : Int) d hd
      have e2 : (i : Int) < 1001 := by omega
      simp only [M.impl_impliedWind_l1, e2, decide_true, ifB_true, g2, bnd_some, step64 hi (by omega)]
      rw [ifB_if]
      split
      · rename_i hle
        simp only [decide_eq_true_eq] at hle
        exact ⟨_, rfl, .inr ⟨(i : Int), rfl, by omega, by omega, ⟨q, g2, hle⟩, fun hp => hs (by omega)⟩⟩
      · rename_i hle
        simp only [decide_eq_true_eq] at hle
        refine ⟨_, rfl, rfl, fun _ => ⟨q, ?_, by omega⟩⟩
        rw [← g2]; congr 1; omega)
    (fun s hs => by
      obtain ⟨rfl, _⟩ := hs
      exact ⟨.brk (1001 : Int), by simp [M.impl_impliedWind_l1], .inl ⟨_, rfl⟩⟩)
  rw [M.impl_impliedWind, ho] at h2
  rcases hq with ⟨s, rfl⟩ | ⟨r', rfl, hr⟩
  · simp [M.impl_impliedWind_a1] at h2; exact .inl h2.symm
  · simp at h2; subst h2; exact .inr hr
theorem pure_FnImplied (c : List UInt8) (hc : OkD.ok c) : M.laws_FnImplied c = some true := by
  rw [M.laws_FnImplied, p_big, bnd_some, ifB_if]
  split
  · rfl
  · rename_i hl
    simp only [decide_eq_true_eq] at hl
    obtain ⟨⟨xs, t, d⟩, hx, hlen⟩ := p_DrawImplied c (by omega)
    simp only at hlen
    have hx' : xs.length ≤ 1048576 := by omega
    obtain ⟨⟨r, q⟩, h1, h2⟩ := p_ImpliedWind xs t d hx'
    simp only [hx, bnd_some, h1, h2, bne_self_eq_false, ifB_false, M.laws_FnImplied_j1]
    by_cases hq : q = 1
    · subst hq; simp [M.laws_FnImplied_j2]
    · by_cases hq2 : q = 2
      · subst hq2; simp [M.laws_FnImplied_j2]
      · have b1 : (q == 1) = false := by simp [hq]
        have b2 : (q == 2) = false := by simp [hq2]
        simp only [b1, b2, ifB_false, M.laws_FnImplied_j2]
        -- so the curve, the time and the distance are fine
        have hcur : IsCurve xs := by
          apply Classical.byContradiction
          intro hn
          simp [M.spec_ImpliedWind, p_specIsCurve xs hx', hn] at h1
          omega
        have htd : (1 ≤ t ∧ t ≤ 1000000000) ∧ (1 ≤ d ∧ d ≤ 10000000) := by
          apply Classical.byContradiction
          intro hn
          simp only [M.spec_ImpliedWind, p_specIsCurve xs hx', hcur, M.spec_l22Time, M.spec_l23Distance, p_l01In, bnd_some, M.spec_ImpliedWind_j1, decide_true, Bool.not_true, ifB_false] at h1
          by_cases ht : 1 ≤ t ∧ t ≤ 1000000000
          · have hd : ¬ (1 ≤ d ∧ d ≤ 10000000) := fun h => hn ⟨ht, h⟩
            simp only [ht, hd, decide_false, and_self, decide_true, Bool.not_true, Bool.not_false, ifB_false, ifB_true] at h1
            simp at h1; omega
          · simp only [ht, decide_false, Bool.not_false, ifB_true] at h1
            simp at h1; omega
        obtain ⟨w, g1, g2, g3⟩ := p_windF hcur t d htd.2
        have h1' : (if w < 0 then (0, 4) else (w, 0)) = (r, q) := by
          simp only [M.spec_ImpliedWind, p_specIsCurve xs hx', hcur, M.spec_l22Time, M.spec_l23Distance, p_l01In, bnd_some, M.spec_ImpliedWind_j1, decide_true, Bool.not_true, ifB_false, htd.1, htd.2, and_self, g1, ifB_if, decide_eq_true_eq] at h1
          by_cases hw : w < 0 <;> simp [hw] at h1 ⊢ <;> exact h1
        have ct : ∀ w, 0 ≤ w → w ≤ 1000 → M.impl_CurveTime xs w d = bnd (M.impl_curveTime xs w d) fun x => some (x, 0) := by
          intro w hw0 hw1
          simp only [M.impl_CurveTime, p_implIsCurve xs hx', hcur, M.impl_isStrength, M.impl_isDistance, p_within, bnd_some, M.impl_CurveTime_j1, decide_true, Bool.not_true, ifB_false, htd.2, and_self, hw0, hw1]
        have cc : M.impl_CurveCorrected xs xs t d = bnd (M.impl_curveCorrected xs xs t d) fun x => some (x, 0) := by
          simp only [M.impl_CurveCorrected, p_implIsCurve xs hx', hcur, M.impl_isElapsed, M.impl_isDistance, p_within, bnd_some, M.impl_CurveCorrected_j1, M.impl_CurveCorrected_j2, decide_true, Bool.not_true, ifB_false, htd.1, htd.2, and_self]
        rw [cc, M.impl_curveCorrected, g2, bnd_some]
        rcases g3 with rfl | ⟨hw0, hw1, ⟨x, hx1, hx2⟩, hprev⟩
        · simp at h1'
          obtain ⟨rfl, rfl⟩ := h1'
          simp [M.laws_FnImplied_j3]
        · have hn : ¬ w < 0 := by omega
          rw [if_neg hn] at h1'
          injection h1' with e1 e2
          subst e1 e2
          have hx3 : ¬ t < x := by omega
          simp only [hn, decide_false, ifB_false, hx1, bnd_some, M.laws_FnImplied_j3, bne_self_eq_false, hx3, ct w hw0 hw1, M.laws_FnImplied_j4]
          by_cases hw : w = 0
          · subst hw; simp
          · have hb : (w == 0) = false := by simp [hw]
            obtain ⟨y, hy1, hy2⟩ := hprev (by omega)
            rw [hb, ifB_false, w64_of (n := w - 1) (by omega), ct (w - 1) (by omega) (by omega), hy1]
            simp [M.laws_FnImplied_j5, hy2]
end Go.Proofs.Ytkpabfpddkmlnaa
