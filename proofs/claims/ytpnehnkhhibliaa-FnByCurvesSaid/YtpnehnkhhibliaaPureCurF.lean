/- Pure law: correcting by curves corrects each boat by its own curve. -/
import Derived.Test.YtpnehnkhhibliaaPureCur
import Derived.Test.YtpnehnkhhibliaaPureDr
import Derived.Test.YtpnehnkhhibliaaPureI
namespace Go.Proofs.Ytpnehnkhhibliaa
open Go
set_option linter.unusedVariables false
set_option linter.unusedSimpArgs false
theorem p_DrawByCurves (c : List UInt8) (h : c.length ≤ 4096) : ∃ b, M.spec_DrawCorrectByCurves c = some b ∧ b.2.1.length ≤ 17 ∧ b.2.2.1.length ≤ 17 ∧ ∀ x ∈ b.2.2.1, x.length ≤ 6 := by
  obtain ⟨d, h1, h2⟩ := p_From c (by omega)
  rw [M.spec_DrawCorrectByCurves, h1]
  refine nxt (p_22DrawRace h2) fun x9 hx => ?_
  obtain ⟨h, hB, hl9⟩ := hx
  obtain ⟨o, ho, a2, d2, out, k, rfl, h2, hl, hr⟩ := loop_count (body := M.spec_DrawCorrectByCurves_l1 c x9) (s := (x9.2.1, x9.2.2, ([] : List (List CurvePoint)), 0)) x9.1.1.toNat (by omega)
    (fun i s => ∃ a2 d2 out, s = (a2, d2, out, (i : Int)) ∧ OkS c a2 d2 ∧ out.length = i ∧ ∀ x ∈ out, x.length ≤ 6) (fun o => ∃ a2 d2 out k, o = .nxt (a2, d2, out, k) ∧ OkS c a2 d2 ∧ out.length ≤ 17 ∧ ∀ x ∈ out, x.length ≤ 6) ⟨_, _, [], rfl, h, rfl, by simp⟩
    (fun i s hi hs => by
      obtain ⟨a2, d2, out, rfl, h2, hl, hr⟩ := hs
      have g2 : w64 ((i : Int) + 1) = ((i + 1 : Nat) : Int) := by rw [w64_of (by omega)]; rfl
      unfold M.spec_DrawCorrectByCurves_l1
      refine nx h2 24 (by omega) fun x a3 d3 h3 hx hx' => ?_
      have fin : ∀ (a5 d5 : Int) (p : List CurvePoint), OkS c a5 d5 → p.length ≤ 6 → ∃ t, M.spec_DrawCorrectByCurves_j1 (a2, d2, out, (i : Int)) (a5, d5, p) = some t ∧ ∃ (a' d' : Int) (o' : List (List CurvePoint)), t = .cont (a', d', o', ((i + 1 : Nat) : Int)) ∧ OkS c a' d' ∧ o'.length = i + 1 ∧ ∀ x ∈ o', x.length ≤ 6 := fun a5 d5 p h5 hp => by
        simp only [M.spec_DrawCorrectByCurves_j1, g2]
        rw [chk_pos (by simp; omega)]
        refine ⟨_, rfl, a5, d5, _, rfl, h5, by simp [hl], fun x hx => ?_⟩
        rcases List.mem_append.1 hx with hx | hx
        · exact hr x hx
        · simp only [List.mem_singleton] at hx; subst hx; exact hp
      refine ifB_ex (fun _ => ?_) (fun _ => ⟨_, rfl, a3, d3, out, _, rfl, h3, by omega, hr⟩)
      refine nxt (p_24Draw h3) fun y hy => ?_
      obtain ⟨h4, hy⟩ := hy
      simp only [p_specIsCurve y.1 (by omega), bnd_some]
      have fin2 : ∃ t, ifB (!decide (IsCurve y.1)) (bnd (M.spec_l01Next (Src.mk c y.2.1 y.2.2) 4) fun x => M.spec_DrawCorrectByCurves_j2 (a2, d2, out, (i : Int)) y (x.2.1, x.2.2, decide (0 < x.1))) (M.spec_DrawCorrectByCurves_j2 (a2, d2, out, (i : Int)) y (y.2.1, y.2.2, false)) = some t ∧ ∃ (a' d' : Int) (o' : List (List CurvePoint)), t = .cont (a', d', o', ((i + 1 : Nat) : Int)) ∧ OkS c a' d' ∧ o'.length = i + 1 ∧ ∀ x ∈ o', x.length ≤ 6 := by
        refine ifB_ex (fun _ => ?_) (fun _ => ?_)
        · refine nx h4 4 (by omega) fun z a5 d5 h5 hz hz' => ?_
          refine ifB_ex (fun _ => fin _ _ _ h5 (by simp)) (fun _ => fin _ _ _ h5 hy)
        · refine ifB_ex (fun hb => by simp at hb) (fun _ => fin _ _ _ h4 hy)
      obtain ⟨t, ht, a', d', o', rfl, q⟩ := fin2
      exact ⟨_, ht, a', d', o', rfl, q⟩)
    (fun s hs => by
      obtain ⟨a2, d2, out, rfl, h2, hl, hr⟩ := hs
      unfold M.spec_DrawCorrectByCurves_l1
      refine nx h2 24 (by omega) fun x a3 d3 h3 hx hx' => ?_
      have e1 : x.tdiv 23 = x / 23 := Int.tdiv_eq_ediv_of_nonneg hx
      have g1 : ¬ (((x9.1.1.toNat : Nat) : Int) < w64 (x9.1.1 - (w64 (x.tdiv 23)))) := by
        rw [e1, w64_of (n := x / 23) (by omega), w64_of (by omega)]; omega
      simp only [g1, decide_false, ifB_false]
      exact ⟨_, rfl, a3, d3, out, _, rfl, h3, by omega, hr⟩)
  rw [ho]
  simp only [bnd_some, outc_nxt, M.spec_DrawCorrectByCurves_a1]
  refine nx h2 _ (by omega) fun x a3 d3 h3 hx hx' => ?_
  refine nx h3 24 (by omega) fun x a3 d3 h3 hx hx' => ?_
  refine nxt (p_DrawDistance h3) fun x h4 => ⟨_, rfl, hl9, hl, hr⟩
theorem p_CurveCor {xs ys : List CurvePoint} (h1 : IsCurve xs) (h2 : IsCurve ys) {t d : Int} (ht : 1 ≤ t ∧ t ≤ 1000000000) (hd : 1 ≤ d ∧ d ≤ 10000000) : M.impl_CurveCorrected xs ys t d = some (corC xs ys t d, 0) := by
  have hx := h1.1
  have hy := h2.1
  simp only [M.impl_CurveCorrected, p_implIsCurve xs (by omega), p_implIsCurve ys (by omega), h1, h2, M.impl_isElapsed, M.impl_isDistance, p_within, bnd_some, M.impl_CurveCorrected_j1, M.impl_CurveCorrected_j2, decide_true, Bool.not_true, ifB_false, ht, hd, and_self, (p_corC h1 h2 t d hd).2]
theorem pure_FnByCurves (c : List UInt8) (hc : OkD.ok c) : M.laws_FnByCurves c = some true := by
  rw [M.laws_FnByCurves, p_big, bnd_some, ifB_if]
  by_cases hl : 4096 < (c.length : Int)
  · simp [hl]
  · rw [if_neg (by simpa using hl)]
    obtain ⟨b, hb, hb1, hb2, hb3⟩ := p_DrawByCurves c (by omega)
    obtain ⟨n, xs, cs, s, d⟩ := b
    simp only at hb1 hb2 hb3
    obtain ⟨r, h1, h2, h3, h4, h5⟩ := p_byCurves n xs cs s d (by omega) (by omega) (fun x hx => by have := hb3 x hx; omega)
    simp only [hb, bnd_some, h1, h2, bne_self_eq_false, ifB_false]
    simp only [ifB_if]
    by_cases h0 : r.2 = 0
    · obtain ⟨⟨hg, hn, hcur, hs, hd⟩, hr⟩ := h5 h0
      have hg' := of_decide_eq_true hg
      have hxl : xs.length = cs.length := by have := hg'.2.1; omega
      have hsn : s.toNat < cs.length := by omega
      have hget : cs[s.toNat]?.getD [] = cs[s.toNat] := by rw [List.getElem?_eq_getElem hsn]; rfl
      rw [hget] at hr
      have hL : r.1.length = xs.length := by rw [hr]; simp [curL, hxl]
      rw [if_neg (by simp [h0]), if_neg (by simp [hL])]
      have hloop : loopF (M.laws_FnByCurves_l1 (n, xs, cs, s, d) r) 0 = some (.nxt (xs.length : Int)) := by
        refine loop_run xs.length (by omega) (fun i => (i : Int)) _ rfl (fun i hi => ?_) (by simp [M.laws_FnByCurves_l1, hL])
        have g1 : (i : Int) < (r.1.length : Int) := by omega
        have hic : i < cs.length := by omega
        have hri : idx r.1 (i : Int) = some (turnC cs[s.toNat] d (xs[i], cs[i])) := by
          rw [idx_nat, List.getElem?_eq_getElem (by omega)]
          congr 1
          simp only [hr]
          simp [curL]
        have hbad := hg'.2.2 i hi
        unfold badFin at hbad
        rw [List.getElem?_eq_getElem hi] at hbad
        have hidx : idx cs s = some cs[s.toNat] := by unfold idx; rw [if_pos hs.1, List.getElem?_eq_getElem hsn]
        simp only [M.laws_FnByCurves_l1, M.laws_FnByCurves_j1, M.laws_FnByCurves_j2, M.laws_FnByCurves_j3, g1, decide_true, ifB_true, idx_lt xs i hi, idx_lt cs i hic, hri, hidx, bnd_some, step64 hi (by omega)]
        by_cases hz : xs[i].Code = 0
        · have ht : 1 ≤ xs[i].Time ∧ xs[i].Time ≤ 1000000000 := by simp [hz] at hbad; omega
          have e1 : (xs[i].Code != 0) = false := by simp [hz]
          simp only [e1, ifB_false, p_CurveCor (hcur _ (List.getElem_mem hic)) (hcur _ (List.getElem_mem hsn)) ht hd, bnd_some, bne_self_eq_false, turnC, hz, if_true]
        · have e1 : (xs[i].Code != 0) = true := by simp [hz]
          simp only [e1, ifB_true, turnC, if_neg hz]
          simp [eqL]
      rw [hloop]
      rfl
    · have hr := h4 h0
      rw [if_pos (by simp [h0]), hr]
      rfl
end Go.Proofs.Ytpnehnkhhibliaa
