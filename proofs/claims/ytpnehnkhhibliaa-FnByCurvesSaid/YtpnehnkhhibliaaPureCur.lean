/- Pure law of correcting by curves. -/
import Derived.Test.YtpnehnkhhibliaaPurePar3
import Derived.Test.YtpnehnkhhibliaaPureW
namespace Go.Proofs.Ytpnehnkhhibliaa
open Go
set_option linter.unusedVariables false
set_option linter.unusedSimpArgs false
theorem p_contCur (xs : List (List CurvePoint)) (f : List CurvePoint → Option Bool) (p : List CurvePoint → Bool) (h : xs.length ≤ 1048576) (hf : ∀ x ∈ xs, f x = some (p x)) : M.slices_ContainsFunc_____impl_CurvePoint___impl_CurvePoint_ xs f = some (xs.any p) := by
  obtain ⟨o, ho, hq⟩ := loop_first (body := M.slices_IndexFunc_____impl_CurvePoint___impl_CurvePoint__l1 xs f) xs.length (by omega) (fun i => xs[i]?.any p)
    (fun i hi => by
      have h1 : ((i : Int) < (xs.length : Int)) := by omega
      simp only [M.slices_IndexFunc_____impl_CurvePoint___impl_CurvePoint__l1, h1, decide_true, ifB_true, idx_lt xs i hi, bnd_some, hf _ (List.getElem_mem hi), step64 hi (by omega), ifB_if, List.getElem?_eq_getElem hi, Option.any_some, if_true]
      split <;> rfl)
    (by simp [M.slices_IndexFunc_____impl_CurvePoint___impl_CurvePoint__l1])
  rw [any_at] at hq
  unfold M.slices_ContainsFunc_____impl_CurvePoint___impl_CurvePoint_ M.slices_IndexFunc_____impl_CurvePoint___impl_CurvePoint_
  rw [ho]
  rcases hq with ⟨k, hk, rfl, hn⟩ | ⟨rfl, hn⟩
  · simp only [bnd_some, outc_ret]
    simp only [Bool.not_eq_false] at hn
    rw [hn, decide_eq_true hk]
  · simp only [bnd_some, outc_nxt, M.slices_IndexFunc_____impl_CurvePoint___impl_CurvePoint__a1, hn]
    rfl
def corC (c sc : List CurvePoint) (t d : Int) : Int := (M.spec_l24Corrected c sc t d).getD 0
theorem p_corC {c sc : List CurvePoint} (h1 : IsCurve c) (h2 : IsCurve sc) (t d : Int) (hd : 1 ≤ d ∧ d ≤ 10000000) : M.spec_l24Corrected c sc t d = some (corC c sc t d) ∧ M.impl_curveCorrected c sc t d = some (corC c sc t d) := by
  have : ∃ r, M.spec_l24Corrected c sc t d = some r ∧ M.impl_curveCorrected c sc t d = some r := by
    obtain ⟨r, g1, g2⟩ := p_wind h1 t d hd
    obtain ⟨q, g3, g4, _⟩ := p_time h2 r d hd
    simp only [M.spec_l24Corrected, M.impl_curveCorrected, g1, g2, g3, g4, bnd_some, ifB_if]
    split
    · exact ⟨_, rfl, rfl⟩
    · exact ⟨_, rfl, rfl⟩
  obtain ⟨r, g1, g2⟩ := this
  unfold corC
  rw [g1]
  exact ⟨rfl, g2⟩
def turnC (sc : List CurvePoint) (d : Int) (p : Finish × List CurvePoint) : Finish := Finish.mk p.1.Boat p.1.Code (if p.1.Code = 0 then corC p.2 sc p.1.Time d else p.1.Time)
def curL (xs : List Finish) (cs : List (List CurvePoint)) (sc : List CurvePoint) (d : Int) : List Finish := (xs.zip cs).map (turnC sc d)
def OkCur (n : Int) (xs : List Finish) (cs : List (List CurvePoint)) (s d : Int) : Prop := goodR n xs = true ∧ (cs.length : Int) = n ∧ (∀ c ∈ cs, IsCurve c) ∧ (0 ≤ s ∧ s ≤ n - 1) ∧ (1 ≤ d ∧ d ≤ 10000000)
theorem p_byCurves (n : Int) (xs : List Finish) (cs : List (List CurvePoint)) (s d : Int) (hx : xs.length ≤ 1048576) (hc : cs.length ≤ 1048576) (hcr : ∀ c ∈ cs, c.length ≤ 1048576) :
    ∃ r, M.spec_CorrectByCurves n xs cs s d = some r ∧ M.impl_CorrectByCurves n xs cs s d = some r ∧ r.1.length ≤ 16 ∧ (r.2 ≠ 0 → r.1 = []) ∧ (r.2 = 0 → OkCur n xs cs s d ∧ r.1 = curL xs cs (cs[s.toNat]?.getD []) d) := by
  have hcont : M.slices_ContainsFunc_____impl_CurvePoint___impl_CurvePoint_ cs (fun y0 => M.impl_CorrectByCurves_1 y0) = some (cs.any (fun c => !decide (IsCurve c))) := by
    refine p_contCur cs _ _ hc (fun x hxm => ?_)
    simp only [M.impl_CorrectByCurves_1, p_implIsCurve x (hcr x hxm), bnd_some]
  have hsp : loopF (M.spec_CorrectByCurves_l1 cs) 0 = some (if cs.any (fun c => !decide (IsCurve c)) = false then .nxt (cs.length : Int) else .ret (([] : List Finish), 1)) := by
    have hl : loopF (M.spec_CorrectByCurves_l1 cs) 0 = some (if ∀ i, i < cs.length → (cs[i]?.any (fun c => !decide (IsCurve c))) = false then .nxt (cs.length : Int) else .ret (([] : List Finish), 1)) := by
      refine loop_find cs.length (by omega) (fun i => (i : Int)) (fun i => cs[i]?.any (fun c => !decide (IsCurve c))) _ _ rfl (fun i hi => ?_) (by simp [M.spec_CorrectByCurves_l1])
      have h1 : ((i : Int) < (cs.length : Int)) := by omega
      simp only [M.spec_CorrectByCurves_l1, h1, decide_true, ifB_true, idx_lt cs i hi, bnd_some, p_specIsCurve _ (hcr _ (List.getElem_mem hi)), step64 hi (by omega), ifB_if, List.getElem?_eq_getElem hi, Option.any_some, if_true]
      split <;> rfl
    simp only [any_at] at hl
    exact hl
  simp only [M.spec_CorrectByCurves, M.impl_CorrectByCurves, p_l22Race n xs hx, p_areFinishes n xs hx, bnd_some, ifB_if]
  have hgd : goodR n xs = decide ((1 ≤ n ∧ n ≤ 16) ∧ OkRace n xs) := rfl
  by_cases hg : (1 ≤ n ∧ n ≤ 16) ∧ OkRace n xs
  · rw [if_neg (by simp [hg]), if_neg (by simp [hg])]
    by_cases hlen : (cs.length : Int) = n
    · have e1 : ((cs.length : Int) != n) = false := by simp [hlen]
      have hn := hg.1
      simp only [M.spec_CorrectByCurves_j1, M.impl_CorrectByCurves_j1, e1, ifB_false]
      simp only [hcont, hsp, bnd_some, ifB_if, p_l01In, p_within]
      by_cases ha : cs.any (fun c => !decide (IsCurve c)) = true
      · rw [if_neg (by rw [ha]; simp), if_pos ha]
        simp only [outc_ret]
        exact ⟨_, rfl, rfl, by simp, fun _ => rfl, fun h => by simp at h⟩
      · have hall : ∀ c ∈ cs, IsCurve c := by
          rw [Bool.not_eq_true, List.any_eq_false] at ha
          intro c hc'
          have := ha c hc'
          simpa using this
        rw [if_pos (by simpa using ha), if_neg ha]
        simp only [outc_nxt, M.spec_CorrectByCurves_a1, p_l01In, bnd_some, M.spec_l23Distance, M.impl_isDistance, p_within, ifB_if]
        rw [w64_of (n := n - 1) (by omega)]
        by_cases hs : 0 ≤ s ∧ s ≤ n - 1
        · rw [if_neg (by simp; omega), if_neg (by simp; omega)]
          by_cases hd : 1 ≤ d ∧ d ≤ 10000000
          · have e2 : (!decide (1 ≤ d ∧ d ≤ 10000000)) = false := by simp [hd]
            simp only [e2, M.spec_CorrectByCurves_j2, M.impl_CorrectByCurves_j2, ifB_false]
            have hsn : s.toNat < cs.length := by omega
            have hidx : idx cs s = some cs[s.toNat] := by unfold idx; rw [if_pos hs.1, List.getElem?_eq_getElem hsn]
            have hsc : IsCurve cs[s.toNat] := hall _ (List.getElem_mem hsn)
            have hget : cs[s.toNat]?.getD [] = cs[s.toNat] := by rw [List.getElem?_eq_getElem hsn]; rfl
            have hxl : xs.length = cs.length := by have := hg.2.1; omega
            have hL : (curL xs cs cs[s.toNat] d).length = xs.length := by simp [curL, hxl]
            obtain ⟨o, h1, h2, hq⟩ := loop_same (b1 := M.spec_CorrectByCurves_l2 xs cs s d) (b2 := M.impl_CorrectByCurves_l1 xs cs s d) (s := (([] : List Finish), 0)) xs.length (by omega) (fun i => ((curL xs cs cs[s.toNat] d).take i, (i : Int)))
              (fun o => o = .ret (([] : List Finish), (3 : Int)) ∨ o = .nxt (curL xs cs cs[s.toNat] d, (xs.length : Int))) (by simp)
              (fun i hi => by
                have hic : i < cs.length := by omega
                have g1 : ((i : Int) < (xs.length : Int)) := by omega
                have hg1 : (curL xs cs cs[s.toNat] d)[i]'(by omega) = turnC cs[s.toNat] d (xs[i], cs[i]) := by simp [curL]
                have hbad := hg.2.2 i hi
                unfold badFin at hbad
                rw [List.getElem?_eq_getElem hi] at hbad
                simp only [M.spec_CorrectByCurves_l2, M.impl_CorrectByCurves_l1, g1, decide_true, ifB_true, idx_lt xs i hi, idx_lt cs i hic, hidx, bnd_some, ifB_if, if_true]
                by_cases hz : xs[i].Code = 0
                · have hcc := p_corC (hall _ (List.getElem_mem hic)) hsc xs[i].Time d hd
                  rw [if_pos (by simp [hz]), if_pos (by simp [hz]), hcc.1, hcc.2, bnd_some, bnd_some]
                  simp only [M.impl_CorrectByCurves_j3, M.spec_CorrectByCurves_j3, ifB_if]
                  refine ⟨by trivial, ?_⟩
                  by_cases hbig : 1000000000 < corC cs[i] cs[s.toNat] xs[i].Time d
                  · rw [if_pos (by simpa using hbig)]
                    exact .inl ⟨_, rfl, .inl rfl⟩
                  · rw [if_neg (by simpa using hbig), chk_pos (by simp; omega), step64 hi (by omega)]
                    refine .inr ?_
                    rw [List.take_succ_eq_append_getElem (by omega), hg1]
                    simp [turnC, hz]
                · have ht : xs[i].Time = 0 := by simp [hz] at hbad; exact hbad.2
                  rw [if_neg (by simp [hz]), if_neg (by simp [hz])]
                  simp only [M.impl_CorrectByCurves_j3, M.spec_CorrectByCurves_j3, ht]
                  rw [show decide ((1000000000 : Int) < 0) = false from rfl, ifB_false]
                  refine ⟨by trivial, .inr ?_⟩
                  rw [chk_pos (by simp; omega), step64 hi (by omega), List.take_succ_eq_append_getElem (by omega), hg1]
                  simp [turnC, hz, ht])
              (by
                have g1 : ¬ ((xs.length : Int) < (xs.length : Int)) := by omega
                refine ⟨by simp [M.spec_CorrectByCurves_l2, M.impl_CorrectByCurves_l1], ((curL xs cs cs[s.toNat] d).take xs.length, (xs.length : Int)), by simp [M.spec_CorrectByCurves_l2], .inr ?_⟩
                rw [List.take_of_length_le (by omega)])
            rw [h1, h2, hget]
            rcases hq with rfl | rfl
            · exact ⟨_, rfl, rfl, by simp, fun _ => rfl, fun h => by simp at h⟩
            · refine ⟨_, rfl, rfl, ?_, fun h => absurd rfl h, fun _ => ⟨⟨by rw [hgd]; exact decide_eq_true hg, hlen, hall, hs, hd⟩, rfl⟩⟩
              show (curL xs cs cs[s.toNat] d).length ≤ 16
              omega
          · have e2 : (!decide (1 ≤ d ∧ d ≤ 10000000)) = true := by simp [hd]
            simp only [e2, M.spec_CorrectByCurves_j2, M.impl_CorrectByCurves_j2, ifB_true]
            exact ⟨_, rfl, rfl, by simp, fun _ => rfl, fun h => by simp at h⟩
        · rw [if_pos (by simp; omega), if_pos (by simp; omega)]
          simp only [M.spec_CorrectByCurves_j2, M.impl_CorrectByCurves_j2, ifB_true]
          exact ⟨_, rfl, rfl, by simp, fun _ => rfl, fun h => by simp at h⟩
    · have e1 : ((cs.length : Int) != n) = true := by simp [hlen]
      simp only [M.spec_CorrectByCurves_j1, M.impl_CorrectByCurves_j1, e1, ifB_true]
      exact ⟨_, rfl, rfl, by simp, fun _ => rfl, fun h => by simp at h⟩
  · rw [if_pos (by simp [hg]), if_pos (by simp [hg])]
    simp only [M.spec_CorrectByCurves_j1, M.impl_CorrectByCurves_j1, ifB_true]
    exact ⟨_, rfl, rfl, by simp, fun _ => rfl, fun h => by simp at h⟩
end Go.Proofs.Ytpnehnkhhibliaa
