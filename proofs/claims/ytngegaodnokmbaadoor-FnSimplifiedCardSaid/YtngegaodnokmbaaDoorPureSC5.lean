/- Pure law over draws: a curve made simpler. -/
import Derived.Test.YtngegaodnokmbaaDoorPureSC4
import Derived.Test.YtngegaodnokmbaaDoorPureRC
import Derived.Test.YtngegaodnokmbaaDoorPureI
namespace Go.Proofs.YtngegaodnokmbaaDoor
open Go
set_option linter.unusedVariables false
set_option linter.unusedSimpArgs false
theorem p_DrawSimp (c : List UInt8) (h : c.length ≤ 4096) : ∃ b, M.spec_DrawSimplifyCurve c = some b ∧ b.1.length ≤ 6 := by
  obtain ⟨d, k1, k2⟩ := p_From c (by omega)
  rw [M.spec_DrawSimplifyCurve, k1, bnd_some]
  refine nxt (p_24Draw k2) fun x hx => ?_
  obtain ⟨h1, h2⟩ := hx
  refine nx h1 16 (by omega) fun r a1 d1 h3 hr hr' => ?_
  refine ifB_ex (fun _ => ?_) (fun _ => ?_)
  · refine nx h3 4 (by omega) fun r a2 d2 h4 hr hr' => ?_
    refine nxt (idx_some _ _ hr (by simp; omega)) fun y _ => ⟨_, rfl, h2⟩
  · refine nx h3 200 (by omega) fun r a2 d2 h4 hr hr' => ⟨_, rfl, h2⟩
theorem ctB_sz {xs : List CurvePoint} (h : IsCurve xs) : (ctB xs).size ≤ 1048576 ∧ ctB xs ≠ (⟨#[]⟩ : ByteArray) := by
  have hlen := h.1
  unfold ctB
  rw [if_pos h]
  constructor
  · have hW : ∀ w ∈ xs.map wdC, w.size ≤ 62 := fun w hw => by
      obtain ⟨f, hfm, rfl⟩ := List.mem_map.1 hw
      obtain ⟨i, hi, rfl⟩ := List.mem_iff_getElem.1 hfm
      have := curve_at h i hi
      have n1 := numB_size xs[i].Wind (by omega) (by omega)
      have n2 := numB_size xs[i].Pace (by omega) (by omega)
      unfold wdC
      simp only [ByteArray.size_append, co_sz]
      omega
    have := joinB_le (xs.map wdC) hW (xs.map wdC).length (Nat.le_refl _)
    rw [List.take_length, List.length_map] at this
    omega
  · match xs, hlen with
    | a :: b :: r, _ =>
      intro hh
      have := congrArg ByteArray.size hh
      rw [List.map_cons, List.map_cons, joinB_cons] at this
      simp only [ByteArray.size_append] at this
      have e1 : (⟨#[32]⟩ : ByteArray).size = 1 := rfl
      have e2 : (⟨#[]⟩ : ByteArray).size = 0 := rfl
      omega
theorem pure_FnSimplified (c : List UInt8) (hc : OkD.ok c) : M.laws_FnSimplified c = some true := by
  rw [M.laws_FnSimplified, p_big, bnd_some, ifB_if]
  by_cases hl : 4096 < (c.length : Int)
  · simp [hl]
  · rw [if_neg (by simpa using hl)]
    obtain ⟨⟨xs, t⟩, h1, h2⟩ := p_DrawSimp c (by omega)
    simp only at h2
    obtain ⟨⟨ys, e⟩, g1, g2, g3, g4⟩ := p_simp xs t (by omega)
    simp only at g3 g4
    obtain ⟨t1, t2⟩ := p_CurveText ys (by omega)
    simp only [h1, bnd_some, g1, g2, bne_self_eq_false, ifB_false, t1, t2, sEq_refl, Bool.not_true, M.laws_FnSimplified_j1]
    rcases g4 with ⟨rfl, g5⟩ | ⟨hx, ht, rfl, m, m1, m2, m3⟩
    · have : (e != 0) = true := by simpa using g5
      rw [this]
      rfl
    · have hlen := hx.1
      have hle : ys.length ≤ xs.length := by rw [m3, keptC, List.length_map]; exact lM_len xs m
      obtain ⟨gc, gv⟩ := gd_valid hx ht.1 (gd_top (by omega) m2) (gd_low (by omega) m2)
      rw [← m3] at gc gv
      have gv := gv.1 m2
      obtain ⟨u1, u2⟩ := p_CurveText xs (by omega)
      obtain ⟨s1, s2⟩ := ctB_sz hx
      obtain ⟨p, p1, _, _, _, p5⟩ := p_ReadCurve (ctB xs) s1
      have he := p5 xs hx rfl
      have hloop : loopF (M.laws_FnSimplified_l1 (xs, t) (ys, 0)) 0 = some (.nxt ((xs.length : Nat) : Int)) := by
        refine loop_run xs.length (by omega) (fun i => (i : Int)) _ rfl (fun i hi => ?_) (by simp [M.laws_FnSimplified_l1])
        have e1 : (i : Int) < (xs.length : Int) := by omega
        have ok := ptA_ok hx hi
        have v := gv i hi
        rw [ptA_get hi] at ok v
        obtain ⟨q1, _, q2, _⟩ := p_paceV gc xs[i].Wind
        have hp : M.impl_PaceAt ys xs[i].Wind = some (paceV ys xs[i].Wind, 0) := by
          rw [M.impl_PaceAt, p_implIsCurve ys (by omega), bnd_some, decide_eq_true gc, Bool.not_true, ifB_false, M.impl_isStrength]
          simp only [p_within, bnd_some, ok.1, and_self, decide_true, Bool.not_true, ifB_false, q1]
        have d1 : ¬ t < paceV ys xs[i].Wind - xs[i].Pace := by omega
        have d2 : ¬ t < xs[i].Pace - paceV ys xs[i].Wind := by omega
        simp only [M.laws_FnSimplified_l1, e1, decide_true, ifB_true, idx_lt xs i hi, bnd_some, hp, bne_self_eq_false, ifB_false, M.laws_FnSimplified_j4, step64 hi (by omega)]
        rw [w64_of (n := paceV ys xs[i].Wind - xs[i].Pace) (by omega), w64_of (n := xs[i].Pace - paceV ys xs[i].Wind) (by omega), decide_eq_false d1, decide_eq_false d2]
        rfl
      have d3 : ¬ (xs.length : Int) < (ys.length : Int) := by omega
      have hj : M.laws_FnSimplified_j2 (xs, t) (ys, 0) false = some true := by
        have hn : sEq (ctB xs) (⟨#[]⟩ : ByteArray) = false := sEq_false s2
        simp only [M.laws_FnSimplified_j2, ifB_false, hloop, bnd_some, outc_nxt, M.laws_FnSimplified_a1, u2, p1, he, ifB_true, sEq_refl, hn, Bool.not_false, M.laws_FnSimplified_j3]
      rw [decide_eq_false d3]
      exact hj
end Go.Proofs.YtngegaodnokmbaaDoor
