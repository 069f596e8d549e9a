/- Pure laws over drawn tables: the chain of tie-breaks. -/
import Derived.Test.YtpobaajdhfoomaaPureDz
import Derived.Test.YtpobaajdhfoomaaPureCO
namespace Go.Proofs.Ytpobaajdhfoomaa
open Go
set_option linter.unusedVariables false
set_option linter.unusedSimpArgs false
def lensP (R : List (List Int)) : List Nat := R.map List.length
theorem lensP_set (R : List (List Int)) (i : Nat) (hi : i < R.length) (y : List Int) (hy : y.length = R[i].length) : lensP (R.set i y) = lensP R := by
  apply List.ext_getElem
  · simp [lensP]
  · intro j h1 h2
    simp only [lensP, List.getElem_map, List.getElem_set]
    by_cases hj : i = j
    · subst hj; rw [if_pos rfl, hy]
    · rw [if_neg hj]
theorem lensP_len {R R0 : List (List Int)} (h : lensP R = lensP R0) : R.length = R0.length := by have := congrArg List.length h; simpa [lensP] using this
theorem lensP_at {R R0 : List (List Int)} (h : lensP R = lensP R0) (i : Nat) (hi : i < R.length) (hi' : i < R0.length) : R[i].length = R0[i].length := by
  have h2 : (lensP R)[i]? = (lensP R0)[i]? := by rw [h]
  simpa [lensP, hi, hi'] using h2
theorem p_28Draw (c : List UInt8) (h : c.length ≤ 4096) : ∃ b, M.spec_l28Draw c = some b ∧ szT b.1 ≤ 1048576 ∧ b.2.1.length ≤ 10 := by
  obtain ⟨d, h1, h2⟩ := p_From c (by omega)
  rw [M.spec_l28Draw, h1]
  refine nxt (p_26DrawTable h2) fun x11 hx => ?_
  obtain ⟨h3, ht⟩ := hx
  have hb := ht.1
  have hb0 := ht.2.1
  have hP := ht.2.2.1
  have fin : ∀ (a1 d1 : Int) (R : List (List Int)), OkS c a1 d1 → lensP R = lensP x11.1.Points → ∃ b, M.spec_l28Draw_j1 c x11 (a1, d1, R) = some b ∧ szT b.1 ≤ 1048576 ∧ b.2.1.length ≤ 10 := fun a1 d1 R h4 hR => by
    have hok : OkTb (Table.mk x11.1.Boats R x11.1.Codes) := ⟨hb, hb0, ⟨by rw [lensP_len hR]; exact hP.1, fun r hr => by
      obtain ⟨i, hi, rfl⟩ := List.mem_iff_getElem.1 hr
      rw [lensP_at hR i hi (by rw [← lensP_len hR]; exact hi)]
      exact hP.2 _ (List.getElem_mem _)⟩, ht.2.2.2⟩
    simp only [M.spec_l28Draw_j1]
    refine nxt (p_27DrawRule h4) fun x27 hx => ?_
    obtain ⟨h5, hr⟩ := hx
    have hbt : ∀ (a5 d5 : Int), OkS c a5 d5 → ∃ q, M.spec_l27DrawBoat (Src.mk c a5 d5) (Table.mk x11.1.Boats R x11.1.Codes) = some q ∧ OkS c q.2.1 q.2.2 := fun a5 d5 h5 => by
      refine nx h5 24 (by omega) fun x a6 d6 h6 _ _ => ?_
      refine ifB_ex (fun _ => ?_) (fun _ => ?_)
      · exact nx h6 2 (by omega) fun x a7 d7 h7 _ _ => ⟨_, rfl, h7⟩
      · exact nx h6 _ (by simp only; omega) fun x a7 d7 h7 _ _ => ⟨_, rfl, h7⟩
    refine nxt (hbt _ _ h5) fun x40 h6 => ?_
    refine nxt (hbt _ _ h6) fun x50 h7 => ⟨_, rfl, hok.sz, hr⟩
  have fin2 : ∀ (a1 d1 : Int) (b : Bool), OkS c a1 d1 → (b = true → M.spec_IsTable x11.1 = some true) → ∃ q, M.spec_l28Draw_j2 c x11 (a1, d1, b) = some q ∧ szT q.1 ≤ 1048576 ∧ q.2.1.length ≤ 10 := fun a1 d1 b h4 hbt => by
    refine ifB_ex (fun hbb => ?_) (fun _ => fin _ _ _ h4 rfl)
    rw [chk_pos (hbt (by simpa using hbb))]
    obtain ⟨o, ho, a2, d2, R, k, rfl, h5, hR⟩ := loop_count (body := M.spec_l28Draw_l1 c) (s := (a1, d1, x11.1.Points, 0)) x11.1.Points.length (by omega)
      (fun i s => ∃ a1 d1 R, s = (a1, d1, R, (i : Int)) ∧ OkS c a1 d1 ∧ lensP R = lensP x11.1.Points) (fun o => ∃ a1 d1 R k, o = .nxt (a1, d1, R, k) ∧ OkS c a1 d1 ∧ lensP R = lensP x11.1.Points) ⟨_, _, _, rfl, h4, rfl⟩
      (fun i s hi hs => by
        obtain ⟨a1, d1, R, rfl, h1, hR⟩ := hs
        have hRl := lensP_len hR
        have g1 : (i : Int) < (R.length : Int) := by omega
        have hm : x11.1.Points[i].length ≤ 16 := hP.2 _ (List.getElem_mem hi)
        obtain ⟨o, ho, a2, d2, R2, k2, rfl, h2, hR2⟩ := loop_count (body := M.spec_l28Draw_l2 c (a1, d1, R, (i : Int))) (s := (a1, d1, R, 0)) x11.1.Points[i].length (by omega)
          (fun j s => ∃ a2 d2 R2, s = (a2, d2, R2, (j : Int)) ∧ OkS c a2 d2 ∧ lensP R2 = lensP x11.1.Points) (fun o => ∃ a2 d2 R2 k2, o = .nxt (a2, d2, R2, k2) ∧ OkS c a2 d2 ∧ lensP R2 = lensP x11.1.Points) ⟨a1, d1, R, rfl, h1, hR⟩
          (fun j s hj hs => by
            obtain ⟨a2, d2, R2, rfl, h2, hR2⟩ := hs
            have hRl2 := lensP_len hR2
            have hi2 : i < R2.length := by omega
            have hlen := lensP_at hR2 i hi2 hi
            have g2 : (j : Int) < (R2[i].length : Int) := by omega
            have g3 : w64 ((j : Int) + 1) = ((j + 1 : Nat) : Int) := by rw [w64_of (by omega)]; rfl
            have hj2 : j < R2[i].length := by omega
            simp only [M.spec_l28Draw_l2, idx_lt R2 i hi2, bnd_some, g2, decide_true, ifB_true, idx_lt _ j hj2]
            refine nx h2 3 (by omega) fun x a3 d3 h3 _ _ => ?_
            exact ⟨_, rfl, a3, d3, _, by rw [g3], h3, by simp only [Int.toNat_natCast]; rw [lensP_set _ i hi2 _ (by simp), hR2]⟩)
          (fun s hs => by
            obtain ⟨a2, d2, R2, rfl, h2, hR2⟩ := hs
            have hRl2 := lensP_len hR2
            have hi2 : i < R2.length := by omega
            have hlen := lensP_at hR2 i hi2 hi
            have g2 : ¬ ((x11.1.Points[i].length : Int) < (R2[i].length : Int)) := by omega
            refine ⟨.brk (a2, d2, R2, (x11.1.Points[i].length : Int)), ?_, a2, d2, R2, _, rfl, h2, hR2⟩
            simp only [M.spec_l28Draw_l2, idx_lt R2 i hi2, bnd_some, g2, decide_false, ifB_false])
        simp only [M.spec_l28Draw_l1, g1, decide_true, ifB_true, ho, bnd_some, outc_nxt, M.spec_l28Draw_a2]
        exact ⟨_, rfl, a2, d2, R2, by rw [w64_of (by omega)]; rfl, h2, hR2⟩)
      (fun s hs => by
        obtain ⟨a1, d1, R, rfl, h1, hR⟩ := hs
        have hRl := lensP_len hR
        have g1 : ¬ ((x11.1.Points.length : Int) < (R.length : Int)) := by omega
        refine ⟨.brk (a1, d1, R, (x11.1.Points.length : Int)), ?_, a1, d1, R, _, rfl, h1, hR⟩
        simp only [M.spec_l28Draw_l1, g1, decide_false, ifB_false])
    rw [ho]
    simp only [bnd_some, outc_nxt, M.spec_l28Draw_a1]
    exact fin _ _ _ h5 hR
  refine nx h3 2 (by omega) fun x a4 d4 h4 _ _ => ?_
  refine ifB_ex (fun _ => ?_) (fun _ => fin2 _ _ _ h4 (fun hf => by simp at hf))
  rw [p_specIsTable x11.1 ht.sz, bnd_some]
  exact fin2 _ _ _ h4 (fun hh => by rw [p_specIsTable x11.1 ht.sz, hh])
end Go.Proofs.Ytpobaajdhfoomaa
