/- Draws of tables, rules and boats: they are given, and short. -/
import Derived.Test.YtpobaajdhfoomaaPureF
import Derived.Test.YtpobaajdhfoomaaPureK3
import Derived.Test.YtpobaajdhfoomaaMod3
namespace Go.Proofs.Ytpobaajdhfoomaa
open Go
set_option linter.unusedVariables false
set_option linter.unusedSimpArgs false
def lensR (R : List Race) : List Nat := R.map fun x => x.Finishes.length
theorem lensR_set (R : List Race) (i : Nat) (hi : i < R.length) (y : Race) (hy : y.Finishes.length = R[i].Finishes.length) : lensR (R.set i y) = lensR R := by
  apply List.ext_getElem
  · simp [lensR]
  · intro j h1 h2
    simp only [lensR, List.getElem_map, List.getElem_set]
    by_cases hj : i = j
    · subst hj; rw [if_pos rfl, hy]
    · rw [if_neg hj]
theorem lensR_len {R R0 : List Race} (h : lensR R = lensR R0) : R.length = R0.length := by have := congrArg List.length h; simpa [lensR] using this
theorem lensR_at {R R0 : List Race} (h : lensR R = lensR R0) (i : Nat) (hi : i < R.length) (hi' : i < R0.length) : R[i].Finishes.length = R0[i].Finishes.length := by
  have h2 : (lensR R)[i]? = (lensR R0)[i]? := by rw [h]
  simpa [lensR, hi, hi'] using h2
def OkTb (t : Table) : Prop := t.Boats ≤ 16 ∧ 0 ≤ t.Boats ∧ (t.Points.length ≤ 12 ∧ ∀ r ∈ t.Points, r.length ≤ 16) ∧ (t.Codes.length ≤ 12 ∧ ∀ r ∈ t.Codes, r.length ≤ 16)
theorem OkTb.sz {t : Table} (h : OkTb t) : szT t ≤ 1048576 := by
  have h1 : tot (fun x : List Int => x.length) t.Points ≤ 16 * t.Points.length := tot_le _ 16 _ h.2.2.1.2
  have h2 : tot (fun x : List Int => x.length) t.Codes ≤ 16 * t.Codes.length := tot_le _ 16 _ h.2.2.2.2
  have h3 := h.2.2.1.1
  have h4 := h.2.2.2.1
  unfold szT
  omega
theorem rows_set {R : List (List Int)} (h : R.length ≤ 12 ∧ ∀ r ∈ R, r.length ≤ 16) (i : Nat) (y : List Int) (hy : y.length ≤ 16) : (R.set i y).length ≤ 12 ∧ ∀ r ∈ R.set i y, r.length ≤ 16 :=
  ⟨by rw [List.length_set]; exact h.1, fun r hr => by
    rcases List.mem_or_eq_of_mem_set hr with hr | hr
    · exact h.2 r hr
    · subst hr; exact hy⟩
theorem p_26DrawTable {c : List UInt8} {a d : Int} (h : OkS c a d) : ∃ b, M.spec_l26DrawTable ⟨c, a, d⟩ = some b ∧ (OkS c b.2.1 b.2.2 ∧ OkTb b.1) := by
  refine nxt (p_DrawSeries h) fun x7 hx7 => ?_
  obtain ⟨h, hB, hRs⟩ := hx7
  obtain ⟨o, ho, a1, d1, R, k, rfl, h1, hR⟩ := loop_count (body := M.spec_l26DrawTable_l1 ⟨c, a, d⟩) (s := (x7.2.1, x7.2.2, x7.1.Races, 0)) x7.1.Races.length (by have := hRs.1; omega)
    (fun i s => ∃ a1 d1 R, s = (a1, d1, R, (i : Int)) ∧ OkS c a1 d1 ∧ lensR R = lensR x7.1.Races) (fun o => ∃ a1 d1 R k, o = .nxt (a1, d1, R, k) ∧ OkS c a1 d1 ∧ lensR R = lensR x7.1.Races) ⟨_, _, _, rfl, h, rfl⟩
    (fun i s hi hs => by
      obtain ⟨a1, d1, R, rfl, h1, hR⟩ := hs
      have hRl := lensR_len hR
      have g1 : (i : Int) < (R.length : Int) := by omega
      have hm : x7.1.Races[i].Finishes.length ≤ 100 := hRs.2 _ (List.getElem_mem hi)
      obtain ⟨o, ho, a2, d2, R2, k2, rfl, h2, hR2⟩ := loop_count (body := M.spec_l26DrawTable_l2 ⟨c, a, d⟩ (a1, d1, R, (i : Int))) (s := (a1, d1, R, 0)) x7.1.Races[i].Finishes.length (by omega)
        (fun j s => ∃ a2 d2 R2, s = (a2, d2, R2, (j : Int)) ∧ OkS c a2 d2 ∧ lensR R2 = lensR x7.1.Races) (fun o => ∃ a2 d2 R2 k2, o = .nxt (a2, d2, R2, k2) ∧ OkS c a2 d2 ∧ lensR R2 = lensR x7.1.Races) ⟨a1, d1, R, rfl, h1, hR⟩
        (fun j s hj hs => by
          obtain ⟨a2, d2, R2, rfl, h2, hR2⟩ := hs
          have hRl2 := lensR_len hR2
          have hi2 : i < R2.length := by omega
          have hlen := lensR_at hR2 i hi2 hi
          have g2 : (j : Int) < (R2[i].Finishes.length : Int) := by omega
          have g3 : w64 ((j : Int) + 1) = ((j + 1 : Nat) : Int) := by rw [w64_of (by omega)]; rfl
          have hj2 : j < R2[i].Finishes.length := by omega
          simp only [M.spec_l26DrawTable_l2, idx_lt R2 i hi2, bnd_some, g2, decide_true, ifB_true, idx_lt _ j hj2]
          have fin : ∀ (a3 d3 : Int) (b : Bool), OkS c a3 d3 → ∃ t, M.spec_l26DrawTable_j7 (a1, d1, R, (i : Int)) (a2, d2, R2, (j : Int)) R2[i].Finishes[j] (a3, d3, b) = some t ∧ ∃ (a' d' : Int) (R' : List Race), t = .cont (a', d', R', ((j + 1 : Nat) : Int)) ∧ OkS c a' d' ∧ lensR R' = lensR x7.1.Races := fun a3 d3 b h3 => by
            refine ifB_ex (fun _ => ?_) (fun _ => ?_)
            · simp only [idx_lt R2 i hi2, idx_lt _ j hj2, bnd_some, M.spec_l26DrawTable_j6, M.spec_l26DrawTable_j5, g3, Int.toNat_natCast]
              exact ⟨_, rfl, a3, d3, _, rfl, h3, by rw [lensR_set _ i hi2 _ (by simp), hR2]⟩
            · simp only [M.spec_l26DrawTable_j6, M.spec_l26DrawTable_j5, g3]
              exact ⟨_, rfl, a3, d3, _, rfl, h3, hR2⟩
          have fin2 : ∃ t, ifB (R2[i].Finishes[j].Code == 9) (bnd (M.spec_l01Next (Src.mk c a2 d2) 2) fun x => M.spec_l26DrawTable_j7 (a1, d1, R, (i : Int)) (a2, d2, R2, (j : Int)) R2[i].Finishes[j] (x.2.1, x.2.2, x.1 == 0)) (M.spec_l26DrawTable_j7 (a1, d1, R, (i : Int)) (a2, d2, R2, (j : Int)) R2[i].Finishes[j] (a2, d2, false)) = some t ∧ ∃ (a' d' : Int) (R' : List Race), t = .cont (a', d', R', ((j + 1 : Nat) : Int)) ∧ OkS c a' d' ∧ lensR R' = lensR x7.1.Races := by
            refine ifB_ex (fun _ => ?_) (fun _ => fin _ _ _ h2)
            exact nx h2 2 (by omega) fun x a3 d3 h3 _ _ => fin _ _ _ h3
          obtain ⟨t, ht, a', d', R', rfl, q⟩ := fin2
          exact ⟨_, ht, a', d', R', rfl, q⟩)
        (fun s hs => by
          obtain ⟨a2, d2, R2, rfl, h2, hR2⟩ := hs
          have hRl2 := lensR_len hR2
          have hi2 : i < R2.length := by omega
          have hlen := lensR_at hR2 i hi2 hi
          have g2 : ¬ ((x7.1.Races[i].Finishes.length : Int) < (R2[i].Finishes.length : Int)) := by omega
          refine ⟨.brk (a2, d2, R2, (x7.1.Races[i].Finishes.length : Int)), ?_, a2, d2, R2, _, rfl, h2, hR2⟩
          simp only [M.spec_l26DrawTable_l2, idx_lt R2 i hi2, bnd_some, g2, decide_false, ifB_false])
      simp only [M.spec_l26DrawTable_l1, g1, decide_true, ifB_true, ho, bnd_some, outc_nxt, M.spec_l26DrawTable_a2]
      exact ⟨_, rfl, a2, d2, R2, by rw [w64_of (by have := hRs.1; omega)]; rfl, h2, hR2⟩)
    (fun s hs => by
      obtain ⟨a1, d1, R, rfl, h1, hR⟩ := hs
      have hRl := lensR_len hR
      have g1 : ¬ ((x7.1.Races.length : Int) < (R.length : Int)) := by omega
      refine ⟨.brk (a1, d1, R, (x7.1.Races.length : Int)), ?_, a1, d1, R, _, rfl, h1, hR⟩
      simp only [M.spec_l26DrawTable_l1, g1, decide_false, ifB_false])
  rw [ho]
  simp only [bnd_some, outc_nxt, M.spec_l26DrawTable_a1]
  have hRl := lensR_len hR
  have hok : OkRs R 20 := ⟨by have := hRs.1; omega, fun x hx => by
    obtain ⟨i, hi, rfl⟩ := List.mem_iff_getElem.1 hx
    rw [lensR_at hR i hi (by omega)]
    exact hRs.2 _ (List.getElem_mem _)⟩
  rw [p_specTableOf ⟨x7.1.Boats, x7.1.Scheme, R⟩ (okRs_sz R 20 _ _ hok (by omega)), bnd_some]
  by_cases hs : IsSeries ⟨x7.1.Boats, x7.1.Scheme, R⟩
  · rw [if_pos hs]
    have ht := isTable_tbl _ hs
    generalize tbl ⟨x7.1.Boats, x7.1.Scheme, R⟩ = t at *
    have hb := ht.1
    have hn := ht.2.1
    have hrow := fun i hi => tab_row t ht i hi
    have okP : t.Points.length ≤ 12 ∧ ∀ r ∈ t.Points, r.length ≤ 16 := ⟨hn, fun r hr => by
      obtain ⟨i, hi, rfl⟩ := List.mem_iff_getElem.1 hr
      obtain ⟨_, q, _⟩ := hrow i hi
      have := q.1; omega⟩
    have hcl := ht.2.2.1
    have okC : t.Codes.length ≤ 12 ∧ ∀ r ∈ t.Codes, r.length ≤ 16 := ⟨by omega, fun r hr => by
      obtain ⟨i, hi, rfl⟩ := List.mem_iff_getElem.1 hr
      obtain ⟨_, _, q⟩ := hrow i (by omega)
      have := q.1; omega⟩
    have e0 : (t.Boats == 0) = false := by simp; omega
    simp only [e0]
    refine ifB_ex (fun _ => ?_) (fun hp => ?_)
    · exact ⟨_, rfl, h1, by simp only; omega, by simp only; omega, okP, okC⟩
    · have hp' : 0 < t.Points.length := by simp at hp; exact List.length_pos_iff.2 (by simpa using hp)
      simp only [M.spec_l26DrawTable_j1, ifB_false]
      refine nx h1 _ (by omega) fun x1 a2 d2 h2 hr1 hr1' => ?_
      refine nx h2 _ (by omega) fun x2 a3 d3 h3 hr2 hr2' => ?_
      refine nx h3 20 (by omega) fun x3 a4 d4 h4 hr3 hr3' => ?_
      have b1 : x1 < (t.Points.length : Int) := by omega
      have b2 : x2 < t.Boats := by omega
      have hi1 : x1.toNat < t.Points.length := by omega
      obtain ⟨hi1', q1, q2⟩ := hrow x1.toNat hi1
      have i1 : idx t.Points x1 = some t.Points[x1.toNat] := by unfold idx; rw [if_pos hr1, List.getElem?_eq_getElem hi1]
      have i2 : idx t.Codes x1 = some t.Codes[x1.toNat] := by unfold idx; rw [if_pos hr1, List.getElem?_eq_getElem hi1']
      obtain ⟨y1, j1, _, _, _⟩ := row_get _ _ _ x2 q1 hr2 b2
      obtain ⟨y2, j2, _, _, _⟩ := row_get _ _ _ x2 q2 hr2 b2
      have l1 := q1.1
      have l2 := q2.1
      have fin : ∀ (a5 d5 : Int) (P C : List (List Int)), OkS c a5 d5 → (P.length ≤ 12 ∧ ∀ r ∈ P, r.length ≤ 16) → (C.length ≤ 12 ∧ ∀ r ∈ C, r.length ≤ 16) → ∃ b, M.spec_l26DrawTable_j3 (t, 0) (a5, d5, P, C) = some b ∧ (OkS c b.2.1 b.2.2 ∧ OkTb b.1) := fun a5 d5 P C h5 hP hC => by
        simp only [M.spec_l26DrawTable_j3, M.spec_l26DrawTable_j2]
        exact ⟨_, rfl, h5, by simp only; omega, by simp only; omega, hP, hC⟩
      have fin4 : ∀ b : Bool, ∃ q, M.spec_l26DrawTable_j4 ⟨c, a, d⟩ (t, 0) (x1, a2, d2) (x2, a3, d3) (x3, a4, d4) b = some q ∧ (OkS c q.2.1 q.2.2 ∧ OkTb q.1) := fun b => by
        refine ifB_ex (fun _ => ?_) (fun _ => fin _ _ _ _ h4 okP okC)
        simp only [i1, bnd_some]
        refine nx h4 8 (by omega) fun x4 a5 d5 h5 _ _ => ?_
        simp only [j1, bnd_some]
        exact fin _ _ _ _ h5 (rows_set okP _ _ (by rw [List.length_set]; omega)) okC
      refine ifB_ex (fun _ => ?_) (fun _ => ifB_ex (fun _ => ?_) (fun _ => ifB_ex (fun _ => ?_) (fun _ => ifB_ex (fun _ => ?_) (fun _ => ifB_ex (fun _ => fin4 _) (fun _ => ifB_ex (fun _ => fin4 _) (fun _ => fin4 _))))))
      · simp only [i1, bnd_some]
        refine nx h4 2 (by omega) fun x4 a5 d5 h5 _ _ => ?_
        simp only [j1, bnd_some]
        exact fin _ _ _ _ h5 (rows_set okP _ _ (by rw [List.length_set]; omega)) okC
      · simp only [i2, bnd_some]
        refine nx h4 2 (by omega) fun x4 a5 d5 h5 _ _ => ?_
        simp only [j2, bnd_some]
        exact fin _ _ _ _ h5 okP (rows_set okC _ _ (by rw [List.length_set]; omega))
      · simp only [i1, bnd_some]
        rw [chk_pos (by omega)]
        have okP' := rows_set okP x1.toNat (subL t.Points[x1.toNat] 1 (t.Points[x1.toNat].length : Int)) (by rw [subL_length _ (by omega)]; omega)
        have hnt : ¬ (M.spec_IsTable (Table.mk t.Boats (t.Points.set x1.toNat (subL t.Points[x1.toNat] 1 (t.Points[x1.toNat].length : Int))) t.Codes) = some true) := fun hc => by
          have hok : OkTb (Table.mk t.Boats (t.Points.set x1.toNat (subL t.Points[x1.toNat] 1 (t.Points[x1.toNat].length : Int))) t.Codes) := ⟨by simp only; omega, by simp only; omega, okP', okC⟩
          rw [p_specIsTable _ hok.sz] at hc
          injection hc with hc
          have ht2 := of_decide_eq_true hc
          obtain ⟨_, ⟨q3, _⟩, _⟩ := tab_row _ ht2 x1.toNat (by simp only [List.length_set]; exact hi1)
          simp only [List.getElem_set_self] at q3
          rw [subL_length _ (by omega)] at q3
          omega
        rw [chk_pos hnt]
        exact fin _ _ _ _ h4 okP' okC
      · rw [chk_pos (by omega)]
        refine fin _ _ _ _ h4 okP ⟨?_, fun r hr => ?_⟩
        · rw [subL_length _ (by omega)]; omega
        · simp only [subL] at hr
          exact okC.2 r (List.mem_of_mem_drop (List.mem_of_mem_take hr))
  · rw [if_neg hs]
    simp only [M.spec_l26DrawTable_j1]
    exact ⟨_, rfl, h1, by simp, by simp, ⟨by simp, by simp⟩, ⟨by simp, by simp⟩⟩
theorem p_27DrawRule {c : List UInt8} {a d : Int} (h : OkS c a d) : ∃ b, M.spec_l27DrawRule ⟨c, a, d⟩ = some b ∧ (OkS c b.2.1 b.2.2 ∧ b.1.length ≤ 10) := by
  refine nx h 4 (by omega) fun x8 a1 d1 h1 hr8 hr8' => ?_
  obtain ⟨o, ho, a2, d2, L, v, k, rfl, h2, hL⟩ := loop_count (body := M.spec_l27DrawRule_l1 ⟨c, a, d⟩) (s := (a1, d1, ([] : List Int), 0, x8)) x8.toNat (by omega)
    (fun i s => ∃ a2 d2 L v, s = (a2, d2, L, v, x8 - (i : Int)) ∧ OkS c a2 d2 ∧ L.length = i) (fun o => ∃ a2 d2 L v k, o = .nxt (a2, d2, L, v, k) ∧ OkS c a2 d2 ∧ L.length ≤ 3) ⟨a1, d1, [], 0, by simp, h1, rfl⟩
    (fun i s hi hs => by
      obtain ⟨a2, d2, L, v, rfl, h2, hL⟩ := hs
      have g1 : (0 : Int) < x8 - (i : Int) := by omega
      have g2 : w64 (x8 - (i : Int) - 1) = x8 - ((i + 1 : Nat) : Int) := by rw [w64_of (by omega)]; omega
      simp only [M.spec_l27DrawRule_l1, g1, decide_true, ifB_true, g2]
      refine nx h2 4 (by omega) fun x a3 d3 h3 _ _ => ?_
      rw [chk_pos (by simp; omega)]
      exact ⟨_, rfl, a3, d3, _, _, rfl, h3, by simp [hL]⟩)
    (fun s hs => by
      obtain ⟨a2, d2, L, v, rfl, h2, hL⟩ := hs
      have g1 : ¬ ((0 : Int) < x8 - ((x8.toNat : Nat) : Int)) := by omega
      refine ⟨.brk (a2, d2, L, v, x8 - ((x8.toNat : Nat) : Int)), ?_, a2, d2, L, v, _, rfl, h2, by omega⟩
      simp only [M.spec_l27DrawRule_l1, g1, decide_false, ifB_false])
  rw [ho]
  simp only [bnd_some, outc_nxt, M.spec_l27DrawRule_a1]
  refine nx h2 30 (by omega) fun x a3 d3 h3 _ _ => ?_
  refine ifB_ex (fun _ => ?_) (fun _ => ifB_ex (fun _ => ?_) (fun _ => ifB_ex (fun _ => ⟨_, rfl, h3, by simp⟩) (fun _ => ⟨_, rfl, h3, by simp only; omega⟩)))
  · rw [chk_pos (by simp; omega)]
    exact ⟨_, rfl, h3, by simp; omega⟩
  · exact nx h3 2 (by omega) fun x a4 d4 h4 _ _ => ⟨_, rfl, h4, by simp⟩
end Go.Proofs.Ytpobaajdhfoomaa
