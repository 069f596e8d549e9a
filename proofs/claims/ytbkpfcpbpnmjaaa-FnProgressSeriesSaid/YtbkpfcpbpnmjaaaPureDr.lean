/- Draws of races, ratings and series of races: they are given, and short. -/
import Derived.Test.YtbkpfcpbpnmjaaaPureS
import Derived.Test.YtbkpfcpbpnmjaaaMod3
namespace Go.Proofs.Ytbkpfcpbpnmjaaa
open Go
set_option linter.unusedVariables false
set_option linter.unusedSimpArgs false
theorem idx_in {α : Type} (xs : List α) (i : Int) (h0 : 0 ≤ i) (h1 : i < (xs.length : Int)) : ∃ x, idx xs i = some x ∧ x ∈ xs := by
  obtain ⟨n, rfl⟩ : ∃ n : Nat, i = (n : Int) := ⟨i.toNat, by omega⟩
  exact ⟨_, idx_lt xs n (by omega), List.getElem_mem _⟩
theorem p_22RaceJ {c : List UInt8} {a d B : Int} (src : Src) (hs : src.code = c) (h : OkS c a d) (hB : 0 ≤ B ∧ B ≤ 17) : ∃ b, M.spec_l22DrawRace_j1 src (a, d, B) = some b ∧ (OkS c b.2.1 b.2.2 ∧ b.1.1 = B ∧ b.1.2.length = B.toNat) := by
  subst hs
  obtain ⟨o, ho, a2, d2, out, k, rfl, h2, hl⟩ := loop_count (body := M.spec_l22DrawRace_l1 src (a, d, B)) (s := (a, d, ([] : List Finish), 0)) B.toNat (by omega)
    (fun i s => ∃ a2 d2 out, s = (a2, d2, out, (i : Int)) ∧ OkS src.code a2 d2 ∧ out.length = i) (fun o => ∃ a2 d2 out k, o = .nxt (a2, d2, out, k) ∧ OkS src.code a2 d2 ∧ out.length = B.toNat) ⟨a, d, [], rfl, h, rfl⟩
    (fun i s hi hs => by
      obtain ⟨a2, d2, out, rfl, h2, hl⟩ := hs
      have g1 : (i : Int) < B := by omega
      have g2 : w64 ((i : Int) + 1) = ((i + 1 : Nat) : Int) := by rw [w64_of (by omega)]; rfl
      simp only [M.spec_l22DrawRace_l1, g1, decide_true, ifB_true]
      refine nx h2 20000 (by omega) fun x1 a3 d3 h3 hr hr' => ?_
      refine nx h3 6 (by omega) fun x2 a4 d4 h4 hr hr' => ?_
      refine ifB_ex (fun _ => ?_) (fun _ => ?_)
      · refine nx h4 9 (by omega) fun x3 a5 d5 h5 hr hr' => ?_
        simp only [M.spec_l22DrawRace_j4, g2]
        rw [chk_pos (by simp; omega)]
        exact ⟨_, rfl, a5, d5, _, rfl, h5, by simp [hl]⟩
      · simp only [M.spec_l22DrawRace_j4, g2]
        rw [chk_pos (by simp; omega)]
        exact ⟨_, rfl, a4, d4, _, rfl, h4, by simp [hl]⟩)
    (fun s hs => by
      obtain ⟨a2, d2, out, rfl, h2, hl⟩ := hs
      have g1 : ¬ (((B.toNat : Nat) : Int) < B) := by omega
      refine ⟨.brk (a2, d2, out, ((B.toNat : Nat) : Int)), ?_, a2, d2, out, _, rfl, h2, hl⟩
      simp only [M.spec_l22DrawRace_l1, g1, decide_false, ifB_false])
  simp only [M.spec_l22DrawRace_j1, ho, bnd_some, outc_nxt, M.spec_l22DrawRace_a1]
  refine ifB_ex (fun hp => ?_) (fun _ => ⟨_, rfl, h2, rfl, hl⟩)
  have hp' : (0 : Int) < (out.length : Int) := by simpa using hp
  refine nx h2 30 (by omega) fun x1 a3 d3 h3 hr hr' => ?_
  refine ifB_ex (fun _ => ?_) (fun _ => ifB_ex (fun _ => ?_) (fun _ => ⟨_, rfl, h3, rfl, hl⟩))
  · refine nxt (idx_some _ _ (by omega) hp') fun x _ => ⟨_, rfl, h3, rfl, by simp only [List.length_set]; exact hl⟩
  · refine nx h3 3 (by omega) fun x a4 d4 h4 hr hr' => ?_
    refine nxt (idx_some _ _ hr (by simp; omega)) fun x _ => ?_
    refine nxt (idx_some _ _ (by omega) hp') fun x _ => ⟨_, rfl, h4, rfl, by simp only [List.length_set]; exact hl⟩
theorem p_22DrawRace {c : List UInt8} {a d : Int} (h : OkS c a d) : ∃ b, M.spec_l22DrawRace ⟨c, a, d⟩ = some b ∧ (OkS c b.2.1 b.2.2 ∧ (0 ≤ b.1.1 ∧ b.1.1 ≤ 17) ∧ b.1.2.length ≤ 17) := by
  have fin : ∀ {a d B : Int}, OkS c a d → (0 ≤ B ∧ B ≤ 17) → ∀ src : Src, src.code = c → ∃ b, M.spec_l22DrawRace_j1 src (a, d, B) = some b ∧ (OkS c b.2.1 b.2.2 ∧ (0 ≤ b.1.1 ∧ b.1.1 ≤ 17) ∧ b.1.2.length ≤ 17) := fun h hB src hs => by
    obtain ⟨b, h1, h2, h3, h4⟩ := p_22RaceJ src hs h hB
    exact ⟨b, h1, h2, by omega, by omega⟩
  refine nx h 6 (by omega) fun x1 a1 d1 h1 hr hr' => ?_
  refine nx h1 30 (by omega) fun x2 a2 d2 h2 hq hq' => ?_
  refine ifB_ex (fun _ => ?_) (fun _ => ?_)
  · refine nx h2 3 (by omega) fun x3 a3 d3 h3 hr hr' => ?_
    refine nxt (idx_in _ _ hr (by simp; omega)) fun x hx => ?_
    refine fin h3 ?_ _ rfl
    simp only [List.mem_cons, List.not_mem_nil, or_false] at hx
    omega
  · refine fin h2 ?_ _ rfl
    rw [w64_of (by omega)]
    omega
theorem p_22DrawRatings {c : List UInt8} {a d B : Int} (h : OkS c a d) (hB : -100 ≤ B ∧ B ≤ 100) : ∃ b, M.spec_l22DrawRatings ⟨c, a, d⟩ B = some b ∧ (OkS c b.2.1 b.2.2 ∧ b.1.length ≤ 17) := by
  obtain ⟨o, ho, a2, d2, out, k, rfl, h2, hl⟩ := loop_count (body := M.spec_l22DrawRatings_l1 ⟨c, a, d⟩ B) (s := (a, d, ([] : List Rating), 0)) (min B 17).toNat (by omega)
    (fun i s => ∃ a2 d2 out, s = (a2, d2, out, (i : Int)) ∧ OkS c a2 d2 ∧ out.length = i) (fun o => ∃ a2 d2 out k, o = .nxt (a2, d2, out, k) ∧ OkS c a2 d2 ∧ out.length ≤ 17) ⟨a, d, [], rfl, h, rfl⟩
    (fun i s hi hs => by
      obtain ⟨a2, d2, out, rfl, h2, hl⟩ := hs
      have g1 : (i : Int) < B := by omega
      have g3 : (i : Int) ≤ 16 := by omega
      have g2 : w64 ((i : Int) + 1) = ((i + 1 : Nat) : Int) := by rw [w64_of (by omega)]; rfl
      simp only [M.spec_l22DrawRatings_l1, M.spec_l22DrawRatings_j3, g1, g3, decide_true, ifB_true, g2]
      refine nxt (p_DrawFactor h2) fun x h3 => ?_
      rw [chk_pos (by simp; omega)]
      exact ⟨_, rfl, _, _, _, rfl, h3, by simp [hl]⟩)
    (fun s hs => by
      obtain ⟨a2, d2, out, rfl, h2, hl⟩ := hs
      refine ⟨.brk (a2, d2, out, (((min B 17).toNat : Nat) : Int)), ?_, a2, d2, out, _, rfl, h2, by omega⟩
      simp only [M.spec_l22DrawRatings_l1, M.spec_l22DrawRatings_j3, ifB_if]
      by_cases g1 : (((min B 17).toNat : Nat) : Int) < B
      · have g3 : ¬ ((((min B 17).toNat : Nat) : Int) ≤ 16) := by omega
        rw [if_pos (by simpa using g1), if_neg (by simpa using g3)]
      · rw [if_neg (by simpa using g1), if_neg (by simp)])
  simp only [M.spec_l22DrawRatings, ho, bnd_some, outc_nxt, M.spec_l22DrawRatings_a1]
  have fin : ∀ {a3 d3 : Int} (b : Bool), OkS c a3 d3 → (b = true → 0 < out.length) → ∃ x, M.spec_l22DrawRatings_j2 (a2, d2, out, k) (a3, d3, b) = some x ∧ (OkS c x.2.1 x.2.2 ∧ x.1.length ≤ 17) := fun b h3 hb => by
    refine ifB_ex (fun hb' => ?_) (fun _ => ⟨_, rfl, h3, hl⟩)
    have := hb hb'
    refine nxt (idx_some _ _ (by omega) (show (0 : Int) < (out.length : Int) by omega)) fun x _ => ⟨_, rfl, h3, by simp only [List.length_set]; exact hl⟩
  refine ifB_ex (fun hp => ?_) (fun _ => fin false h2 (fun h => by cases h))
  have hp' : 0 < out.length := by simpa using hp
  refine nx h2 24 (by omega) fun x1 a3 d3 h3 hr hr' => fin _ h3 (fun _ => hp')
theorem p_DrawParTime (c : List UInt8) (h : c.length ≤ 4096) : ∃ b, M.spec_DrawParTime c = some b ∧ b.2.1.length ≤ 17 ∧ b.2.2.length ≤ 17 := by
  obtain ⟨d, h1, h2⟩ := p_From c (by omega)
  rw [M.spec_DrawParTime, M.spec_DrawCorrectFinishes, h1]
  simp only [bnd_some]
  obtain ⟨b, e1, e2, e3, e4⟩ := p_22DrawRace h2
  rw [e1]
  obtain ⟨q, f1, f2, f3⟩ := p_22DrawRatings (B := b.1.1) e2 (by omega)
  simp only [bnd_some, f1]
  exact ⟨_, rfl, e4, f3⟩
theorem p_DrawProgressRace (c : List UInt8) (h : c.length ≤ 4096) : ∃ b, M.spec_DrawProgressRace c = some b ∧ b.2.2.1.length ≤ 17 ∧ b.2.2.2.length ≤ 17 := by
  obtain ⟨d, h1, h2⟩ := p_From c (by omega)
  rw [M.spec_DrawProgressRace, h1]
  refine nxt (p_25Draw h2) fun x11 h => ?_
  refine nxt (p_22DrawRace h) fun x19 h => ?_
  refine nxt (p_22DrawRatings h.1 (by omega)) fun x34 h' => ⟨_, rfl, h.2.2, h'.2⟩
theorem p_25DrawSeries {c : List UInt8} {a d : Int} (h : OkS c a d) : ∃ b, M.spec_l25DrawSeries ⟨c, a, d⟩ = some b ∧ (OkS c b.2.1 b.2.2 ∧ (0 ≤ b.1.1 ∧ b.1.1 ≤ 18) ∧ b.1.2.length ≤ 40 ∧ ∀ x ∈ b.1.2, x.length ≤ 17) := by
  refine nxt (p_22DrawRace h) fun x5 hx5 => ?_
  obtain ⟨h, hB, hlen5⟩ := hx5
  refine nx h 4 (by omega) fun x15 a1 d1 h1 hr15 hr15' => ?_
  obtain ⟨o, ho, a2, d2, l, out, k, rfl, h2, hl, ho1, ho2⟩ := loop_count (body := M.spec_l25DrawSeries_l1 ⟨c, a, d⟩) (s := (a1, d1, x5.1.2, ([] : List (List Finish)), x15)) x15.toNat (by omega)
    (fun i s => ∃ a2 d2 l out, s = (a2, d2, l, out, x15 - (i : Int)) ∧ OkS c a2 d2 ∧ l.length ≤ 17 ∧ out.length = i ∧ ∀ x ∈ out, x.length ≤ 17)
    (fun o => ∃ a2 d2 l out k, o = .nxt (a2, d2, l, out, k) ∧ OkS c a2 d2 ∧ l.length ≤ 17 ∧ out.length ≤ 3 ∧ ∀ x ∈ out, x.length ≤ 17) ⟨a1, d1, x5.1.2, [], by simp, h1, hlen5, rfl, by simp⟩
    (fun i s hi hs => by
      obtain ⟨a2, d2, l, out, rfl, h2, hl, ho1, ho2⟩ := hs
      have g1 : (0 : Int) < x15 - (i : Int) := by omega
      have g2 : w64 (x15 - (i : Int) - 1) = x15 - ((i + 1 : Nat) : Int) := by rw [w64_of (by omega)]; omega
      simp only [M.spec_l25DrawSeries_l1, g1, decide_true, ifB_true]
      rw [chk_pos (by simp; omega), chk_pos (by simp; omega)]
      obtain ⟨o, ho, a3, d3, l3, k3, rfl, h3, hl3⟩ := loop_count (body := M.spec_l25DrawSeries_l3 ⟨c, a, d⟩) (s := (a2, d2, l, 0)) l.length (by omega)
        (fun j s => ∃ a3 d3 l3, s = (a3, d3, l3, (j : Int)) ∧ OkS c a3 d3 ∧ l3.length = l.length) (fun o => ∃ a3 d3 l3 k, o = .nxt (a3, d3, l3, k) ∧ OkS c a3 d3 ∧ l3.length = l.length) ⟨a2, d2, l, rfl, h2, rfl⟩
        (fun j s hj hs => by
          obtain ⟨a3, d3, l3, rfl, h3, hl3⟩ := hs
          have g1 : (j : Int) < (l3.length : Int) := by omega
          have g2 : w64 ((j : Int) + 1) = ((j + 1 : Nat) : Int) := step64 hj (by omega)
          have hjx : idx l3 (j : Int) = some (l3[j]'(by omega)) := idx_lt l3 j (by omega)
          simp only [M.spec_l25DrawSeries_l3, g1, decide_true, ifB_true, hjx, bnd_some]
          have fin : ∀ b : Bool, ∃ t, M.spec_l25DrawSeries_j5 ⟨c, a, d⟩ (a3, d3, l3, (j : Int)) b = some t ∧ ∃ (a' d' : Int) (l' : List Finish), t = .cont (a', d', l', ((j + 1 : Nat) : Int)) ∧ OkS c a' d' ∧ l'.length = l.length := fun b => by
            refine ifB_ex (fun _ => ?_) (fun _ => ?_)
            · simp only [hjx, bnd_some]
              refine nx h3 3000 (by omega) fun x a4 d4 h4 hr hr' => ?_
              simp only [M.spec_l25DrawSeries_j4, M.spec_l25DrawSeries_j3, g2]
              exact ⟨_, rfl, a4, d4, _, rfl, h4, by simp only [List.length_set]; exact hl3⟩
            · simp only [M.spec_l25DrawSeries_j4, M.spec_l25DrawSeries_j3, g2]
              exact ⟨_, rfl, a3, d3, _, rfl, h3, hl3⟩
          have fin2 : ∃ t, ifB ((l3[j]'(by omega)).Code == 0) (bnd (M.spec_l22Time (w64 ((l3[j]'(by omega)).Time + 3000))) fun x => M.spec_l25DrawSeries_j5 ⟨c, a, d⟩ (a3, d3, l3, (j : Int)) x) (M.spec_l25DrawSeries_j5 ⟨c, a, d⟩ (a3, d3, l3, (j : Int)) false) = some t ∧ ∃ (a' d' : Int) (l' : List Finish), t = .cont (a', d', l', ((j + 1 : Nat) : Int)) ∧ OkS c a' d' ∧ l'.length = l.length := by
            refine ifB_ex (fun _ => ?_) (fun _ => fin false)
            simp only [M.spec_l22Time, p_l01In, bnd_some]
            exact fin _
          obtain ⟨t, ht, a', d', l', rfl, q1, q2⟩ := fin2
          exact ⟨_, ht, a', d', l', rfl, q1, q2⟩)
        (fun s hs => by
          obtain ⟨a3, d3, l3, rfl, h3, hl3⟩ := hs
          have g1 : ¬ ((l.length : Int) < (l3.length : Int)) := by omega
          refine ⟨.brk (a3, d3, l3, (l.length : Int)), ?_, a3, d3, l3, _, rfl, h3, hl3⟩
          simp only [M.spec_l25DrawSeries_l3, g1, decide_false, ifB_false])
      simp only [ho, bnd_some, outc_nxt, M.spec_l25DrawSeries_a3, g2]
      refine ⟨_, rfl, a3, d3, l3, _, rfl, h3, by omega, by simp [ho1], fun x hx => ?_⟩
      rcases List.mem_append.1 hx with hx | hx
      · exact ho2 x hx
      · simp only [List.nil_append, List.mem_singleton] at hx; subst hx; exact hl)
    (fun s hs => by
      obtain ⟨a2, d2, l, out, rfl, h2, hl, ho1, ho2⟩ := hs
      have g1 : ¬ ((0 : Int) < x15 - (((x15).toNat : Nat) : Int)) := by omega
      refine ⟨.brk (a2, d2, l, out, x15 - (((x15).toNat : Nat) : Int)), ?_, a2, d2, l, out, _, rfl, h2, hl, by omega, ho2⟩
      simp only [M.spec_l25DrawSeries_l1, g1, decide_false, ifB_false])
  rw [ho]
  simp only [bnd_some, outc_nxt, M.spec_l25DrawSeries_a1]
  refine nx h2 30 (by omega) fun x a3 d3 h3 hr hr' => ?_
  refine ifB_ex (fun _ => ?_) (fun _ => ifB_ex (fun _ => ?_) (fun _ => ⟨_, rfl, h3, by simp only; omega, by simp only; omega, ho2⟩))
  · refine ⟨_, rfl, h3, ?_, by simp only; omega, ho2⟩
    simp only
    rw [w64_of (by omega)]
    omega
  · obtain ⟨o, ho, a4, d4, out4, rfl, h4, hl4, ho4⟩ := loop_count (body := M.spec_l25DrawSeries_l2 ⟨c, a, d⟩ (a2, d2, l, out, k)) (s := (a3, d3, out)) 22 (by omega)
      (fun i s => ∃ a4 d4 out4, s = (a4, d4, out4) ∧ OkS c a4 d4 ∧ out4.length = out.length + i ∧ ∀ x ∈ out4, x.length ≤ 17)
      (fun o => ∃ a4 d4 out4, o = .nxt (a4, d4, out4) ∧ OkS c a4 d4 ∧ out4.length ≤ 40 ∧ ∀ x ∈ out4, x.length ≤ 17) ⟨a3, d3, out, rfl, h3, rfl, ho2⟩
      (fun i s hi hs => by
        obtain ⟨a4, d4, out4, rfl, h4, hl4, ho4⟩ := hs
        unfold M.spec_l25DrawSeries_l2
        refine nx h4 2 (by omega) fun x a5 d5 h5 hr hr' => ?_
        refine ifB_ex (fun _ => ?_) (fun _ => ?_)
        · rw [chk_pos (by simp; omega), chk_pos (by simp; omega)]
          refine ⟨_, rfl, a5, d5, _, rfl, h5, by simp; omega, fun x hx => ?_⟩
          rcases List.mem_append.1 hx with hx | hx
          · exact ho4 x hx
          · simp only [List.nil_append, List.mem_singleton] at hx; subst hx; exact hl
        · exact ⟨_, rfl, a5, d5, out4, rfl, h5, by omega, ho4⟩)
      (fun s hs => by
        obtain ⟨a4, d4, out4, rfl, h4, hl4, ho4⟩ := hs
        unfold M.spec_l25DrawSeries_l2
        refine nx h4 2 (by omega) fun x a5 d5 h5 hr hr' => ?_
        have g1 : ¬ ((out4.length : Int) < w64 (20 + x)) := by rw [w64_of (by omega)]; omega
        simp only [g1, decide_false, ifB_false]
        exact ⟨_, rfl, a5, d5, out4, rfl, h5, by omega, ho4⟩)
    simp only [ho, bnd_some, outc_nxt]
    exact ⟨_, rfl, h4, by simp only; omega, hl4, ho4⟩
theorem p_DrawProgressSeries (c : List UInt8) (h : c.length ≤ 4096) : ∃ b, M.spec_DrawProgressSeries c = some b ∧ b.2.2.1.length ≤ 40 ∧ (∀ x ∈ b.2.2.1, x.length ≤ 17) ∧ b.2.2.2.length ≤ 17 := by
  obtain ⟨d, h1, h2⟩ := p_From c (by omega)
  rw [M.spec_DrawProgressSeries, h1]
  refine nxt (p_25Draw h2) fun x11 h => ?_
  refine nxt (p_25DrawSeries h) fun x19 h => ?_
  refine nxt (p_22DrawRatings h.1 (by omega)) fun x34 h' => ⟨_, rfl, h.2.2.1, h.2.2.2, h'.2⟩
end Go.Proofs.Ytbkpfcpbpnmjaaa
