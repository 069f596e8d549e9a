/- Pure law over draws: the boats that are tied, the race that decides, the lead. -/
import Derived.Test.YtpobaajdhfoomaaPureTi2
import Derived.Test.YtpobaajdhfoomaaPureCh
namespace Go.Proofs.Ytpobaajdhfoomaa
open Go
set_option linter.unusedVariables false
set_option linter.unusedSimpArgs false
theorem szT_lens {t : Table} {R : List (List Int)} (h : lensP R = lensP t.Points) : szT (Table.mk t.Boats R t.Codes) = szT t := by
  have h1 := lensP_len h
  have h2 : tot (fun x : List Int => x.length) R = tot (fun x : List Int => x.length) t.Points := congrArg List.sum h
  unfold szT
  simp only [h1, h2]
theorem p_DrawTied (c : List UInt8) (h : c.length ≤ 4096) : ∃ b, M.spec_DrawTiedBoats c = some b ∧ szT b.1 ≤ 1048576 ∧ b.2.length ≤ 10 := by
  obtain ⟨q, h1, h2, h3⟩ := p_28Draw c h
  exact ⟨(q.1, q.2.1), by rw [M.spec_DrawTiedBoats, M.spec_l28DrawTable, h1]; rfl, h2, h3⟩
theorem p_DrawDec (c : List UInt8) (h : c.length ≤ 4096) : ∃ b, M.spec_DrawDecidingRace c = some b ∧ szT b.1 ≤ 1048576 ∧ b.2.1.length ≤ 10 := by
  obtain ⟨⟨t, rule, a, b⟩, h1, h2, h3⟩ := p_28Draw c h
  simp only at h2 h3
  rw [M.spec_DrawDecidingRace, h1, bnd_some]
  have fin : ∀ R : List (List Int), lensP R = lensP t.Points → ∃ q, M.spec_DrawDecidingRace_j1 (t, rule, a, b) R = some q ∧ szT q.1 ≤ 1048576 ∧ q.2.1.length ≤ 10 := fun R hR => ⟨_, rfl, by simp only; rw [szT_lens hR]; exact h2, h3⟩
  have no : ∃ q, M.spec_DrawDecidingRace_j2 (t, rule, a, b) false = some q ∧ szT q.1 ≤ 1048576 ∧ q.2.1.length ≤ 10 := fin _ rfl
  refine ifB_ex (fun _ => ?_) (fun _ => no)
  simp only
  rw [p_specIsTable t h2, bnd_some]
  by_cases ht : IsTable t
  · rw [decide_eq_true ht]
    have hPl : t.Points.length ≤ 12 := ht.2.1
    have hrow : ∀ R : List (List Int), lensP R = lensP t.Points → ∀ i (hi : i < R.length), (R[i].length : Int) = t.Boats := fun R hR i hi => by
      have hi' : i < t.Points.length := by rw [← lensP_len hR]; exact hi
      obtain ⟨_, g, _⟩ := tab_row t ht i hi'
      rw [lensP_at hR i hi hi']
      exact g.1
    obtain ⟨o, ho, R, k, rfl, hR⟩ := loop_count (body := M.spec_DrawDecidingRace_l1 (t, rule, a, b)) (s := (t.Points, 0)) t.Points.length (by omega)
      (fun i s => ∃ R, s = (R, ((2 * i : Nat) : Int)) ∧ lensP R = lensP t.Points) (fun o => ∃ R k, o = .nxt (R, k) ∧ lensP R = lensP t.Points) ⟨_, rfl, rfl⟩
      (fun i s hi hs => by
        obtain ⟨R, rfl, hR⟩ := hs
        have hRl := lensP_len hR
        have e1 : w64 (((2 * i : Nat) : Int) + 1) = ((2 * i + 1 : Nat) : Int) := by rw [w64_of (by omega)]; rfl
        have e2 : w64 (((2 * i : Nat) : Int) + 2) = ((2 * (i + 1) : Nat) : Int) := by rw [w64_of (by omega)]; omega
        have stop : M.spec_DrawDecidingRace_j3 (t, rule, a, b) (R, ((2 * i : Nat) : Int)) false = some (.brk (R, ((2 * i : Nat) : Int))) := rfl
        simp only [M.spec_DrawDecidingRace_l1, e1]
        by_cases c1 : ((2 * i + 1 : Nat) : Int) < (R.length : Int)
        · by_cases c2 : 0 ≤ a
          · by_cases c3 : 0 ≤ b
            · by_cases c4 : a < t.Boats
              · by_cases c5 : b < t.Boats
                · obtain ⟨x, rfl⟩ := Int.eq_ofNat_of_zero_le c2
                  obtain ⟨y, rfl⟩ := Int.eq_ofNat_of_zero_le c3
                  have i1 : 2 * i < R.length := by omega
                  have i2 : 2 * i + 1 < R.length := by omega
                  have r1 := hrow R hR (2 * i) i1
                  have r2 := hrow R hR (2 * i + 1) i2
                  have x1 : x < R[2 * i + 1].length := by omega
                  have y1 : y < R[2 * i].length := by omega
                  have hR1 : lensP (R.set (2 * i) (R[2 * i].set y R[2 * i + 1][x])) = lensP t.Points := by rw [lensP_set R _ i1 _ (by simp), hR]
                  have hl1 := lensP_len hR1
                  have j1 : 2 * i < (R.set (2 * i) (R[2 * i].set y R[2 * i + 1][x])).length := by simpa using i1
                  have j2 : 2 * i + 1 < (R.set (2 * i) (R[2 * i].set y R[2 * i + 1][x])).length := by simpa using i2
                  have s1 := hrow _ hR1 _ j1
                  have s2 := hrow _ hR1 _ j2
                  have x2 : x < (R.set (2 * i) (R[2 * i].set y R[2 * i + 1][x]))[2 * i].length := by omega
                  have y2 : y < (R.set (2 * i) (R[2 * i].set y R[2 * i + 1][x]))[2 * i + 1].length := by omega
                  simp only [c1, c2, c3, c4, c5, decide_true, ifB_true, M.spec_DrawDecidingRace_j3, e1, e2, idx_lt R _ i1, idx_lt R _ i2, bnd_some, idx_lt _ x x1, idx_lt _ y y1, Int.toNat_natCast, idx_lt _ _ j1, idx_lt _ _ j2, idx_lt _ x x2, idx_lt _ y y2]
                  exact ⟨_, rfl, _, rfl, by rw [lensP_set _ _ j2 _ (by simp), hR1]⟩
                · simp only [c1, c2, c3, c4, c5, decide_true, decide_false, ifB_true]; exact ⟨.brk (R, ((2 * i : Nat) : Int)), stop, R, _, rfl, hR⟩
              · simp only [c1, c2, c3, c4, decide_true, decide_false, ifB_true, ifB_false]; exact ⟨.brk (R, ((2 * i : Nat) : Int)), stop, R, _, rfl, hR⟩
            · simp only [c1, c2, c3, decide_true, decide_false, ifB_true, ifB_false]; exact ⟨.brk (R, ((2 * i : Nat) : Int)), stop, R, _, rfl, hR⟩
          · simp only [c1, c2, decide_true, decide_false, ifB_true, ifB_false]; exact ⟨.brk (R, ((2 * i : Nat) : Int)), stop, R, _, rfl, hR⟩
        · simp only [c1, decide_false, ifB_false]; exact ⟨.brk (R, ((2 * i : Nat) : Int)), stop, R, _, rfl, hR⟩)
      (fun s hs => by
        obtain ⟨R, rfl, hR⟩ := hs
        have hRl := lensP_len hR
        have e1 : w64 (((2 * t.Points.length : Nat) : Int) + 1) = ((2 * t.Points.length + 1 : Nat) : Int) := by rw [w64_of (by omega)]; rfl
        have c1 : ¬ ((2 * t.Points.length + 1 : Nat) : Int) < (R.length : Int) := by omega
        exact ⟨.brk (R, ((2 * t.Points.length : Nat) : Int)), by simp only [M.spec_DrawDecidingRace_l1, e1, c1, decide_false, ifB_false, M.spec_DrawDecidingRace_j3], R, _, rfl, hR⟩)
    simp only [M.spec_DrawDecidingRace_j2, ifB_true]
    rw [chk_pos (by rw [p_specIsTable t h2, decide_eq_true ht]), ho]
    simp only [bnd_some, outc_nxt, M.spec_DrawDecidingRace_a1]
    exact fin R hR
  · rw [decide_eq_false ht]
    exact no
theorem p_DecRaceB (t : Table) (rule : List Int) (a b : Int) (h : szT t ≤ 1048576) (hr : rule.length ≤ 1048576) : ∃ r, M.impl_DecidingRace t rule a b = some r ∧ M.spec_DecidingRace t rule a b = some r ∧ (r.2 = 0 → IsTable t ∧ (0 ≤ a ∧ a < t.Boats) ∧ (0 ≤ b ∧ b < t.Boats) ∧
    ∃ j, j < t.Points.length ∧ r.1 = ((t.Points.length - 1 - j : Nat) : Int) ∧ ptK t a ((t.Points.length - 1 - j : Nat) : Int) ≠ ptK t b ((t.Points.length - 1 - j : Nat) : Int) ∧ ∀ i, i < j → ptK t a ((t.Points.length - 1 - i : Nat) : Int) = ptK t b ((t.Points.length - 1 - i : Nat) : Int)) := by
  obtain ⟨c, c1, c2, c3⟩ := p_boatsCode t rule a b h hr
  by_cases h0 : c = 0
  · obtain ⟨ht, hu, ⟨a0, a1⟩, b0, b1⟩ := c3 h0
    obtain ⟨k1, k2⟩ := p_compare t rule a b ht a0 a1 b0 b1 (rule_le rule hu)
    refine ⟨if (cmpB t rule a b).2.1 = 3 then ((cmpB t rule a b).2.2, 0) else (0, 4), ?_, ?_, fun hz => ⟨ht, ⟨a0, a1⟩, ⟨b0, b1⟩, ?_⟩⟩
    · simp only [M.impl_DecidingRace, c1, h0, bnd_some, bne_self_eq_false, ifB_false, k1, ifB_if]
      by_cases h3 : (cmpB t rule a b).2.1 = 3 <;> simp [h3]
    · simp only [M.spec_DecidingRace, c2, h0, bnd_some, bne_self_eq_false, ifB_false, k2, ifB_if]
      by_cases h3 : (cmpB t rule a b).2.1 = 3 <;> simp [h3]
    · by_cases h3 : (cmpB t rule a b).2.1 = 3
      · rw [if_pos h3] at hz ⊢
        have hl : dfL t a b ≠ none ∧ (cmpB t rule a b).2.2 = (lstB t a b).2.2 := by
          unfold cmpB at h3 ⊢
          by_cases hn : ntK t rule a ≠ ntK t rule b
          · rw [if_pos hn] at h3; simp at h3
          · rw [if_neg hn] at h3 ⊢
            cases hf : dfF (stK t rule a) (stK t rule b) with
            | some i => rw [hf] at h3; simp at h3
            | none =>
              rw [hf] at h3
              simp only at h3 ⊢
              refine ⟨fun hd => ?_, trivial⟩
              rw [lstB, hd] at h3
              simp at h3
        cases hd : dfL t a b with
        | none => exact (hl.1 hd).elim
        | some j =>
          have e : (lstB t a b).2.2 = ((t.Points.length - 1 - j : Nat) : Int) := by rw [lstB, hd]
          unfold dfL at hd
          obtain ⟨g1, i, hi, rfl, g3⟩ := List.find?_eq_some_iff_getElem.1 hd
          simp only [List.length_range] at hi
          simp only [List.getElem_range] at g1 e ⊢
          refine ⟨i, hi, by rw [hl.2, e], by simpa using g1, fun k hk => ?_⟩
          have := g3 k hk
          simpa using this
      · rw [if_neg h3] at hz; simp at hz
  · have e : (c != 0) = true := by simpa using h0
    refine ⟨(0, c), ?_, ?_, fun hz => absurd hz h0⟩
    · simp only [M.impl_DecidingRace, c1, bnd_some, e, ifB_true]
    · simp only [M.spec_DecidingRace, c2, bnd_some, e, ifB_true]
theorem p_LeadB (t : Table) (rule : List Int) (h : szT t ≤ 1048576) (hr : rule.length ≤ 1048576) : ∃ r, M.impl_LeadOf t rule = some r ∧ M.spec_LeadOf t rule = some r ∧ 0 ≤ r.1 := by
  obtain ⟨c1, c2⟩ := p_tableCode t rule 0 h hr
  obtain ⟨r, _, h2, _, h4⟩ := p_StandingOf t rule h hr
  rcases h4 with ⟨hz, ht, hu, rfl⟩ | ⟨hz, rfl⟩
  · have hb := ht.1
    have h0 : cdT t rule 0 = 0 := by unfold cdT; rw [if_pos ht, if_pos ⟨hu, by omega, by omega⟩]
    have hlen := sdB_len t rule ht
    have hs := p_specStanding t rule ht (rule_le rule hu)
    by_cases h1 : t.Boats = 1
    · have e1 : ((sdB t rule t.Boats.toNat).length : Int) < 2 := by omega
      exact ⟨(0, 5), by simp only [M.impl_LeadOf, h2, bnd_some, bne_self_eq_false, ifB_false, e1, decide_true, ifB_true], by simp [M.spec_LeadOf, c2, h0, h1], by simp⟩
    · have e1 : ¬ ((sdB t rule t.Boats.toNat).length : Int) < 2 := by omega
      have e2 : (t.Boats == 1) = false := by simpa using h1
      have l0 : 0 < (sdB t rule t.Boats.toNat).length := by omega
      have l1 : 1 < (sdB t rule t.Boats.toNat).length := by omega
      have m0 := ((sdB_mem t rule _ _).1 (List.getElem_mem l0)).1
      have m1 := ((sdB_mem t rule _ _).1 (List.getElem_mem l1)).1
      obtain ⟨p0, p1⟩ := inB t ht _ m0
      obtain ⟨q0, q1⟩ := inB t ht _ m1
      have i0 : idx (sdB t rule t.Boats.toNat) 0 = some (sdB t rule t.Boats.toNat)[0] := idx_lt _ 0 l0
      have i1 : idx (sdB t rule t.Boats.toNat) 1 = some (sdB t rule t.Boats.toNat)[1] := idx_lt _ 1 l1
      have n0 := p_net t rule _ ht p0 p1 (rule_le rule hu)
      have n1 := p_net t rule _ ht q0 q1 (rule_le rule hu)
      have hrs := List.pairwise_iff_getElem.1 (sdB_sorted t rule t.Boats.toNat) 0 1 l0 l1 (by omega)
      have hle : ntK t rule (sdB t rule t.Boats.toNat)[0] ≤ ntK t rule (sdB t rule t.Boats.toNat)[1] := by
        apply Classical.byContradiction
        intro hn
        have hlt : ntK t rule (sdB t rule t.Boats.toNat)[1] < ntK t rule (sdB t rule t.Boats.toNat)[0] := by omega
        have hc : (cmpB t rule (sdB t rule t.Boats.toNat)[1] (sdB t rule t.Boats.toNat)[0]).1 < 0 := by
          unfold cmpB
          rw [if_pos (by omega)]
          exact (sg_lt _ _).2 hlt
        have := rk_of_lt t rule ht _ _ m1 m0 hc
        unfold RS at hrs
        omega
      have b0 := ntK_bd t rule _ ht p0 p1
      have b1 := ntK_bd t rule _ ht q0 q1
      refine ⟨(w64 (ntK t rule (sdB t rule t.Boats.toNat)[1] - ntK t rule (sdB t rule t.Boats.toNat)[0]), 0), ?_, ?_, ?_⟩
      · simp only [M.impl_LeadOf, h2, bnd_some, bne_self_eq_false, ifB_false, e1, decide_false, i0, i1, n0.1, n1.1]
      · simp only [M.spec_LeadOf, c2, h0, bnd_some, bne_self_eq_false, ifB_false, e2, hs, i0, i1, p_specCounted t rule _ ht p0 p1 (rule_le rule hu), p_specCounted t rule _ ht q0 q1 (rule_le rule hu), n0.2, n1.2]
      · simp only
        rw [w64_of (by omega)]; omega
  · have e : (cdT t rule 0 != 0) = true := by simpa using hz
    exact ⟨(0, cdT t rule 0), by simp only [M.impl_LeadOf, h2, bnd_some, e, ifB_true], by simp only [M.spec_LeadOf, c2, bnd_some, e, ifB_true], by simp⟩
theorem pure_FnTied (c : List UInt8) (hc : OkD.ok c) : M.laws_FnTied c = some true := by
  rw [M.laws_FnTied, p_big, bnd_some, ifB_if]
  by_cases hl : 4096 < (c.length : Int)
  · simp [hl]
  · rw [if_neg (by simpa using hl)]
    obtain ⟨⟨t, rule⟩, hD, hq1, hq2⟩ := p_DrawTied c (by omega)
    simp only at hq1 hq2
    have hr : rule.length ≤ 1048576 := by omega
    obtain ⟨⟨v, law, a, b⟩, hD2, hv1, hv2⟩ := p_DrawDec c (by omega)
    simp only at hv1 hv2
    obtain ⟨r, r1, r2, r3⟩ := p_TiedBoats t rule hq1 hr
    obtain ⟨u, u1, u2, u3⟩ := p_DecRaceB v law a b hv1 (by omega)
    obtain ⟨q, l1, l2, l3⟩ := p_LeadB t rule hq1 hr
    have hsz : r.1.length ≤ 16 ∧ (∀ x ∈ r.1, x.length ≤ 16) := by
      rcases r3 with ⟨e, _⟩ | ⟨_, h0, e, _⟩
      · rw [e]; exact ⟨by simp, fun x hx => by cases hx⟩
      · obtain ⟨hT, _, _, _⟩ := cdT_zero t rule 0 h0
        have hb := hT.1
        rw [e]; exact tie_size t rule (by omega)
    have hlike := p_likeRows r.1 (by omega) (fun x hx => by have := hsz.2 x hx; omega)
    have e1 : (u.2 != u.2) = false := bne_self_eq_false _
    -- the race that decides
    have hloop : ∃ s, loopF (M.laws_FnTied_l1 u (v, law, a, b)) u.1 = some (.nxt s) := by
      by_cases hz : u.2 = 0
      · obtain ⟨ht, ⟨a0, a1⟩, ⟨b0, b1⟩, j, j1, j2, j3, j4⟩ := u3 hz
        have hz' : (u.2 == 0) = true := by simpa using hz
        have key : ∀ i, i < v.Points.length → ∃ w, idx v.Points (i : Int) = some w ∧ idx w a = some (ptK v a (i : Int)) ∧ idx w b = some (ptK v b (i : Int)) := fun i hi => by
          have hk : (i : Int) ∈ idxs v.Points.length := (idxs_mem _ _).2 ⟨i, hi, rfl⟩
          obtain ⟨⟨w, x1, x2, _⟩, _⟩ := tab_get v ht a a0 a1 _ hk
          obtain ⟨⟨w', y1, y2, _⟩, _⟩ := tab_get v ht b b0 b1 _ hk
          rw [x1] at y1
          injection y1 with y1
          subst y1
          exact ⟨w, x1, x2, y2⟩
        have hPl : v.Points.length ≤ 12 := ht.2.1
        refine ⟨((v.Points.length : Nat) : Int), loop_run (body := M.laws_FnTied_l1 u (v, law, a, b)) (j + 1) (by omega) (fun k => ((v.Points.length - 1 - j + k : Nat) : Int)) _ (by rw [j2, Nat.add_zero]) (fun k hk => ?_) ?_⟩
        · have hi : v.Points.length - 1 - j + k < v.Points.length := by omega
          obtain ⟨w, x1, x2, x3⟩ := key _ hi
          have g1 : ((v.Points.length - 1 - j + k : Nat) : Int) < (v.Points.length : Int) := by omega
          have hcond : ((ptK v a ((v.Points.length - 1 - j + k : Nat) : Int) == ptK v b ((v.Points.length - 1 - j + k : Nat) : Int)) != decide (u.1 < ((v.Points.length - 1 - j + k : Nat) : Int))) = false := by
            rw [j2]
            cases k with
            | zero =>
              rw [Nat.add_zero, show (ptK v a ((v.Points.length - 1 - j : Nat) : Int) == ptK v b ((v.Points.length - 1 - j : Nat) : Int)) = false by simpa using j3, decide_eq_false (by omega)]; rfl
            | succ k =>
              have g := j4 (j - (k + 1)) (by omega)
              rw [show v.Points.length - 1 - (j - (k + 1)) = v.Points.length - 1 - j + (k + 1) by omega] at g
              rw [show (ptK v a ((v.Points.length - 1 - j + (k + 1) : Nat) : Int) == ptK v b ((v.Points.length - 1 - j + (k + 1) : Nat) : Int)) = true by simpa using g, decide_eq_true (by omega)]; rfl
          simp only [M.laws_FnTied_l1, hz', ifB_true, M.laws_FnTied_j5, g1, decide_true, x1, x2, x3, bnd_some]
          rw [hcond, ifB_false, step64 hi (by omega)]
          rfl
        · have g2 : v.Points.length - 1 - j + (j + 1) = v.Points.length := by omega
          simp only [M.laws_FnTied_l1, hz', ifB_true, M.laws_FnTied_j5, g2, Int.lt_irrefl, decide_false, ifB_false]
      · have hz' : (u.2 == 0) = false := by simpa using hz
        exact ⟨u.1, loop_run (body := M.laws_FnTied_l1 u (v, law, a, b)) 0 (by omega) (fun _ => u.1) _ rfl (fun k hk => by omega) (by simp only [M.laws_FnTied_l1, hz', ifB_false, M.laws_FnTied_j5])⟩
    obtain ⟨s, hs⟩ := hloop
    simp only [hD, bnd_some, r1, r2, bne_self_eq_false, ifB_false, hlike, Bool.not_true, M.laws_FnTied_j1, hD2, u1, u2, M.laws_FnTied_j2, hs, outc_nxt, M.laws_FnTied_a1]
    rcases r3 with ⟨_, hne⟩ | ⟨hz, h0, hr1, hnet⟩
    · rw [show (r.2 != 0) = true by simpa using hne, ifB_true]
    · obtain ⟨hT, hu, _, _⟩ := cdT_zero t rule 0 h0
      have hb := hT.1
      have hidx : ∀ a ∈ idxs t.Boats.toNat, idx ((idxs t.Boats.toNat).map (ntK t rule)) a = some (ntK t rule a) := fun a ha => by
        obtain ⟨i, hi, rfl⟩ := (idxs_mem _ _).1 ha
        rw [idx_lt _ i (by rw [List.length_map, idxs_len]; exact hi)]
        simp [idxs]
      have hrows : ∀ x ∈ r.1, (2 ≤ x.length) ∧ ∃ w, ∀ y ∈ x, idx ((idxs t.Boats.toNat).map (ntK t rule)) y = some w := fun x hx => by
        rw [hr1] at hx
        obtain ⟨g1, g2⟩ := List.mem_filter.1 hx
        obtain ⟨w, _, rfl⟩ := List.mem_map.1 g1
        have g3 := of_decide_eq_true g2
        refine ⟨by omega, w, fun y hy => ?_⟩
        obtain ⟨k1, k2⟩ := List.mem_filter.1 hy
        rw [hidx y k1, of_decide_eq_true k2]
      have hbl : ((((idxs t.Boats.toNat).map (ntK t rule)).length : Int) != t.Boats) = false := by
        rw [List.length_map, idxs_len]
        simp; omega
      have hl2 : loopF (M.laws_FnTied_l2 r ((idxs t.Boats.toNat).map (ntK t rule), 0)) 0 = some (.nxt ((r.1.length : Nat) : Int)) := by
        refine loop_run (body := M.laws_FnTied_l2 r ((idxs t.Boats.toNat).map (ntK t rule), 0)) r.1.length (by omega) (fun k => (k : Int)) _ rfl (fun k hk => ?_) (by simp only [M.laws_FnTied_l2, Int.lt_irrefl, decide_false, ifB_false])
        obtain ⟨g1, w, g2⟩ := hrows _ (List.getElem_mem hk)
        have g5 := hsz.2 _ (List.getElem_mem hk)
        have hl3 : loopF (M.laws_FnTied_l3 r ((idxs t.Boats.toNat).map (ntK t rule), 0) (k : Int)) 1 = some (.nxt ((r.1[k].length : Nat) : Int)) := by
          refine loop_run (body := M.laws_FnTied_l3 r ((idxs t.Boats.toNat).map (ntK t rule), 0) (k : Int)) (r.1[k].length - 1) (by omega) (fun m => ((1 + m : Nat) : Int)) _ rfl (fun m hm => ?_) ?_
          · have g3 : ((1 + m : Nat) : Int) < (r.1[k].length : Int) := by omega
            have g6 : idx r.1[k] 0 = some r.1[k][0] := idx_lt _ 0 (by omega)
            have g7 := g2 _ (List.getElem_mem (show 0 < r.1[k].length by omega))
            have g8 := g2 _ (List.getElem_mem (show 1 + m < r.1[k].length by omega))
            simp only [M.laws_FnTied_l3, idx_lt r.1 k hk, bnd_some, g3, decide_true, ifB_true, g6, g7, idx_lt r.1[k] (1 + m) (by omega), g8, bne_self_eq_false, ifB_false, step64 (show 1 + m < r.1[k].length by omega) (by omega)]
            rfl
          · have g4 : 1 + (r.1[k].length - 1) = r.1[k].length := by omega
            simp only [M.laws_FnTied_l3, idx_lt r.1 k hk, bnd_some, g4, Int.lt_irrefl, decide_false, ifB_false]
        have g3 : (k : Int) < (r.1.length : Int) := by omega
        simp only [M.laws_FnTied_l2, g3, decide_true, ifB_true, hl3, bnd_some, outc_nxt, M.laws_FnTied_a3, step64 hk (by omega)]
      rw [hz]
      simp only [bne_self_eq_false, ifB_false, hnet, bnd_some, hbl, M.laws_FnTied_j3, hl2, outc_nxt, M.laws_FnTied_a2, l1, l2, beq_self_eq_true, ifB_true, M.laws_FnTied_j4, l3, decide_true]
end Go.Proofs.Ytpobaajdhfoomaa
