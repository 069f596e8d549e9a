/- Pure laws: what is drawn is drawn without a fault, and is small. -/
import Derived.Test.YthkcfjlmblfipaaDoorPureS
import Derived.Test.YthkcfjlmblfipaaDoorPureV
namespace Go.Proofs.YthkcfjlmblfipaaDoor
open Go
set_option linter.unusedVariables false
set_option linter.unusedSimpArgs false
theorem p_DrawBoats {c : List UInt8} {a d : Int} (h : OkS c a d) : ∃ b, M.spec_l26DrawBoats ⟨c, a, d⟩ = some b ∧ OkS c b.2.1 b.2.2 ∧ 0 ≤ b.1 ∧ b.1 ≤ 16 := by
  refine nx h 24 (by omega) fun r a1 d1 h hr hr' => ?_
  refine ifB_ex (fun _ => ?_) (fun _ => ?_)
  · refine nx h 2 (by omega) fun r a1 d1 h hr hr' => ⟨_, rfl, h, ?_⟩
    simp only
    rw [w64_of (by omega)]
    omega
  · refine nx h 6 (by omega) fun r a1 d1 h hr hr' => ⟨_, rfl, h, ?_⟩
    simp only
    rw [w64_of (by omega)]
    omega
theorem p_DrawRace {c : List UInt8} {a d : Int} (h : OkS c a d) (n : Int) (hn : n ≤ 100) (hn0 : -100 ≤ n) : ∃ b, M.spec_l26DrawRace ⟨c, a, d⟩ n = some b ∧ OkS c b.2.1 b.2.2 ∧ (b.1.Finishes.length : Int) = max n 0 := by
  have hl : ∃ o, loopF (M.spec_l26DrawRace_l1 ⟨c, a, d⟩ n) (a, d, ([] : List Finish), 0) = some o ∧ ∃ a' d' L k, o = .nxt (a', d', L, k) ∧ OkS c a' d' ∧ (L.length : Int) = max n 0 := by
    refine loop_count n.toNat (by omega) (fun i s => OkS c s.1 s.2.1 ∧ s.2.2.1.length = i ∧ s.2.2.2 = (i : Int)) _ ⟨h, rfl, rfl⟩ (fun i s hi hs => ?_) (fun s hs => ?_)
    · obtain ⟨a1, d1, L, k⟩ := s
      obtain ⟨h1, h2, h3⟩ := hs
      simp only at h1 h2 h3
      subst h3
      have hlt : ((i : Int) < n) := by omega
      have key : ∃ t, M.spec_l26DrawRace_l1 ⟨c, a, d⟩ n (a1, d1, L, (i : Int)) = some t ∧ ∃ s' : Int × Int × List Finish × Int, t = .cont s' ∧ OkS c s'.1 s'.2.1 ∧ s'.2.2.1.length = i + 1 ∧ s'.2.2.2 = ((i + 1 : Nat) : Int) := by
        unfold M.spec_l26DrawRace_l1
        refine ifB_ex (fun _ => ?_) (fun hf => by simp [hlt] at hf)
        refine nx h1 _ (by rw [w64_of (by omega)]; omega) fun r a2 d2 h4 hr hr' => ?_
        refine nx h4 4 (by omega) fun r2 a3 d3 h5 hr2 hr2' => ?_
        have fin : ∀ a4 d4 x y, OkS c a4 d4 → ∃ t, M.spec_l26DrawRace_j1 (a1, d1, L, (i : Int)) (a4, d4, x, y) = some t ∧ ∃ s' : Int × Int × List Finish × Int, t = .cont s' ∧ OkS c s'.1 s'.2.1 ∧ s'.2.2.1.length = i + 1 ∧ s'.2.2.2 = ((i + 1 : Nat) : Int) := fun a4 d4 x y h6 => by
          refine ⟨_, by rw [M.spec_l26DrawRace_j1, chk_pos (by simp; omega)], _, rfl, h6, by simp [h2], ?_⟩
          simp only
          rw [w64_of (by omega)]; omega
        refine ifB_ex (fun _ => ?_) (fun _ => ?_)
        · refine nx h5 9 (by omega) fun r3 a4 d4 h6 hr3 hr3' => ?_
          exact fin _ _ _ _ h6
        · exact fin _ _ _ _ h5
      obtain ⟨t, ht, s', rfl, q⟩ := key
      exact ⟨_, ht, q⟩
    · obtain ⟨a1, d1, L, k⟩ := s
      obtain ⟨h1, h2, h3⟩ := hs
      simp only at h1 h2 h3
      subst h3
      have hlt : ¬ (((n.toNat : Nat) : Int) < n) := by omega
      exact ⟨.brk (a1, d1, L, ((n.toNat : Nat) : Int)), by simp only [M.spec_l26DrawRace_l1, hlt, decide_false, ifB_false], a1, d1, L, _, rfl, h1, by omega⟩
  obtain ⟨o, ho, a', d', L, k, rfl, h1, h2⟩ := hl
  refine ⟨(⟨L⟩, (a', d')), ?_, h1, h2⟩
  rw [M.spec_l26DrawRace, ho]
  rfl
theorem p_DrawAny {c : List UInt8} {a d : Int} (h : OkS c a d) (n : Int) (hn : n ≤ 100) (hn0 : -100 ≤ n) : ∃ b, M.spec_l26DrawAny ⟨c, a, d⟩ n = some b ∧ OkS c b.2.1 b.2.2 ∧ b.1.Finishes.length ≤ 1000 := by
  refine nxt (p_DrawRace h n hn hn0) fun x hx => ?_
  obtain ⟨h1, h2⟩ := hx
  refine ifB_ex (fun _ => ⟨_, rfl, h1, by simp only; omega⟩) (fun hf => ?_)
  have hn1 : 1 ≤ n := by simpa using hf
  refine nx h1 n (by omega) fun r a1 d1 h hr hr' => ?_
  have hr1 : r < n := by omega
  have hr2 : r < (x.1.Finishes.length : Int) := by omega
  refine nx h 24 (by omega) fun r2 a2 d2 h _ _ => ?_
  refine ifB_ex (fun _ => ?_) (fun _ => ifB_ex (fun _ => ?_) (fun _ => ifB_ex (fun _ => ?_) (fun _ => ifB_ex (fun _ => ?_) (fun _ => ?_))))
  · refine nxt (idx_some _ _ hr hr2) fun y _ => ⟨_, rfl, h, by simp; omega⟩
  · refine nx h 2 (by omega) fun r3 a3 d3 h _ _ => ?_
    refine nxt (idx_some _ _ hr hr2) fun y _ => ⟨_, rfl, h, by simp; omega⟩
  · refine nxt (idx_some _ _ hr hr2) fun y _ => ⟨_, rfl, h, by simp; omega⟩
  · refine nx h 2 (by omega) fun r3 a3 d3 h _ _ => ?_
    refine nxt (idx_some _ _ hr hr2) fun y _ => ⟨_, rfl, h, by simp; omega⟩
  · exact ⟨_, rfl, h, by simp only; omega⟩
theorem p_DrawIsRace (c : List UInt8) (h : c.length ≤ 4096) : ∃ b, M.spec_DrawIsRace c = some b ∧ b.2.Finishes.length ≤ 1000 := by
  obtain ⟨d, h1, h2⟩ := p_From c (by omega)
  rw [M.spec_DrawIsRace, h1]
  refine nxt (p_DrawBoats h2) fun x hx => ?_
  obtain ⟨h3, h4, h5⟩ := hx
  refine nxt (p_DrawAny h3 x.1 (by omega) (by omega)) fun y hy => ?_
  obtain ⟨h6, h7⟩ := hy
  refine nx h6 24 (by omega) fun r a1 d1 h _ _ => ⟨_, rfl, h7⟩
end Go.Proofs.YthkcfjlmblfipaaDoor
