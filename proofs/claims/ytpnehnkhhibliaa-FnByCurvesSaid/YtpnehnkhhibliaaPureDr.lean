/- Draws of races, ratings and series of races: they are given, and short. -/
import Derived.Test.YtpnehnkhhibliaaPureS
import Derived.Test.YtpnehnkhhibliaaMod3
namespace Go.Proofs.Ytpnehnkhhibliaa
open Go
set_option linter.unusedVariables false
set_option linter.unusedSimpArgs false
theorem idx_in {α : Type} (xs : List α) (i : Int) (h0 : 0 ≤ i) (h1 : i < (xs.length : Int)) : ∃ x, idx xs i = some x ∧ x ∈ xs := by
  obtain ⟨n, rfl⟩ : ∃ n : Nat, i = (n : Int) := ⟨i.toNat, by omega⟩
  exact ⟨_, idx_lt xs n (by omega), List.getElem_mem _⟩
theorem p_22RaceJ {c : List UInt8} {a d B : Int} (src : Src) (hs : src.code = c) (h : OkS c a d) (hB : 0 ≤ B ∧ B ≤ 17) : ∃ b, M.spec_l22DrawRace_j1 src (a, d, B) = some b ∧ (OkS c b.2.1 b.2.2 ∧ b.1.1 = B ∧ b.1.2.length = B.toNat) := by
  subst hs
  obtain ⟨o, ho, a2, d2, out, k, rfl, h2, hl⟩ := loop_count (body := M.spec_l22DrawRace_l1 src (a, d, B)) (s := (a, d, ([] : List Finish), 0)) B.toNat (by omega)
    (fun i s => ∃ a2 d2 out, s = (a2, d2, out, (i : Int)) ∧ OkS src.code a2 d2 ∧ out.length = i) (fun o => ∃ a2 d2 out k, o = .nxt (a2, d2, out, k) ∧ OkS src.code a2 d2 ∧ out.length = B.toNat) ⟨a, d, [], rfl, h, rfl⟩
    (fun i s hi hs => by
      obtain ⟨a2, d2, out, rfl, h2, hl⟩ := hs
      have g1 : (i : Int) < B := by omega
      have g2 : w64 ((i : Int) + 1) = ((i + 1 : Nat) : Int) := by rw [w64_of (by omega)]; rfl
      simp only [M.spec_l22DrawRace_l1, g1, decide_true, ifB_true]
      refine nx h2 20000 (by omega) fun x1 a3 d3 h3 hr hr' => ?_
      refine nx h3 6 (by omega) fun x2 a4 d4 h4 hr hr' => ?_
      refine ifB_ex (fun _ => ?_) (fun _ => ?_)
      · refine nx h4 9 (by omega) fun x3 a5 d5 h5 hr hr' => ?_
        simp only [M.spec_l22DrawRace_j4, g2]
        rw [chk_pos (by simp; omega)]
        exact ⟨_, rfl, a5, d5, _, rfl, h5, by simp [hl]⟩
      · simp only [M.spec_l22DrawRace_j4, g2]
        rw [chk_pos (by simp; omega)]
        exact ⟨_, rfl, a4, d4, _, rfl, h4, by simp [hl]⟩)
    (fun s hs => by
      obtain ⟨a2, d2, out, rfl, h2, hl⟩ := hs
      have g1 : ¬ (((B.toNat : Nat) : Int) < B) := by omega
      refine ⟨.brk (a2, d2, out, ((B.toNat : Nat) : Int)), ?_, a2, d2, out, _, rfl, h2, hl⟩
      simp only [M.spec_l22DrawRace_l1, g1, decide_false, ifB_false])
  simp only [M.spec_l22DrawRace_j1, ho, bnd_some, outc_nxt, M.spec_l22DrawRace_a1]
  refine ifB_ex (fun hp => ?_) (fun _ => ⟨_, rfl, h2, rfl, hl⟩)
  have hp' : (0 : Int) < (out.length : Int) := by simpa using hp
  refine nx h2 30 (by omega) fun x1 a3 d3 h3 hr hr' => ?_
  refine ifB_ex (fun _ => ?_) (fun _ => ifB_ex (fun _ => ?_) (fun _ => ⟨_, rfl, h3, rfl, hl⟩))
  · refine nxt (idx_some _ _ (by omega) hp') fun x _ => ⟨_, rfl, h3, rfl, by simp only [List.length_set]; exact hl⟩
  · refine nx h3 3 (by omega) fun x a4 d4 h4 hr hr' => ?_
    refine nxt (idx_some _ _ hr (by simp; omega)) fun x _ => ?_
    refine nxt (idx_some _ _ (by omega) hp') fun x _ => ⟨_, rfl, h4, rfl, by simp only [List.length_set]; exact hl⟩
theorem p_22DrawRace {c : List UInt8} {a d : Int} (h : OkS c a d) : ∃ b, M.spec_l22DrawRace ⟨c, a, d⟩ = some b ∧ (OkS c b.2.1 b.2.2 ∧ (0 ≤ b.1.1 ∧ b.1.1 ≤ 17) ∧ b.1.2.length ≤ 17) := by
  have fin : ∀ {a d B : Int}, OkS c a d → (0 ≤ B ∧ B ≤ 17) → ∀ src : Src, src.code = c → ∃ b, M.spec_l22DrawRace_j1 src (a, d, B) = some b ∧ (OkS c b.2.1 b.2.2 ∧ (0 ≤ b.1.1 ∧ b.1.1 ≤ 17) ∧ b.1.2.length ≤ 17) := fun h hB src hs => by
    obtain ⟨b, h1, h2, h3, h4⟩ := p_22RaceJ src hs h hB
    exact ⟨b, h1, h2, by omega, by omega⟩
  refine nx h 6 (by omega) fun x1 a1 d1 h1 hr hr' => ?_
  refine nx h1 30 (by omega) fun x2 a2 d2 h2 hq hq' => ?_
  refine ifB_ex (fun _ => ?_) (fun _ => ?_)
  · refine nx h2 3 (by omega) fun x3 a3 d3 h3 hr hr' => ?_
    refine nxt (idx_in _ _ hr (by simp; omega)) fun x hx => ?_
    refine fin h3 ?_ _ rfl
    simp only [List.mem_cons, List.not_mem_nil, or_false] at hx
    omega
  · refine fin h2 ?_ _ rfl
    rw [w64_of (by omega)]
    omega
end Go.Proofs.Ytpnehnkhhibliaa
