/- Pure law of the implied winds over drawn curves. -/
import Derived.Test.YtngegaodnokmbaaDoorPureS
import Derived.Test.YtngegaodnokmbaaDoorPureW
namespace Go.Proofs.YtngegaodnokmbaaDoor
open Go
set_option linter.unusedVariables false
set_option linter.unusedSimpArgs false
theorem p_24Draw {c : List UInt8} {a d : Int} (h : OkS c a d) : ∃ b, M.spec_l24Draw ⟨c, a, d⟩ = some b ∧ (OkS c b.2.1 b.2.2 ∧ b.1.length ≤ 6) := by
  refine nx h 60 (by omega) fun x8 a1 d1 h hr8 hr8' => ?_
  refine nx h 4000 (by omega) fun x13 a1 d1 h hr13 hr13' => ?_
  refine nx h 5 (by omega) fun x18 a1 d1 h hr18 hr18' => ?_
  have e1 : w64 (3000 + x13) = 3000 + x13 := w64_of (by omega)
  have e2 : w64 (2 + x18) = 2 + x18 := w64_of (by omega)
  simp only [e1, e2]
  obtain ⟨o, ho, a2, d2, out, p, q, n, rfl, h2, hlen⟩ := loop_count (body := M.spec_l24Draw_l1 ⟨c, a, d⟩) (s := (a1, d1, ([] : List CurvePoint), x8, 3000 + x13, 2 + x18)) (2 + x18).toNat (by omega)
    (fun i s => ∃ a2 d2 out p q, s = (a2, d2, out, p, q, 2 + x18 - (i : Int)) ∧ OkS c a2 d2 ∧ out.length = i ∧ 0 ≤ p ∧ p ≤ 60 + 100 * (i : Int) ∧ 1 ≤ q ∧ q ≤ 7000)
    (fun o => ∃ a2 d2 out p q n, o = .nxt (a2, d2, out, p, q, n) ∧ OkS c a2 d2 ∧ (2 ≤ out.length ∧ out.length ≤ 6))
    ⟨a1, d1, [], x8, 3000 + x13, by simp, h, rfl, by omega, by omega, by omega, by omega⟩
    (fun i s hi hs => by
      obtain ⟨a2, d2, out, p, q, rfl, h2, hl, hp0, hp1, hq0, hq1⟩ := hs
      have g1 : (0 : Int) < 2 + x18 - (i : Int) := by omega
      simp only [M.spec_l24Draw_l1, g1, decide_true, ifB_true]
      rw [chk_pos (by simp; omega)]
      refine nx h2 60 (by omega) fun y1 a3 d3 h3 hy hy' => ?_
      refine nx h3 500 (by omega) fun y2 a4 d4 h4 hz hz' => ?_
      have g2 : w64 (2 + x18 - (i : Int) - 1) = 2 + x18 - ((i + 1 : Nat) : Int) := by rw [w64_of (by omega)]; omega
      have g3 : w64 (w64 (p + 1) + y1) = p + 1 + y1 := by rw [w64_of (n := p + 1) (by omega), w64_of (by omega)]
      have g4 : w64 (w64 (q - 1) - y2) = q - 1 - y2 := by rw [w64_of (n := q - 1) (by omega), w64_of (by omega)]
      refine ⟨.cont (a4, d4, out ++ [⟨p, q⟩], p + 1 + y1, max 1 (q - 1 - y2), 2 + x18 - ((i + 1 : Nat) : Int)), by simp only [g2, g3, g4], a4, d4, _, _, _, rfl, h4, by simp [hl], by omega, by omega, by omega, by omega⟩)
    (fun s hs => by
      obtain ⟨a2, d2, out, p, q, rfl, h2, hl, _⟩ := hs
      have g1 : ¬ ((0 : Int) < 2 + x18 - (((2 + x18).toNat : Nat) : Int)) := by omega
      refine ⟨.brk (a2, d2, out, p, q, 2 + x18 - (((2 + x18).toNat : Nat) : Int)), ?_, a2, d2, out, p, q, _, rfl, h2, by omega, by omega⟩
      simp only [M.spec_l24Draw_l1, g1, decide_false, ifB_false])
  rw [ho]
  simp only [bnd_some, outc_nxt, M.spec_l24Draw_a1]
  refine nx h2 _ (by omega) fun x74 a1 d1 h hk hk' => ?_
  refine nx h 30 (by omega) fun x188 a1 d1 h hr hr' => ?_
  have hk2 : x74 < (out.length : Int) := by omega
  refine ifB_ex (fun _ => ?_) (fun _ => ifB_ex (fun _ => ?_) (fun _ => ifB_ex (fun _ => ?_) (fun _ => ?_)))
  · refine nx h 4 (by omega) fun x a1 d1 h hr hr' => ?_
    refine nxt (idx_some _ _ hr (by simp; omega)) fun x _ => ?_
    refine nxt (idx_some _ _ hk hk2) fun x _ => ⟨_, rfl, h, by simp only [List.length_set]; omega⟩
  · refine nx h 4 (by omega) fun x a1 d1 h hr hr' => ?_
    refine nxt (idx_some _ _ hr (by simp; omega)) fun x _ => ?_
    refine nxt (idx_some _ _ hk hk2) fun x _ => ⟨_, rfl, h, by simp only [List.length_set]; omega⟩
  · rw [chk_pos (by omega)]
    exact ⟨_, rfl, h, by simp only; rw [subL_length _ (by omega)]; omega⟩
  · exact ⟨_, rfl, h, by simp only; omega⟩
end Go.Proofs.YtngegaodnokmbaaDoor
