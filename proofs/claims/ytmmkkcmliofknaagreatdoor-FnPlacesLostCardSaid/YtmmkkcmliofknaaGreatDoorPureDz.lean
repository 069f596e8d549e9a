/- Draws of tables, rules and boats: they are given, and short. -/
import Derived.Test.YtmmkkcmliofknaaGreatDoorPureF
import Derived.Test.YtmmkkcmliofknaaGreatDoorPureK3
import Derived.Test.YtmmkkcmliofknaaGreatDoorMod3
namespace Go.Proofs.YtmmkkcmliofknaaGreatDoor
open Go
set_option linter.unusedVariables false
set_option linter.unusedSimpArgs false
def OkTb (t : Table) : Prop := t.Boats ≤ 16 ∧ 0 ≤ t.Boats ∧ (t.Points.length ≤ 12 ∧ ∀ r ∈ t.Points, r.length ≤ 16) ∧ (t.Codes.length ≤ 12 ∧ ∀ r ∈ t.Codes, r.length ≤ 16)
theorem OkTb.sz {t : Table} (h : OkTb t) : szT t ≤ 1048576 := by
  have h1 : tot (fun x : List Int => x.length) t.Points ≤ 16 * t.Points.length := zLZ _ 16 _ h.2.2.1.2
  have h2 : tot (fun x : List Int => x.length) t.Codes ≤ 16 * t.Codes.length := zLZ _ 16 _ h.2.2.2.2
  have h3 := h.2.2.1.1
  have h4 := h.2.2.2.1
  unfold szT
  omega
theorem zNX {c : List UInt8} {a d : Int} (h : OkS c a d) : ∃ b, zHV ⟨c, a, d⟩ = some b ∧ (OkS c b.2.1 b.2.2 ∧ b.1.length ≤ 10) := by
  refine nx h 4 (by omega) fun x8 a1 d1 h1 hr8 hr8' => ?_
  obtain ⟨o, ho, a2, d2, L, v, k, rfl, h2, hL⟩ := zDd (body := zEC ⟨c, a, d⟩) (s := (a1, d1, ([] : List Int), 0, x8)) x8.toNat (by omega)
    (fun i s => ∃ a2 d2 L v, s = (a2, d2, L, v, x8 - (i : Int)) ∧ OkS c a2 d2 ∧ L.length = i) (fun o => ∃ a2 d2 L v k, o = .nxt (a2, d2, L, v, k) ∧ OkS c a2 d2 ∧ L.length ≤ 3) ⟨a1, d1, [], 0, by simp, h1, rfl⟩
    (fun i s hi hs => by
      obtain ⟨a2, d2, L, v, rfl, h2, hL⟩ := hs
      have g1 : (0 : Int) < x8 - (i : Int) := by omega
      have g2 : w64 (x8 - (i : Int) - 1) = x8 - ((i + 1 : Nat) : Int) := by rw [zBl (by omega)]; omega
      simp only [zEC, g1, decide_true, zAy, g2]
      refine nx h2 4 (by omega) fun x a3 d3 h3 _ _ => ?_
      rw [zBf (by simp; omega)]
      exact ⟨_, rfl, a3, d3, _, _, rfl, h3, by simp [hL]⟩)
    (fun s hs => by
      obtain ⟨a2, d2, L, v, rfl, h2, hL⟩ := hs
      have g1 : ¬ ((0 : Int) < x8 - ((x8.toNat : Nat) : Int)) := by omega
      refine ⟨.brk (a2, d2, L, v, x8 - ((x8.toNat : Nat) : Int)), ?_, a2, d2, L, v, _, rfl, h2, by omega⟩
      simp only [zEC, g1, decide_false, zAG])
  rw [ho]
  simp only [zAr, zBx, zEB]
  refine nx h2 30 (by omega) fun x a3 d3 h3 _ _ => ?_
  refine zFr (fun _ => ?_) (fun _ => zFr (fun _ => ?_) (fun _ => zFr (fun _ => ⟨_, rfl, h3, by simp⟩) (fun _ => ⟨_, rfl, h3, by simp only; omega⟩)))
  · rw [zBf (by simp; omega)]
    exact ⟨_, rfl, h3, by simp; omega⟩
  · exact nx h3 2 (by omega) fun x a4 d4 h4 _ _ => ⟨_, rfl, h4, by simp⟩
end Go.Proofs.YtmmkkcmliofknaaGreatDoor
