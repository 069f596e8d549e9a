/- Pure facts of the drawing sources: every draw answers, within its bound. -/
import Derived.Test.YtmmkkcmliofknaaGreatDoorPureR
namespace Go.Proofs.YtmmkkcmliofknaaGreatDoor
open Go
set_option linter.unusedVariables false
set_option linter.unusedSimpArgs false
def OkS (c : List UInt8) (a d : Int) : Prop := c.length ≤ 4200 ∧ 0 ≤ a ∧ a ≤ (c.length : Int) ∧ 0 ≤ d ∧ d < 2147483647
theorem zR3 (x : UInt8) : (x.toNat : Int) < 256 := by have := x.toNat_lt; omega
theorem w8 (x : UInt8) : IntKind.i64.wrap (x.toNat : Int) = (x.toNat : Int) := zBl (by have := zR3 x; omega)
theorem tm (n d : Int) (h : 0 ≤ n) : n.tmod d = n % d := by rw [Int.tmod_eq_emod]; simp [h]
theorem zTS (c : List UInt8) : zKD c = some (decide (4096 < (c.length : Int))) := rfl
theorem zR4 (c : List UInt8) (h : c.length ≤ 4200) : ∃ d, zHB c = some (0, d) ∧ OkS c 0 d := by
  obtain ⟨o, ho, d, k, rfl, hd⟩ := zDd (body := zGF c) (s := (61657, 0)) c.length (by omega) (fun i s => s.2 = (i : Int) ∧ 0 ≤ s.1 ∧ s.1 < 2147483647) (fun o => ∃ d k, o = .nxt (d, k) ∧ 0 ≤ d ∧ d < 2147483647) ⟨rfl, by omega, by omega⟩
    (fun i s hi hs => by
      obtain ⟨d, k⟩ := s
      obtain ⟨rfl, h0, h1⟩ := hs
      have e1 : (i : Int) < c.length := by omega
      have hb := zR3 c[i]
      have hb0 : (0 : Int) ≤ (c[i].toNat : Int) := by omega
      simp only at h0 h1
      simp only [zGF, zFf, e1, decide_true, zAy, zBs c i hi, zAr, zBB hi (by omega), w8]
      rw [zBl (n := d * 53) (by omega), zBl (by omega), tm _ _ (by omega), zBm]
      split
      · exact ⟨.cont _, rfl, rfl, by simp only; omega, by simp only; omega⟩
      · exact ⟨.brk (d, (i : Int)), rfl, d, _, rfl, h0, h1⟩)
    (fun s hs => by
      obtain ⟨d, k⟩ := s
      obtain ⟨rfl, h0, h1⟩ := hs
      exact ⟨.brk (d, (c.length : Int)), by simp [zGF, zFf], d, _, rfl, h0, h1⟩)
  exact ⟨d, by simp [zHB, ho, zGE], h, by omega, by omega, hd.1, hd.2⟩
theorem zTi (c : List UInt8) (a d n : Int) (h : OkS c a d) (hn : n < 4611686018427387904) : ∃ r a' d', zAE ⟨c, a, d⟩ n = some (r, (a', d')) ∧ OkS c a' d' ∧ 0 ≤ r ∧ (r < n ∨ (r = 0 ∧ n ≤ 1)) := by
  obtain ⟨hc, ha0, ha1, hd0, hd1⟩ := h
  simp only [zAE]
  rw [zBm]
  split
  · rename_i h1
    simp only [decide_eq_true_eq] at h1
    exact ⟨0, a, d, rfl, ⟨hc, ha0, ha1, hd0, hd1⟩, by omega, .inr ⟨rfl, h1⟩⟩
  · rename_i h1
    simp only [decide_eq_true_eq] at h1
    have e : (w64 ((w64 (d * 48271)) + 23)).tmod 2147483647 = (d * 48271 + 23) % 2147483647 := by rw [zBl (n := d * 48271) (by omega), zBl (by omega), tm _ _ (by omega)]
    rw [e]
    generalize hs : (d * 48271 + 23) % 2147483647 = sd
    have hs0 : 0 ≤ sd ∧ sd < 2147483647 := by omega
    have e2 : w64 (sd.tdiv 17) = sd / 17 := by rw [Int.tdiv_eq_ediv_of_nonneg (by omega), zBl (by omega)]
    rw [e2]
    have fin : ∀ a' x : Int, 0 ≤ a' → a' ≤ c.length → 0 ≤ x → ∃ r a2 d', zD7 ⟨c, a, d⟩ n (a', x) = some (r, (a2, d')) ∧ OkS c a2 d' ∧ 0 ≤ r ∧ (r < n ∨ (r = 0 ∧ n ≤ 1)) := by
      intro a' x h2 h3 h4
      rw [zD7, zBf (by omega)]
      simp only [e]
      rw [hs, tm _ _ h4]
      exact ⟨_, _, _, rfl, ⟨hc, h2, h3, hs0.1, hs0.2⟩, Int.emod_nonneg _ (by omega), .inl (Int.emod_lt_of_pos _ (by omega))⟩
    rw [zBm]
    split
    · rename_i h2
      simp only [decide_eq_true_eq] at h2
      obtain ⟨i, rfl⟩ : ∃ i : Nat, a = (i : Int) := ⟨a.toNat, by omega⟩
      have hi : i < c.length := by omega
      have e3 := zBB hi (by omega)
      have e4 : w64 (((i + 1 : Nat) : Int) - 1) = (i : Int) := by rw [zBl (by omega)]; omega
      have hb := zR3 c[i]
      simp only [zBs c i hi, zAr, zGG, e, hs, e2, e3, e4, w8, zBm]
      rw [zBl (by omega)]
      split
      · split
        · exact fin _ _ (by omega) (by omega) (by omega)
        · exact fin _ _ (by omega) (by omega) (by omega)
      · simp only [Bool.false_eq_true, if_false]
        exact fin _ _ (by omega) (by omega) (by omega)
    · exact fin _ _ (by omega) (by omega) (by omega)
theorem nx {β : Type} {c : List UInt8} {a d : Int} (h : OkS c a d) (n : Int) (hn : n < 4611686018427387904) {K : Int × Int × Int → Option β} {Q : β → Prop}
    (hk : ∀ r a' d', OkS c a' d' → 0 ≤ r → (r < n ∨ (r = 0 ∧ n ≤ 1)) → ∃ b, K (r, a', d') = some b ∧ Q b) : ∃ b, bnd (zAE ⟨c, a, d⟩ n) K = some b ∧ Q b := by
  obtain ⟨r, a', d', h1, h2, h3, h4⟩ := zTi c a d n h hn
  rw [h1]
  exact hk r a' d' h2 h3 h4
theorem nxt {α β : Type} {m : Option α} {R : α → Prop} (hm : ∃ x, m = some x ∧ R x) {K : α → Option β} {Q : β → Prop} (hk : ∀ x, R x → ∃ b, K x = some b ∧ Q b) : ∃ b, bnd m K = some b ∧ Q b := by
  obtain ⟨x, rfl, hr⟩ := hm
  exact hk x hr
theorem zHO {α : Type} (xs : List α) (i : Int) (h0 : 0 ≤ i) (h1 : i < (xs.length : Int)) : ∃ x, idx xs i = some x ∧ True := by
  obtain ⟨n, rfl⟩ : ∃ n : Nat, i = (n : Int) := ⟨i.toNat, by omega⟩
  exact ⟨_, zBs xs n (by omega), trivial⟩
theorem zFr {β : Type} {b : Bool} {t e : Option β} {Q : β → Prop} (ht : b = true → ∃ x, t = some x ∧ Q x) (he : b = false → ∃ x, e = some x ∧ Q x) : ∃ x, ifB b t e = some x ∧ Q x := by
  cases b
  · exact he rfl
  · exact ht rfl
end Go.Proofs.YtmmkkcmliofknaaGreatDoor
