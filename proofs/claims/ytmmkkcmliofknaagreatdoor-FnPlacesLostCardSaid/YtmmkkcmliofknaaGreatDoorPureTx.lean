/- Texts: numbers, redress. -/
import Derived.Test.YtmmkkcmliofknaaGreatDoorPureR
import Derived.Test.YtmmkkcmliofknaaGreatDoorMod4
namespace Go.Proofs.YtmmkkcmliofknaaGreatDoor
open Go
set_option linter.unusedVariables false
set_option linter.unusedSimpArgs false
theorem zP1 : ∀ (k u : Nat), u < 10 ^ (k + 1) → Lib.nDigits u ≤ k + 1
  | 0, u, h => by rw [Lib.nDigits_small (by simpa using h)]; omega
  | k + 1, u, h => by
    by_cases h1 : u < 10
    · rw [Lib.nDigits_small h1]; omega
    · rw [Lib.nDigits_big h1]
      have := zP1 k (u / 10) (by rw [Nat.pow_succ] at h; omega)
      omega
def zLX (n : Int) : ByteArray := bts (Lib.itoa n)
theorem zTj (l : List UInt8) : (⟨l.toArray⟩ : ByteArray).size = l.length := by simp [ByteArray.size]
theorem zP2 (u : Nat) (h : u ≤ 9223372036854775807) : (Lib.decDigits u).length ≤ 20 := by
  rw [Lib.decDigits_length]
  exact zP1 19 u (by omega)
theorem zOX (u : Nat) : zLX (u : Int) = bts (Lib.decDigits u) := by
  unfold zLX Lib.itoa
  rw [if_neg (by omega), Int.toNat_natCast]
theorem zMA (n : Int) (h0 : 0 ≤ n) (h1 : n ≤ 9223372036854775807) : (zLX n).size ≤ 20 := by
  obtain ⟨u, rfl⟩ := Int.eq_ofNat_of_zero_le h0
  show (zLX (u : Int)).size ≤ 20
  rw [zOX, zTj]
  exact zP2 u (by omega)
theorem zPx (n : Int) (h0 : -9223372036854775808 ≤ n) (h1 : n ≤ 9223372036854775807) : zHR n = some (zLX n) := by
  simp only [zHR, zHn]
  rw [zBf ⟨by simp, h0, h1⟩]
  rfl
theorem zTk (v : Nat) (hv : v ≤ 9223372036854775807) : UInt8.ofNat (IntKind.u8.wrap (w64 (48 + ((v : Int).tmod 10)))).toNat = UInt8.ofNat (48 + v % 10) := by
  have e1 : (v : Int).tmod 10 = ((v % 10 : Nat) : Int) := by rw [Int.tmod_eq_emod_of_nonneg (by omega)]; omega
  rw [e1, zBl (by omega)]
  have e2 : IntKind.u8.wrap (48 + ((v % 10 : Nat) : Int)) = 48 + ((v % 10 : Nat) : Int) := by
    simp [IntKind.wrap, IntKind.signed, IntKind.bits]
    omega
  rw [e2]
  congr 1
def zTT (u : Nat) (s : List UInt8 × Int) : Prop := ∃ v : Nat, s.2 = (v : Int) ∧ v ≤ u ∧ ((v = 0 ∧ s.1 ≠ [] ∧ s.1 = Lib.decDigits u) ∨ ((0 < v ∨ s.1 = []) ∧ Lib.decDigits v ++ s.1 = Lib.decDigits u))
def zR6 (s : List UInt8 × Int) : Nat := if s.1 = [] then s.2.toNat + 1 else s.2.toNat
theorem zOY (u v : Nat) (L : List UInt8) (hu : u ≤ 4611686018427387904) (hvu : v ≤ u) (hb : 0 < v ∨ L = []) (hd : Lib.decDigits v ++ L = Lib.decDigits u) :
    ∃ s, zDj (L, (v : Int)) true = some (.cont s) ∧ zTT u s ∧ zR6 s < zR6 (L, (v : Int)) := by
  have hlen := zP2 u (by omega)
  have hLl : L.length ≤ 20 := by
    have := congrArg List.length hd
    rw [List.length_append] at this
    omega
  simp only [zDj, zAy, zTk v (by omega)]
  rw [zBf (by simp; omega)]
  have e3 : w64 ((v : Int).tdiv 10) = ((v / 10 : Nat) : Int) := by
    rw [Int.tdiv_eq_ediv_of_nonneg (by omega), zBl (by omega)]; omega
  refine ⟨_, rfl, ⟨v / 10, e3, by omega, ?_⟩, ?_⟩
  · by_cases h10 : v < 10
    · left
      refine ⟨by omega, by simp, ?_⟩
      rw [← hd, Lib.decDigits, dif_pos h10, Nat.mod_eq_of_lt h10]
    · right
      refine ⟨.inl (by omega), ?_⟩
      rw [← hd]
      conv => rhs; rw [Lib.decDigits, dif_neg h10]
      simp
  · unfold zR6
    simp only [List.cons_append, List.nil_append, reduceCtorEq, if_false, e3, Int.toNat_natCast]
    split
    · omega
    · rcases hb with hb | hb
      · omega
      · contradiction
theorem zNl (n : Int) (h0 : 0 ≤ n) (h1 : n ≤ 4611686018427387904) : zC1 n = some (zLX n) := by
  obtain ⟨u, rfl⟩ := Int.eq_ofNat_of_zero_le h0
  show zC1 (u : Int) = some (zLX (u : Int))
  obtain ⟨o, ho, r, hr⟩ := zO7 (body := zFO) (s := (([] : List UInt8), (u : Int))) (zTT u) zR6 (fun o => ∃ r, o = .nxt (Lib.decDigits u, r)) ⟨u, rfl, Nat.le_refl _, .inr ⟨.inr rfl, List.append_nil _⟩⟩ (by simp [zR6]; omega)
    (fun s hs => by
      obtain ⟨L, r⟩ := s
      obtain ⟨v, hv, hvu, hI⟩ := hs
      simp only at hv hI
      subst hv
      by_cases hv0 : 0 < v
      · have e1 : decide ((0 : Int) < (v : Int)) = true := decide_eq_true (by omega)
        simp only [zFO, e1, zAy]
        rcases hI with ⟨h, _⟩ | ⟨hb, hd⟩
        · omega
        · obtain ⟨s, h1, h2, h3⟩ := zOY u v L (by omega) hvu hb hd
          exact ⟨_, h1, h2, h3⟩
      · have e1 : decide ((0 : Int) < (v : Int)) = false := decide_eq_false (by omega)
        simp only [zFO, e1, zAG]
        rcases hI with ⟨h, hne, hL⟩ | ⟨hb, hd⟩
        · have e2 : (((L.length : Nat) : Int) == 0) = false := by
            have : L.length ≠ 0 := fun h => hne (List.eq_nil_of_length_eq_zero h)
            simp; omega
          rw [e2]
          refine ⟨.brk (L, (v : Int)), by simp only [zDj, zAG], (v : Int), ?_⟩
          rw [hL]
        · have hLn : L = [] := by rcases hb with hb | hb; omega; exact hb
          have e2 : (((L.length : Nat) : Int) == 0) = true := by rw [hLn]; rfl
          rw [e2]
          obtain ⟨s, h1, h2, h3⟩ := zOY u v L (by omega) hvu hb hd
          exact ⟨_, h1, h2, h3⟩)
  simp only [zC1, ho, zAr, hr, zBx, zFN, zOX]
theorem zR7 (a : ByteArray) : sEq a a = true := by rw [zSu]; simp
end Go.Proofs.YtmmkkcmliofknaaGreatDoor
