/- Texts: numbers, redress. -/
import Derived.Test.YtngegaodnokmbaaDoorPureR
import Derived.Test.YtngegaodnokmbaaDoorMod4
namespace Go.Proofs.YtngegaodnokmbaaDoor
open Go
set_option linter.unusedVariables false
set_option linter.unusedSimpArgs false
theorem nDig_le : ∀ (k u : Nat), u < 10 ^ (k + 1) → Lib.nDigits u ≤ k + 1
  | 0, u, h => by rw [Lib.nDigits_small (by simpa using h)]; omega
  | k + 1, u, h => by
    by_cases h1 : u < 10
    · rw [Lib.nDigits_small h1]; omega
    · rw [Lib.nDigits_big h1]
      have := nDig_le k (u / 10) (by rw [Nat.pow_succ] at h; omega)
      omega
def numB (n : Int) : ByteArray := bts (Lib.itoa n)
theorem sz_lit (l : List UInt8) : (⟨l.toArray⟩ : ByteArray).size = l.length := by simp [ByteArray.size]
theorem dec_len (u : Nat) (h : u ≤ 9223372036854775807) : (Lib.decDigits u).length ≤ 20 := by
  rw [Lib.decDigits_length]
  exact nDig_le 19 u (by omega)
theorem numB_nat (u : Nat) : numB (u : Int) = bts (Lib.decDigits u) := by
  unfold numB Lib.itoa
  rw [if_neg (by omega), Int.toNat_natCast]
theorem numB_size (n : Int) (h0 : 0 ≤ n) (h1 : n ≤ 9223372036854775807) : (numB n).size ≤ 20 := by
  obtain ⟨u, rfl⟩ := Int.eq_ofNat_of_zero_le h0
  show (numB (u : Int)).size ≤ 20
  rw [numB_nat, sz_lit]
  exact dec_len u (by omega)
theorem p_text (n : Int) (h0 : -9223372036854775808 ≤ n) (h1 : n ≤ 9223372036854775807) : M.impl_text n = some (numB n) := by
  simp only [M.impl_text, M.strconv_FormatInt]
  rw [chk_pos ⟨by simp, h0, h1⟩]
  rfl
theorem u8_dig (v : Nat) (hv : v ≤ 9223372036854775807) : UInt8.ofNat (IntKind.u8.wrap (w64 (48 + ((v : Int).tmod 10)))).toNat = UInt8.ofNat (48 + v % 10) := by
  have e1 : (v : Int).tmod 10 = ((v % 10 : Nat) : Int) := by rw [Int.tmod_eq_emod_of_nonneg (by omega)]; omega
  rw [e1, w64_of (by omega)]
  have e2 : IntKind.u8.wrap (48 + ((v % 10 : Nat) : Int)) = 48 + ((v % 10 : Nat) : Int) := by
    simp [IntKind.wrap, IntKind.signed, IntKind.bits]
    omega
  rw [e2]
  congr 1
theorem sp_sz : (⟨#[32]⟩ : ByteArray).size = 1 := rfl
theorem sEq_refl (a : ByteArray) : sEq a a = true := by rw [sEq_iff]; simp
end Go.Proofs.YtngegaodnokmbaaDoor
