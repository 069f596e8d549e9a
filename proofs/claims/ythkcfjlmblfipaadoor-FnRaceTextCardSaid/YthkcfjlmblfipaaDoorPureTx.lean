/- Texts: numbers, redress. -/
import Derived.Test.YthkcfjlmblfipaaDoorPureR
import Derived.Test.YthkcfjlmblfipaaDoorMod4
namespace Go.Proofs.YthkcfjlmblfipaaDoor
open Go
set_option linter.unusedVariables false
set_option linter.unusedSimpArgs false
theorem nDig_le : ∀ (k u : Nat), u < 10 ^ (k + 1) → Lib.nDigits u ≤ k + 1
  | 0, u, h => by rw [Lib.nDigits_small (by simpa using h)]; omega
  | k + 1, u, h => by
    by_cases h1 : u < 10
    · rw [Lib.nDigits_small h1]; omega
    · rw [Lib.nDigits_big h1]
      have := nDig_le k (u / 10) (by rw [Nat.pow_succ] at h; omega)
      omega
def numB (n : Int) : ByteArray := bts (Lib.itoa n)
theorem sz_lit (l : List UInt8) : (⟨l.toArray⟩ : ByteArray).size = l.length := by simp [ByteArray.size]
theorem dec_len (u : Nat) (h : u ≤ 9223372036854775807) : (Lib.decDigits u).length ≤ 20 := by
  rw [Lib.decDigits_length]
  exact nDig_le 19 u (by omega)
theorem numB_nat (u : Nat) : numB (u : Int) = bts (Lib.decDigits u) := by
  unfold numB Lib.itoa
  rw [if_neg (by omega), Int.toNat_natCast]
theorem numB_size (n : Int) (h0 : 0 ≤ n) (h1 : n ≤ 9223372036854775807) : (numB n).size ≤ 20 := by
  obtain ⟨u, rfl⟩ := Int.eq_ofNat_of_zero_le h0
  show (numB (u : Int)).size ≤ 20
  rw [numB_nat, sz_lit]
  exact dec_len u (by omega)
theorem p_text (n : Int) (h0 : -9223372036854775808 ≤ n) (h1 : n ≤ 9223372036854775807) : M.impl_text n = some (numB n) := by
  simp only [M.impl_text, M.strconv_FormatInt]
  rw [chk_pos ⟨by simp, h0, h1⟩]
  rfl
theorem u8_dig (v : Nat) (hv : v ≤ 9223372036854775807) : UInt8.ofNat (IntKind.u8.wrap (w64 (48 + ((v : Int).tmod 10)))).toNat = UInt8.ofNat (48 + v % 10) := by
  have e1 : (v : Int).tmod 10 = ((v % 10 : Nat) : Int) := by rw [Int.tmod_eq_emod_of_nonneg (by omega)]; omega
  rw [e1, w64_of (by omega)]
  have e2 : IntKind.u8.wrap (48 + ((v % 10 : Nat) : Int)) = 48 + ((v % 10 : Nat) : Int) := by
    simp [IntKind.wrap, IntKind.signed, IntKind.bits]
    omega
  rw [e2]
  congr 1
def NumI (u : Nat) (s : List UInt8 × Int) : Prop := ∃ v : Nat, s.2 = (v : Int) ∧ v ≤ u ∧ ((v = 0 ∧ s.1 ≠ [] ∧ s.1 = Lib.decDigits u) ∨ ((0 < v ∨ s.1 = []) ∧ Lib.decDigits v ++ s.1 = Lib.decDigits u))
def numM (s : List UInt8 × Int) : Nat := if s.1 = [] then s.2.toNat + 1 else s.2.toNat
theorem num_step (u v : Nat) (L : List UInt8) (hu : u ≤ 4611686018427387904) (hvu : v ≤ u) (hb : 0 < v ∨ L = []) (hd : Lib.decDigits v ++ L = Lib.decDigits u) :
    ∃ s, M.spec_l26Number_j1 (L, (v : Int)) true = some (.cont s) ∧ NumI u s ∧ numM s < numM (L, (v : Int)) := by
  have hlen := dec_len u (by omega)
  have hLl : L.length ≤ 20 := by
    have := congrArg List.length hd
    rw [List.length_append] at this
    omega
  simp only [M.spec_l26Number_j1, ifB_true, u8_dig v (by omega)]
  rw [chk_pos (by simp; omega)]
  have e3 : w64 ((v : Int).tdiv 10) = ((v / 10 : Nat) : Int) := by
    rw [Int.tdiv_eq_ediv_of_nonneg (by omega), w64_of (by omega)]; omega
  refine ⟨_, rfl, ⟨v / 10, e3, by omega, ?_⟩, ?_⟩
  · by_cases h10 : v < 10
    · left
      refine ⟨by omega, by simp, ?_⟩
      rw [← hd, Lib.decDigits, dif_pos h10, Nat.mod_eq_of_lt h10]
    · right
      refine ⟨.inl (by omega), ?_⟩
      rw [← hd]
      conv => rhs; rw [Lib.decDigits, dif_neg h10]
      simp
  · unfold numM
    simp only [List.cons_append, List.nil_append, reduceCtorEq, if_false, e3, Int.toNat_natCast]
    split
    · omega
    · rcases hb with hb | hb
      · omega
      · contradiction
theorem p_number (n : Int) (h0 : 0 ≤ n) (h1 : n ≤ 4611686018427387904) : M.spec_l26Number n = some (numB n) := by
  obtain ⟨u, rfl⟩ := Int.eq_ofNat_of_zero_le h0
  show M.spec_l26Number (u : Int) = some (numB (u : Int))
  obtain ⟨o, ho, r, hr⟩ := loopF_rule (body := M.spec_l26Number_l1) (s := (([] : List UInt8), (u : Int))) (NumI u) numM (fun o => ∃ r, o = .nxt (Lib.decDigits u, r)) ⟨u, rfl, Nat.le_refl _, .inr ⟨.inr rfl, List.append_nil _⟩⟩ (by simp [numM]; omega)
    (fun s hs => by
      obtain ⟨L, r⟩ := s
      obtain ⟨v, hv, hvu, hI⟩ := hs
      simp only at hv hI
      subst hv
      by_cases hv0 : 0 < v
      · have e1 : decide ((0 : Int) < (v : Int)) = true := decide_eq_true (by omega)
        simp only [M.spec_l26Number_l1, e1, ifB_true]
        rcases hI with ⟨h, _⟩ | ⟨hb, hd⟩
        · omega
        · obtain ⟨s, h1, h2, h3⟩ := num_step u v L (by omega) hvu hb hd
          exact ⟨_, h1, h2, h3⟩
      · have e1 : decide ((0 : Int) < (v : Int)) = false := decide_eq_false (by omega)
        simp only [M.spec_l26Number_l1, e1, ifB_false]
        rcases hI with ⟨h, hne, hL⟩ | ⟨hb, hd⟩
        · have e2 : (((L.length : Nat) : Int) == 0) = false := by
            have : L.length ≠ 0 := fun h => hne (List.eq_nil_of_length_eq_zero h)
            simp; omega
          rw [e2]
          refine ⟨.brk (L, (v : Int)), by simp only [M.spec_l26Number_j1, ifB_false], (v : Int), ?_⟩
          rw [hL]
        · have hLn : L = [] := by rcases hb with hb | hb; omega; exact hb
          have e2 : (((L.length : Nat) : Int) == 0) = true := by rw [hLn]; rfl
          rw [e2]
          obtain ⟨s, h1, h2, h3⟩ := num_step u v L (by omega) hvu hb hd
          exact ⟨_, h1, h2, h3⟩)
  simp only [M.spec_l26Number, ho, bnd_some, hr, outc_nxt, M.spec_l26Number_a1, numB_nat]
theorem sp_sz : (⟨#[32]⟩ : ByteArray).size = 1 := rfl
theorem sEq_refl (a : ByteArray) : sEq a a = true := by rw [sEq_iff]; simp
end Go.Proofs.YthkcfjlmblfipaaDoor
