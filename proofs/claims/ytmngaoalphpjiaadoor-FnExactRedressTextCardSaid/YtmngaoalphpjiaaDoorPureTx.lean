/- Texts: numbers, redress. -/
import Derived.Test.YtmngaoalphpjiaaDoorPureR
import Derived.Test.YtmngaoalphpjiaaDoorMod4
namespace Go.Proofs.YtmngaoalphpjiaaDoor
open Go
set_option linter.unusedVariables false
set_option linter.unusedSimpArgs false
theorem nDig_le : ∀ (k u : Nat), u < 10 ^ (k + 1) → Lib.nDigits u ≤ k + 1
  | 0, u, h => by rw [Lib.nDigits_small (by simpa using h)]; omega
  | k + 1, u, h => by
    by_cases h1 : u < 10
    · rw [Lib.nDigits_small h1]; omega
    · rw [Lib.nDigits_big h1]
      have := nDig_le k (u / 10) (by rw [Nat.pow_succ] at h; omega)
      omega
def numB (n : Int) : ByteArray := bts (Lib.itoa n)
theorem sz_lit (l : List UInt8) : (⟨l.toArray⟩ : ByteArray).size = l.length := by simp [ByteArray.size]
theorem dec_len (u : Nat) (h : u ≤ 9223372036854775807) : (Lib.decDigits u).length ≤ 20 := by
  rw [Lib.decDigits_length]
  exact nDig_le 19 u (by omega)
theorem numB_nat (u : Nat) : numB (u : Int) = bts (Lib.decDigits u) := by
  unfold numB Lib.itoa
  rw [if_neg (by omega), Int.toNat_natCast]
theorem numB_size (n : Int) (h0 : 0 ≤ n) (h1 : n ≤ 9223372036854775807) : (numB n).size ≤ 20 := by
  obtain ⟨u, rfl⟩ := Int.eq_ofNat_of_zero_le h0
  show (numB (u : Int)).size ≤ 20
  rw [numB_nat, sz_lit]
  exact dec_len u (by omega)
theorem p_text (n : Int) (h0 : -9223372036854775808 ≤ n) (h1 : n ≤ 9223372036854775807) : M.impl_text n = some (numB n) := by
  simp only [M.impl_text, M.strconv_FormatInt]
  rw [chk_pos ⟨by simp, h0, h1⟩]
  rfl
theorem u8_dig (v : Nat) (hv : v ≤ 9223372036854775807) : UInt8.ofNat (IntKind.u8.wrap (w64 (48 + ((v : Int).tmod 10)))).toNat = UInt8.ofNat (48 + v % 10) := by
  have e1 : (v : Int).tmod 10 = ((v % 10 : Nat) : Int) := by rw [Int.tmod_eq_emod_of_nonneg (by omega)]; omega
  rw [e1, w64_of (by omega)]
  have e2 : IntKind.u8.wrap (48 + ((v % 10 : Nat) : Int)) = 48 + ((v % 10 : Nat) : Int) := by
    simp [IntKind.wrap, IntKind.signed, IntKind.bits]
    omega
  rw [e2]
  congr 1
def NumI (u : Nat) (s : List UInt8 × Int) : Prop := ∃ v : Nat, s.2 = (v : Int) ∧ v ≤ u ∧ ((v = 0 ∧ s.1 ≠ [] ∧ s.1 = Lib.decDigits u) ∨ ((0 < v ∨ s.1 = []) ∧ Lib.decDigits v ++ s.1 = Lib.decDigits u))
def numM (s : List UInt8 × Int) : Nat := if s.1 = [] then s.2.toNat + 1 else s.2.toNat
theorem num_step (u v : Nat) (L : List UInt8) (hu : u ≤ 4611686018427387904) (hvu : v ≤ u) (hb : 0 < v ∨ L = []) (hd : Lib.decDigits v ++ L = Lib.decDigits u) :
    ∃ s, M.spec_l26Number_j1 (L, (v : Int)) true = some (.cont s) ∧ NumI u s ∧ numM s < numM (L, (v : Int)) := by
  have hlen := dec_len u (by omega)
  have hLl : L.length ≤ 20 := by
    have := congrArg List.length hd
    rw [List.length_append] at this
    omega
  simp only [M.spec_l26Number_j1, ifB_true, u8_dig v (by omega)]
  rw [chk_pos (by simp; omega)]
  have e3 : w64 ((v : Int).tdiv 10) = ((v / 10 : Nat) : Int) := by
    rw [Int.tdiv_eq_ediv_of_nonneg (by omega), w64_of (by omega)]; omega
  refine ⟨_, rfl, ⟨v / 10, e3, by omega, ?_⟩, ?_⟩
  · by_cases h10 : v < 10
    · left
      refine ⟨by omega, by simp, ?_⟩
      rw [← hd, Lib.decDigits, dif_pos h10, Nat.mod_eq_of_lt h10]
    · right
      refine ⟨.inl (by omega), ?_⟩
      rw [← hd]
      conv => rhs; rw [Lib.decDigits, dif_neg h10]
      simp
  · unfold numM
    simp only [List.cons_append, List.nil_append, reduceCtorEq, if_false, e3, Int.toNat_natCast]
    split
    · omega
    · rcases hb with hb | hb
      · omega
      · contradiction
theorem p_number (n : Int) (h0 : 0 ≤ n) (h1 : n ≤ 4611686018427387904) : M.spec_l26Number n = some (numB n) := by
  obtain ⟨u, rfl⟩ := Int.eq_ofNat_of_zero_le h0
  show M.spec_l26Number (u : Int) = some (numB (u : Int))
  obtain ⟨o, ho, r, hr⟩ := loopF_rule (body := M.spec_l26Number_l1) (s := (([] : List UInt8), (u : Int))) (NumI u) numM (fun o => ∃ r, o = .nxt (Lib.decDigits u, r)) ⟨u, rfl, Nat.le_refl _, .inr ⟨.inr rfl, List.append_nil _⟩⟩ (by simp [numM]; omega)
    (fun s hs => by
      obtain ⟨L, r⟩ := s
      obtain ⟨v, hv, hvu, hI⟩ := hs
      simp only at hv hI
      subst hv
      by_cases hv0 : 0 < v
      · have e1 : decide ((0 : Int) < (v : Int)) = true := decide_eq_true (by omega)
        simp only [M.spec_l26Number_l1, e1, ifB_true]
        rcases hI with ⟨h, _⟩ | ⟨hb, hd⟩
        · omega
        · obtain ⟨s, h1, h2, h3⟩ := num_step u v L (by omega) hvu hb hd
          exact ⟨_, h1, h2, h3⟩
      · have e1 : decide ((0 : Int) < (v : Int)) = false := decide_eq_false (by omega)
        simp only [M.spec_l26Number_l1, e1, ifB_false]
        rcases hI with ⟨h, hne, hL⟩ | ⟨hb, hd⟩
        · have e2 : (((L.length : Nat) : Int) == 0) = false := by
            have : L.length ≠ 0 := fun h => hne (List.eq_nil_of_length_eq_zero h)
            simp; omega
          rw [e2]
          refine ⟨.brk (L, (v : Int)), by simp only [M.spec_l26Number_j1, ifB_false], (v : Int), ?_⟩
          rw [hL]
        · have hLn : L = [] := by rcases hb with hb | hb; omega; exact hb
          have e2 : (((L.length : Nat) : Int) == 0) = true := by rw [hLn]; rfl
          rw [e2]
          obtain ⟨s, h1, h2, h3⟩ := num_step u v L (by omega) hvu hb hd
          exact ⟨_, h1, h2, h3⟩)
  simp only [M.spec_l26Number, ho, bnd_some, hr, outc_nxt, M.spec_l26Number_a1, numB_nat]
theorem p_words3 (k : Int) (h0 : 1 ≤ k) (h1 : k ≤ 3) : ∃ s : ByteArray, s.size ≤ 10 ∧ idx ([(⟨#[97, 108, 108]⟩ : ByteArray), (⟨#[98, 101, 102, 111, 114, 101]⟩ : ByteArray), (⟨#[112, 111, 105, 110, 116, 115]⟩ : ByteArray)] : List ByteArray) (w64 (k - 1)) = some s := by
  have : k = 1 ∨ k = 2 ∨ k = 3 := by omega
  rcases this with rfl | rfl | rfl
  · exact ⟨_, by decide, rfl⟩
  · exact ⟨_, by decide, rfl⟩
  · exact ⟨_, by decide, rfl⟩
theorem sp_sz : (⟨#[32]⟩ : ByteArray).size = 1 := rfl
theorem p_RedressText (x : Redress) : ∃ r, M.spec_RedressText x = some r ∧ M.impl_RedressText x = some r := by
  obtain ⟨ra, bo, ki, po⟩ := x
  simp only [M.spec_RedressText, M.spec_RedressText_j1, M.impl_RedressText, M.impl_isBoat, M.impl_isRedress, M.impl_isRedress_j1, p_l01In, p_within, bnd_some]
  by_cases hR : 0 ≤ ra ∧ ra ≤ 11
  · by_cases hB : 0 ≤ bo ∧ bo ≤ 15
    · simp only [decide_eq_true hR, decide_eq_true hB, Bool.not_true, ifB_false]
      have n1 := numB_size ra hR.1 (by omega)
      have n2 := numB_size bo hB.1 (by omega)
      by_cases hK : 1 ≤ ki ∧ ki ≤ 3
      · simp only [decide_eq_true hK, Bool.not_true, ifB_false]
        obtain ⟨w, hw, hwi⟩ := p_words3 ki hK.1 hK.2
        have sB : ∀ (hP : 0 ≤ po ∧ po ≤ 10000) (hz : ki ≠ 3 → po = 0), ∃ r, M.spec_RedressText_j2 ⟨ra, bo, ki, po⟩ false = some r ∧ M.impl_RedressText_j1 ⟨ra, bo, ki, po⟩ false = some r := fun hP hz => by
          have n3 := numB_size po hP.1 (by omega)
          simp only [M.spec_RedressText_j2, M.impl_RedressText_j1, ifB_false, p_number ra hR.1 (by omega), p_number bo hB.1 (by omega), p_text ra (by omega) (by omega), p_text bo (by omega) (by omega), bnd_some, hwi]
          repeat rw [chk_pos (by simp only [ByteArray.size_append, sp_sz]; omega)]
          by_cases h3 : ki = 3
          · have e3 : (ki == 3) = true := by simpa using h3
            simp only [e3, ifB_true, p_number po hP.1 (by omega), p_text po (by omega) (by omega), bnd_some, M.spec_RedressText_j3, M.impl_RedressText_j2]
            repeat rw [chk_pos (by simp only [ByteArray.size_append, sp_sz]; omega)]
            exact ⟨_, rfl, by simp only [ByteArray.append_assoc]⟩
          · have e3 : (ki == 3) = false := by simpa using h3
            simp only [e3, ifB_false, M.spec_RedressText_j3, M.impl_RedressText_j2]
            exact ⟨_, rfl, rfl⟩
        have sE : ∃ r, M.spec_RedressText_j2 ⟨ra, bo, ki, po⟩ true = some r ∧ M.impl_RedressText_j1 ⟨ra, bo, ki, po⟩ true = some r := ⟨_, rfl, rfl⟩
        by_cases h3 : ki = 3
        · have e3 : (ki == 3) = true := by simpa using h3
          have e4 : (ki != 3) = false := by simpa using h3
          simp only [e3, e4, ifB_true, ifB_false]
          by_cases hP : 0 ≤ po ∧ po ≤ 10000
          · simp only [decide_eq_true hP, Bool.not_true]
            exact sB hP (fun h => absurd h3 h)
          · simp only [decide_eq_false hP, Bool.not_false]
            exact sE
        · have e3 : (ki == 3) = false := by simpa using h3
          have e4 : (ki != 3) = true := by simpa using h3
          have e5 : decide (1 ≤ ki ∧ ki ≤ 2) = true := decide_eq_true (by omega)
          simp only [e3, e4, e5, ifB_true, ifB_false]
          by_cases h0 : po = 0
          · have e6 : (po != 0) = false := by simpa using h0
            have e7 : (po == 0) = true := by simpa using h0
            simp only [e6, e7, ifB_false, decide_eq_true (show 0 ≤ po ∧ po ≤ 10000 by omega), Bool.not_true]
            exact sB (by omega) (fun _ => h0)
          · have e6 : (po != 0) = true := by simpa using h0
            have e7 : (po == 0) = false := by simpa using h0
            simp only [e6, e7, ifB_true, Bool.not_false]
            exact sE
      · have e3 : (ki == 3) = false := by simp; omega
        have e5 : decide (1 ≤ ki ∧ ki ≤ 2) = false := decide_eq_false (by omega)
        simp only [decide_eq_false hK, e3, e5, Bool.not_false, ifB_true, ifB_false]
        exact ⟨_, rfl, rfl⟩
    · simp only [decide_eq_true hR, decide_eq_false hB, Bool.not_true, Bool.not_false, ifB_false, ifB_true]
      exact ⟨_, rfl, rfl⟩
  · simp only [decide_eq_false hR, Bool.not_false, ifB_true]
    exact ⟨_, rfl, rfl⟩
theorem sEq_refl (a : ByteArray) : sEq a a = true := by rw [sEq_iff]; simp
theorem pure_FnExactRedressText (x : Redress) (hx : OkD.ok x) : M.laws_FnExactRedressText x = some true := by
  obtain ⟨r, h1, h2⟩ := p_RedressText x
  have ht : M.laws_toRedress x = some x := rfl
  simp only [M.laws_FnExactRedressText, ht, bnd_some, h1, h2, sEq_refl, Bool.not_true, ifB_false]
end Go.Proofs.YtmngaoalphpjiaaDoor
