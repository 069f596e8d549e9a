/- Reading texts: splitting, cutting, numbers back. -/
import Derived.Test.YtngegaodnokmbaaDoorPureTx3
import Derived.Test.YtngegaodnokmbaaDoorBase11
import Derived.Lib.ParseIntBTie
import Derived.Lib.IndexBytes
namespace Go.Proofs.YtngegaodnokmbaaDoor
open Go
set_option linter.unusedVariables false
set_option linter.unusedSimpArgs false
theorem ba_ext {a b : ByteArray} (h : a.data.toList = b.data.toList) : a = b := ByteArray.ext (Array.toList_inj.1 h)
theorem bts_list (l : List UInt8) : (bts l).data.toList = l := rfl
theorem ba_app (a b : ByteArray) : (a ++ b).data.toList = a.data.toList ++ b.data.toList := by simp [ByteArray.data_append]
theorem ba_len (a : ByteArray) : a.data.toList.length = a.size := Array.length_toList
theorem ib_hit (c : UInt8) : ∀ (a b : List UInt8), c ∉ a → Lib.indexByte (a ++ c :: b) c = (a.length : Int)
  | [], b, _ => by simp [Lib.indexByte]
  | x :: a, b, h => by
    have hx : (x == c) = false := by
      have : x ≠ c := fun hh => h (hh ▸ List.mem_cons_self)
      simpa using this
    have ih := ib_hit c a b (fun hm => h (List.mem_cons_of_mem _ hm))
    have e : ((a.length : Int) == -1) = false := by simp
    simp only [List.cons_append, Lib.indexByte, hx, Bool.false_eq_true, if_false, ih, e, List.length_cons]
    rfl
theorem cut_hit (c : UInt8) (a b : List UInt8) (h : c ∉ a) : Lib.cut (a ++ c :: b) [c] = (a, b, true) := by
  unfold Lib.cut
  rw [Lib.index_one, ib_hit c a b h, if_pos (by omega)]
  have e : ((a.length : Int)).toNat = a.length := by omega
  rw [e]
  simp
theorem joinL_cons (w v : List UInt8) (r : List (List UInt8)) (sep : List UInt8) : Lib.join (w :: v :: r) sep = w ++ (sep ++ Lib.join (v :: r) sep) := by
  rw [Lib.join_cons, Lib.join_cons]
  simp [Lib.joinTail]
theorem joinB_cons (w v : ByteArray) (r : List ByteArray) (sep : ByteArray) : joinB (w :: v :: r) sep = w ++ (sep ++ joinB (v :: r) sep) := by
  unfold joinB
  simp only [List.map_cons, joinL_cons, bts_app, bts_data]
theorem split_join (c : UInt8) : ∀ (W : List ByteArray), W ≠ [] → (∀ w ∈ W, c ∉ w.data.toList) → Lib.splitB (⟨#[c]⟩ : ByteArray) 0 (Lib.countB (joinB W (⟨#[c]⟩ : ByteArray)) (⟨#[c]⟩ : ByteArray)) (joinB W (⟨#[c]⟩ : ByteArray)) = W
  | [], h, _ => absurd rfl h
  | [w], _, hc => by
    have e : Lib.countB w (⟨#[c]⟩ : ByteArray) = 0 := by
      show Lib.count w.data.toList [c] = 0
      rw [Lib.count_one]
      exact List.count_eq_zero.2 (hc w List.mem_cons_self)
    rw [joinB_one, e, Lib.splitB_zero]
  | w :: v :: r, _, hc => by
    have hw := hc w List.mem_cons_self
    have ih := split_join c (v :: r) (by simp) (fun x hx => hc x (List.mem_cons_of_mem _ hx))
    rw [joinB_cons]
    generalize joinB (v :: r) (⟨#[c]⟩ : ByteArray) = t at ih ⊢
    have el : (w ++ ((⟨#[c]⟩ : ByteArray) ++ t)).data.toList = w.data.toList ++ c :: t.data.toList := by
      rw [ba_app, ba_app]; rfl
    have ec : Lib.countB (w ++ ((⟨#[c]⟩ : ByteArray) ++ t)) (⟨#[c]⟩ : ByteArray) = Lib.countB t (⟨#[c]⟩ : ByteArray) + 1 := by
      show Lib.count (w ++ ((⟨#[c]⟩ : ByteArray) ++ t)).data.toList [c] = Lib.count t.data.toList [c] + 1
      rw [Lib.count_one, Lib.count_one, el, List.count_append, List.count_eq_zero.2 hw, List.count_cons_self, Nat.zero_add]
    have ei : Lib.indexB (w ++ ((⟨#[c]⟩ : ByteArray) ++ t)) (⟨#[c]⟩ : ByteArray) = (w.size : Int) := by
      show Lib.index (w ++ ((⟨#[c]⟩ : ByteArray) ++ t)).data.toList [c] = (w.size : Int)
      rw [Lib.index_one, el, ib_hit c _ _ hw, ba_len]
    have e0 : ((w.size : Int) == -1) = false := by simp
    have e1 : ((w.size : Int)).toNat = w.size := by omega
    have x1 : (w ++ ((⟨#[c]⟩ : ByteArray) ++ t)).extract 0 (w.size + 0) = w := by
      apply ba_ext
      rw [ByteArray.data_extract, Array.toList_extract, el, Nat.add_zero, ← ba_len w]
      simp [List.extract]
    have x2 : (w ++ ((⟨#[c]⟩ : ByteArray) ++ t)).extract (w.size + (⟨#[c]⟩ : ByteArray).size) (w ++ ((⟨#[c]⟩ : ByteArray) ++ t)).size = t := by
      apply ba_ext
      rw [Lib.extract_to_end, el, show (⟨#[c]⟩ : ByteArray).size = 1 from rfl, ← ba_len w]
      rw [List.drop_append, List.drop_of_length_le (by omega), Nat.add_sub_cancel_left]
      rfl
    rw [ec]
    unfold Lib.splitB
    rw [ei, e0, e1, x1, x2, ih]
    rfl
def spS (c : UInt8) (st : List (List UInt8) × List UInt8) (b : UInt8) : List (List UInt8) × List UInt8 := if b = c then (st.1 ++ [st.2], []) else (st.1, st.2 ++ [b])
def spF (c : UInt8) (l : List UInt8) : List (List UInt8) × List UInt8 := l.foldl (spS c) ([], [])
def spl (c : UInt8) (l : List UInt8) : List (List UInt8) := (spF c l).1 ++ [(spF c l).2]
theorem spF_snoc (c : UInt8) (l : List UInt8) (b : UInt8) : spF c (l ++ [b]) = spS c (spF c l) b := by simp [spF]
theorem sp_suf (c : UInt8) : ∀ (l p u : List UInt8) (d : List (List UInt8)), ∃ q, p ++ u ++ l = q ++ (l.foldl (spS c) (d, u)).2
  | [], p, u, d => ⟨p, by simp⟩
  | b :: l, p, u, d => by
    simp only [List.foldl_cons]
    by_cases h : b = c
    · obtain ⟨q, hq⟩ := sp_suf c l (p ++ u ++ [b]) [] (d ++ [u])
      refine ⟨q, ?_⟩
      have e : spS c (d, u) b = (d ++ [u], []) := by unfold spS; rw [if_pos h]
      rw [e, ← hq]; simp
    · obtain ⟨q, hq⟩ := sp_suf c l p (u ++ [b]) d
      refine ⟨q, ?_⟩
      have e : spS c (d, u) b = (d, u ++ [b]) := by unfold spS; rw [if_neg h]
      rw [e, ← hq]; simp
theorem spF_suf (c : UInt8) (l : List UInt8) : ∃ q, l = q ++ (spF c l).2 := by
  obtain ⟨q, hq⟩ := sp_suf c l [] [] []
  exact ⟨q, by rw [List.nil_append, List.nil_append] at hq; exact hq⟩
theorem spF_cnt (c : UInt8) : ∀ (l u : List UInt8) (d : List (List UInt8)), (l.foldl (spS c) (d, u)).1.length ≤ d.length + l.length
  | [], u, d => by simp
  | b :: l, u, d => by
    simp only [List.foldl_cons, List.length_cons]
    by_cases h : b = c
    · have e : spS c (d, u) b = (d ++ [u], []) := by unfold spS; rw [if_pos h]
      have := spF_cnt c l [] (d ++ [u])
      rw [e]; simp at this ⊢; omega
    · have e : spS c (d, u) b = (d, u ++ [b]) := by unfold spS; rw [if_neg h]
      have := spF_cnt c l (u ++ [b]) d
      rw [e]; omega
theorem sp_word (c : UInt8) : ∀ (w u : List UInt8) (d : List (List UInt8)), c ∉ w → w.foldl (spS c) (d, u) = (d, u ++ w)
  | [], u, d, _ => by simp
  | b :: w, u, d, h => by
    have hb : b ≠ c := fun hh => h (hh ▸ List.mem_cons_self)
    have e : spS c (d, u) b = (d, u ++ [b]) := by unfold spS; rw [if_neg hb]
    rw [List.foldl_cons, e, sp_word c w _ d (fun hm => h (List.mem_cons_of_mem _ hm))]
    simp
theorem sp_join (c : UInt8) : ∀ (W : List (List UInt8)) (d : List (List UInt8)), W ≠ [] → (∀ w ∈ W, c ∉ w) → ((Lib.join W [c]).foldl (spS c) (d, [])).1 ++ [((Lib.join W [c]).foldl (spS c) (d, [])).2] = d ++ W
  | [], d, h, _ => absurd rfl h
  | [w], d, _, hc => by rw [Lib.join_one, sp_word c w [] d (hc w List.mem_cons_self)]; simp
  | w :: v :: r, d, _, hc => by
    have ih := sp_join c (v :: r) (d ++ [w]) (by simp) (fun x hx => hc x (List.mem_cons_of_mem _ hx))
    have e : spS c (d, [] ++ w) c = (d ++ [[] ++ w], []) := by unfold spS; rw [if_pos rfl]
    rw [joinL_cons, List.foldl_append, sp_word c w [] d (hc w List.mem_cons_self), List.foldl_append, List.foldl_cons, List.foldl_nil, e]
    simp only [List.nil_append]
    rw [ih]
    simp
theorem spl_join (c : UInt8) (W : List (List UInt8)) (h : W ≠ []) (hc : ∀ w ∈ W, c ∉ w) : spl c (Lib.join W [c]) = W := by
  have := sp_join c W [] h hc
  simpa [spl, spF] using this
theorem dec_mem : ∀ (u : Nat), ∀ b ∈ Lib.decDigits u, 48 ≤ b.toNat ∧ b.toNat ≤ 57 := by
  intro u
  induction u using Nat.strongRecOn with
  | _ u ih =>
    intro b hb
    have hd : ∀ v, v < 10 → (UInt8.ofNat (48 + v)).toNat = 48 + v := fun v hv => by rw [UInt8.toNat_ofNat', Nat.mod_eq_of_lt (by omega)]
    rw [Lib.decDigits] at hb
    by_cases h : u < 10
    · rw [dif_pos h] at hb
      rw [List.mem_singleton.1 hb, hd u h]; omega
    · rw [dif_neg h] at hb
      rcases List.mem_append.1 hb with hb | hb
      · exact ih (u / 10) (by omega) b hb
      · rw [List.mem_singleton.1 hb, hd (u % 10) (by omega)]; omega
theorem dec_ne (u : Nat) : Lib.decDigits u ≠ [] := by
  intro h
  have := Lib.nDigits_pos u
  rw [← Lib.decDigits_length, h] at this
  simp at this
theorem pum_snoc (M : Nat) (c : UInt8) : ∀ (l : List UInt8) (acc : Nat), Lib.parseUintM M acc (l ++ [c]) = match Lib.parseUintM M acc l with | .ok a => Lib.parseUintM M a [c] | .«syntax» => .«syntax» | .range => .range
  | [], acc => by simp [Lib.parseUintM]
  | b :: l, acc => by
    simp only [List.cons_append]
    conv => lhs; unfold Lib.parseUintM
    conv => rhs; unfold Lib.parseUintM
    split
    · split
      · rfl
      · split
        · rfl
        · exact pum_snoc M c l _
    · rfl
theorem pum_dec (M : Nat) : ∀ (u : Nat), u ≤ M → u ≤ 9223372036854775807 → Lib.parseUintM M 0 (Lib.decDigits u) = .ok u := by
  intro u
  induction u using Nat.strongRecOn with
  | _ u ih =>
    intro hM hu
    have hd : ∀ v, v < 10 → (UInt8.ofNat (48 + v)).toNat = 48 + v := fun v hv => by rw [UInt8.toNat_ofNat', Nat.mod_eq_of_lt (by omega)]
    have one : ∀ a v, v < 10 → a * 10 + v = u → Lib.parseUintM M a [UInt8.ofNat (48 + v)] = .ok u := fun a v hv ha => by
      unfold Lib.parseUintM
      rw [hd v hv, if_pos (by omega), if_neg (by omega), if_neg (by omega)]
      unfold Lib.parseUintM
      congr 1
      omega
    rw [Lib.decDigits]
    by_cases h : u < 10
    · rw [dif_pos h]
      exact one 0 u h (by omega)
    · rw [dif_neg h, pum_snoc, ih (u / 10) (by omega) (by omega) (by omega)]
      exact one (u / 10) (u % 10) (by omega) (by omega)
theorem parse_dec (u : Nat) (hu : u ≤ 4611686018427387904) : Lib.parseIntB 64 (Lib.decDigits u) = .ok (u : Int) := by
  have hne := dec_ne u
  have hm := dec_mem u
  have hp := pum_dec (2 ^ 64 - 1) u (by omega) (by omega)
  cases hl : Lib.decDigits u with
  | nil => exact absurd hl hne
  | cons c r =>
    rw [hl] at hm hp
    have hc := hm c List.mem_cons_self
    have hpu : Lib.parseUintB 64 (c :: r) = .ok u := by unfold Lib.parseUintB; rw [if_neg (by simp)]; exact hp
    rw [Lib.parseIntB_plain 64 c r (by omega) (by omega), hpu]
    unfold Lib.signlessC
    simp only
    rw [if_neg (by omega)]
def numR (s : ByteArray) : Int × Bool := match Lib.parseIntB 64 s.data.toList with
  | .ok v => if s.size ≤ 19 ∧ numB v = s then (v, true) else (0, false)
  | _ => (0, false)
theorem numR_back (n : Int) (h0 : 0 ≤ n) (h1 : n ≤ 1000000000000000000) : numR (numB n) = (n, true) := by
  obtain ⟨u, rfl⟩ := Int.eq_ofNat_of_zero_le h0
  show numR (numB (u : Int)) = ((u : Int), true)
  have hs : (numB (u : Int)).size ≤ 19 := by
    rw [numB_nat, sz_lit, Lib.decDigits_length]
    exact nDig_le 18 u (by omega)
  unfold numR
  rw [numB_nat, bts_list, parse_dec u (by omega)]
  simp only
  rw [numB_nat] at hs
  rw [if_pos ⟨hs, numB_nat u⟩]
theorem numR_text (s : ByteArray) (h : (numR s).2 = true) : numB (numR s).1 = s := by
  unfold numR at h ⊢
  cases hp : Lib.parseIntB 64 s.data.toList with
  | ok v =>
    rw [hp] at h
    simp only at h ⊢
    split at h
    · rename_i h2
      rw [if_pos h2]
      exact h2.2
    · cases h
  | «syntax» => rw [hp] at h; cases h
  | range => rw [hp] at h; cases h
end Go.Proofs.YtngegaodnokmbaaDoor
