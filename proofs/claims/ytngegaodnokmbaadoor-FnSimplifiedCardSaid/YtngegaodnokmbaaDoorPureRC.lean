/- Reading curves. -/
import Derived.Test.YtngegaodnokmbaaDoorPureRR2
namespace Go.Proofs.YtngegaodnokmbaaDoor
open Go
set_option linter.unusedVariables false
set_option linter.unusedSimpArgs false
theorem p_l01Split (s : ByteArray) (c : UInt8) (h : s.size ≤ 4294967296) : M.spec_l01Split s c = some ((spl c s.data.toList).map bts) := (show M.spec_l01Split s c = M.spec_l26Split s c from rfl).trans (p_l26Split s c h)
theorem idx_dec (c : UInt8) (l : List UInt8) (h : 0 ≤ Lib.index l [c]) : l = l.take (Lib.index l [c]).toNat ++ c :: l.drop ((Lib.index l [c]).toNat + 1) := by
  rcases Lib.index_spec l [c] with ⟨h1, _⟩ | ⟨i, h1, h2, h3, _⟩
  · omega
  · rw [h1, Int.toNat_natCast]
    unfold Lib.occAt at h3
    cases hd : l.drop i with
    | nil => rw [hd] at h3; simp at h3
    | cons b r =>
      rw [hd] at h3
      have hb : c = b := by simpa using h3
      subst hb
      have e : l.drop (i + 1) = r := by
        have := congrArg (List.drop 1) hd
        rw [List.drop_drop] at this
        simpa [Nat.add_comm] using this
      rw [e, ← hd, List.take_append_drop]
theorem split_ne (sep : ByteArray) (k : Nat) (s : ByteArray) : Lib.splitB sep 0 k s ≠ [] := by
  cases k with
  | zero => rw [Lib.splitB_zero]; simp
  | succ k => unfold Lib.splitB; split <;> simp
theorem join_split (c : UInt8) : ∀ (k : Nat) (s : ByteArray), joinB (Lib.splitB (⟨#[c]⟩ : ByteArray) 0 k s) (⟨#[c]⟩ : ByteArray) = s
  | 0, s => by rw [Lib.splitB_zero, joinB_one]
  | k + 1, s => by
    unfold Lib.splitB
    by_cases h : Lib.indexB s (⟨#[c]⟩ : ByteArray) = -1
    · rw [h]; exact joinB_one _ _
    · have h0 : (Lib.indexB s (⟨#[c]⟩ : ByteArray) == -1) = false := by simpa using h
      have hge := Lib.index_ge s.data.toList [c]
      have hi : 0 ≤ Lib.index s.data.toList [c] := by
        have h' : ¬ Lib.index s.data.toList [c] = -1 := h
        omega
      have hd := idx_dec c s.data.toList hi
      have hx : Lib.indexB s (⟨#[c]⟩ : ByteArray) = Lib.index s.data.toList [c] := rfl
      rw [h0, if_neg (by simp), hx]
      generalize (Lib.index s.data.toList [c]).toNat = i at hd
      have ih := join_split c k (s.extract (i + (⟨#[c]⟩ : ByteArray).size) s.size)
      have hne := split_ne (⟨#[c]⟩ : ByteArray) k (s.extract (i + (⟨#[c]⟩ : ByteArray).size) s.size)
      generalize Lib.splitB (⟨#[c]⟩ : ByteArray) 0 k (s.extract (i + (⟨#[c]⟩ : ByteArray).size) s.size) = R at ih hne
      cases R with
      | nil => exact absurd rfl hne
      | cons v r =>
        rw [joinB_cons, ih]
        apply ba_ext
        rw [ba_app, ba_app, Lib.extract_to_end, show (⟨#[c]⟩ : ByteArray).size = 1 from rfl]
        have e : (s.extract 0 (i + 0)).data.toList = s.data.toList.take i := by
          rw [ByteArray.data_extract, Array.toList_extract]
          simp [List.extract]
        rw [e]
        exact hd.symm
theorem cut_inv (c : UInt8) (w : List UInt8) (h : (Lib.cut w [c]).2.1 ≠ []) : w = (Lib.cut w [c]).1 ++ c :: (Lib.cut w [c]).2.1 := by
  unfold Lib.cut at h ⊢
  by_cases h0 : 0 ≤ Lib.index w [c]
  · rw [if_pos h0]
    exact idx_dec c w h0
  · rw [if_neg h0] at h
    exact absurd rfl h
theorem u8sub (n : Nat) (h0 : 48 ≤ n) (h1 : n ≤ 57) : IntKind.i64.wrap (IntKind.u8.wrap (((n : Nat) : Int) - 48)) = (n : Int) - 48 := by
  have e : IntKind.u8.wrap (((n : Nat) : Int) - 48) = (n : Int) - 48 := by simp [IntKind.wrap, IntKind.signed, IntKind.bits]; omega
  rw [e]
  exact w64_of (by omega)
theorem pow15 (i : Nat) (h : i ≤ 15) : (10 : Int) ^ i ≤ 1000000000000000 := by
  by_cases h2 : i ≤ 12
  · have := pow12 i h2; omega
  · have : i = 13 ∨ i = 14 ∨ i = 15 := by omega
    rcases this with rfl | rfl | rfl <;> decide
theorem p_signed (n : Int) (h0 : -4611686018427387904 ≤ n) (h1 : n ≤ 4611686018427387904) : ∃ t, M.spec_l01Signed n = some t := by
  unfold M.spec_l01Signed
  by_cases h : n < 0
  · rw [decide_eq_true h, ifB_true, w64_of (by omega), p_l01Number (0 - n) (by omega) (by omega), bnd_some]
    have := numB_size (0 - n) (by omega) (by omega)
    rw [chk_pos (by have e : (⟨#[45]⟩ : ByteArray).size = 1 := rfl; omega)]
    exact ⟨_, rfl⟩
  · rw [decide_eq_false h, ifB_false, p_l01Number n (by omega) (by omega)]
    exact ⟨_, rfl⟩
theorem p_l01Value (s : ByteArray) : ∃ r, M.spec_l01Value s = some r := by
  have j3 : ∀ n : Int, -4611686018427387904 ≤ n → n ≤ 4611686018427387904 → ∃ r, M.spec_l01Value_j3 s n = some r := fun n h0 h1 => by
    obtain ⟨t, ht⟩ := p_signed n h0 h1
    simp only [M.spec_l01Value_j3, ht, bnd_some]
    generalize sEq t s = q
    cases q <;> exact ⟨_, rfl⟩
  have j1 : ∀ d : ByteArray, ∃ r, M.spec_l01Value_j1 s d = some r := fun d => by
    unfold M.spec_l01Value_j1
    by_cases h1 : (d.size : Int) < 1
    · rw [decide_eq_true h1, ifB_true]; exact ⟨_, rfl⟩
    · rw [decide_eq_false h1, ifB_false]
      unfold M.spec_l01Value_j2
      by_cases h15 : (15 : Int) < (d.size : Int)
      · rw [decide_eq_true h15, ifB_true]; exact ⟨_, rfl⟩
      · rw [decide_eq_false h15, ifB_false]
        obtain ⟨o, ho, hq⟩ := loop_count (body := M.spec_l01Value_l1 d) (s := ((0 : Int), (0 : Int))) d.size (by omega)
          (fun i t => ∃ v, t = (v, (i : Int)) ∧ 0 ≤ v ∧ v < 10 ^ i) (fun o => (∃ r, o = .ret r) ∨ ∃ v k, o = .nxt (v, k) ∧ 0 ≤ v ∧ v ≤ 1000000000000000) ⟨0, rfl, by omega, by decide⟩
          (fun i t hi ht => by
            obtain ⟨v, rfl, v0, v1⟩ := ht
            have hp := pow15 i (by omega)
            have hat := strAt_lt d i (by rw [ba_len]; exact hi)
            generalize d.data.toList[i]'(by rw [ba_len]; exact hi) = b at hat
            simp only [M.spec_l01Value_l1, decide_eq_true (show (i : Int) < (d.size : Int) by omega), ifB_true, hat, bnd_some]
            by_cases h1 : (b.toNat : Int) < 48
            · rw [decide_eq_true h1, ifB_true]
              exact ⟨_, rfl, .inl ⟨_, rfl⟩⟩
            · rw [decide_eq_false h1, ifB_false]
              by_cases h2 : (57 : Int) < (b.toNat : Int)
              · rw [decide_eq_true h2]
                exact ⟨_, rfl, .inl ⟨_, rfl⟩⟩
              · rw [decide_eq_false h2]
                simp only [M.spec_l01Value_j4, ifB_false, hat, bnd_some, u8sub b.toNat (by omega) (by omega), step64 hi (by omega)]
                rw [w64_of (n := 10 * v) (by omega), w64_of (by omega)]
                exact ⟨_, rfl, _, rfl, by omega, by rw [Int.pow_succ]; omega⟩)
          (fun t ht => by
            obtain ⟨v, rfl, v0, v1⟩ := ht
            have hp := pow15 d.size (by omega)
            refine ⟨.brk (v, ((d.size : Nat) : Int)), by simp only [M.spec_l01Value_l1, decide_eq_false (show ¬ ((d.size : Nat) : Int) < (d.size : Int) by omega), ifB_false], ?_⟩
            exact Or.inr ⟨v, _, rfl, v0, by omega⟩)
        rw [ho]
        rcases hq with ⟨r, rfl⟩ | ⟨v, k, rfl, v0, v1⟩
        · exact ⟨_, rfl⟩
        · simp only [bnd_some, outc_nxt, M.spec_l01Value_a1]
          by_cases hd : (d.size : Int) < (s.size : Int)
          · rw [decide_eq_true hd, ifB_true, w64_of (by omega)]
            exact j3 _ (by omega) (by omega)
          · rw [decide_eq_false hd, ifB_false]
            exact j3 _ (by omega) (by omega)
  unfold M.spec_l01Value
  by_cases h0 : (0 : Int) < (s.size : Int)
  · have hat := strAt_lt s 0 (by rw [ba_len]; omega)
    rw [decide_eq_true h0, ifB_true]
    have hat' : strAt s 0 = some (((s.data.toList[0]'(by rw [ba_len]; omega)).toNat : Nat) : Int) := hat
    rw [hat', bnd_some]
    unfold M.spec_l01Value_j5
    generalize ((((s.data.toList[0]'(by rw [ba_len]; omega)).toNat : Nat) : Int) == 45) = q
    cases q with
    | true => rw [ifB_true, chk_pos (by omega)]; exact j1 _
    | false => rw [ifB_false]; exact j1 _
  · rw [decide_eq_false h0, ifB_false]
    unfold M.spec_l01Value_j5
    rw [ifB_false]
    exact j1 _
theorem value_back (n : Int) (h0 : 0 ≤ n) (h1 : n ≤ 100000000000) : M.spec_l01Value (numB n) = some (n, true) := by
  obtain ⟨u, rfl⟩ := Int.eq_ofNat_of_zero_le h0
  show M.spec_l01Value (numB (u : Int)) = some ((u : Int), true)
  have hm := dec_mem u
  have hne := dec_ne u
  have hsz : (numB (u : Int)).size = (Lib.decDigits u).length := by rw [numB_nat, sz_lit]
  have h12 : (Lib.decDigits u).length ≤ 12 := by rw [Lib.decDigits_length]; exact nDig_le 11 u (by omega)
  have hdl : (numB (u : Int)).data.toList = Lib.decDigits u := by rw [numB_nat]
  have hpos : 0 < (Lib.decDigits u).length := List.length_pos_iff.2 hne
  have hl : loopF (M.spec_l01Value_l1 (numB (u : Int))) ((0 : Int), (0 : Int)) = some (.nxt ((u : Int), ((Lib.decDigits u).length : Int))) := by
    have e0 : (u : Int) = dv ((Lib.decDigits u).take (Lib.decDigits u).length) := by rw [List.take_length, dv_dec]
    conv => rhs; rw [e0]
    refine loop_run (Lib.decDigits u).length (by omega) (fun i => (dv ((Lib.decDigits u).take i), (i : Int))) _ (by simp [dv]) (fun i hi => ?_) ?_
    · have hat := strAt_lt (numB (u : Int)) i (by rw [hdl]; exact hi)
      have e : (numB (u : Int)).data.toList[i]'(by rw [hdl]; exact hi) = (Lib.decDigits u)[i] := by simp only [hdl]
      rw [e] at hat
      have hb := hm _ (List.getElem_mem hi)
      have hv := dv_bd i _ hm h12 (by omega)
      have hp := pow12 i (by omega)
      simp only [M.spec_l01Value_l1, decide_eq_true (show (i : Int) < ((numB (u : Int)).size : Int) by omega), ifB_true, hat, bnd_some, decide_eq_false (show ¬ (((Lib.decDigits u)[i].toNat : Nat) : Int) < 48 by omega), ifB_false, decide_eq_false (show ¬ (57 : Int) < (((Lib.decDigits u)[i].toNat : Nat) : Int) by omega), M.spec_l01Value_j4, u8sub _ hb.1 hb.2, step64 hi (by omega)]
      rw [w64_of (n := 10 * dv ((Lib.decDigits u).take i)) (by omega), w64_of (by omega), List.take_succ_eq_append_getElem hi, dv_snoc]
    · simp only [M.spec_l01Value_l1, decide_eq_false (show ¬ (((Lib.decDigits u).length : Nat) : Int) < ((numB (u : Int)).size : Int) by omega), ifB_false]
  have hat := strAt_lt (numB (u : Int)) 0 (by rw [hdl]; exact hpos)
  have e : (numB (u : Int)).data.toList[0]'(by rw [hdl]; exact hpos) = (Lib.decDigits u)[0] := by simp only [hdl]
  rw [e] at hat
  have hb := hm _ (List.getElem_mem hpos)
  have hat' : strAt (numB (u : Int)) 0 = some (((Lib.decDigits u)[0].toNat : Nat) : Int) := hat
  have e45 : ((((Lib.decDigits u)[0].toNat : Nat) : Int) == 45) = false := by simp; omega
  unfold M.spec_l01Value
  rw [decide_eq_true (show (0 : Int) < ((numB (u : Int)).size : Int) by omega), ifB_true, hat', bnd_some, e45]
  unfold M.spec_l01Value_j5
  rw [ifB_false]
  unfold M.spec_l01Value_j1
  rw [decide_eq_false (show ¬ ((numB (u : Int)).size : Int) < 1 by omega), ifB_false]
  unfold M.spec_l01Value_j2
  rw [decide_eq_false (show ¬ (15 : Int) < ((numB (u : Int)).size : Int) by omega), ifB_false, hl]
  simp only [bnd_some, outc_nxt, M.spec_l01Value_a1, decide_eq_false (show ¬ ((numB (u : Int)).size : Int) < ((numB (u : Int)).size : Int) by omega), ifB_false, M.spec_l01Value_j3, M.spec_l01Signed, decide_eq_false (show ¬ ((u : Nat) : Int) < 0 by omega), p_l01Number (u : Int) h0 (by omega), sEq_refl, Bool.not_true]
def p1 (w : ByteArray) : Int × Bool := numR (bts (Lib.cut w.data.toList [58]).1)
def p2 (w : ByteArray) : Int × Bool := numR (bts (Lib.cut w.data.toList [58]).2.1)
def ptC (w : ByteArray) : CurvePoint := ⟨(p1 w).1, (p2 w).1⟩
def badW (w : ByteArray) : Bool := !(p1 w).2 || !(p2 w).2
theorem p_readC (W : List ByteArray) (hW : W.length ≤ 1048577) (hs : ∀ w ∈ W, w.size ≤ 1048576) : loopF (M.impl_ReadCurve_l1 W) (([] : List CurvePoint), 0) = some (if ∀ i, i < W.length → badW (W.getD i ByteArray.empty) = false then .nxt (W.map ptC, (W.length : Int)) else .ret ([], false)) := by
  have e0 : W.map ptC = (W.take W.length).map ptC := by rw [List.take_length]
  rw [e0]
  refine loop_find W.length (by omega) (fun i => ((W.take i).map ptC, (i : Int))) (fun i => badW (W.getD i ByteArray.empty)) ([], false) _ rfl (fun i hi => ?_) (by simp [M.impl_ReadCurve_l1])
  have g1 : (i : Int) < (W.length : Int) := by omega
  have hw := hs W[i] (List.getElem_mem hi)
  have hc := cut_len W[i].data.toList [58]
  rw [ba_len] at hc
  have hcut : M.strings_Cut W[i] (⟨#[58]⟩ : ByteArray) = some (bts (Lib.cut W[i].data.toList [58]).1, bts (Lib.cut W[i].data.toList [58]).2.1, (Lib.cut W[i].data.toList [58]).2.2) := by
    unfold M.strings_Cut
    rw [chk_pos (by omega)]
  have hg : W.getD i ByteArray.empty = W[i] := by simp [List.getD, hi]
  have n1 : M.impl_number (bts (Lib.cut W[i].data.toList [58]).1) = some (p1 W[i]) := p_number2 _ (by rw [sz_lit]; omega)
  have n2 : M.impl_number (bts (Lib.cut W[i].data.toList [58]).2.1) = some (p2 W[i]) := p_number2 _ (by rw [sz_lit]; omega)
  have hlen : ((W.take i).map ptC).length + ([(CurvePoint.mk (p1 W[i]).1 (p2 W[i]).1)] : List CurvePoint).length < 1099511627776 := by rw [List.length_map, List.length_take, List.length_singleton]; omega
  simp only [M.impl_ReadCurve_l1, g1, decide_true, ifB_true, idx_lt W i hi, bnd_some, hcut, n1, n2, hg]
  have hmap : (W.take (i + 1)).map ptC = (W.take i).map ptC ++ [ptC W[i]] := by rw [List.take_succ_eq_append_getElem hi, List.map_append]; rfl
  rw [hmap]
  unfold badW
  cases h1 : (p1 W[i]).2 with
  | false => rfl
  | true =>
    cases h2 : (p2 W[i]).2 with
    | false => rfl
    | true =>
      simp only [Bool.not_true, ifB_false, M.impl_ReadCurve_j1, Bool.or_self, Bool.false_eq_true, if_false]
      rw [chk_pos hlen, step64 hi (by omega)]
      rfl
theorem wdC_back (p : CurvePoint) (h1 : 0 ≤ p.Wind ∧ p.Wind ≤ 1000000) (h2 : 0 ≤ p.Pace ∧ p.Pace ≤ 1000000) : p1 (wdC p) = (p.Wind, true) ∧ p2 (wdC p) = (p.Pace, true) := by
  have hf := num_free p.Wind h1.1 58 (by decide)
  have e : (wdC p).data.toList = (numB p.Wind).data.toList ++ 58 :: (numB p.Pace).data.toList := by
    unfold wdC
    rw [ba_app, ba_app]
    simp
  unfold p1 p2
  rw [e, cut_hit 58 _ _ hf]
  simp only [bts_data]
  exact ⟨numR_back _ h1.1 (by omega), numR_back _ h2.1 (by omega)⟩
theorem wdC_free (p : CurvePoint) (h1 : 0 ≤ p.Wind) (h2 : 0 ≤ p.Pace) : (32 : UInt8) ∉ (wdC p).data.toList := by
  unfold wdC
  rw [ba_app, ba_app]
  intro hm
  rcases List.mem_append.1 hm with hm | hm
  · rcases List.mem_append.1 hm with hm | hm
    · exact num_free p.Wind h1 32 (by decide) hm
    · revert hm; decide
  · exact num_free p.Pace h2 32 (by decide) hm
theorem l_specCurve2 (xs : List CurvePoint) (h : xs.length ≤ 2097152) : loopF (M.spec_IsCurve_l1 xs) 0 = some (if ∀ i, i < xs.length → badPoint xs i = false then .nxt (xs.length : Int) else .ret false) := by
  refine loop_find xs.length (by omega) (fun i => (i : Int)) (badPoint xs) false _ rfl (fun i hi => ?_) ?_
  · have h1 : ((i : Int) < (xs.length : Int)) := by omega
    simp only [M.spec_IsCurve_l1, M.spec_IsCurve_j2, M.spec_IsCurve_j3, h1, decide_true, ifB_true, idx_lt xs i hi, bnd_some, p_l01In, step64 hi (by omega), ifB_if]
    unfold badPoint
    simp only [List.getElem?_eq_getElem hi]
    by_cases h3 : 0 ≤ xs[i].Wind ∧ xs[i].Wind ≤ 1000
    · by_cases h4 : 1 ≤ xs[i].Pace ∧ xs[i].Pace ≤ 1000000
      · rcases Nat.eq_zero_or_pos i with h5 | h5
        · subst h5; simp [h3, h4]
        · have h6 : w64 ((i : Int) - 1) = ((i - 1 : Nat) : Int) := by rw [w64_of (by omega)]; omega
          have h7 : (0 : Int) < i := by omega
          simp only [h6, idx_lt xs (i - 1) (by omega), bnd_some, List.getElem?_eq_getElem (show i - 1 < xs.length by omega)]
          by_cases h8 : xs[i].Wind ≤ xs[i - 1].Wind
          · simp [h3, h4, h5, h7, h8]
          · by_cases h9 : xs[i - 1].Pace ≤ xs[i].Pace <;> simp [h3, h4, h5, h7, h8, h9]
      · simp [h3, h4]
    · simp [h3]
  · simp [M.spec_IsCurve_l1]
theorem curve_big (xs : List CurvePoint) (h : 12 < xs.length) (h2 : xs.length ≤ 2097152) : M.impl_IsCurve xs = some false := by
  simp only [M.impl_IsCurve, M.impl_IsCurve_j1, bnd_some, l_implCurve, l_specCurve2 xs h2]
  by_cases hh : ∀ i, i < xs.length → badPoint xs i = false
  · rw [if_pos hh]
    simp only [bnd_some, outc_nxt, M.impl_IsCurve_a1, M.impl_IsCurve_j1, decide_eq_true (show (2 : Int) ≤ (xs.length : Int) by omega), ifB_true, decide_eq_false (show ¬ (xs.length : Int) ≤ 12 by omega)]
  · rw [if_neg hh]; rfl
theorem wdC_pt (w : ByteArray) (h : badW w = false) : wdC (ptC w) = w := by
  unfold badW at h
  have h1 : (p1 w).2 = true := by cases hh : (p1 w).2 <;> simp [hh] at h ⊢
  have h2 : (p2 w).2 = true := by cases hh : (p2 w).2 <;> simp [hh] at h ⊢
  have t1 := numR_text _ h1
  have t2 := numR_text _ h2
  have hne : (Lib.cut w.data.toList [58]).2.1 ≠ [] := fun hh => by
    unfold p2 at h2
    rw [hh] at h2
    exact absurd h2 (by decide)
  have hc := cut_inv 58 w.data.toList hne
  apply ba_ext
  unfold wdC ptC
  show ((numB (p1 w).1 ++ (⟨#[58]⟩ : ByteArray)) ++ numB (p2 w).1).data.toList = _
  unfold p1 p2
  rw [t1, t2, ba_app, ba_app]
  conv => rhs; rw [hc]
  simp
theorem p_implReadC (s : ByteArray) (h : s.size ≤ 1048576) : ∃ W : List ByteArray, M.strings_Split s (⟨#[32]⟩ : ByteArray) = some W ∧ joinB W (⟨#[32]⟩ : ByteArray) = s ∧
    ∃ r, M.impl_ReadCurve s = some r ∧ (r = ([], false) ∨ (r = (W.map ptC, true) ∧ IsCurve (W.map ptC) ∧ ∀ w ∈ W, badW w = false)) ∧ ((∀ w ∈ W, badW w = false) → IsCurve (W.map ptC) → r = (W.map ptC, true)) := by
  have h1 : 1 ≤ (⟨#[32]⟩ : ByteArray).size := by decide
  have hlen := Lib.splitB_all (⟨#[32]⟩ : ByteArray) h1 0 _ s rfl
  have hle := Lib.countB_le (⟨#[32]⟩ : ByteArray) h1 s.size s (Nat.le_refl _)
  have hjs := join_split 32 (Lib.countB s (⟨#[32]⟩ : ByteArray)) s
  have hsp : M.strings_Split s (⟨#[32]⟩ : ByteArray) = some (Lib.splitB (⟨#[32]⟩ : ByteArray) 0 (Lib.countB s (⟨#[32]⟩ : ByteArray)) s) := by
    unfold M.strings_Split
    rw [chk_pos ⟨by omega, h1⟩]
  have hsz := split_sz s
  refine ⟨_, hsp, hjs, ?_⟩
  generalize Lib.splitB (⟨#[32]⟩ : ByteArray) 0 (Lib.countB s (⟨#[32]⟩ : ByteArray)) s = W at *
  have hWs : ∀ w ∈ W, w.size ≤ 1048576 := fun w hw => by have := hsz w hw; omega
  have hall : (∀ i, i < W.length → badW (W.getD i ByteArray.empty) = false) ↔ ∀ w ∈ W, badW w = false := by
    constructor
    · intro hh w hw
      obtain ⟨i, hi, rfl⟩ := List.mem_iff_getElem.1 hw
      have := hh i hi
      rwa [show W.getD i ByteArray.empty = W[i] by simp [List.getD, hi]] at this
    · intro hh i hi
      rw [show W.getD i ByteArray.empty = W[i] by simp [List.getD, hi]]
      exact hh _ (List.getElem_mem hi)
  simp only [M.impl_ReadCurve, M.impl_wordsOf, hsp, bnd_some, p_readC W (by omega) hWs]
  by_cases hb : ∀ w ∈ W, badW w = false
  · rw [if_pos (hall.2 hb)]
    simp only [bnd_some, outc_nxt, M.impl_ReadCurve_a1]
    by_cases hbig : 12 < (W.map ptC).length
    · rw [curve_big _ hbig (by rw [List.length_map]; omega)]
      exact ⟨_, rfl, .inl rfl, fun _ hc => by have := hc.1; omega⟩
    · rw [p_implIsCurve _ (by omega), bnd_some]
      by_cases hc : IsCurve (W.map ptC)
      · rw [decide_eq_true hc]
        exact ⟨_, rfl, .inr ⟨rfl, hc, hb⟩, fun _ _ => rfl⟩
      · rw [decide_eq_false hc]
        exact ⟨_, rfl, .inl rfl, fun _ hh => absurd hh hc⟩
  · rw [if_neg (fun hh => hb (hall.1 hh))]
    exact ⟨_, rfl, .inl rfl, fun hh => absurd hh hb⟩
theorem p_specReadC (s : ByteArray) (h : s.size ≤ 1048576) : ∃ r, M.spec_ReadCurve s = some r ∧ (r = ([], false) ∨ (r.2 = true ∧ IsCurve r.1 ∧ ctB r.1 = s)) := by
  simp only [M.spec_ReadCurve, p_l01Split s 32 (by omega), bnd_some]
  generalize hQ : (spl 32 s.data.toList).map bts = Q
  by_cases h12 : (12 : Int) < (Q.length : Int)
  · rw [decide_eq_true h12, ifB_true]
    exact ⟨_, rfl, .inl rfl⟩
  · rw [decide_eq_false h12, ifB_false]
    have hQs : ∀ w ∈ Q, w.size ≤ 4294967296 := fun w hw => by
      rw [← hQ] at hw
      obtain ⟨l, hl, rfl⟩ := List.mem_map.1 hw
      have := spl_len 32 s.data.toList l hl
      rw [ba_len] at this
      rw [sz_lit]
      omega
    obtain ⟨o, ho, hq⟩ := loop_count (body := M.spec_ReadCurve_l1 Q) (s := (([] : List CurvePoint), (0 : Int))) Q.length (by omega)
      (fun i t => ∃ L, t = (L, (i : Int)) ∧ L.length = i) (fun o => o = .ret ([], false) ∨ ∃ L k, o = .nxt (L, k) ∧ L.length ≤ 12) ⟨[], rfl, rfl⟩
      (fun i t hi ht => by
        obtain ⟨L, rfl, hL⟩ := ht
        have hw := hQs Q[i] (List.getElem_mem hi)
        simp only [M.spec_ReadCurve_l1, decide_eq_true (show (i : Int) < (Q.length : Int) by omega), ifB_true, idx_lt Q i hi, bnd_some, p_l01Split Q[i] 58 hw]
        generalize (spl 58 Q[i].data.toList).map bts = V
        by_cases h2 : V.length = 2
        · have e2 : ((V.length : Int) != 2) = false := by simp; omega
          rw [e2, ifB_false]
          have i0 : idx V 0 = some (V[0]'(by omega)) := idx_lt V 0 (by omega)
          have i1 : idx V 1 = some (V[1]'(by omega)) := idx_lt V 1 (by omega)
          obtain ⟨a, ha⟩ := p_l01Value (V[0]'(by omega))
          obtain ⟨b, hb⟩ := p_l01Value (V[1]'(by omega))
          simp only [i0, i1, bnd_some, ha, hb]
          have fin : ∃ t, M.spec_ReadCurve_j2 (L, (i : Int)) a b false = some t ∧ ∃ L', t = .cont (L', ((i + 1 : Nat) : Int)) ∧ L'.length = i + 1 := by
            simp only [M.spec_ReadCurve_j2, ifB_false]
            rw [chk_pos (by simp; omega), step64 hi (by omega)]
            exact ⟨_, rfl, _, rfl, by simp [hL]⟩
          cases h5 : a.2 with
          | false => exact ⟨_, rfl, .inl rfl⟩
          | true =>
            cases h6 : b.2 with
            | false => exact ⟨_, rfl, .inl rfl⟩
            | true =>
              obtain ⟨t, ht, L', rfl, hL'⟩ := fin
              exact ⟨_, ht, L', rfl, hL'⟩
        · have e2 : ((V.length : Int) != 2) = true := by simp; omega
          rw [e2, ifB_true]
          exact ⟨_, rfl, .inl rfl⟩)
      (fun t ht => by
        obtain ⟨L, rfl, hL⟩ := ht
        refine ⟨.brk (L, ((Q.length : Nat) : Int)), by simp only [M.spec_ReadCurve_l1, decide_eq_false (show ¬ ((Q.length : Nat) : Int) < (Q.length : Int) by omega), ifB_false], ?_⟩
        exact Or.inr ⟨L, _, rfl, by omega⟩)
    rw [ho]
    rcases hq with rfl | ⟨L, k, rfl, hL⟩
    · exact ⟨_, rfl, .inl rfl⟩
    · simp only [bnd_some, outc_nxt, M.spec_ReadCurve_a1, p_specIsCurve L (by omega)]
      by_cases hc : IsCurve L
      · rw [decide_eq_true hc]
        simp only [Bool.not_true, ifB_false, (p_CurveText L (by omega)).1, bnd_some]
        by_cases hr : ctB L = s
        · rw [sEq_true.2 hr]
          exact ⟨_, rfl, .inr ⟨rfl, hc, hr⟩⟩
        · rw [sEq_false hr]
          exact ⟨_, rfl, .inl rfl⟩
      · rw [decide_eq_false hc]
        exact ⟨_, rfl, .inl rfl⟩
theorem p_ReadCurve (s : ByteArray) (h : s.size ≤ 1048576) : ∃ r : List CurvePoint × Bool, M.impl_ReadCurve s = some r ∧ M.spec_ReadCurve s = some r ∧ r.1.length ≤ 12 ∧
    (r.2 = true → IsCurve r.1 ∧ ctB r.1 = s) ∧ (∀ xs, IsCurve xs → ctB xs = s → r = (xs, true)) := by
  obtain ⟨W, hW, hj, r, h1, h1a, h1b⟩ := p_implReadC s h
  obtain ⟨q, h2, h2a⟩ := p_specReadC s h
  by_cases hE : ∃ xs, IsCurve xs ∧ ctB xs = s
  · obtain ⟨xs, hc, hr⟩ := hE
    have key : ∀ ys, IsCurve ys → ctB ys = s → W = ys.map wdC ∧ W.map ptC = ys ∧ (∀ w ∈ W, badW w = false) := fun ys hy hys => by
      have hb : ∀ p ∈ ys, (0 ≤ p.Wind ∧ p.Wind ≤ 1000000) ∧ (0 ≤ p.Pace ∧ p.Pace ≤ 1000000) := fun p hp => by
        obtain ⟨i, hi, rfl⟩ := List.mem_iff_getElem.1 hp
        have := curve_at hy i hi
        omega
      have hlen := hy.1
      have hjy : joinB (ys.map wdC) (⟨#[32]⟩ : ByteArray) = s := by
        rw [← hys]; unfold ctB; rw [if_pos hy]
      have hne : ys.map wdC ≠ [] := fun hh => by have := congrArg List.length hh; rw [List.length_map, List.length_nil] at this; omega
      have hfree : ∀ w ∈ ys.map wdC, (32 : UInt8) ∉ w.data.toList := fun w hw => by
        obtain ⟨p, hp, rfl⟩ := List.mem_map.1 hw
        exact wdC_free p (hb p hp).1.1 (hb p hp).2.1
      have hWe : W = ys.map wdC := by
        have := split_join 32 (ys.map wdC) hne hfree
        rw [hjy] at this
        unfold M.strings_Split at hW
        obtain ⟨_, hW2⟩ := chkE hW
        rw [this] at hW2
        exact (Option.some.inj hW2).symm
      refine ⟨hWe, ?_, fun w hw => ?_⟩
      · rw [hWe, List.map_map]
        conv => rhs; rw [← List.map_id ys]
        refine List.map_congr_left fun p hp => ?_
        have := wdC_back p (hb p hp).1 (hb p hp).2
        show ptC (wdC p) = p
        unfold ptC
        rw [this.1, this.2]
      · rw [hWe] at hw
        obtain ⟨p, hp, rfl⟩ := List.mem_map.1 hw
        have := wdC_back p (hb p hp).1 (hb p hp).2
        unfold badW
        rw [this.1, this.2]
        rfl
    obtain ⟨hWe, hpt, hbad⟩ := key xs hc hr
    have hre : r = (xs, true) := by
      have := h1b hbad (by rw [hpt]; exact hc)
      rw [this, hpt]
    have hlen := hc.1
    have hqe : q = (xs, true) := by
      rcases h2a with rfl | ⟨k1, k2, k3⟩
      · exfalso
        have hb : ∀ p ∈ xs, (0 ≤ p.Wind ∧ p.Wind ≤ 1000000) ∧ (0 ≤ p.Pace ∧ p.Pace ≤ 1000000) := fun p hp => by
          obtain ⟨i, hi, rfl⟩ := List.mem_iff_getElem.1 hp
          have := curve_at hc i hi
          omega
        have hjy : joinB (xs.map wdC) (⟨#[32]⟩ : ByteArray) = s := by
          rw [← hr]; unfold ctB; rw [if_pos hc]
        have hne : xs.map wdC ≠ [] := fun hh => by have := congrArg List.length hh; rw [List.length_map, List.length_nil] at this; omega
        have hfree : ∀ w ∈ xs.map wdC, (32 : UInt8) ∉ w.data.toList := fun w hw => by
          obtain ⟨p, hp, rfl⟩ := List.mem_map.1 hw
          exact wdC_free p (hb p hp).1.1 (hb p hp).2.1
        have hsl : (spl 32 s.data.toList).map bts = xs.map wdC := by
          have := spl_join 32 ((xs.map wdC).map (·.data.toList)) (by simpa using hne) (fun w hw => by
            obtain ⟨v, hv, rfl⟩ := List.mem_map.1 hw
            exact hfree v hv)
          rw [← hjy]
          have e2 : spl 32 (joinB (xs.map wdC) (⟨#[32]⟩ : ByteArray)).data.toList = (xs.map wdC).map (·.data.toList) := this
          rw [e2, List.map_map]
          have e : (bts ∘ fun (x : ByteArray) => x.data.toList) = id := by funext x; exact bts_data x
          rw [e, List.map_id]
        have hloop : loopF (M.spec_ReadCurve_l1 (xs.map wdC)) (([] : List CurvePoint), 0) = some (.nxt (xs, (xs.length : Int))) := by
          have e0 : (xs, (xs.length : Int)) = (xs.take xs.length, (xs.length : Int)) := by rw [List.take_length]
          rw [e0]
          refine loop_run xs.length (by omega) (fun i => (xs.take i, (i : Int))) _ rfl (fun i hi => ?_) (by simp [M.spec_ReadCurve_l1])
          have hp := hb xs[i] (List.getElem_mem hi)
          have hi' : i < (xs.map wdC).length := by rw [List.length_map]; exact hi
          have hix : idx (xs.map wdC) (i : Int) = some (wdC xs[i]) := by rw [idx_lt _ i hi', List.getElem_map]
          have hsz : (wdC xs[i]).size ≤ 4294967296 := by
            have n1 := numB_size xs[i].Wind hp.1.1 (by omega)
            have n2 := numB_size xs[i].Pace hp.2.1 (by omega)
            unfold wdC
            simp only [ByteArray.size_append, co_sz]
            omega
          have hs2 : spl 58 (wdC xs[i]).data.toList = [(numB xs[i].Wind).data.toList, (numB xs[i].Pace).data.toList] := by
            have := spl_join 58 [(numB xs[i].Wind).data.toList, (numB xs[i].Pace).data.toList] (by simp) (fun w hw => by
              rcases List.mem_cons.1 hw with rfl | hw
              · exact num_free _ hp.1.1 58 (by decide)
              · rw [List.mem_singleton.1 hw]; exact num_free _ hp.2.1 58 (by decide))
            rw [joinL_cons, Lib.join_one] at this
            have e : (wdC xs[i]).data.toList = (numB xs[i].Wind).data.toList ++ ([58] ++ (numB xs[i].Pace).data.toList) := by
              unfold wdC
              rw [ba_app, ba_app, List.append_assoc]
            rw [e]
            exact this
          have hg : (i : Int) < ((xs.map wdC).length : Int) := by rw [List.length_map]; omega
          simp only [M.spec_ReadCurve_l1, decide_eq_true hg, ifB_true, hix, bnd_some, p_l01Split _ 58 hsz, hs2, List.map_cons, List.map_nil, bts_data]
          have e2 : ((([numB xs[i].Wind, numB xs[i].Pace] : List ByteArray).length : Int) != 2) = false := by simp
          have i0 : idx ([numB xs[i].Wind, numB xs[i].Pace] : List ByteArray) 0 = some (numB xs[i].Wind) := rfl
          have i1 : idx ([numB xs[i].Wind, numB xs[i].Pace] : List ByteArray) 1 = some (numB xs[i].Pace) := rfl
          rw [e2, ifB_false]
          simp only [i0, i1, bnd_some, value_back _ hp.1.1 (show xs[i].Wind ≤ 100000000000 by omega), value_back _ hp.2.1 (show xs[i].Pace ≤ 100000000000 by omega), Bool.not_true, ifB_false, M.spec_ReadCurve_j2]
          rw [chk_pos (by simp; omega), step64 hi (by omega), List.take_succ_eq_append_getElem hi]
        have hsp : M.spec_ReadCurve s = some (xs, true) := by
          simp only [M.spec_ReadCurve, p_l01Split s 32 (by omega), bnd_some, hsl]
          rw [decide_eq_false (show ¬ (12 : Int) < ((xs.map wdC).length : Int) by rw [List.length_map]; omega), ifB_false, hloop]
          simp only [bnd_some, outc_nxt, M.spec_ReadCurve_a1, p_specIsCurve xs (by omega), decide_eq_true hc, Bool.not_true, ifB_false, (p_CurveText xs (by omega)).1, hr, sEq_refl, M.spec_ReadCurve_j1]
        rw [h2] at hsp
        cases hsp
      · have k4 := key q.1 k2 k3
        have : q.1 = xs := k4.2.1.symm.trans hpt
        rw [← this, ← k1]
    refine ⟨(xs, true), by rw [h1, hre], by rw [h2, hqe], by show xs.length ≤ 12; omega, fun _ => ⟨hc, hr⟩, fun ys hy hys => ?_⟩
    have := (key ys hy hys).2.1
    rw [hpt] at this
    rw [this]
  · have hre : r = ([], false) := by
      rcases h1a with hr | ⟨hr, hc, hb⟩
      · exact hr
      · exfalso
        refine hE ⟨W.map ptC, hc, ?_⟩
        unfold ctB
        rw [if_pos hc, List.map_map]
        have e : W.map (wdC ∘ ptC) = W := by
          conv => rhs; rw [← List.map_id W]
          exact List.map_congr_left fun w hw => wdC_pt w (hb w hw)
        rw [e, hj]
    have hqe : q = ([], false) := by
      rcases h2a with hq | ⟨_, k2, k3⟩
      · exact hq
      · exact absurd ⟨q.1, k2, k3⟩ hE
    exact ⟨([], false), by rw [h1, hre], by rw [h2, hqe], by simp, (fun hh => by cases hh), fun xs hc hr => absurd ⟨xs, hc, hr⟩ hE⟩
end Go.Proofs.YtngegaodnokmbaaDoor
