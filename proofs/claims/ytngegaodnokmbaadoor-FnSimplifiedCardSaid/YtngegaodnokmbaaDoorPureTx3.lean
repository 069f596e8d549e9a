/- Texts: races, curves. -/
import Derived.Test.YtngegaodnokmbaaDoorPureTx
import Derived.Test.YtngegaodnokmbaaDoorPureX
import Derived.Test.YtngegaodnokmbaaDoorPureW
namespace Go.Proofs.YtngegaodnokmbaaDoor
open Go
set_option linter.unusedVariables false
set_option linter.unusedSimpArgs false
theorem bts_data (x : ByteArray) : bts x.data.toList = x := by apply ByteArray.ext; simp [bts]
theorem bts_app (x y : List UInt8) : bts (x ++ y) = bts x ++ bts y := (ByteArray.mk_append_mk x y).symm
theorem joinB_nil (sep : ByteArray) : joinB [] sep = (⟨#[]⟩ : ByteArray) := rfl
theorem joinB_one (x sep : ByteArray) : joinB [x] sep = x := by
  unfold joinB
  rw [List.map_cons, List.map_nil, Lib.join_one, bts_data]
theorem joinB_snoc (xs : List ByteArray) (y sep : ByteArray) (h : xs ≠ []) : joinB (xs ++ [y]) sep = (joinB xs sep ++ sep) ++ y := by
  cases xs with
  | nil => exact absurd rfl h
  | cons x r =>
    unfold joinB
    simp only [List.cons_append, List.map_cons, List.map_append, List.map_nil, Lib.join_cons]
    have e : Lib.joinTail sep.data.toList (List.map (fun x => x.data.toList) r ++ [y.data.toList]) = Lib.joinTail sep.data.toList (List.map (fun x => x.data.toList) r) ++ (sep.data.toList ++ y.data.toList) := by simp [Lib.joinTail]
    rw [e]
    simp only [bts_app, bts_data, ByteArray.append_assoc]
theorem co_sz : (⟨#[58]⟩ : ByteArray).size = 1 := rfl
theorem joinB_step (W : List ByteArray) (i : Nat) (hi : i < W.length) : joinB (W.take (i + 1)) (⟨#[32]⟩ : ByteArray) = (if 0 < i then joinB (W.take i) (⟨#[32]⟩ : ByteArray) ++ (⟨#[32]⟩ : ByteArray) else joinB (W.take i) (⟨#[32]⟩ : ByteArray)) ++ W[i] := by
  rw [List.take_succ_eq_append_getElem hi]
  by_cases h : 0 < i
  · rw [if_pos h, joinB_snoc _ _ _ (fun hn => by have h3 := congrArg List.length hn; rw [List.length_take, List.length_nil] at h3; omega)]
  · have h0 : i = 0 := by omega
    subst h0
    rw [if_neg (by omega), List.take_zero, List.nil_append, joinB_one, joinB_nil]
    exact (ByteArray.empty_append).symm
theorem joinB_le (W : List ByteArray) (hW : ∀ w ∈ W, w.size ≤ 62) : ∀ i, i ≤ W.length → (joinB (W.take i) (⟨#[32]⟩ : ByteArray)).size ≤ 63 * i
  | 0, _ => by rw [List.take_zero, joinB_nil]; exact Nat.le_refl _
  | i + 1, hi => by
    have h1 := joinB_le W hW i (by omega)
    have h2 := hW W[i] (List.getElem_mem (by omega))
    rw [joinB_step W i (by omega), ByteArray.size_append]
    split
    · rw [ByteArray.size_append, sp_sz]; omega
    · omega
theorem join_ok (W : List ByteArray) (hW : ∀ w ∈ W, w.size ≤ 62) (hl : W.length ≤ 1000) : M.strings_Join W (⟨#[32]⟩ : ByteArray) = some (joinB W (⟨#[32]⟩ : ByteArray)) := by
  have h := joinB_le W hW W.length (Nat.le_refl _)
  rw [List.take_length] at h
  unfold M.strings_Join
  rw [chk_pos ⟨by omega, by omega⟩]
theorem p_l01N : ∀ (k u : Nat), u < 10 ^ (k + 1) → u ≤ 4611686018427387904 → M.spec_l01NumberN (k + 1) (u : Int) = some (bts (Lib.decDigits u))
  | k, u, h, hu => by
    have hd : ∀ v : Nat, v < 10 → UInt8.ofNat (IntKind.u8.wrap (w64 (48 + ((v : Nat) : Int)))).toNat = UInt8.ofNat (48 + v) := fun v hv => by
      have := u8_dig v (by omega)
      have e : (v : Int).tmod 10 = (v : Int) := by rw [Int.tmod_eq_emod_of_nonneg (by omega)]; omega
      rw [e, Nat.mod_eq_of_lt hv] at this
      exact this
    show M.spec_l01NumberS (M.spec_l01NumberN k) (u : Int) = _
    unfold M.spec_l01NumberS
    by_cases h10 : u < 10
    · rw [decide_eq_true (show (u : Int) < 10 by omega), ifB_true, hd u h10, Lib.decDigits, dif_pos h10]
    · rw [decide_eq_false (show ¬ (u : Int) < 10 by omega), ifB_false]
      cases k with
      | zero => simp at h; omega
      | succ k =>
        have e3 : w64 ((u : Int).tdiv 10) = ((u / 10 : Nat) : Int) := by
          rw [Int.tdiv_eq_ediv_of_nonneg (by omega), w64_of (by omega)]; omega
        have hl := dec_len (u / 10) (by omega)
        rw [e3, p_l01N k (u / 10) (by rw [Nat.pow_succ] at h; omega) (by omega), bnd_some, u8_dig u (by omega), sz_lit, sz_lit]
        rw [chk_pos (by simp; omega)]
        conv => rhs; rw [Lib.decDigits, dif_neg h10]
        rw [bts_app]
theorem p_l01Number (n : Int) (h0 : 0 ≤ n) (h1 : n ≤ 4611686018427387904) : M.spec_l01Number n = some (numB n) := by
  obtain ⟨u, rfl⟩ := Int.eq_ofNat_of_zero_le h0
  show M.spec_l01NumberN 64 (u : Int) = some (numB (u : Int))
  rw [numB_nat]
  exact p_l01N 63 u (Nat.lt_of_le_of_lt (show u ≤ 4611686018427387904 by omega) (by decide)) (by omega)
def wdC (p : CurvePoint) : ByteArray := (numB p.Wind ++ (⟨#[58]⟩ : ByteArray)) ++ numB p.Pace
def ctB (xs : List CurvePoint) : ByteArray := if IsCurve xs then joinB (xs.map wdC) (⟨#[32]⟩ : ByteArray) else (⟨#[]⟩ : ByteArray)
theorem p_CurveText (xs : List CurvePoint) (h : xs.length ≤ 1048576) : M.spec_CurveText xs = some (ctB xs) ∧ M.impl_CurveText xs = some (ctB xs) := by
  unfold ctB
  by_cases hv : IsCurve xs
  · rw [if_pos hv]
    have hlen := hv.1
    have hb : ∀ i (hi : i < xs.length), (0 ≤ xs[i].Wind ∧ xs[i].Wind ≤ 1000000) ∧ (0 ≤ xs[i].Pace ∧ xs[i].Pace ≤ 1000000) := fun i hi => by
      have := curve_at hv i hi
      omega
    have hn : ∀ i (hi : i < xs.length), (numB xs[i].Wind).size ≤ 20 ∧ (numB xs[i].Pace).size ≤ 20 := fun i hi => by
      have := hb i hi
      exact ⟨numB_size _ (by omega) (by omega), numB_size _ (by omega) (by omega)⟩
    have hW : ∀ w ∈ xs.map wdC, w.size ≤ 62 := fun w hw => by
      obtain ⟨f, hfm, rfl⟩ := List.mem_map.1 hw
      obtain ⟨i, hi, rfl⟩ := List.mem_iff_getElem.1 hfm
      have := hn i hi
      unfold wdC
      simp only [ByteArray.size_append, co_sz]
      omega
    have hWl : (xs.map wdC).length = xs.length := List.length_map ..
    have eT : joinB (xs.map wdC) (⟨#[32]⟩ : ByteArray) = joinB ((xs.map wdC).take xs.length) (⟨#[32]⟩ : ByteArray) := by rw [← hWl, List.take_length]
    have ls : loopF (M.spec_CurveText_l1 xs) ((⟨#[]⟩ : ByteArray), 0) = some (.nxt (joinB (xs.map wdC) (⟨#[32]⟩ : ByteArray), (xs.length : Int))) := by
      rw [eT]
      refine loop_run xs.length (by omega) (fun i => (joinB ((xs.map wdC).take i) (⟨#[32]⟩ : ByteArray), (i : Int))) _ rfl (fun i hi => ?_) (by simp [M.spec_CurveText_l1, M.spec_CurveText_j1])
      have g1 : (i : Int) < (xs.length : Int) := by omega
      have q1 := hb i hi
      have q2 := hn i hi
      have q3 := joinB_le (xs.map wdC) hW i (by omega)
      have q4 := joinB_step (xs.map wdC) i (by omega)
      rw [List.getElem_map] at q4
      have fin : ∀ s : ByteArray, s.size ≤ 2000 → M.spec_CurveText_j2 xs (joinB ((xs.map wdC).take i) (⟨#[32]⟩ : ByteArray), (i : Int)) s = some (.cont (s ++ wdC xs[i], ((i + 1 : Nat) : Int))) := fun s hs => by
        simp only [M.spec_CurveText_j2, idx_lt xs i hi, bnd_some, p_l01Number xs[i].Wind q1.1.1 (by omega), p_l01Number xs[i].Pace q1.2.1 (by omega), step64 hi (by omega)]
        repeat rw [chk_pos (by first | omega | (simp only [ByteArray.size_append, co_sz]; omega))]
        simp only [wdC, ByteArray.append_assoc]
      simp only [M.spec_CurveText_l1, g1, decide_true, ifB_true, p_specIsCurve xs h, bnd_some, decide_eq_true hv, M.spec_CurveText_j1, q4]
      by_cases hi0 : 0 < i
      · rw [decide_eq_true (show (0 : Int) < (i : Int) by omega), ifB_true, chk_pos (by rw [sp_sz]; omega), if_pos hi0]
        exact fin _ (by rw [ByteArray.size_append, sp_sz]; omega)
      · rw [decide_eq_false (show ¬ (0 : Int) < (i : Int) by omega), ifB_false, if_neg hi0]
        exact fin _ (by omega)
    have li : loopF (M.impl_CurveText_l1 xs) (([] : List ByteArray), 0) = some (.nxt (xs.map wdC, (xs.length : Int))) := by
      have e0 : xs.map wdC = (xs.map wdC).take xs.length := by rw [← hWl, List.take_length]
      rw [e0]
      refine loop_run xs.length (by omega) (fun i => ((xs.map wdC).take i, (i : Int))) _ rfl (fun i hi => ?_) (by simp [M.impl_CurveText_l1])
      have g1 : (i : Int) < (xs.length : Int) := by omega
      have q1 := hb i hi
      have q2 := hn i hi
      have q5 : (xs.map wdC).take (i + 1) = (xs.map wdC).take i ++ [wdC xs[i]] := by rw [List.take_succ_eq_append_getElem (by omega), List.getElem_map]
      simp only [M.impl_CurveText_l1, g1, decide_true, ifB_true, idx_lt xs i hi, bnd_some, p_text xs[i].Wind (by omega) (by omega), p_text xs[i].Pace (by omega) (by omega), q5, step64 hi (by omega)]
      rw [chk_pos (by rw [co_sz]; omega), chk_pos (by rw [ByteArray.size_append, co_sz]; omega), chk_pos (by simp; omega)]
      rfl
    simp only [M.spec_CurveText, M.impl_CurveText, p_implIsCurve xs h, decide_eq_true hv, Bool.not_true, ifB_false, ls, li, bnd_some, outc_nxt, M.spec_CurveText_a1, M.impl_CurveText_a1, join_ok _ hW (by omega), and_self]
  · rw [if_neg hv]
    have ls : loopF (M.spec_CurveText_l1 xs) ((⟨#[]⟩ : ByteArray), 0) = some (.nxt ((⟨#[]⟩ : ByteArray), 0)) := by
      refine loop_run 0 (by omega) (fun i => ((⟨#[]⟩ : ByteArray), (i : Int))) _ rfl (fun i hi => by omega) ?_
      by_cases hx : (0 : Int) < (xs.length : Int)
      · have e1 : decide ((((0 : Nat) : Int)) < (xs.length : Int)) = true := decide_eq_true hx
        simp only [M.spec_CurveText_l1, M.spec_CurveText_j1, e1, ifB_true, p_specIsCurve xs h, bnd_some, decide_eq_false hv, ifB_false]
        rfl
      · have e1 : decide ((((0 : Nat) : Int)) < (xs.length : Int)) = false := decide_eq_false hx
        simp only [M.spec_CurveText_l1, M.spec_CurveText_j1, e1, ifB_false]
        rfl
    simp only [M.spec_CurveText, M.impl_CurveText, p_implIsCurve xs h, decide_eq_false hv, Bool.not_false, ifB_true, ls, bnd_some, outc_nxt, M.spec_CurveText_a1, and_self]
end Go.Proofs.YtngegaodnokmbaaDoor
