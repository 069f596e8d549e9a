/- Reading races. -/
import Derived.Test.YtngegaodnokmbaaDoorPureRd
import Derived.Test.YtngegaodnokmbaaDoorPureHH
namespace Go.Proofs.YtngegaodnokmbaaDoor
open Go
set_option linter.unusedVariables false
set_option linter.unusedSimpArgs false
theorem sEq_true {a b : ByteArray} : sEq a b = true ↔ a = b := by rw [sEq_iff]; simp
theorem sEq_false {a b : ByteArray} (h : a ≠ b) : sEq a b = false := by rw [sEq_iff]; simpa using h
theorem strAt_lt (s : ByteArray) (i : Nat) (h : i < s.data.toList.length) : strAt s (i : Int) = some ((s.data.toList[i].toNat : Nat) : Int) := by
  have h2 : i < s.size := by rw [← ba_len]; exact h
  unfold strAt
  rw [if_pos (by omega), Int.toNat_natCast]
  have e : s[i]? = some s[i] := by simp [h2]
  rw [e]
  rfl
theorem p_number2 (s : ByteArray) (h : s.size ≤ 4294967296) : M.impl_number s = some (numR s) := by
  simp only [M.impl_number, M.strconv_ParseInt]
  rw [chk_pos ⟨by simp, by simp, h⟩, bnd_some]
  unfold numR
  cases hp : Lib.parseIntB 64 s.data.toList with
  | ok v =>
    have hb := Lib.parseIntB_bounds hp
    simp only [ifB_false, M.impl_number_j1]
    by_cases h1 : s.size ≤ 19
    · rw [decide_eq_false (show ¬ (19 : Int) < (s.size : Int) by omega), ifB_false, p_text v (by omega) (by omega), bnd_some]
      by_cases h2 : numB v = s
      · rw [if_pos ⟨h1, h2⟩, sEq_true.2 h2]; rfl
      · rw [if_neg (fun hh => h2 hh.2), sEq_false h2]; rfl
    · rw [decide_eq_true (show (19 : Int) < (s.size : Int) by omega), ifB_true, if_neg (fun hh => h1 hh.1)]; rfl
  | «syntax» => rfl
  | range => rfl
theorem cut_len (s sep : List UInt8) : (Lib.cut s sep).1.length ≤ s.length ∧ (Lib.cut s sep).2.1.length ≤ s.length := by
  unfold Lib.cut
  split
  · simp only [List.length_take, List.length_drop]
    constructor <;> omega
  · simp
theorem split_szk : ∀ (k : Nat) (t : ByteArray), ∀ w ∈ Lib.splitB (⟨#[32]⟩ : ByteArray) 0 k t, w.size ≤ t.size := by
  intro k
  induction k with
  | zero => intro t w hw; rw [Lib.splitB_zero] at hw; rw [List.mem_singleton.1 hw]; exact Nat.le_refl _
  | succ k ih =>
    intro t w hw
    unfold Lib.splitB at hw
    split at hw
    · rw [List.mem_singleton.1 hw]; exact Nat.le_refl _
    · rcases List.mem_cons.1 hw with rfl | hw
      · rw [ByteArray.size_extract]; omega
      · have := ih _ _ hw
        rw [ByteArray.size_extract] at this; omega
theorem split_sz (s : ByteArray) : ∀ w ∈ Lib.splitB (⟨#[32]⟩ : ByteArray) 0 (Lib.countB s (⟨#[32]⟩ : ByteArray)) s, w.size ≤ s.size := split_szk _ s
theorem sp_len (c : UInt8) : ∀ (l u : List UInt8) (d : List (List UInt8)) (m : Nat), (∀ x ∈ d, x.length ≤ m) → u.length + l.length ≤ m → (∀ x ∈ (l.foldl (spS c) (d, u)).1, x.length ≤ m) ∧ (l.foldl (spS c) (d, u)).2.length ≤ m
  | [], u, d, m, hd, hu => ⟨hd, by simpa using hu⟩
  | b :: l, u, d, m, hd, hu => by
    simp only [List.foldl_cons]
    rw [List.length_cons] at hu
    by_cases h : b = c
    · have e : spS c (d, u) b = (d ++ [u], []) := by unfold spS; rw [if_pos h]
      rw [e]
      exact sp_len c l [] (d ++ [u]) m (fun x hx => by
        rcases List.mem_append.1 hx with hx | hx
        · exact hd x hx
        · rw [List.mem_singleton.1 hx]; omega) (by simp; omega)
    · have e : spS c (d, u) b = (d, u ++ [b]) := by unfold spS; rw [if_neg h]
      rw [e]
      exact sp_len c l (u ++ [b]) d m hd (by simp; omega)
theorem spl_len (c : UInt8) (l : List UInt8) (x : List UInt8) (hx : x ∈ spl c l) : x.length ≤ l.length := by
  have h := sp_len c l [] [] l.length (by simp) (by simp)
  unfold spl spF at hx
  rcases List.mem_append.1 hx with hx | hx
  · exact h.1 x hx
  · rw [List.mem_singleton.1 hx]; exact h.2
theorem p_l26Split (s : ByteArray) (c : UInt8) (h : s.size ≤ 4294967296) : M.spec_l26Split s c = some ((spl c s.data.toList).map bts) := by
  generalize hl : s.data.toList = l
  have hsz : s.size = l.length := by rw [← hl, ba_len]
  have hls : ∀ i, i < l.length + 1 → (i : Int) ≤ (s.size : Int) := fun i hi => by omega
  let st : Nat → List ByteArray × Int × Int := fun i => if i ≤ l.length then (((spF c (l.take i)).1.map bts), ((i - (spF c (l.take i)).2.length : Nat) : Int), (i : Int)) else ((spl c l).map bts, ((i : Nat) : Int), (i : Int))
  have hrun : loopF (M.spec_l26Split_l1 s c) (([] : List ByteArray), 0, 0) = some (.nxt ((spl c l).map bts, ((l.length + 1 : Nat) : Int), ((l.length + 1 : Nat) : Int))) := by
    refine loop_run (l.length + 1) (by omega) st _ (by simp [st, spF]) (fun i hi => ?_) ?_
    · have hi' : i ≤ l.length := by omega
      obtain ⟨q, hq⟩ := spF_suf c (l.take i)
      have hql : i = q.length + (spF c (l.take i)).2.length := by
        have := congrArg List.length hq
        rw [List.length_append, List.length_take, Nat.min_eq_left hi'] at this
        exact this
      have hcnt := spF_cnt c (l.take i) [] []
      have hcnt' : (spF c (l.take i)).1.length ≤ i := by
        have : (spF c (l.take i)).1.length ≤ 0 + (l.take i).length := hcnt
        rw [List.length_take] at this; omega
      have hsub : subB s ((i - (spF c (l.take i)).2.length : Nat) : Int) (i : Int) = bts (spF c (l.take i)).2 := by
        apply ba_ext
        rw [bts_list]
        show (s.extract ((i - (spF c (l.take i)).2.length : Nat) : Int).toNat ((i : Int)).toNat).data.toList = _
        rw [Int.toNat_natCast, Int.toNat_natCast, ByteArray.data_extract, Array.toList_extract, hl]
        have e1 : i - (spF c (l.take i)).2.length = q.length := by omega
        rw [e1, List.extract]
        have e2 : List.take (i - q.length) (List.drop q.length l) = List.drop q.length (l.take i) := by rw [List.drop_take]
        rw [e2]
        conv => lhs; rw [hq]
        simp
      have est : st i = (((spF c (l.take i)).1.map bts), ((i - (spF c (l.take i)).2.length : Nat) : Int), (i : Int)) := by simp only [st]; rw [if_pos hi']
      rw [est]
      have hcut : M.spec_l26Split_j3 s (((spF c (l.take i)).1.map bts), ((i - (spF c (l.take i)).2.length : Nat) : Int), (i : Int)) true = some (.cont ((spF c (l.take i)).1.map bts ++ [bts (spF c (l.take i)).2], ((i + 1 : Nat) : Int), ((i + 1 : Nat) : Int))) := by
        simp only [M.spec_l26Split_j3, M.spec_l26Split_j2, M.spec_l26Split_j1, ifB_true, hsub]
        rw [chk_pos (by omega), chk_pos (by simp; omega), w64_of (by omega)]
        rfl
      have hle : decide ((i : Int) ≤ (s.size : Int)) = true := decide_eq_true (hls i hi)
      by_cases hlast : i = l.length
      · have e1 : ((i : Int) == (s.size : Int)) = true := by simp; omega
        simp only [M.spec_l26Split_l1, hle, ifB_true, e1, hcut]
        have est2 : st (i + 1) = ((spl c l).map bts, ((i + 1 : Nat) : Int), ((i + 1 : Nat) : Int)) := by simp only [st]; rw [if_neg (by omega)]
        rw [est2, hlast, List.take_length]
        simp [spl]
      · have hlt : i < l.length := by omega
        have e1 : ((i : Int) == (s.size : Int)) = false := by simp; omega
        have est2 : st (i + 1) = (((spF c (l.take (i + 1))).1.map bts), ((i + 1 - (spF c (l.take (i + 1))).2.length : Nat) : Int), ((i + 1 : Nat) : Int)) := by simp only [st]; rw [if_pos (by omega)]
        have hat : strAt s (i : Int) = some ((l[i].toNat : Nat) : Int) := by
          have := strAt_lt s i (by rw [hl]; exact hlt)
          rw [this]
          congr 3
          simp [hl]
        rw [est2, List.take_succ_eq_append_getElem hlt, spF_snoc]
        simp only [M.spec_l26Split_l1, hle, ifB_true, e1, ifB_false, hat, bnd_some]
        by_cases hb : l[i] = c
        · have e2 : (((l[i].toNat : Nat) : Int) == ((c.toNat : Nat) : Int)) = true := by rw [hb]; simp
          rw [e2, hcut]
          unfold spS
          rw [if_pos hb]
          simp
        · have e2 : (((l[i].toNat : Nat) : Int) == ((c.toNat : Nat) : Int)) = false := by
            have : l[i].toNat ≠ c.toNat := fun hh => hb (UInt8.toNat_inj.1 hh)
            simp; omega
          rw [e2]
          unfold spS
          rw [if_neg hb]
          simp only [M.spec_l26Split_j3, M.spec_l26Split_j2, M.spec_l26Split_j1, ifB_false, List.length_append, List.length_singleton]
          rw [w64_of (by omega)]
          congr 4
          omega
    · have est : st (l.length + 1) = ((spl c l).map bts, ((l.length + 1 : Nat) : Int), ((l.length + 1 : Nat) : Int)) := by simp only [st]; rw [if_neg (by omega)]
      have e1 : decide (((l.length + 1 : Nat) : Int) ≤ (s.size : Int)) = false := decide_eq_false (by omega)
      rw [est]
      simp only [M.spec_l26Split_l1, e1, ifB_false]
  rw [M.spec_l26Split, hrun]
  rfl
end Go.Proofs.YtngegaodnokmbaaDoor
