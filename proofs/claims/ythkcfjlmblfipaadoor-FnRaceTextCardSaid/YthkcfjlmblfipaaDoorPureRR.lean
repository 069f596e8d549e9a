/- Reading races. -/
import Derived.Test.YthkcfjlmblfipaaDoorPureRd
import Derived.Test.YthkcfjlmblfipaaDoorPureHH
namespace Go.Proofs.YthkcfjlmblfipaaDoor
open Go
set_option linter.unusedVariables false
set_option linter.unusedSimpArgs false
theorem sEq_true {a b : ByteArray} : sEq a b = true ↔ a = b := by rw [sEq_iff]; simp
theorem sEq_false {a b : ByteArray} (h : a ≠ b) : sEq a b = false := by rw [sEq_iff]; simpa using h
theorem strAt_lt (s : ByteArray) (i : Nat) (h : i < s.data.toList.length) : strAt s (i : Int) = some ((s.data.toList[i].toNat : Nat) : Int) := by
  have h2 : i < s.size := by rw [← ba_len]; exact h
  unfold strAt
  rw [if_pos (by omega), Int.toNat_natCast]
  have e : s[i]? = some s[i] := by simp [h2]
  rw [e]
  rfl
theorem loop_findQ {ρ σ : Type} {body : σ → Option (Stp ρ σ)} {s : σ} (n : Nat) (hn : n < 18446744073709551616) (st : Nat → σ) (p : Nat → Bool) (r : Nat → ρ) (s' : σ) (h0 : s = st 0)
    (step : ∀ i, i < n → body (st i) = some (if p i then .ret (r i) else .cont (st (i + 1)))) (last : body (st n) = some (.brk s')) :
    loopF body s = some (match (List.range n).find? p with | some i => .ret (r i) | none => .nxt s') := by
  obtain ⟨o, ho, hq⟩ := loop_count (body := body) (s := s) n hn (fun i s => s = st i ∧ ∀ j, j < i → p j = false) (fun o => o = match (List.range n).find? p with | some i => .ret (r i) | none => .nxt s') ⟨h0, by simp⟩
    (fun i s hi hs => by
      obtain ⟨rfl, hs⟩ := hs
      refine ⟨_, step i hi, ?_⟩
      cases hp : p i with
      | true =>
        have he : (List.range n).find? p = some i := by
          rw [List.find?_range_eq_some]
          exact ⟨hp, by simpa using hi, fun j hj => by simp [hs j hj]⟩
        simp only [if_true, he]
      | false => refine ⟨rfl, fun j hj => ?_⟩; rcases Nat.lt_succ_iff_lt_or_eq.mp hj with h | h; exact hs j h; subst h; exact hp)
    (fun s hs => by
      obtain ⟨rfl, hs⟩ := hs
      refine ⟨_, last, ?_⟩
      have he : (List.range n).find? p = none := by
        rw [List.find?_range_eq_none]
        exact fun j hj => by simp [hs j hj]
      simp only [he])
  rw [ho, hq]
def rcB (s : ByteArray) : Int × Bool := match (List.range 10).find? (fun (k : Nat) => sEq (nmB (k : Int)) s) with
  | some k => ((k : Int), true)
  | none => (0, false)
theorem p_ReadCode (s : ByteArray) : M.impl_ReadCode s = some (rcB s) := by
  have hl : loopF (M.impl_ReadCode_l1 s) 0 = some (match (List.range 10).find? (fun (k : Nat) => sEq (nmB (k : Int)) s) with | some k => .ret ((k : Int), true) | none => .nxt 10) := by
    refine loop_findQ 10 (by omega) (fun i => (i : Int)) (fun (k : Nat) => sEq (nmB (k : Int)) s) (fun i => ((i : Int), true)) 10 rfl (fun i hi => ?_) (by simp [M.impl_ReadCode_l1])
    simp only [M.impl_ReadCode_l1, decide_eq_true (show ((i : Nat) : Int) ≤ 9 by omega), ifB_true, p_CodeText (i : Int) (by omega) (by omega), bnd_some, step64 hi (by omega)]
    generalize sEq (nmB (i : Int)) s = b
    cases b <;> rfl
  unfold rcB
  rw [M.impl_ReadCode, hl]
  cases (List.range 10).find? (fun (k : Nat) => sEq (nmB (k : Int)) s) with
  | some k => rfl
  | none => rfl
theorem rc_name (c : Int) (h0 : 0 ≤ c) (h1 : c ≤ 9) : rcB (nmB c) = (c, true) := by
  have : c = 0 ∨ c = 1 ∨ c = 2 ∨ c = 3 ∨ c = 4 ∨ c = 5 ∨ c = 6 ∨ c = 7 ∨ c = 8 ∨ c = 9 := by omega
  rcases this with rfl | rfl | rfl | rfl | rfl | rfl | rfl | rfl | rfl | rfl <;> decide +kernel
theorem nm_free (c : Int) (h0 : 0 ≤ c) (h1 : c ≤ 9) : (32 : UInt8) ∉ (nmB c).data.toList ∧ (61 : UInt8) ∉ (nmB c).data.toList := by
  have : c = 0 ∨ c = 1 ∨ c = 2 ∨ c = 3 ∨ c = 4 ∨ c = 5 ∨ c = 6 ∨ c = 7 ∨ c = 8 ∨ c = 9 := by omega
  rcases this with rfl | rfl | rfl | rfl | rfl | rfl | rfl | rfl | rfl | rfl <;> decide +kernel
theorem p_number2 (s : ByteArray) (h : s.size ≤ 4294967296) : M.impl_number s = some (numR s) := by
  simp only [M.impl_number, M.strconv_ParseInt]
  rw [chk_pos ⟨by simp, by simp, h⟩, bnd_some]
  unfold numR
  cases hp : Lib.parseIntB 64 s.data.toList with
  | ok v =>
    have hb := Lib.parseIntB_bounds hp
    simp only [ifB_false, M.impl_number_j1]
    by_cases h1 : s.size ≤ 19
    · rw [decide_eq_false (show ¬ (19 : Int) < (s.size : Int) by omega), ifB_false, p_text v (by omega) (by omega), bnd_some]
      by_cases h2 : numB v = s
      · rw [if_pos ⟨h1, h2⟩, sEq_true.2 h2]; rfl
      · rw [if_neg (fun hh => h2 hh.2), sEq_false h2]; rfl
    · rw [decide_eq_true (show (19 : Int) < (s.size : Int) by omega), ifB_true, if_neg (fun hh => h1 hh.1)]; rfl
  | «syntax» => rfl
  | range => rfl
theorem cut_len (s sep : List UInt8) : (Lib.cut s sep).1.length ≤ s.length ∧ (Lib.cut s sep).2.1.length ≤ s.length := by
  unfold Lib.cut
  split
  · simp only [List.length_take, List.length_drop]
    constructor <;> omega
  · simp
def fiF (i : Nat) (w : ByteArray) : Finish := ⟨(i : Int), (rcB (bts (Lib.cut w.data.toList [61]).1)).1, (numR (bts (Lib.cut w.data.toList [61]).2.1)).1⟩
theorem mapIdx_take {α β : Type} (f : Nat → α → β) (W : List α) (i : Nat) (h : i < W.length) : (W.take (i + 1)).mapIdx f = (W.take i).mapIdx f ++ [f i W[i]] := by
  rw [List.take_succ_eq_append_getElem h, List.mapIdx_concat, List.length_take, Nat.min_eq_left (by omega)]
theorem p_readF (W : List ByteArray) (hW : W.length ≤ 1048577) (hs : ∀ w ∈ W, w.size ≤ 1048576) : loopF (M.impl_ReadRace_l1 W) (([] : List Finish), 0) = some (.nxt (W.mapIdx fiF, (W.length : Int))) := by
  have e0 : W.mapIdx fiF = (W.take W.length).mapIdx fiF := by rw [List.take_length]
  rw [e0]
  refine loop_run W.length (by omega) (fun i => ((W.take i).mapIdx fiF, (i : Int))) _ rfl (fun i hi => ?_) (by simp [M.impl_ReadRace_l1])
  have g1 : (i : Int) < (W.length : Int) := by omega
  have hw := hs W[i] (List.getElem_mem hi)
  have hc := cut_len W[i].data.toList [61]
  rw [ba_len] at hc
  have hcut : M.strings_Cut W[i] (⟨#[61]⟩ : ByteArray) = some (bts (Lib.cut W[i].data.toList [61]).1, bts (Lib.cut W[i].data.toList [61]).2.1, (Lib.cut W[i].data.toList [61]).2.2) := by
    unfold M.strings_Cut
    rw [chk_pos (by omega)]
  simp only [M.impl_ReadRace_l1, g1, decide_true, ifB_true, idx_lt W i hi, bnd_some, hcut, p_ReadCode, p_number2 (bts (Lib.cut W[i].data.toList [61]).2.1) (by rw [sz_lit]; omega)]
  rw [chk_pos (by simp; omega), step64 hi (by omega), mapIdx_take _ _ _ hi]
  rfl
theorem race_big (n : Int) (fs : List Finish) (h : 16 < fs.length) : M.impl_IsRace n ⟨fs⟩ = some false := by
  simp only [M.impl_IsRace, M.impl_areFinishes, M.impl_areFinishes_j1, p_within, bnd_some]
  by_cases h1 : 1 ≤ n ∧ n ≤ 16
  · have e : ((fs.length : Int) != n) = true := by simp; omega
    simp only [decide_eq_true h1, Bool.not_true, ifB_false, e, ifB_true, bnd_some]
  · simp only [decide_eq_false h1, Bool.not_false, ifB_true, bnd_some]
def okR (n : Int) (fs : List Finish) : Prop := (1 ≤ n ∧ n ≤ 16) ∧ OkRace n fs
def ffR (W : List ByteArray) : List Finish := W.mapIdx fiF
open Classical in
theorem p_implRead (n : Int) (s : ByteArray) (h : s.size ≤ 1048576) : ∃ W : List ByteArray, M.strings_Split s (⟨#[32]⟩ : ByteArray) = some W ∧
    M.impl_ReadRace n s = some (if okR n (ffR W) ∧ rtB n ⟨ffR W⟩ = s then (⟨ffR W⟩, true) else (⟨[]⟩, false)) := by
  have h1 : 1 ≤ (⟨#[32]⟩ : ByteArray).size := by decide
  have hlen := Lib.splitB_all (⟨#[32]⟩ : ByteArray) h1 0 _ s rfl
  have hle := Lib.countB_le (⟨#[32]⟩ : ByteArray) h1 s.size s (Nat.le_refl _)
  have hsp : M.strings_Split s (⟨#[32]⟩ : ByteArray) = some (Lib.splitB (⟨#[32]⟩ : ByteArray) 0 (Lib.countB s (⟨#[32]⟩ : ByteArray)) s) := by
    unfold M.strings_Split
    rw [chk_pos ⟨by omega, h1⟩]
  have hsz : ∀ (k : Nat) (t : ByteArray), ∀ w ∈ Lib.splitB (⟨#[32]⟩ : ByteArray) 0 k t, w.size ≤ t.size := by
    intro k
    induction k with
    | zero => intro t w hw; rw [Lib.splitB_zero] at hw; rw [List.mem_singleton.1 hw]; exact Nat.le_refl _
    | succ k ih =>
      intro t w hw
      unfold Lib.splitB at hw
      split at hw
      · rw [List.mem_singleton.1 hw]; exact Nat.le_refl _
      · rcases List.mem_cons.1 hw with rfl | hw
        · rw [ByteArray.size_extract]; omega
        · have := ih _ _ hw
          rw [ByteArray.size_extract] at this; omega
  refine ⟨_, hsp, ?_⟩
  generalize hWd : Lib.splitB (⟨#[32]⟩ : ByteArray) 0 (Lib.countB s (⟨#[32]⟩ : ByteArray)) s = W at *
  have hWs : ∀ w ∈ W, w.size ≤ 1048576 := fun w hw => by
    have := hsz _ _ w (hWd ▸ hw)
    omega
  simp only [M.impl_ReadRace, M.impl_wordsOf, hsp, bnd_some, p_readF W (by omega) hWs, outc_nxt, M.impl_ReadRace_a1]
  have eW : W.mapIdx fiF = ffR W := rfl
  simp only [eW]
  have hfl : (ffR W).length = W.length := by simp [ffR]
  by_cases hb : 16 < (ffR W).length
  · have hno : ¬ okR n (ffR W) := fun hh => by have := hh.2.1; have := hh.1; omega
    rw [race_big n _ hb, bnd_some, if_neg (fun hh => hno hh.1)]
    rfl
  · rw [p_implIsRace n ⟨ffR W⟩ (by show (ffR W).length ≤ _; omega), bnd_some]
    by_cases hv : okR n (ffR W)
    · rw [decide_eq_true (show (1 ≤ n ∧ n ≤ 16) ∧ OkRace n (Race.mk (ffR W)).Finishes from hv), (p_RaceText n ⟨ffR W⟩ (by show (ffR W).length ≤ _; omega)).2]
      simp only [Bool.not_true, ifB_false, bnd_some, M.impl_ReadRace_j1]
      by_cases hr : rtB n ⟨ffR W⟩ = s
      · rw [if_pos ⟨hv, hr⟩, sEq_true.2 hr]; rfl
      · rw [if_neg (fun hh => hr hh.2), sEq_false hr]; rfl
    · rw [decide_eq_false (show ¬ ((1 ≤ n ∧ n ≤ 16) ∧ OkRace n (Race.mk (ffR W)).Finishes) from hv), if_neg (fun hh => hv hh.1)]
      rfl
theorem p_l26Split (s : ByteArray) (c : UInt8) (h : s.size ≤ 4294967296) : M.spec_l26Split s c = some ((spl c s.data.toList).map bts) := by
  generalize hl : s.data.toList = l
  have hsz : s.size = l.length := by rw [← hl, ba_len]
  have hls : ∀ i, i < l.length + 1 → (i : Int) ≤ (s.size : Int) := fun i hi => by omega
  let st : Nat → List ByteArray × Int × Int := fun i => if i ≤ l.length then (((spF c (l.take i)).1.map bts), ((i - (spF c (l.take i)).2.length : Nat) : Int), (i : Int)) else ((spl c l).map bts, ((i : Nat) : Int), (i : Int))
  have hrun : loopF (M.spec_l26Split_l1 s c) (([] : List ByteArray), 0, 0) = some (.nxt ((spl c l).map bts, ((l.length + 1 : Nat) : Int), ((l.length + 1 : Nat) : Int))) := by
    refine loop_run (l.length + 1) (by omega) st _ (by simp [st, spF]) (fun i hi => ?_) ?_
    · have hi' : i ≤ l.length := by omega
      obtain ⟨q, hq⟩ := spF_suf c (l.take i)
      have hql : i = q.length + (spF c (l.take i)).2.length := by
        have := congrArg List.length hq
        rw [List.length_append, List.length_take, Nat.min_eq_left hi'] at this
        exact this
      have hcnt := spF_cnt c (l.take i) [] []
      have hcnt' : (spF c (l.take i)).1.length ≤ i := by
        have : (spF c (l.take i)).1.length ≤ 0 + (l.take i).length := hcnt
        rw [List.length_take] at this; omega
      have hsub : subB s ((i - (spF c (l.take i)).2.length : Nat) : Int) (i : Int) = bts (spF c (l.take i)).2 := by
        apply ba_ext
        rw [bts_list]
        show (s.extract ((i - (spF c (l.take i)).2.length : Nat) : Int).toNat ((i : Int)).toNat).data.toList = _
        rw [Int.toNat_natCast, Int.toNat_natCast, ByteArray.data_extract, Array.toList_extract, hl]
        have e1 : i - (spF c (l.take i)).2.length = q.length := by omega
        rw [e1, List.extract]
        have e2 : List.take (i - q.length) (List.drop q.length l) = List.drop q.length (l.take i) := by rw [List.drop_take]
        rw [e2]
        conv => lhs; rw [hq]
        simp
      have est : st i = (((spF c (l.take i)).1.map bts), ((i - (spF c (l.take i)).2.length : Nat) : Int), (i : Int)) := by simp only [st]; rw [if_pos hi']
      rw [est]
      have hcut : M.spec_l26Split_j3 s (((spF c (l.take i)).1.map bts), ((i - (spF c (l.take i)).2.length : Nat) : Int), (i : Int)) true = some (.cont ((spF c (l.take i)).1.map bts ++ [bts (spF c (l.take i)).2], ((i + 1 : Nat) : Int), ((i + 1 : Nat) : Int))) := by
        simp only [M.spec_l26Split_j3, M.spec_l26Split_j2, M.spec_l26Split_j1, ifB_true, hsub]
        rw [chk_pos (by omega), chk_pos (by simp; omega), w64_of (by omega)]
        rfl
      have hle : decide ((i : Int) ≤ (s.size : Int)) = true := decide_eq_true (hls i hi)
      by_cases hlast : i = l.length
      · have e1 : ((i : Int) == (s.size : Int)) = true := by simp; omega
        simp only [M.spec_l26Split_l1, hle, ifB_true, e1, hcut]
        have est2 : st (i + 1) = ((spl c l).map bts, ((i + 1 : Nat) : Int), ((i + 1 : Nat) : Int)) := by simp only [st]; rw [if_neg (by omega)]
        rw [est2, hlast, List.take_length]
        simp [spl]
      · have hlt : i < l.length := by omega
        have e1 : ((i : Int) == (s.size : Int)) = false := by simp; omega
        have est2 : st (i + 1) = (((spF c (l.take (i + 1))).1.map bts), ((i + 1 - (spF c (l.take (i + 1))).2.length : Nat) : Int), ((i + 1 : Nat) : Int)) := by simp only [st]; rw [if_pos (by omega)]
        have hat : strAt s (i : Int) = some ((l[i].toNat : Nat) : Int) := by
          have := strAt_lt s i (by rw [hl]; exact hlt)
          rw [this]
          congr 3
          simp [hl]
        rw [est2, List.take_succ_eq_append_getElem hlt, spF_snoc]
        simp only [M.spec_l26Split_l1, hle, ifB_true, e1, ifB_false, hat, bnd_some]
        by_cases hb : l[i] = c
        · have e2 : (((l[i].toNat : Nat) : Int) == ((c.toNat : Nat) : Int)) = true := by rw [hb]; simp
          rw [e2, hcut]
          unfold spS
          rw [if_pos hb]
          simp
        · have e2 : (((l[i].toNat : Nat) : Int) == ((c.toNat : Nat) : Int)) = false := by
            have : l[i].toNat ≠ c.toNat := fun hh => hb (UInt8.toNat_inj.1 hh)
            simp; omega
          rw [e2]
          unfold spS
          rw [if_neg hb]
          simp only [M.spec_l26Split_j3, M.spec_l26Split_j2, M.spec_l26Split_j1, ifB_false, List.length_append, List.length_singleton]
          rw [w64_of (by omega)]
          congr 4
          omega
    · have est : st (l.length + 1) = ((spl c l).map bts, ((l.length + 1 : Nat) : Int), ((l.length + 1 : Nat) : Int)) := by simp only [st]; rw [if_neg (by omega)]
      have e1 : decide (((l.length + 1 : Nat) : Int) ≤ (s.size : Int)) = false := decide_eq_false (by omega)
      rw [est]
      simp only [M.spec_l26Split_l1, e1, ifB_false]
  rw [M.spec_l26Split, hrun]
  rfl
end Go.Proofs.YthkcfjlmblfipaaDoor
