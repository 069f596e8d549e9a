/- Pure laws over drawn races and series: tables, points, orders. -/
import Derived.Test.YtgelmamcinlahaaPureD
import Derived.Test.YtgelmamcinlahaaPureX
namespace Go.Proofs.Ytgelmamcinlahaa
open Go
set_option linter.unusedVariables false
set_option linter.unusedSimpArgs false

theorem p_likeInts (xs : List Int) (h : xs.length ≤ 1048576) : M.laws_likeInts xs xs = some true := by
  have hl : loopF (M.laws_likeInts_l1 xs xs) 0 = some (.nxt (xs.length : Int)) := by
    refine loop_run xs.length (by omega) (fun i => (i : Int)) _ rfl (fun i hi => ?_) ?_
    · have h1 : ((i : Int) < (xs.length : Int)) := by omega
      simp only [M.laws_likeInts_l1, h1, decide_true, ifB_true, idx_lt xs i hi, bnd_some, bne_self_eq_false, ifB_false, step64 hi (by omega)]
    · simp [M.laws_likeInts_l1]
  simp only [M.laws_likeInts, hl, bnd_some, outc_nxt, M.laws_likeInts_a1, bne_self_eq_false, ifB_false]
theorem p_likeRows (xs : List (List Int)) (h : xs.length ≤ 1048576) (hr : ∀ x ∈ xs, x.length ≤ 1048576) : M.laws_likeRows xs xs = some true := by
  have hl : loopF (M.laws_likeRows_l1 xs xs) 0 = some (.nxt (xs.length : Int)) := by
    refine loop_run xs.length (by omega) (fun i => (i : Int)) _ rfl (fun i hi => ?_) ?_
    · have h1 : ((i : Int) < (xs.length : Int)) := by omega
      simp only [M.laws_likeRows_l1, h1, decide_true, ifB_true, idx_lt xs i hi, bnd_some, p_likeInts _ (hr _ (List.getElem_mem hi)), Bool.not_true, ifB_false, step64 hi (by omega)]
    · simp [M.laws_likeRows_l1]
  simp only [M.laws_likeRows, hl, bnd_some, outc_nxt, M.laws_likeRows_a1, bne_self_eq_false, ifB_false]
theorem p_w6Tables (a : Table) (h : szT a ≤ 1048576) : M.laws_w6Tables a a = some true := by
  unfold szT at h
  simp only [M.laws_w6Tables, M.laws_w6Tables_j1, beq_self_eq_true, ifB_true, bnd_some, p_likeRows _ (by omega) (row_le (fun x : List Int => x.length) a.Points 1048576 (by omega)), p_likeRows _ (by omega) (row_le (fun x : List Int => x.length) a.Codes 1048576 (by omega))]
theorem pts_bd (xs : List Finish) (s : Int) (f : Finish) (h : xs.length ≤ 16) : 0 ≤ pts xs s f ∧ pts xs s f ≤ 10000 := by
  have h1 := pl_bd xs f.Time
  have h2 := sh_bd xs f.Time
  have h3 : dnc xs ≤ xs.length := List.countP_le_length
  unfold pts
  split
  · omega
  · split
    · omega
    · split <;> omega
theorem okRow_map (xs : List Finish) (g : Finish → Int) (n m : Int) (hn : (xs.length : Int) = n) (h : ∀ f ∈ xs, 0 ≤ g f ∧ g f ≤ m) : OkRow (xs.map g) n m := by
  refine ⟨by simpa using hn, fun j hj => ?_⟩
  have hj' : j < xs.length := by simpa using hj
  unfold badN
  simp only [List.getElem?_map, List.getElem?_eq_getElem hj', Option.map_some]
  simpa using h _ (List.getElem_mem hj')
theorem isTable_tbl (a : Series) (hs : IsSeries a) : IsTable (tbl a) := by
  refine ⟨hs.1, by simpa [tbl] using hs.2.2.1, by simp [tbl], fun i hi => ?_⟩
  have hi' : i < a.Races.length := by simpa [tbl] using hi
  have hr := hs.2.2.2 i hi'
  have hb := hs.1.2
  have hlen := hr.1
  unfold badT
  simp only [tbl, List.getElem?_map, List.getElem?_eq_getElem hi', Option.map_some]
  have r1 : OkRow (tblP a a.Races[i]) a.Boats 10000 := okRow_map _ _ _ _ hlen (fun f _ => pts_bd _ _ f (by omega))
  have r2 : OkRow (tblC a.Races[i]) a.Boats 9 := okRow_map _ _ _ _ hlen (fun f hf => by
    obtain ⟨j, hj, rfl⟩ := List.mem_iff_getElem.1 hf
    exact (fin_ok _ _ hr j hj).1)
  simp [r1, r2]
theorem pure_FnTables (c : List UInt8) (hc : OkD.ok c) : M.laws_FnTables c = some true := by
  rw [M.laws_FnTables, p_big, bnd_some, ifB_if]
  by_cases hb : 4096 < (c.length : Int)
  · simp [hb]
  · rw [if_neg (by simpa using hb)]
    obtain ⟨s, hd, hsz⟩ := p_DrawTableOf c (by omega)
    have h1 := p_specTableOf s hsz
    have h2 := p_implTableOf s hsz
    have h3 := p_implIsSeries s hsz
    rw [hd]
    simp only [bnd_some, h1, h2, h3]
    by_cases hs : IsSeries s
    · have ht : szT (tbl s) ≤ 1048576 := by have := series_le s hs; rw [szT_tbl]; omega
      have hsr : ∀ i (hi : i < s.Races.length), s.Races[i].Finishes.length ≤ 1048576 := fun i hi => by
        have := (hs.2.2.2 i hi).1; have := hs.1.2; omega
      have hnr := hs.2.2.1
      have hl : loopF (M.laws_FnTables_l1 (tbl s, 0) s) 0 = some (.nxt (s.Races.length : Int)) := by
        refine loop_run s.Races.length (by omega) (fun i => (i : Int)) _ rfl (fun i hi => ?_) ?_
        · have e1 : ((i : Int) < (s.Races.length : Int)) := by omega
          have hok := hs.2.2.2 i hi
          have er : rpR s.Boats s.Races[i] s.Scheme = (s.Races[i].Finishes.map (pts s.Races[i].Finishes s.Scheme), 0) := by
            unfold rpR
            rw [if_pos ⟨hs.1, hok⟩, if_pos hs.2.1]
          have ei : idx (tbl s).Points (i : Int) = some (s.Races[i].Finishes.map (pts s.Races[i].Finishes s.Scheme)) := by
            rw [idx_nat]; simp [tbl, tblP, hi]
          simp only [M.laws_FnTables_l1, M.laws_FnTables_j3, e1, decide_true, ifB_true, idx_lt _ i hi, bnd_some, p_implRacePoints _ _ _ (hsr i hi), er, bne_self_eq_false, ifB_false, ei, p_likeInts _ (show (s.Races[i].Finishes.map (pts s.Races[i].Finishes s.Scheme)).length ≤ 1048576 by simpa using hsr i hi), Bool.not_true, step64 hi (by omega)]
        · simp [M.laws_FnTables_l1]
      have hp : ((tbl s).Points.length : Int) == (s.Races.length : Int) := by simp [tbl]
      have hT := isTable_tbl s hs
      simp only [hs, if_true, decide_true, bne_self_eq_false, ifB_false, p_w6Tables _ ht, Bool.not_true, bnd_some, beq_self_eq_true, M.laws_FnTables_j1, hl, outc_nxt, M.laws_FnTables_a1, hp, ifB_true, p_implIsTable _ ht, hT, M.laws_FnTables_j2]
    · have ht : szT (⟨0, [], []⟩ : Table) ≤ 1048576 := by simp [szT, tot]
      have e : ((1 : Int) == 0) = false := by decide
      have e2 : ((1 : Int) != 0) = true := by decide
      simp only [hs, if_false, decide_false, bne_self_eq_false, ifB_false, p_w6Tables _ ht, Bool.not_true, bnd_some, e, e2, M.laws_FnTables_j1, ifB_true]

/-! sums over all places -/
def cl (t : Int) (T : List Int) : Nat := T.countP fun u => decide (u < t)
def ce (t : Int) (T : List Int) : Nat := T.countP fun u => u == t
def SS (xs ys : List Int) : Nat := (xs.map fun x => 2 * cl x ys + ce x ys).sum
theorem SS_cons_right (x : Int) (xs : List Int) : ∀ (ys : List Int), SS ys (x :: xs) = SS ys xs + 2 * (ys.countP fun y => decide (x < y)) + (ys.countP fun y => x == y)
  | [] => by simp [SS]
  | y :: ys => by
    have ih := SS_cons_right x xs ys
    simp only [SS, List.map_cons, List.sum_cons, cl, ce, List.countP_cons] at *
    rw [ih]
    by_cases h1 : x < y
    · have h2 : ¬ x = y := by omega
      simp [h1, h2]; omega
    · by_cases h2 : x = y
      · simp [h1, h2]; omega
      · simp [h1, h2]; omega
theorem three (x : Int) : ∀ (ys : List Int), cl x ys + ce x ys + (ys.countP fun y => decide (x < y)) = ys.length
  | [] => by simp [cl, ce]
  | y :: ys => by
    have ih := three x ys
    simp only [cl, ce, List.countP_cons, List.length_cons] at *
    by_cases h1 : y < x
    · have h2 : ¬ y = x := by omega
      have h3 : ¬ x < y := by omega
      simp [h1, h2, h3]; omega
    · by_cases h2 : y = x
      · have h3 : ¬ x < y := by omega
        simp [h1, h2, h3]; omega
      · have h3 : x < y := by omega
        simp [h1, h2, h3]; omega
theorem ce_symm (x : Int) (ys : List Int) : (ys.countP fun y => x == y) = ce x ys := by
  unfold ce; congr 1; funext y; rw [Bool.eq_iff_iff]; simp; exact eq_comm
theorem SS_both : ∀ (xs ys : List Int), SS xs ys + SS ys xs = 2 * (xs.length * ys.length)
  | [], ys => by
    have : ∀ (ys : List Int), SS ys [] = 0 := fun ys => by
      induction ys with
      | nil => rfl
      | cons y ys ih => simp only [SS, List.map_cons, List.sum_cons, cl, ce, List.countP_nil] at *; omega
    rw [this]; simp [SS]
  | x :: xs, ys => by
    have ih := SS_both xs ys
    have h3 := three x ys
    rw [SS_cons_right, ce_symm]
    have e : SS (x :: xs) ys = 2 * cl x ys + ce x ys + SS xs ys := by simp [SS]
    rw [e, List.length_cons, Nat.add_mul, Nat.one_mul]
    omega
theorem SS_self (xs : List Int) : SS xs xs = xs.length * xs.length := by have := SS_both xs xs; omega
def allD (xs : List Finish) : Bool := xs.all fun f => f.Code == 0
theorem cnt_all (xs : List Finish) (p : Int → Bool) (h : allD xs = true) : (xs.countP fun g => g.Code == 0 && p g.Time) = (xs.map Finish.Time).countP p := by
  rw [List.countP_map]
  apply List.countP_congr
  intro f hf
  have := List.all_eq_true.1 h f hf
  simp only [this, Bool.true_and, Function.comp]
theorem sum_pts (xs : List Finish) (s : Int) (h : allD xs = true) : (xs.map (pts xs s)).sum = 5 * ((xs.length : Int) * ((xs.length : Int) + 1)) := by
  have e : ∀ f ∈ xs, pts xs s f = 5 * (((2 * cl f.Time (xs.map Finish.Time) + ce f.Time (xs.map Finish.Time) : Nat) : Int) + 1) := fun f hf => by
    have hc : f.Code = 0 := by simpa using List.all_eq_true.1 h f hf
    unfold pts
    rw [if_pos hc]
    have h1 : pl xs f.Time = 1 + ((cl f.Time (xs.map Finish.Time) : Nat) : Int) := by
      unfold pl cl; rw [← cnt_all xs (fun u => decide (u < f.Time)) h]; rfl
    have h2 : sh xs f.Time = ((ce f.Time (xs.map Finish.Time) : Nat) : Int) := by
      unfold sh ce; rw [← cnt_all xs (fun u => u == f.Time) h]; rfl
    rw [h1, h2]; push_cast; omega
  have hS := SS_self (xs.map Finish.Time)
  have key : ∀ (ys : List Finish) (T : List Int), (∀ f ∈ ys, pts xs s f = 5 * (((2 * cl f.Time T + ce f.Time T : Nat) : Int) + 1)) → (ys.map (pts xs s)).sum = 5 * (((SS (ys.map Finish.Time) T : Nat) : Int) + (ys.length : Int)) := by
    intro ys T
    induction ys with
    | nil => intro _; simp [SS]
    | cons y ys ih =>
      intro hy
      have i1 := ih (fun f hf => hy f (List.mem_cons_of_mem _ hf))
      have i2 := hy y List.mem_cons_self
      simp only [List.map_cons, List.sum_cons, i1, i2, SS, List.length_cons] at *
      push_cast
      omega
  rw [key xs (xs.map Finish.Time) e, hS]
  simp only [List.length_map]
  push_cast
  rw [Int.mul_add (xs.length : Int) (xs.length : Int) 1, Int.mul_one, Int.mul_add]
theorem mono_cnt {α : Type} (p q r : α → Bool) (h : ∀ x, p x = true ∨ q x = true → r x = true) (hd : ∀ x, ¬ (p x = true ∧ q x = true)) : ∀ (xs : List α), xs.countP p + xs.countP q ≤ xs.countP r
  | [] => by simp
  | x :: xs => by
    have ih := mono_cnt p q r h hd xs
    simp only [List.countP_cons]
    have h1 := h x
    have h2 := hd x
    cases hp : p x <;> cases hq : q x <;> cases hr : r x <;> simp_all <;> omega
theorem pl_lt (xs : List Finish) (t u : Int) (h : t < u) : pl xs t + sh xs t ≤ pl xs u := by
  have := mono_cnt (pP t) (pQ t) (pP u) (fun f hf => by
    unfold pP pQ at *
    simp only [Bool.and_eq_true, decide_eq_true_eq, beq_iff_eq] at *
    omega) (fun f hf => by
    unfold pP pQ at hf
    simp only [Bool.and_eq_true, decide_eq_true_eq, beq_iff_eq] at hf
    omega) xs
  unfold pl sh
  omega
theorem sh_pos (xs : List Finish) (f : Finish) (hf : f ∈ xs) (hc : f.Code = 0) : 1 ≤ sh xs f.Time := by
  have : 0 < xs.countP (pQ f.Time) := List.countP_pos_iff.2 ⟨f, hf, by unfold pQ; simp [hc]⟩
  unfold sh; omega
theorem pts_order (xs : List Finish) (s : Int) (f g : Finish) (hf : f ∈ xs) (hg : g ∈ xs) (cf : f.Code = 0) (cg : g.Code = 0) : decide (pl xs f.Time < pl xs g.Time) = decide (pts xs s f < pts xs s g) := by
  have s1 := sh_pos xs f hf cf
  have s2 := sh_pos xs g hg cg
  unfold pts
  rw [if_pos cf, if_pos cg]
  rcases Int.lt_trichotomy f.Time g.Time with h | h | h
  · have := pl_lt xs _ _ h
    rw [decide_eq_true (by omega), decide_eq_true (by omega)]
  · rw [h]; simp
  · have := pl_lt xs _ _ h
    rw [decide_eq_false (by omega), decide_eq_false (by omega)]
theorem sum_take_succ (L : List Int) (i : Nat) (h : i < L.length) : (L.take (i + 1)).sum = (L.take i).sum + L[i] := by
  rw [List.take_succ_eq_append_getElem h, List.sum_append]; simp
theorem pure_FnRacePoints (c : List UInt8) (hc : OkD.ok c) : M.laws_FnRacePoints c = some true := by
  rw [M.laws_FnRacePoints, p_big, bnd_some, ifB_if]
  by_cases hb : 4096 < (c.length : Int)
  · simp [hb]
  · rw [if_neg (by simpa using hb)]
    obtain ⟨⟨n, r, s⟩, hd, hlen⟩ := p_DrawRacePoints c (by omega)
    simp only at hlen
    have hl' : r.Finishes.length ≤ 1048576 := by omega
    have h1 := p_specRacePoints n r s hl'
    have h2 := p_implRacePoints n r s hl'
    have h3 := rpR_len n r s hl'
    rw [hd]
    simp only [bnd_some, h1, h2, bne_self_eq_false, ifB_false, p_likeInts _ h3, Bool.not_true, M.laws_FnRacePoints_j1]
    by_cases hv : (1 ≤ n ∧ n ≤ 16) ∧ OkRace n r.Finishes
    · by_cases hs : 0 ≤ s ∧ s ≤ 1
      · have er : rpR n r s = (r.Finishes.map (pts r.Finishes s), 0) := by unfold rpR; rw [if_pos hv, if_pos hs]
        have hn : n = (r.Finishes.length : Int) := hv.2.1.symm
        have hn16 : r.Finishes.length ≤ 16 := by have := hv.1.2; omega
        have h5 := p_implPlacesOf n r hl'
        rw [if_pos hv, hn] at h5
        rw [er]
        simp only [bne_self_eq_false, ifB_false, hn, h5, bnd_some, List.length_map, M.laws_FnRacePoints_j2]
        generalize hxs : r.Finishes = xs at *
        have hget : ∀ (g : Finish → Int) i (hi : i < xs.length), idx (xs.map g) (i : Int) = some (g xs[i]) := fun g i hi => by rw [idx_nat]; simp [hi]
        have hsum : ∀ i, i ≤ xs.length → 0 ≤ ((xs.map (pts xs s)).take i).sum ∧ ((xs.map (pts xs s)).take i).sum ≤ 10000 * (i : Int) := fun i => by
          induction i with
          | zero => intro _; simp
          | succ i ih =>
            intro hi
            have := ih (by omega)
            rw [sum_take_succ _ i (by simp; omega)]
            have hb := pts_bd xs s xs[i] hn16
            simp only [List.getElem_map]
            omega
        have hl : loopF (M.laws_FnRacePoints_l1 (xs.map (pts xs s), 0) ((xs.length : Int), r, s) (xs.map (plF xs), 0)) (0, true, 0) = some (.nxt ((xs.map (pts xs s)).sum, allD xs, (xs.length : Int))) := by
          refine loop_run xs.length (by omega) (fun i => (((xs.map (pts xs s)).take i).sum, allD (xs.take i), (i : Int))) _ (by simp [allD]) (fun i hi => ?_) ?_
          · have e1 : ((i : Int) < (xs.length : Int)) := by omega
            have hin : loopF (M.laws_FnRacePoints_l2 (xs.map (pts xs s), 0) ((xs.length : Int), r, s) (xs.map (plF xs), 0) (((xs.map (pts xs s)).take i).sum, allD (xs.take i), (i : Int))) 0 = some (.nxt (xs.length : Int)) := by
              refine loop_run xs.length (by omega) (fun j => (j : Int)) _ rfl (fun j hj => ?_) ?_
              · have e2 : ((j : Int) < (xs.length : Int)) := by omega
                simp only [M.laws_FnRacePoints_l2, M.laws_FnRacePoints_j5, e2, decide_true, ifB_true, hget _ i hi, hget _ j hj, bnd_some, step64 hj (by omega), ifB_if, if_true]
                by_cases c1 : xs[i].Code = 0
                · by_cases c2 : xs[j].Code = 0
                  · have := pts_order xs s xs[i] xs[j] (List.getElem_mem hi) (List.getElem_mem hj) c1 c2
                    have p1 := pl_bd xs xs[i].Time
                    have p2 := pl_bd xs xs[j].Time
                    have q1 : plF xs xs[i] = pl xs xs[i].Time := by simp [plF, c1]
                    have q2 : plF xs xs[j] = pl xs xs[j].Time := by simp [plF, c2]
                    rw [q1, q2, this]
                    simp
                  · have q2 : plF xs xs[j] = 0 := by simp [plF, c2]
                    rw [q2]; simp
                · have q1 : plF xs xs[i] = 0 := by simp [plF, c1]
                  rw [q1]; simp
              · simp [M.laws_FnRacePoints_l2]
            have hS := hsum i (by omega)
            have hbd := pts_bd xs s xs[i] hn16
            have e3 : w64 (((xs.map (pts xs s)).take i).sum + pts xs s xs[i]) = ((xs.map (pts xs s)).take (i + 1)).sum := by
              rw [sum_take_succ _ i (by simpa using hi), w64_of (by omega)]; simp
            have e4 : allD (xs.take (i + 1)) = (allD (xs.take i) && decide (0 < plF xs xs[i])) := by
              unfold allD
              rw [List.take_succ_eq_append_getElem hi, List.all_append]
              congr 1
              have p1 := pl_bd xs xs[i].Time
              by_cases c1 : xs[i].Code = 0
              · simp [plF, c1]; omega
              · simp [plF, c1]
            simp only [M.laws_FnRacePoints_l1, M.laws_FnRacePoints_j4, e1, decide_true, ifB_true, hget _ i hi, bnd_some, hin, outc_nxt, M.laws_FnRacePoints_a2, e3, step64 hi (by omega), e4]
            cases allD (xs.take i) <;> simp
          · have : (xs.map (pts xs s)).take xs.length = xs.map (pts xs s) := by rw [List.take_of_length_le (by simp)]
            simp only [M.laws_FnRacePoints_l1, Int.lt_irrefl, decide_false, ifB_false, this, List.take_length]
        simp only [hl, bnd_some, outc_nxt, M.laws_FnRacePoints_a1, M.laws_FnRacePoints_j3]
        cases ha : allD xs
        · simp
        · have hs5 := sum_pts xs s ha
          have hq : ((xs.length : Int)) * ((xs.length : Int) + 1) ≤ 16 * 17 := Int.mul_le_mul (by omega) (by omega) (by omega) (by omega)
          have hq0 : 0 ≤ ((xs.length : Int)) * ((xs.length : Int) + 1) := Int.mul_nonneg (by omega) (by omega)
          have e5 : w64 (w64 (5 * (xs.length : Int)) * w64 ((xs.length : Int) + 1)) = 5 * ((xs.length : Int) * ((xs.length : Int) + 1)) := by
            rw [w64_of (n := 5 * (xs.length : Int)) (by omega), w64_of (n := (xs.length : Int) + 1) (by omega), Int.mul_assoc, w64_of (by omega)]
          simp [hs5, e5]
      · have er : rpR n r s = ([], 2) := by unfold rpR; rw [if_pos hv, if_neg hs]
        rw [er]
        have e2 : ((2 : Int) != 0) = true := by decide
        simp only [e2, ifB_true]
    · have er : rpR n r s = ([], 1) := by unfold rpR; rw [if_neg hv]
      rw [er]
      have e2 : ((1 : Int) != 0) = true := by decide
      simp only [e2, ifB_true]

/-! the order -/
theorem srtB_congr {α : Type} (lt lt' : α → α → Bool) (xs : List α) (h : ∀ a ∈ xs, ∀ b ∈ xs, lt a b = lt' a b) : srtB lt xs = srtB lt' xs := by
  have key : ∀ (ys ra : List α), (∀ a ∈ ys, a ∈ xs) → (∀ a ∈ ra, a ∈ xs) → ys.foldl (insB lt) ra = ys.foldl (insB lt') ra := by
    intro ys
    induction ys with
    | nil => intro ra _ _; rfl
    | cons y ys ih =>
      intro ra hy hr
      have e : insB lt ra y = insB lt' ra y := by
        have := tw_congr (lt y) (lt' y) ra (fun b hb => h y (hy y List.mem_cons_self) b (hr b hb))
        unfold insB; rw [this.1, this.2]
      rw [List.foldl_cons, List.foldl_cons, e]
      refine ih _ (fun a ha => hy a (List.mem_cons_of_mem _ ha)) (fun a ha => ?_)
      rcases List.mem_cons.1 ((insB_perm lt' ra y).mem_iff.1 ha) with rfl | ha
      · exact hy _ List.mem_cons_self
      · exact hr a ha
  exact key xs [] (fun a h => h) (fun a h => by cases h)
theorem srtB_sorted {α : Type} (key : α → Int) (xs : List α) : (srtB (fun a b => decide (key a < key b)) xs).Pairwise fun a b => key b ≤ key a := by
  have step : ∀ (ra : List α) (x : α), ra.Pairwise (fun a b => key b ≤ key a) → (insB (fun a b => decide (key a < key b)) ra x).Pairwise fun a b => key b ≤ key a := by
    intro ra x h
    unfold insB
    have happ := List.takeWhile_append_dropWhile (p := fun b => decide (key x < key b)) (l := ra)
    have hp : (ra.takeWhile (fun b => decide (key x < key b)) ++ ra.dropWhile (fun b => decide (key x < key b))).Pairwise (fun a b => key b ≤ key a) := by rw [happ]; exact h
    obtain ⟨p1, p2, p3⟩ := List.pairwise_append.1 hp
    have t1 : ∀ a ∈ ra.takeWhile (fun b => decide (key x < key b)), key x < key a := fun a ha => by
      obtain ⟨k, hk, rfl⟩ := List.mem_iff_getElem.1 ha
      have hle := tw_le (fun b => decide (key x < key b)) ra
      have := tw_get (fun b => decide (key x < key b)) ra k (by omega) hk
      have e := (tw_take (fun b => decide (key x < key b)) ra).1
      have e2 : (ra.takeWhile (fun b => decide (key x < key b)))[k] = ra[k] := by
        have e3 : (ra.takeWhile (fun b => decide (key x < key b)))[k]? = ra[k]? := by rw [e, List.getElem?_take_of_lt hk]
        rw [List.getElem?_eq_getElem hk, List.getElem?_eq_getElem (by omega)] at e3
        injection e3
      rw [e2]; simpa using this
    have t2 : ∀ a ∈ ra.dropWhile (fun b => decide (key x < key b)), key a ≤ key x := fun a ha => by
      have hle := tw_le (fun b => decide (key x < key b)) ra
      have e := (tw_take (fun b => decide (key x < key b)) ra).2
      rw [e] at ha p2
      by_cases hlt : (ra.takeWhile (fun b => decide (key x < key b))).length < ra.length
      · have h0 := tw_end (fun b => decide (key x < key b)) ra hlt
        rw [List.drop_eq_getElem_cons hlt] at ha p2
        have h0' : key (ra[(ra.takeWhile (fun b => decide (key x < key b))).length]) ≤ key x := by simpa using h0
        rcases List.mem_cons.1 ha with rfl | ha
        · exact h0'
        · exact Int.le_trans ((List.pairwise_cons.1 p2).1 a ha) h0'
      · rw [List.drop_eq_nil_of_le (by omega)] at ha; cases ha
    refine List.pairwise_append.2 ⟨p1, List.pairwise_cons.2 ⟨t2, p2⟩, fun a ha b hb => ?_⟩
    rcases List.mem_cons.1 hb with rfl | hb
    · have := t1 a ha; omega
    · exact p3 a ha b hb
  have key2 : ∀ (ys ra : List α), ra.Pairwise (fun a b => key b ≤ key a) → (ys.foldl (insB (fun a b => decide (key a < key b))) ra).Pairwise fun a b => key b ≤ key a := by
    intro ys
    induction ys with
    | nil => intro ra h; exact h
    | cons y ys ih => intro ra h; exact ih _ (step ra y h)
  exact key2 xs [] List.Pairwise.nil
def keyF (xs : List Finish) (k : Int) : Int := if (fAt xs k).Code = 0 then (fAt xs k).Time else 2000000000
theorem ltF_key (n : Int) (xs : List Finish) (h : OkRace n xs) (a b : Int) (ha : a ∈ idxs xs.length) (hb : b ∈ idxs xs.length) : ltF xs a b = decide (keyF xs a < keyF xs b) := by
  have fa := fAt_ok n xs h a ha
  have fb := fAt_ok n xs h b hb
  by_cases c1 : dnF xs a = true
  · have d1 : (fAt xs a).Code = 0 := by unfold dnF at c1; simpa using c1
    have t1 := fa.2.1 d1
    by_cases c2 : dnF xs b = true
    · have d2 : (fAt xs b).Code = 0 := by unfold dnF at c2; simpa using c2
      rw [lt_dd xs a b fa fb c1 c2]
      unfold ltT keyF
      rw [if_pos d1, if_pos d2]
    · have c2' : dnF xs b = false := by simpa using c2
      have d2 : ¬ (fAt xs b).Code = 0 := by unfold dnF at c2'; simpa using c2'
      rw [lt_dn xs a b fa fb c1 c2']
      unfold keyF
      rw [if_pos d1, if_neg d2, decide_eq_true (by omega)]
  · have c1' : dnF xs a = false := by simpa using c1
    have d1 : ¬ (fAt xs a).Code = 0 := by unfold dnF at c1'; simpa using c1'
    rw [lt_nd xs a b fa fb c1']
    unfold keyF
    rw [if_neg d1]
    by_cases d2 : (fAt xs b).Code = 0
    · have := fb.2.1 d2
      rw [if_pos d2, decide_eq_false (by omega)]
    · rw [if_neg d2, decide_eq_false (by omega)]
theorem p_hasInt (xs : List Int) (v : Int) (h : xs.length ≤ 1048576) (hv : v ∈ xs) : M.laws_hasInt xs v = some true := by
  have hl : loopF (M.laws_hasInt_l1 xs v) 0 = some (if ∀ i, i < xs.length → (xs[i]? == some v) = false then .nxt (xs.length : Int) else .ret true) := by
    refine loop_find xs.length (by omega) (fun i => (i : Int)) (fun i => xs[i]? == some v) true _ rfl (fun i hi => ?_) ?_
    · have h1 : ((i : Int) < (xs.length : Int)) := by omega
      simp only [M.laws_hasInt_l1, h1, decide_true, ifB_true, idx_lt xs i hi, bnd_some, step64 hi (by omega), ifB_if, if_true, List.getElem?_eq_getElem hi]
      by_cases e : xs[i] = v <;> simp [e]
    · simp [M.laws_hasInt_l1]
  have hn : ¬ ∀ i, i < xs.length → (xs[i]? == some v) = false := fun hh => by
    obtain ⟨i, hi, e⟩ := List.mem_iff_getElem.1 hv
    have := hh i hi
    rw [List.getElem?_eq_getElem hi, e] at this
    simp at this
  rw [M.laws_hasInt, hl, if_neg hn]
  rfl
theorem pl_le (xs : List Finish) (t u : Int) (h : t ≤ u) : pl xs t ≤ pl xs u := by
  rcases Int.lt_or_eq_of_le h with h | h
  · have := pl_lt xs t u h
    have := (sh_bd xs t).1
    omega
  · rw [h]; exact Int.le_refl _
theorem pure_FnFinishOrder (c : List UInt8) (hc : OkD.ok c) : M.laws_FnFinishOrder c = some true := by
  rw [M.laws_FnFinishOrder, p_big, bnd_some, ifB_if]
  by_cases hb : 4096 < (c.length : Int)
  · simp [hb]
  · rw [if_neg (by simpa using hb)]
    obtain ⟨⟨n, r⟩, hd, hlen⟩ := p_DrawFinishOrder c (by omega)
    simp only at hlen
    have hl' : r.Finishes.length ≤ 1048576 := by omega
    have h1 := p_specFinishOrder n r hl'
    have h2 := p_implFinishOrder n r hl'
    rw [hd]
    simp only [bnd_some, h1, h2, p_implIsRace n r hl']
    by_cases hv : (1 ≤ n ∧ n ≤ 16) ∧ OkRace n r.Finishes
    · have hn : n = (r.Finishes.length : Int) := hv.2.1.symm
      have hn16 : r.Finishes.length ≤ 16 := by have := hv.1.2; omega
      have hperm : (ordF r.Finishes).Perm (idxs r.Finishes.length) := (List.reverse_perm _).trans (srtB_perm _ _)
      have hol : (ordF r.Finishes).length = r.Finishes.length := by rw [hperm.length_eq, idxs_len]
      have hsort : (ordF r.Finishes).Pairwise fun a b => keyF r.Finishes a ≤ keyF r.Finishes b := by
        unfold ordF
        rw [srtB_congr (ltF r.Finishes) (fun a b => decide (keyF r.Finishes a < keyF r.Finishes b)) _ (fun a ha b hb => ltF_key n r.Finishes hv.2 a b ha hb), List.pairwise_reverse]
        exact srtB_sorted (keyF r.Finishes) _
      have hdec : decide ((1 ≤ n ∧ n ≤ 16) ∧ OkRace n r.Finishes) = true := decide_eq_true hv
      have h5 := p_implPlacesOf n r hl'
      rw [if_pos hv] at h5
      have hol' : ((ordF r.Finishes).length : Int) = (r.Finishes.length : Int) := by omega
      simp only [if_pos hv, hdec, bne_self_eq_false, ifB_false, p_likeInts _ (show (ordF r.Finishes).length ≤ 1048576 by omega), Bool.not_true, beq_self_eq_true, bnd_some, M.laws_FnFinishOrder_j1, h5, List.length_map, hol', M.laws_FnFinishOrder_j2]
      simp only [hn, bne_self_eq_false, ifB_false]
      generalize hxs : r.Finishes = xs at *
      generalize ho : ordF xs = os at *
      have hl1 : loopF (M.laws_FnFinishOrder_l1 (os, 0) ((xs.length : Int), r)) 0 = some (.nxt (xs.length : Int)) := by
        refine loop_run xs.length (by omega) (fun i => (i : Int)) _ rfl (fun i hi => ?_) ?_
        · have e1 : ((i : Int) < (xs.length : Int)) := by omega
          have hm : (i : Int) ∈ os := hperm.mem_iff.2 ((idxs_mem _ _).2 ⟨i, hi, rfl⟩)
          simp only [M.laws_FnFinishOrder_l1, e1, decide_true, ifB_true, p_hasInt os _ (by omega) hm, bnd_some, Bool.not_true, ifB_false, step64 hi (by omega)]
        · simp [M.laws_FnFinishOrder_l1]
      have hmem : ∀ k (hk : k < os.length), os[k] ∈ idxs xs.length := fun k hk => hperm.mem_iff.1 (List.getElem_mem hk)
      have hpl : ∀ a, a ∈ idxs xs.length → idx (xs.map (plF xs)) a = some (plF xs (fAt xs a)) := fun a ha => by
        obtain ⟨j, hj, rfl⟩ := (idxs_mem _ _).1 ha
        rw [idx_nat, fAt_lt xs j hj]; simp [hj]
      have hl2 : loopF (M.laws_FnFinishOrder_l2 (os, 0) (os, 0) (xs.map (plF xs), 0)) 1 = some (.nxt (if os.length = 0 then 1 else (os.length : Int))) := by
        have hpos : 0 < os.length := by have := hv.1.1; omega
        rw [if_neg (by omega)]
        refine loop_run (os.length - 1) (by omega) (fun i => ((i + 1 : Nat) : Int)) _ rfl (fun i hi => ?_) ?_
        · have hi' : i + 1 < os.length := by omega
          have e1 : (((i + 1 : Nat) : Int) < (os.length : Int)) := by omega
          have e2 : w64 (((i + 1 : Nat) : Int) - 1) = (i : Int) := by rw [w64_of (by omega)]; omega
          have hk := (List.pairwise_iff_getElem.1 hsort) i (i + 1) (by omega) hi' (by omega)
          have m1 := hmem i (by omega)
          have m2 := hmem (i + 1) hi'
          have f1 := fAt_ok n xs hv.2 _ m1
          have f2 := fAt_ok n xs hv.2 _ m2
          simp only [M.laws_FnFinishOrder_l2, M.laws_FnFinishOrder_j3, e1, decide_true, ifB_true, e2, idx_lt os i (by omega), idx_lt os (i + 1) hi', bnd_some, hpl _ m1, hpl _ m2, step64 hi' (by omega), ifB_if, if_true]
          have p1 := pl_bd xs (fAt xs os[i]).Time
          have p2 := pl_bd xs (fAt xs os[i + 1]).Time
          unfold keyF at hk
          by_cases c1 : (fAt xs os[i]).Code = 0
          · have q1 : plF xs (fAt xs os[i]) = pl xs (fAt xs os[i]).Time := by simp [plF, c1]
            have g1 : ¬ pl xs (fAt xs os[i]).Time = 0 := by omega
            have g2 : 0 < pl xs (fAt xs os[i]).Time := by omega
            by_cases c2 : (fAt xs os[i + 1]).Code = 0
            · have q2 : plF xs (fAt xs os[i + 1]) = pl xs (fAt xs os[i + 1]).Time := by simp [plF, c2]
              rw [if_pos c1, if_pos c2] at hk
              have := pl_le xs _ _ hk
              have g3 : ¬ pl xs (fAt xs os[i + 1]).Time < pl xs (fAt xs os[i]).Time := by omega
              have g4 : 0 < pl xs (fAt xs os[i + 1]).Time := by omega
              rw [q1, q2]
              simp [g1, g2, g3, g4]
            · have q2 : plF xs (fAt xs os[i + 1]) = 0 := by simp [plF, c2]
              rw [q1, q2]
              simp [g1, g2]
          · have q1 : plF xs (fAt xs os[i]) = 0 := by simp [plF, c1]
            have c2 : ¬ (fAt xs os[i + 1]).Code = 0 := fun c2 => by
              rw [if_neg c1, if_pos c2] at hk
              have := f2.2.1 c2
              omega
            have q2 : plF xs (fAt xs os[i + 1]) = 0 := by simp [plF, c2]
            rw [q1, q2]
            simp
        · have h5 : os.length - 1 + 1 = os.length := by omega
          simp only [h5, M.laws_FnFinishOrder_l2, Int.lt_irrefl, decide_false, ifB_false]
      simp only [hl1, bnd_some, outc_nxt, M.laws_FnFinishOrder_a1, hl2, M.laws_FnFinishOrder_a2, if_pos (show (1 ≤ (xs.length : Int) ∧ (xs.length : Int) ≤ 16) ∧ OkRace (xs.length : Int) xs from by rw [← hn]; exact hv), bne_self_eq_false, ifB_false]
    · have hdec : decide ((1 ≤ n ∧ n ≤ 16) ∧ OkRace n r.Finishes) = false := decide_eq_false hv
      have e : ((1 : Int) == 0) = false := by decide
      have e2 : ((1 : Int) != 0) = true := by decide
      simp only [if_neg hv, hdec, bne_self_eq_false, ifB_false, p_likeInts ([] : List Int) (by simp), Bool.not_true, e, e2, M.laws_FnFinishOrder_j1, ifB_true, bnd_some]
end Go.Proofs.Ytgelmamcinlahaa
