/- Pure laws: comparing two boats; ranks. -/
import Derived.Test.YtpobaajdhfoomaaPureK3
namespace Go.Proofs.Ytpobaajdhfoomaa
open Go
set_option linter.unusedVariables false
set_option linter.unusedSimpArgs false
theorem loop_findR {ρ σ : Type} {body : σ → Option (Stp ρ σ)} {s : σ} (n : Nat) (hn : n < 18446744073709551616) (st : Nat → σ) (p : Nat → Bool) (r : Nat → ρ) (s' : σ) (h0 : s = st 0)
    (step : ∀ i, i < n → body (st i) = some (if p i then .ret (r i) else .cont (st (i + 1)))) (last : body (st n) = some (.brk s')) :
    loopF body s = some (match (List.range n).find? p with | some i => .ret (r i) | none => .nxt s') := by
  obtain ⟨o, ho, hq⟩ := loop_count (body := body) (s := s) n hn (fun i s => s = st i ∧ ∀ j, j < i → p j = false) (fun o => o = match (List.range n).find? p with | some i => .ret (r i) | none => .nxt s') ⟨h0, by simp⟩
    (fun i s hi hs => by
      obtain ⟨rfl, hs⟩ := hs
      refine ⟨_, step i hi, ?_⟩
      cases hp : p i with
      | true =>
        have he : (List.range n).find? p = some i := by
          rw [List.find?_range_eq_some]
          exact ⟨hp, by simpa using hi, fun j hj => by simp [hs j hj]⟩
        simp only [if_true, he]
      | false => refine ⟨rfl, fun j hj => ?_⟩; rcases Nat.lt_succ_iff_lt_or_eq.mp hj with h | h; exact hs j h; subst h; exact hp)
    (fun s hs => by
      obtain ⟨rfl, hs⟩ := hs
      refine ⟨_, last, ?_⟩
      have he : (List.range n).find? p = none := by
        rw [List.find?_range_eq_none]
        exact fun j hj => by simp [hs j hj]
      simp only [he])
  rw [ho, hq]
theorem perm_sum {xs ys : List Int} (h : xs.Perm ys) : xs.sum = ys.sum := by
  induction h with
  | nil => rfl
  | cons x _ ih => simp [ih]
  | swap x y l => simp; omega
  | trans _ _ h1 h2 => exact h1.trans h2
theorem sum_app (ys : List Int) : ∀ xs : List Int, (xs ++ ys).sum = xs.sum + ys.sum
  | [] => by simp
  | x :: xs => by simp [sum_app ys xs]; omega
def Bd (m : Int) (xs : List Int) : Prop := ∀ x ∈ xs, 0 ≤ x ∧ x ≤ m
theorem sum_bd (m : Int) (hm : 0 ≤ m) : ∀ (xs : List Int), Bd m xs → 0 ≤ xs.sum ∧ xs.sum ≤ m * (xs.length : Int)
  | [], _ => by simp
  | x :: xs, h => by
    have h1 := h x List.mem_cons_self
    have h2 := sum_bd m hm xs (fun y hy => h y (List.mem_cons_of_mem _ hy))
    simp only [List.sum_cons, List.length_cons]
    have e : m * ((xs.length + 1 : Nat) : Int) = m * (xs.length : Int) + m := by rw [Int.natCast_add, Int.mul_add]; simp
    omega
theorem take_bd (m : Int) (xs : List Int) (h : Bd m xs) (i : Nat) : Bd m (xs.take i) := fun x hx => h x (List.mem_of_mem_take hx)
theorem p_sumI (xs : List Int) (h : Bd 10000 xs) (hl : xs.length ≤ 1000) : M.spec_l27Sum xs = some xs.sum := by
  have hb : loopF (M.spec_l27Sum_l1 xs) (0, 0) = some (.nxt (xs.sum, (xs.length : Int))) := by
    refine loop_run xs.length (by omega) (fun i => ((xs.take i).sum, (i : Int))) _ (by simp) (fun i hi => ?_) ?_
    · have e1 : ((i : Int) < (xs.length : Int)) := by omega
      have h1 := sum_bd 10000 (by omega) _ (take_bd 10000 xs h i)
      have h2 := h xs[i] (List.getElem_mem hi)
      have h3 : (xs.take i).length ≤ 1000 := by simp; omega
      have e2 : (xs.take (i + 1)).sum = (xs.take i).sum + xs[i] := by rw [List.take_succ_eq_append_getElem hi, sum_app]; simp
      simp only [M.spec_l27Sum_l1, e1, decide_true, ifB_true, idx_lt _ i hi, bnd_some, step64 hi (by omega), e2]
      rw [w64_of (by omega)]
    · simp [M.spec_l27Sum_l1]
  rw [M.spec_l27Sum, hb]; rfl
theorem ctK_bd (t : Table) (rule : List Int) (b : Int) (ht : IsTable t) (h0 : 0 ≤ b) (h1 : b < t.Boats) : Bd 10000 (ctK t rule b) := fun x hx => by
  unfold ctK at hx
  obtain ⟨k, hk, rfl⟩ := List.mem_map.1 hx
  obtain ⟨⟨r, _, _, g1, g2⟩, _⟩ := tab_get t ht b h0 h1 k (List.mem_filter.1 hk).1
  exact ⟨g1, g2⟩
theorem ctK_le (t : Table) (rule : List Int) (b : Int) (ht : IsTable t) : (ctK t rule b).length ≤ 12 := by have := ctK_len t rule b; have := ht.2.1; omega
theorem ntK_sum (t : Table) (rule : List Int) (b : Int) (ht : IsTable t) (h0 : 0 ≤ b) (h1 : b < t.Boats) : ntK t rule b = (ctK t rule b).sum := by
  have := ctK_le t rule b ht
  unfold ntK; rw [p_sumI _ (ctK_bd t rule b ht h0 h1) (by omega)]; rfl
theorem ntK_bd (t : Table) (rule : List Int) (b : Int) (ht : IsTable t) (h0 : 0 ≤ b) (h1 : b < t.Boats) : 0 ≤ ntK t rule b ∧ ntK t rule b ≤ 120000 := by
  have h := sum_bd 10000 (by omega) _ (ctK_bd t rule b ht h0 h1)
  have := ctK_le t rule b ht
  rw [ntK_sum t rule b ht h0 h1]; omega
def stK (t : Table) (rule : List Int) (b : Int) : List Int := srtI (ctK t rule b)
theorem stK_bd (t : Table) (rule : List Int) (b : Int) (ht : IsTable t) (h0 : 0 ≤ b) (h1 : b < t.Boats) : Bd 10000 (stK t rule b) := fun x hx => ctK_bd t rule b ht h0 h1 x ((srtI_perm _).mem_iff.1 hx)
theorem stK_le (t : Table) (rule : List Int) (b : Int) (ht : IsTable t) : (stK t rule b).length ≤ 12 := by unfold stK; rw [srtI_len]; exact ctK_le t rule b ht
theorem stK_sum (t : Table) (rule : List Int) (b : Int) (ht : IsTable t) (h0 : 0 ≤ b) (h1 : b < t.Boats) : (stK t rule b).sum = ntK t rule b := by
  rw [ntK_sum t rule b ht h0 h1]; exact perm_sum (srtI_perm _)
def sg (a b : Int) : Int := if a < b then -1 else if b < a then 1 else 0
theorem p_sg (a b : Int) : M.spec_l28Sign a b = some (sg a b) := by
  unfold sg
  simp only [M.spec_l28Sign, ifB_if, decide_eq_true_eq]
  split
  · rfl
  · split <;> rfl
theorem p_sgn (a b : Int) (h : -1000000 ≤ a - b ∧ a - b ≤ 1000000) : M.impl_sign (w64 (a - b)) = some (sg a b) := by
  rw [p_sign, w64_of (by omega)]
  unfold sg
  congr 1
  split
  · rw [if_pos (by omega)]
  · rename_i h1
    rw [if_neg (by omega : ¬ a < b)]
    split
    · rw [if_pos (by omega)]
    · rw [if_neg (by omega)]
def dfF (x y : List Int) : Option Nat := (List.range (min x.length y.length)).find? fun i => x.getD i 0 != y.getD i 0
def dfL (t : Table) (a b : Int) : Option Nat := (List.range t.Points.length).find? fun j => ptK t a ((t.Points.length - 1 - j : Nat) : Int) != ptK t b ((t.Points.length - 1 - j : Nat) : Int)
def lstB (t : Table) (a b : Int) : Int × Int × Int := match dfL t a b with
  | some j => (sg (ptK t a ((t.Points.length - 1 - j : Nat) : Int)) (ptK t b ((t.Points.length - 1 - j : Nat) : Int)), 3, ((t.Points.length - 1 - j : Nat) : Int))
  | none => (0, 0, 0)
def cmpB (t : Table) (rule : List Int) (a b : Int) : Int × Int × Int :=
  if ntK t rule a ≠ ntK t rule b then (sg (ntK t rule a) (ntK t rule b), 1, 0) else
  match dfF (stK t rule a) (stK t rule b) with
  | some i => (sg ((stK t rule a).getD i 0) ((stK t rule b).getD i 0), 2, 0)
  | none => lstB t a b
theorem getD_lt (x : List Int) (i : Nat) (h : i < x.length) : x.getD i 0 = x[i] := by simp [List.getD, h]
theorem p_first (x y : List Int) (hx : Bd 10000 x) (hy : Bd 10000 y) (lx : x.length ≤ 12) (ly : y.length ≤ 12) :
    loopF (M.impl_compareBoats_l1 x y) 0 = some (match dfF x y with | some i => .ret (sg (x.getD i 0) (y.getD i 0), 2, 0) | none => .nxt ((min x.length y.length : Nat) : Int)) ∧
    loopF (M.spec_l28Compare_l1 x y) 0 = some (match dfF x y with | some i => .ret (sg (x.getD i 0) (y.getD i 0), 2, 0) | none => .nxt ((min x.length y.length : Nat) : Int)) := by
  unfold dfF
  constructor
  · refine loop_findR (min x.length y.length) (by omega) (fun i => (i : Int)) _ (fun i => (sg (x.getD i 0) (y.getD i 0), 2, 0)) _ rfl (fun i hi => ?_) ?_
    · have ix : i < x.length := by omega
      have iy : i < y.length := by omega
      have e1 : ((i : Int) < min (x.length : Int) (y.length : Int)) := by omega
      have b1 := hx x[i] (List.getElem_mem ix)
      have b2 := hy y[i] (List.getElem_mem iy)
      simp only [M.impl_compareBoats_l1, e1, decide_true, ifB_true, idx_lt _ i ix, idx_lt _ i iy, bnd_some, p_sgn x[i] y[i] (by omega), step64 hi (by omega), getD_lt x i ix, getD_lt y i iy]
      cases x[i] != y[i] <;> simp
    · have e1 : ¬ (((min x.length y.length : Nat) : Int) < min (x.length : Int) (y.length : Int)) := by omega
      simp only [M.impl_compareBoats_l1, e1, decide_false, ifB_false]
  · refine loop_findR (min x.length y.length) (by omega) (fun i => (i : Int)) _ (fun i => (sg (x.getD i 0) (y.getD i 0), 2, 0)) _ rfl (fun i hi => ?_) ?_
    · have ix : i < x.length := by omega
      have iy : i < y.length := by omega
      have e1 : ((i : Int) < (x.length : Int)) := by omega
      have e2 : ((i : Int) < (y.length : Int)) := by omega
      simp only [M.spec_l28Compare_l1, M.spec_l28Compare_j1, e1, e2, decide_true, ifB_true, idx_lt _ i ix, idx_lt _ i iy, bnd_some, p_sg, step64 hi (by omega), getD_lt x i ix, getD_lt y i iy]
      cases x[i] != y[i] <;> simp
    · by_cases hx1 : ((min x.length y.length : Nat) : Int) < (x.length : Int)
      · have e2 : ¬ (((min x.length y.length : Nat) : Int) < (y.length : Int)) := by omega
        simp only [M.spec_l28Compare_l1, M.spec_l28Compare_j1, hx1, e2, decide_true, decide_false, ifB_true, ifB_false]
      · simp only [M.spec_l28Compare_l1, M.spec_l28Compare_j1, hx1, decide_false, ifB_false]
theorem p_last (t : Table) (a b : Int) (ht : IsTable t) (a0 : 0 ≤ a) (a1 : a < t.Boats) (b0 : 0 ≤ b) (b1 : b < t.Boats) :
    loopF (M.impl_compareBoats_l2 t a b) ((t.Points.length : Int) - 1) = some (match dfL t a b with | some j => .ret (sg (ptK t a ((t.Points.length - 1 - j : Nat) : Int)) (ptK t b ((t.Points.length - 1 - j : Nat) : Int)), 3, ((t.Points.length - 1 - j : Nat) : Int)) | none => .nxt (-1)) ∧
    loopF (M.spec_l28Compare_l2 t a b) ((t.Points.length : Int) - 1) = some (match dfL t a b with | some j => .ret (sg (ptK t a ((t.Points.length - 1 - j : Nat) : Int)) (ptK t b ((t.Points.length - 1 - j : Nat) : Int)), 3, ((t.Points.length - 1 - j : Nat) : Int)) | none => .nxt (-1)) := by
  have hn := ht.2.1
  unfold dfL
  have key : ∀ j, j < t.Points.length → ∃ r, idx t.Points ((t.Points.length : Int) - 1 - (j : Int)) = some r ∧ idx r a = some (ptK t a ((t.Points.length - 1 - j : Nat) : Int)) ∧ idx r b = some (ptK t b ((t.Points.length - 1 - j : Nat) : Int)) ∧
      (0 ≤ ptK t a ((t.Points.length - 1 - j : Nat) : Int) ∧ ptK t a ((t.Points.length - 1 - j : Nat) : Int) ≤ 10000) ∧ (0 ≤ ptK t b ((t.Points.length - 1 - j : Nat) : Int) ∧ ptK t b ((t.Points.length - 1 - j : Nat) : Int) ≤ 10000) := fun j hj => by
    have hk : ((t.Points.length - 1 - j : Nat) : Int) ∈ idxs t.Points.length := (idxs_mem _ _).2 ⟨_, by omega, rfl⟩
    obtain ⟨⟨r, x1, x2, x3, x4⟩, _⟩ := tab_get t ht a a0 a1 _ hk
    obtain ⟨⟨r', y1, y2, y3, y4⟩, _⟩ := tab_get t ht b b0 b1 _ hk
    rw [x1] at y1
    injection y1 with y1
    subst y1
    have e : (t.Points.length : Int) - 1 - (j : Int) = ((t.Points.length - 1 - j : Nat) : Int) := by omega
    exact ⟨r, by rw [e]; exact x1, x2, y2, ⟨x3, x4⟩, ⟨y3, y4⟩⟩
  constructor
  · refine loop_findR t.Points.length (by omega) (fun j => (t.Points.length : Int) - 1 - (j : Int)) _ (fun j => (sg (ptK t a ((t.Points.length - 1 - j : Nat) : Int)) (ptK t b ((t.Points.length - 1 - j : Nat) : Int)), 3, ((t.Points.length - 1 - j : Nat) : Int))) _ (by simp) (fun j hj => ?_) ?_
    · obtain ⟨r, x1, x2, x3, x4, x5⟩ := key j hj
      have e1 : (0 ≤ (t.Points.length : Int) - 1 - (j : Int)) := by omega
      have e : (t.Points.length : Int) - 1 - (j : Int) = ((t.Points.length - 1 - j : Nat) : Int) := by omega
      have e3 : (t.Points.length : Int) - 1 - (j : Int) - 1 = (t.Points.length : Int) - 1 - ((j + 1 : Nat) : Int) := by omega
      simp only [M.impl_compareBoats_l2, e1, decide_true, ifB_true, x1, x2, x3, bnd_some, p_sgn _ _ (show -1000000 ≤ ptK t a ((t.Points.length - 1 - j : Nat) : Int) - ptK t b ((t.Points.length - 1 - j : Nat) : Int) ∧ ptK t a ((t.Points.length - 1 - j : Nat) : Int) - ptK t b ((t.Points.length - 1 - j : Nat) : Int) ≤ 1000000 by omega), e3]
      cases ptK t a ((t.Points.length - 1 - j : Nat) : Int) != ptK t b ((t.Points.length - 1 - j : Nat) : Int)
      · simp
      · simp [e]
    · have e1 : ¬ (0 ≤ (t.Points.length : Int) - 1 - (t.Points.length : Int)) := by omega
      have e2 : (t.Points.length : Int) - 1 - (t.Points.length : Int) = -1 := by omega
      simp only [M.impl_compareBoats_l2, e1, decide_false, ifB_false]
      rw [e2]
  · refine loop_findR t.Points.length (by omega) (fun j => (t.Points.length : Int) - 1 - (j : Int)) _ (fun j => (sg (ptK t a ((t.Points.length - 1 - j : Nat) : Int)) (ptK t b ((t.Points.length - 1 - j : Nat) : Int)), 3, ((t.Points.length - 1 - j : Nat) : Int))) _ (by simp) (fun j hj => ?_) ?_
    · obtain ⟨r, x1, x2, x3, x4, x5⟩ := key j hj
      have e1 : (0 ≤ (t.Points.length : Int) - 1 - (j : Int)) := by omega
      have e : (t.Points.length : Int) - 1 - (j : Int) = ((t.Points.length - 1 - j : Nat) : Int) := by omega
      have e3 : w64 ((t.Points.length : Int) - 1 - (j : Int) - 1) = (t.Points.length : Int) - 1 - ((j + 1 : Nat) : Int) := by rw [w64_of (by omega)]; omega
      simp only [M.spec_l28Compare_l2, e1, decide_true, ifB_true, x1, x2, x3, bnd_some, p_sg, e3]
      cases ptK t a ((t.Points.length - 1 - j : Nat) : Int) != ptK t b ((t.Points.length - 1 - j : Nat) : Int)
      · simp
      · simp [e]
    · have e1 : ¬ (0 ≤ (t.Points.length : Int) - 1 - (t.Points.length : Int)) := by omega
      have e2 : (t.Points.length : Int) - 1 - (t.Points.length : Int) = -1 := by omega
      simp only [M.spec_l28Compare_l2, e1, decide_false, ifB_false]
      rw [e2]
theorem p_compare (t : Table) (rule : List Int) (a b : Int) (ht : IsTable t) (a0 : 0 ≤ a) (a1 : a < t.Boats) (b0 : 0 ≤ b) (b1 : b < t.Boats) (hr : rule.length ≤ 3) :
    M.impl_compareBoats t rule a b = some (cmpB t rule a b) ∧ M.spec_l28Compare t rule a b = some (cmpB t rule a b) := by
  have na := ntK_bd t rule a ht a0 a1
  have nb := ntK_bd t rule b ht b0 b1
  have ca := ctK_le t rule a ht
  have cb := ctK_le t rule b ht
  obtain ⟨f1, f2⟩ := p_first (stK t rule a) (stK t rule b) (stK_bd t rule a ht a0 a1) (stK_bd t rule b ht b0 b1) (stK_le t rule a ht) (stK_le t rule b ht)
  obtain ⟨l1, l2⟩ := p_last t a b ht a0 a1 b0 b1
  have sa : M.impl_sortedPoints t rule a = some (stK t rule a) := by rw [M.impl_sortedPoints, p_implCounted t rule a ht a0 a1 hr, bnd_some, p_Sort _ ca]; rfl
  have sb : M.impl_sortedPoints t rule b = some (stK t rule b) := by rw [M.impl_sortedPoints, p_implCounted t rule b ht b0 b1 hr, bnd_some, p_Sort _ cb]; rfl
  have ua := p_sumI (stK t rule a) (stK_bd t rule a ht a0 a1) (by have := stK_le t rule a ht; omega)
  have ub := p_sumI (stK t rule b) (stK_bd t rule b ht b0 b1) (by have := stK_le t rule b ht; omega)
  rw [stK_sum t rule a ht a0 a1] at ua
  rw [stK_sum t rule b ht b0 b1] at ub
  have ew : w64 ((t.Points.length : Int) - 1) = (t.Points.length : Int) - 1 := w64_of (by have := ht.2.1; omega)
  unfold cmpB
  constructor
  · simp only [M.impl_compareBoats, (p_net t rule a ht a0 a1 hr).1, (p_net t rule b ht b0 b1 hr).1, bnd_some, sa, sb, f1, p_sgn _ _ (show -1000000 ≤ ntK t rule a - ntK t rule b ∧ ntK t rule a - ntK t rule b ≤ 1000000 by omega)]
    by_cases h : ntK t rule a = ntK t rule b
    · have e : (w64 (ntK t rule a - ntK t rule b) != 0) = false := by rw [w64_of (by omega)]; simp; omega
      simp only [e, ifB_false]
      simp only [h, ne_eq, not_true_eq_false, if_false]
      cases dfF (stK t rule a) (stK t rule b) with
      | some i => simp only [outc_ret]
      | none =>
        simp only [outc_nxt, M.impl_compareBoats_a1, l1, bnd_some]
        unfold lstB
        cases dfL t a b <;> simp [M.impl_compareBoats_a2]
    · have e : (w64 (ntK t rule a - ntK t rule b) != 0) = true := by rw [w64_of (by omega)]; simp; omega
      simp only [e, ifB_true, ne_eq, h, not_false_eq_true, if_true]
  · simp only [M.spec_l28Compare, p_specCounted t rule a ht a0 a1 hr, p_specCounted t rule b ht b0 b1 hr, bnd_some, p_l28Sorted _ (show (ctK t rule a).length ≤ 1048576 by omega), p_l28Sorted _ (show (ctK t rule b).length ≤ 1048576 by omega)]
    change (bnd (M.spec_l27Sum (stK t rule a)) fun x37 => bnd (M.spec_l27Sum (stK t rule b)) fun x42 => ifB (x37 != x42) (bnd (M.spec_l27Sum (stK t rule a)) fun x48 => bnd (M.spec_l27Sum (stK t rule b)) fun x53 => bnd (M.spec_l28Sign x48 x53) fun x58 => some (x58, 1, 0)) (bnd (loopF (M.spec_l28Compare_l1 (stK t rule a) (stK t rule b)) 0) fun o => outc o (fun x => some x) (fun s => M.spec_l28Compare_a1 t a b s))) = _
    simp only [ua, ub, bnd_some, p_sg, f2]
    by_cases h : ntK t rule a = ntK t rule b
    · simp only [h, bne_self_eq_false, ifB_false, ne_eq, not_true_eq_false, if_false]
      cases dfF (stK t rule a) (stK t rule b) with
      | some i => simp only [outc_ret]
      | none =>
        simp only [outc_nxt, M.spec_l28Compare_a1, ew, l2, bnd_some]
        unfold lstB
        cases dfL t a b <;> simp [M.spec_l28Compare_a2]
    · have e : (ntK t rule a != ntK t rule b) = true := by simpa using h
      simp only [e, ifB_true, ne_eq, h, not_false_eq_true, if_true]
def betB (t : Table) (rule : List Int) (b k : Int) : Bool := decide ((cmpB t rule k b).1 < 0)
def rkB (t : Table) (rule : List Int) (b : Int) : Int := 1 + (((idxs t.Boats.toNat).countP (betB t rule b) : Nat) : Int)
theorem cntI_succ (p : Int → Bool) (i : Nat) : (idxs (i + 1)).countP p = (idxs i).countP p + if p (i : Int) = true then 1 else 0 := by
  rw [idxs_succ, List.countP_append]
  cases hp : p (i : Int) <;> simp [hp]
theorem cntI_le (p : Int → Bool) (i : Nat) : (idxs i).countP p ≤ i := by have := List.countP_le_length (p := p) (l := idxs i); rw [idxs_len] at this; exact this
theorem p_specRank (t : Table) (rule : List Int) (b : Int) (ht : IsTable t) (b0 : 0 ≤ b) (b1 : b < t.Boats) (hr : rule.length ≤ 3) : M.spec_l28Rank t rule b = some (rkB t rule b) := by
  have hb := ht.1
  have hl : loopF (M.spec_l28Rank_l1 t rule b) (1, 0) = some (.nxt (rkB t rule b, (t.Boats.toNat : Int))) := by
    refine loop_run t.Boats.toNat (by omega) (fun i => (1 + (((idxs i).countP (betB t rule b) : Nat) : Int), (i : Int))) _ (by simp [idxs]) (fun i hi => ?_) ?_
    · have e1 : ((i : Int) < t.Boats) := by omega
      have hc := cntI_le (betB t rule b) i
      have ew : w64 (1 + (((idxs i).countP (betB t rule b) : Nat) : Int) + 1) = 1 + (((idxs i).countP (betB t rule b) + 1 : Nat) : Int) := by rw [w64_of (by omega)]; omega
      simp only [M.spec_l28Rank_l1, M.spec_l28Rank_j2, M.spec_l28Rank_j1, e1, decide_true, ifB_true, (p_compare t rule (i : Int) b ht (by omega) e1 b0 b1 hr).2, bnd_some, step64 hi (by omega), cntI_succ]
      change ifB (betB t rule b (i : Int)) _ _ = _
      cases betB t rule b (i : Int)
      · simp
      · simp only [ifB_true, ew, if_true]
    · have e1 : ¬ ((t.Boats.toNat : Int) < t.Boats) := by omega
      simp only [M.spec_l28Rank_l1, e1, decide_false, ifB_false]; rfl
  rw [M.spec_l28Rank, hl]; rfl
end Go.Proofs.Ytpobaajdhfoomaa
