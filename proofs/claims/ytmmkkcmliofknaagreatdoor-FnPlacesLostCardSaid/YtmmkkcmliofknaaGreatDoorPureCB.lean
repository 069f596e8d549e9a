/- Pure laws: comparing two boats; ranks. -/
import Derived.Test.YtmmkkcmliofknaaGreatDoorPureK3
namespace Go.Proofs.YtmmkkcmliofknaaGreatDoor
open Go
set_option linter.unusedVariables false
set_option linter.unusedSimpArgs false
theorem zKE {ρ σ : Type} {body : σ → Option (Stp ρ σ)} {s : σ} (n : Nat) (hn : n < 18446744073709551616) (st : Nat → σ) (p : Nat → Bool) (r : Nat → ρ) (s' : σ) (h0 : s = st 0)
    (step : ∀ i, i < n → body (st i) = some (if p i then .ret (r i) else .cont (st (i + 1)))) (last : body (st n) = some (.brk s')) :
    zAO body s = some (match (List.range n).find? p with | some i => .ret (r i) | none => .nxt s') := by
  obtain ⟨o, ho, hq⟩ := zDd (body := body) (s := s) n hn (fun i s => s = st i ∧ ∀ j, j < i → p j = false) (fun o => o = match (List.range n).find? p with | some i => .ret (r i) | none => .nxt s') ⟨h0, by simp⟩
    (fun i s hi hs => by
      obtain ⟨rfl, hs⟩ := hs
      refine ⟨_, step i hi, ?_⟩
      cases hp : p i with
      | true =>
        have he : (List.range n).find? p = some i := by
          rw [List.find?_range_eq_some]
          exact ⟨hp, by simpa using hi, fun j hj => by simp [hs j hj]⟩
        simp only [if_true, he]
      | false => refine ⟨rfl, fun j hj => ?_⟩; rcases Nat.lt_succ_iff_lt_or_eq.mp hj with h | h; exact hs j h; subst h; exact hp)
    (fun s hs => by
      obtain ⟨rfl, hs⟩ := hs
      refine ⟨_, last, ?_⟩
      have he : (List.range n).find? p = none := by
        rw [List.find?_range_eq_none]
        exact fun j hj => by simp [hs j hj]
      simp only [he])
  rw [ho, hq]
theorem zRP {xs ys : List Int} (h : xs.Perm ys) : xs.sum = ys.sum := by
  induction h with
  | nil => rfl
  | cons x _ ih => simp [ih]
  | swap x y l => simp; omega
  | trans _ _ h1 h2 => exact h1.trans h2
theorem zPJ (ys : List Int) : ∀ xs : List Int, (xs ++ ys).sum = xs.sum + ys.sum
  | [] => by simp
  | x :: xs => by simp [zPJ ys xs]; omega
def Bd (m : Int) (xs : List Int) : Prop := ∀ x ∈ xs, 0 ≤ x ∧ x ≤ m
theorem zPi (m : Int) (hm : 0 ≤ m) : ∀ (xs : List Int), Bd m xs → 0 ≤ xs.sum ∧ xs.sum ≤ m * (xs.length : Int)
  | [], _ => by simp
  | x :: xs, h => by
    have h1 := h x List.mem_cons_self
    have h2 := zPi m hm xs (fun y hy => h y (List.mem_cons_of_mem _ hy))
    simp only [List.sum_cons, List.length_cons]
    have e : m * ((xs.length + 1 : Nat) : Int) = m * (xs.length : Int) + m := by rw [Int.natCast_add, Int.mul_add]; simp
    omega
theorem zSz (m : Int) (xs : List Int) (h : Bd m xs) (i : Nat) : Bd m (xs.take i) := fun x hx => h x (List.mem_of_mem_take hx)
theorem zPj (xs : List Int) (h : Bd 10000 xs) (hl : xs.length ≤ 1000) : zBN xs = some xs.sum := by
  have hb : zAO (zDM xs) (0, 0) = some (.nxt (xs.sum, (xs.length : Int))) := by
    refine zBy xs.length (by omega) (fun i => ((xs.take i).sum, (i : Int))) _ (by simp) (fun i hi => ?_) ?_
    · have e1 : ((i : Int) < (xs.length : Int)) := by omega
      have h1 := zPi 10000 (by omega) _ (zSz 10000 xs h i)
      have h2 := h xs[i] (List.getElem_mem hi)
      have h3 : (xs.take i).length ≤ 1000 := by simp; omega
      have e2 : (xs.take (i + 1)).sum = (xs.take i).sum + xs[i] := by rw [List.take_succ_eq_append_getElem hi, zPJ]; simp
      simp only [zDM, e1, decide_true, zAy, zBs _ i hi, zAr, zBB hi (by omega), e2]
      rw [zBl (by omega)]
    · simp [zDM]
  rw [zBN, hb]; rfl
theorem zPk (t : Table) (rule : List Int) (b : Int) (ht : zCm t) (h0 : 0 ≤ b) (h1 : b < t.Boats) : Bd 10000 (ctK t rule b) := fun x hx => by
  unfold ctK at hx
  obtain ⟨k, hk, rfl⟩ := List.mem_map.1 hx
  obtain ⟨⟨r, _, _, g1, g2⟩, _⟩ := zIV t ht b h0 h1 k (List.mem_filter.1 hk).1
  exact ⟨g1, g2⟩
theorem zM7 (t : Table) (rule : List Int) (b : Int) (ht : zCm t) : (ctK t rule b).length ≤ 12 := by have := zPT t rule b; have := ht.2.1; omega
theorem zPK (t : Table) (rule : List Int) (b : Int) (ht : zCm t) (h0 : 0 ≤ b) (h1 : b < t.Boats) : ntK t rule b = (ctK t rule b).sum := by
  have := zM7 t rule b ht
  unfold ntK; rw [zPj _ (zPk t rule b ht h0 h1) (by omega)]; rfl
theorem zRQ (t : Table) (rule : List Int) (b : Int) (ht : zCm t) (h0 : 0 ≤ b) (h1 : b < t.Boats) : 0 ≤ ntK t rule b ∧ ntK t rule b ≤ 120000 := by
  have h := zPi 10000 (by omega) _ (zPk t rule b ht h0 h1)
  have := zM7 t rule b ht
  rw [zPK t rule b ht h0 h1]; omega
def stK (t : Table) (rule : List Int) (b : Int) : List Int := zMi (ctK t rule b)
theorem zNU (t : Table) (rule : List Int) (b : Int) (ht : zCm t) (h0 : 0 ≤ b) (h1 : b < t.Boats) : Bd 10000 (stK t rule b) := fun x hx => zPk t rule b ht h0 h1 x ((zLk _).mem_iff.1 hx)
theorem zNV (t : Table) (rule : List Int) (b : Int) (ht : zCm t) : (stK t rule b).length ≤ 12 := by unfold stK; rw [zON]; exact zM7 t rule b ht
theorem zPL (t : Table) (rule : List Int) (b : Int) (ht : zCm t) (h0 : 0 ≤ b) (h1 : b < t.Boats) : (stK t rule b).sum = ntK t rule b := by
  rw [zPK t rule b ht h0 h1]; exact zRP (zLk _)
def sg (a b : Int) : Int := if a < b then -1 else if b < a then 1 else 0
theorem zTb (a b : Int) : zEY a b = some (sg a b) := by
  unfold sg
  simp only [zEY, zBm, decide_eq_true_eq]
  split
  · rfl
  · split <;> rfl
theorem zRR (a b : Int) (h : -1000000 ≤ a - b ∧ a - b ≤ 1000000) : zGN (w64 (a - b)) = some (sg a b) := by
  rw [zR5, zBl (by omega)]
  unfold sg
  congr 1
  split
  · rw [if_pos (by omega)]
  · rename_i h1
    rw [if_neg (by omega : ¬ a < b)]
    split
    · rw [if_pos (by omega)]
    · rw [if_neg (by omega)]
def dfF (x y : List Int) : Option Nat := (List.range (min x.length y.length)).find? fun i => x.getD i 0 != y.getD i 0
def dfL (t : Table) (a b : Int) : Option Nat := (List.range t.Points.length).find? fun j => ptK t a ((t.Points.length - 1 - j : Nat) : Int) != ptK t b ((t.Points.length - 1 - j : Nat) : Int)
def zTc (t : Table) (a b : Int) : Int × Int × Int := match dfL t a b with
  | some j => (sg (ptK t a ((t.Points.length - 1 - j : Nat) : Int)) (ptK t b ((t.Points.length - 1 - j : Nat) : Int)), 3, ((t.Points.length - 1 - j : Nat) : Int))
  | none => (0, 0, 0)
def zSA (t : Table) (rule : List Int) (a b : Int) : Int × Int × Int :=
  if ntK t rule a ≠ ntK t rule b then (sg (ntK t rule a) (ntK t rule b), 1, 0) else
  match dfF (stK t rule a) (stK t rule b) with
  | some i => (sg ((stK t rule a).getD i 0) ((stK t rule b).getD i 0), 2, 0)
  | none => zTc t a b
theorem zMU (x : List Int) (i : Nat) (h : i < x.length) : x.getD i 0 = x[i] := by simp [List.getD, h]
theorem zSB (x y : List Int) (hx : Bd 10000 x) (hy : Bd 10000 y) (lx : x.length ≤ 12) (ly : y.length ≤ 12) :
    zAO (zEl x y) 0 = some (match dfF x y with | some i => .ret (sg (x.getD i 0) (y.getD i 0), 2, 0) | none => .nxt ((min x.length y.length : Nat) : Int)) ∧
    zAO (zCP x y) 0 = some (match dfF x y with | some i => .ret (sg (x.getD i 0) (y.getD i 0), 2, 0) | none => .nxt ((min x.length y.length : Nat) : Int)) := by
  unfold dfF
  constructor
  · refine zKE (min x.length y.length) (by omega) (fun i => (i : Int)) _ (fun i => (sg (x.getD i 0) (y.getD i 0), 2, 0)) _ rfl (fun i hi => ?_) ?_
    · have ix : i < x.length := by omega
      have iy : i < y.length := by omega
      have e1 : ((i : Int) < min (x.length : Int) (y.length : Int)) := by omega
      have b1 := hx x[i] (List.getElem_mem ix)
      have b2 := hy y[i] (List.getElem_mem iy)
      simp only [zEl, e1, decide_true, zAy, zBs _ i ix, zBs _ i iy, zAr, zRR x[i] y[i] (by omega), zBB hi (by omega), zMU x i ix, zMU y i iy]
      cases x[i] != y[i] <;> simp
    · have e1 : ¬ (((min x.length y.length : Nat) : Int) < min (x.length : Int) (y.length : Int)) := by omega
      simp only [zEl, e1, decide_false, zAG]
  · refine zKE (min x.length y.length) (by omega) (fun i => (i : Int)) _ (fun i => (sg (x.getD i 0) (y.getD i 0), 2, 0)) _ rfl (fun i hi => ?_) ?_
    · have ix : i < x.length := by omega
      have iy : i < y.length := by omega
      have e1 : ((i : Int) < (x.length : Int)) := by omega
      have e2 : ((i : Int) < (y.length : Int)) := by omega
      simp only [zCP, zCO, e1, e2, decide_true, zAy, zBs _ i ix, zBs _ i iy, zAr, zTb, zBB hi (by omega), zMU x i ix, zMU y i iy]
      cases x[i] != y[i] <;> simp
    · by_cases hx1 : ((min x.length y.length : Nat) : Int) < (x.length : Int)
      · have e2 : ¬ (((min x.length y.length : Nat) : Int) < (y.length : Int)) := by omega
        simp only [zCP, zCO, hx1, e2, decide_true, decide_false, zAy, zAG]
      · simp only [zCP, zCO, hx1, decide_false, zAG]
theorem zTd (t : Table) (a b : Int) (ht : zCm t) (a0 : 0 ≤ a) (a1 : a < t.Boats) (b0 : 0 ≤ b) (b1 : b < t.Boats) :
    zAO (zC0 t a b) ((t.Points.length : Int) - 1) = some (match dfL t a b with | some j => .ret (sg (ptK t a ((t.Points.length - 1 - j : Nat) : Int)) (ptK t b ((t.Points.length - 1 - j : Nat) : Int)), 3, ((t.Points.length - 1 - j : Nat) : Int)) | none => .nxt (-1)) ∧
    zAO (zE0 t a b) ((t.Points.length : Int) - 1) = some (match dfL t a b with | some j => .ret (sg (ptK t a ((t.Points.length - 1 - j : Nat) : Int)) (ptK t b ((t.Points.length - 1 - j : Nat) : Int)), 3, ((t.Points.length - 1 - j : Nat) : Int)) | none => .nxt (-1)) := by
  have hn := ht.2.1
  unfold dfL
  have key : ∀ j, j < t.Points.length → ∃ r, idx t.Points ((t.Points.length : Int) - 1 - (j : Int)) = some r ∧ idx r a = some (ptK t a ((t.Points.length - 1 - j : Nat) : Int)) ∧ idx r b = some (ptK t b ((t.Points.length - 1 - j : Nat) : Int)) ∧
      (0 ≤ ptK t a ((t.Points.length - 1 - j : Nat) : Int) ∧ ptK t a ((t.Points.length - 1 - j : Nat) : Int) ≤ 10000) ∧ (0 ≤ ptK t b ((t.Points.length - 1 - j : Nat) : Int) ∧ ptK t b ((t.Points.length - 1 - j : Nat) : Int) ≤ 10000) := fun j hj => by
    have hk : ((t.Points.length - 1 - j : Nat) : Int) ∈ zCG t.Points.length := (zIQ _ _).2 ⟨_, by omega, rfl⟩
    obtain ⟨⟨r, x1, x2, x3, x4⟩, _⟩ := zIV t ht a a0 a1 _ hk
    obtain ⟨⟨r', y1, y2, y3, y4⟩, _⟩ := zIV t ht b b0 b1 _ hk
    rw [x1] at y1
    injection y1 with y1
    subst y1
    have e : (t.Points.length : Int) - 1 - (j : Int) = ((t.Points.length - 1 - j : Nat) : Int) := by omega
    exact ⟨r, by rw [e]; exact x1, x2, y2, ⟨x3, x4⟩, ⟨y3, y4⟩⟩
  constructor
  · refine zKE t.Points.length (by omega) (fun j => (t.Points.length : Int) - 1 - (j : Int)) _ (fun j => (sg (ptK t a ((t.Points.length - 1 - j : Nat) : Int)) (ptK t b ((t.Points.length - 1 - j : Nat) : Int)), 3, ((t.Points.length - 1 - j : Nat) : Int))) _ (by simp) (fun j hj => ?_) ?_
    · obtain ⟨r, x1, x2, x3, x4, x5⟩ := key j hj
      have e1 : (0 ≤ (t.Points.length : Int) - 1 - (j : Int)) := by omega
      have e : (t.Points.length : Int) - 1 - (j : Int) = ((t.Points.length - 1 - j : Nat) : Int) := by omega
      have e3 : (t.Points.length : Int) - 1 - (j : Int) - 1 = (t.Points.length : Int) - 1 - ((j + 1 : Nat) : Int) := by omega
      simp only [zC0, e1, decide_true, zAy, x1, x2, x3, zAr, zRR _ _ (show -1000000 ≤ ptK t a ((t.Points.length - 1 - j : Nat) : Int) - ptK t b ((t.Points.length - 1 - j : Nat) : Int) ∧ ptK t a ((t.Points.length - 1 - j : Nat) : Int) - ptK t b ((t.Points.length - 1 - j : Nat) : Int) ≤ 1000000 by omega), e3]
      cases ptK t a ((t.Points.length - 1 - j : Nat) : Int) != ptK t b ((t.Points.length - 1 - j : Nat) : Int)
      · simp
      · simp [e]
    · have e1 : ¬ (0 ≤ (t.Points.length : Int) - 1 - (t.Points.length : Int)) := by omega
      have e2 : (t.Points.length : Int) - 1 - (t.Points.length : Int) = -1 := by omega
      simp only [zC0, e1, decide_false, zAG]
      rw [e2]
  · refine zKE t.Points.length (by omega) (fun j => (t.Points.length : Int) - 1 - (j : Int)) _ (fun j => (sg (ptK t a ((t.Points.length - 1 - j : Nat) : Int)) (ptK t b ((t.Points.length - 1 - j : Nat) : Int)), 3, ((t.Points.length - 1 - j : Nat) : Int))) _ (by simp) (fun j hj => ?_) ?_
    · obtain ⟨r, x1, x2, x3, x4, x5⟩ := key j hj
      have e1 : (0 ≤ (t.Points.length : Int) - 1 - (j : Int)) := by omega
      have e : (t.Points.length : Int) - 1 - (j : Int) = ((t.Points.length - 1 - j : Nat) : Int) := by omega
      have e3 : w64 ((t.Points.length : Int) - 1 - (j : Int) - 1) = (t.Points.length : Int) - 1 - ((j + 1 : Nat) : Int) := by rw [zBl (by omega)]; omega
      simp only [zE0, e1, decide_true, zAy, x1, x2, x3, zAr, zTb, e3]
      cases ptK t a ((t.Points.length - 1 - j : Nat) : Int) != ptK t b ((t.Points.length - 1 - j : Nat) : Int)
      · simp
      · simp [e]
    · have e1 : ¬ (0 ≤ (t.Points.length : Int) - 1 - (t.Points.length : Int)) := by omega
      have e2 : (t.Points.length : Int) - 1 - (t.Points.length : Int) = -1 := by omega
      simp only [zE0, e1, decide_false, zAG]
      rw [e2]
theorem zNE (t : Table) (rule : List Int) (a b : Int) (ht : zCm t) (a0 : 0 ≤ a) (a1 : a < t.Boats) (b0 : 0 ≤ b) (b1 : b < t.Boats) (hr : rule.length ≤ 3) :
    zFM t rule a b = some (zSA t rule a b) ∧ zGQ t rule a b = some (zSA t rule a b) := by
  have na := zRQ t rule a ht a0 a1
  have nb := zRQ t rule b ht b0 b1
  have ca := zM7 t rule a ht
  have cb := zM7 t rule b ht
  obtain ⟨f1, f2⟩ := zSB (stK t rule a) (stK t rule b) (zNU t rule a ht a0 a1) (zNU t rule b ht b0 b1) (zNV t rule a ht) (zNV t rule b ht)
  obtain ⟨l1, l2⟩ := zTd t a b ht a0 a1 b0 b1
  have sa : zCz t rule a = some (stK t rule a) := by rw [zCz, zKc t rule a ht a0 a1 hr, zAr, zPl _ ca]; rfl
  have sb : zCz t rule b = some (stK t rule b) := by rw [zCz, zKc t rule b ht b0 b1 hr, zAr, zPl _ cb]; rfl
  have ua := zPj (stK t rule a) (zNU t rule a ht a0 a1) (by have := zNV t rule a ht; omega)
  have ub := zPj (stK t rule b) (zNU t rule b ht b0 b1) (by have := zNV t rule b ht; omega)
  rw [zPL t rule a ht a0 a1] at ua
  rw [zPL t rule b ht b0 b1] at ub
  have ew : w64 ((t.Points.length : Int) - 1) = (t.Points.length : Int) - 1 := zBl (by have := ht.2.1; omega)
  unfold zSA
  constructor
  · simp only [zFM, (zSX t rule a ht a0 a1 hr).1, (zSX t rule b ht b0 b1 hr).1, zAr, sa, sb, f1, zRR _ _ (show -1000000 ≤ ntK t rule a - ntK t rule b ∧ ntK t rule a - ntK t rule b ≤ 1000000 by omega)]
    by_cases h : ntK t rule a = ntK t rule b
    · have e : (w64 (ntK t rule a - ntK t rule b) != 0) = false := by rw [zBl (by omega)]; simp; omega
      simp only [e, zAG]
      simp only [h, ne_eq, not_true_eq_false, if_false]
      cases dfF (stK t rule a) (stK t rule b) with
      | some i => simp only [zH2]
      | none =>
        simp only [zBx, zEk, l1, zAr]
        unfold zTc
        cases dfL t a b <;> simp [zEj]
    · have e : (w64 (ntK t rule a - ntK t rule b) != 0) = true := by rw [zBl (by omega)]; simp; omega
      simp only [e, zAy, ne_eq, h, not_false_eq_true, if_true]
  · simp only [zGQ, zLz t rule a ht a0 a1 hr, zLz t rule b ht b0 b1 hr, zAr, zMH _ (show (ctK t rule a).length ≤ 1048576 by omega), zMH _ (show (ctK t rule b).length ≤ 1048576 by omega)]
    change (bnd (zBN (stK t rule a)) fun x37 => bnd (zBN (stK t rule b)) fun x42 => ifB (x37 != x42) (bnd (zBN (stK t rule a)) fun x48 => bnd (zBN (stK t rule b)) fun x53 => bnd (zEY x48 x53) fun x58 => some (x58, 1, 0)) (bnd (zAO (zCP (stK t rule a) (stK t rule b)) 0) fun o => zBh o (fun x => some x) (fun s => zDN t a b s))) = _
    simp only [ua, ub, zAr, zTb, f2]
    by_cases h : ntK t rule a = ntK t rule b
    · simp only [h, bne_self_eq_false, zAG, ne_eq, not_true_eq_false, if_false]
      cases dfF (stK t rule a) (stK t rule b) with
      | some i => simp only [zH2]
      | none =>
        simp only [zBx, zDN, ew, l2, zAr]
        unfold zTc
        cases dfL t a b <;> simp [zEZ]
    · have e : (ntK t rule a != ntK t rule b) = true := by simpa using h
      simp only [e, zAy, ne_eq, h, not_false_eq_true, if_true]
def zMh (t : Table) (rule : List Int) (b k : Int) : Bool := decide ((zSA t rule k b).1 < 0)
def rkB (t : Table) (rule : List Int) (b : Int) : Int := 1 + (((zCG t.Boats.toNat).countP (zMh t rule b) : Nat) : Int)
theorem zNF (p : Int → Bool) (i : Nat) : (zCG (i + 1)).countP p = (zCG i).countP p + if p (i : Int) = true then 1 else 0 := by
  rw [zJv, List.countP_append]
  cases hp : p (i : Int) <;> simp [hp]
theorem zPM (p : Int → Bool) (i : Nat) : (zCG i).countP p ≤ i := by have := List.countP_le_length (p := p) (l := zCG i); rw [zJm] at this; exact this
theorem zKF (t : Table) (rule : List Int) (b : Int) (ht : zCm t) (b0 : 0 ≤ b) (b1 : b < t.Boats) (hr : rule.length ≤ 3) : zHK t rule b = some (rkB t rule b) := by
  have hb := ht.1
  have hl : zAO (zGS t rule b) (1, 0) = some (.nxt (rkB t rule b, (t.Boats.toNat : Int))) := by
    refine zBy t.Boats.toNat (by omega) (fun i => (1 + (((zCG i).countP (zMh t rule b) : Nat) : Int), (i : Int))) _ (by simp [zCG]) (fun i hi => ?_) ?_
    · have e1 : ((i : Int) < t.Boats) := by omega
      have hc := zPM (zMh t rule b) i
      have ew : w64 (1 + (((zCG i).countP (zMh t rule b) : Nat) : Int) + 1) = 1 + (((zCG i).countP (zMh t rule b) + 1 : Nat) : Int) := by rw [zBl (by omega)]; omega
      simp only [zGS, zGR, zIi, e1, decide_true, zAy, (zNE t rule (i : Int) b ht (by omega) e1 b0 b1 hr).2, zAr, zBB hi (by omega), zNF]
      change ifB (zMh t rule b (i : Int)) _ _ = _
      cases zMh t rule b (i : Int)
      · simp
      · simp only [zAy, ew, if_true]
    · have e1 : ¬ ((t.Boats.toNat : Int) < t.Boats) := by omega
      simp only [zGS, e1, decide_false, zAG]; rfl
  rw [zHK, hl]; rfl
def zJo (t : Table) (rule : List Int) : List Int := (zCG t.Boats.toNat).map (rkB t rule)
theorem zM8 (t : Table) (rule : List Int) : (zJo t rule).length = t.Boats.toNat := by simp [zJo, zJm]
theorem zK9 (t : Table) (rule : List Int) (i : Nat) (h : i < t.Boats.toNat) : (zJo t rule)[i]? = some (rkB t rule (i : Int)) := by
  simp [zJo, zCG, h]
theorem zLa (t : Table) (rule : List Int) (ht : zCm t) (hr : rule.length ≤ 3) : zGt t rule = some (zJo t rule) := by
  have hb := ht.1
  have lR := zM8 t rule
  rw [zGt, zBf (by omega)]
  have hl : zAO (zHi t rule) (List.replicate t.Boats.toNat (0 : Int), 0) = some (.nxt (zJo t rule, (t.Boats.toNat : Int))) := by
    refine zBy t.Boats.toNat (by omega) (fun i => (zI4 (zJo t rule) 0 i, (i : Int))) _ (by rw [zLo, lR]; rfl) (fun i hi => ?_) ?_
    · have e1 : ((i : Int) < ((List.replicate t.Boats.toNat (0 : Int)).length : Int)) := by simp; omega
      have iR : i < (zJo t rule).length := by omega
      have fl := zKp (zJo t rule) 0 i (by omega)
      have hi2 : zAO (zHh t rule (zI4 (zJo t rule) 0 i, (i : Int))) ((zI4 (zJo t rule) 0 i).set i 1, 0) = some (.nxt (zI4 (zJo t rule) 0 (i + 1), (t.Boats.toNat : Int))) := by
        refine zBy t.Boats.toNat (by omega) (fun j => ((zI4 (zJo t rule) 0 i).set i (1 + (((zCG j).countP (zMh t rule (i : Int)) : Nat) : Int)), (j : Int))) _ (by simp [zCG]) (fun j hj => ?_) ?_
        · have e2 : ((j : Int) < (((zI4 (zJo t rule) 0 i).set i 1).length : Int)) := by rw [List.length_set]; omega
          have hc := zPM (zMh t rule (i : Int)) j
          have ew : w64 (1 + (((zCG j).countP (zMh t rule (i : Int)) : Nat) : Int) + 1) = 1 + (((zCG j).countP (zMh t rule (i : Int)) + 1 : Nat) : Int) := by rw [zBl (by omega)]; omega
          have gi : ∀ z : Int, idx ((zI4 (zJo t rule) 0 i).set i z) (i : Int) = some z := fun z => zMr _ _ _ (by omega)
          simp only [zHh, zHg, zIn, Int.toNat_natCast, e2, decide_true, zAy, (zNE t rule (j : Int) (i : Int) ht (by omega) (by omega) (by omega) (by omega) hr).1, zAr, zBB hj (by omega), zNF, gi, List.set_set]
          change ifB (zMh t rule (i : Int) (j : Int)) _ _ = _
          cases zMh t rule (i : Int) (j : Int)
          · simp
          · simp only [zAy, ew, if_true]
        · have e2 : ¬ ((t.Boats.toNat : Int) < (((zI4 (zJo t rule) 0 i).set i 1).length : Int)) := by rw [List.length_set]; omega
          have eR : (1 + (((zCG t.Boats.toNat).countP (zMh t rule (i : Int)) : Nat) : Int)) = (zJo t rule)[i] := by
            have := zK9 t rule i hi
            rw [List.getElem?_eq_getElem iR] at this
            injection this with this
            rw [this]; rfl
          simp only [zHh, Int.toNat_natCast, e2, decide_false, zAG, zJD (zJo t rule) 0 i iR _ eR]
      simp only [zHi, e1, decide_true, zAy, zNk (zJo t rule) 0 i iR, zAr, Int.toNat_natCast, hi2, zBx, zHf, zBB hi (by omega)]
    · have e1 : ¬ ((t.Boats.toNat : Int) < ((List.replicate t.Boats.toNat (0 : Int)).length : Int)) := by simp
      have fa : zI4 (zJo t rule) 0 t.Boats.toNat = zJo t rule := by rw [← lR]; exact zMn _ _
      simp only [zHi, e1, decide_false, zAG, fa]
  rw [hl]; rfl
end Go.Proofs.YtmmkkcmliofknaaGreatDoor
