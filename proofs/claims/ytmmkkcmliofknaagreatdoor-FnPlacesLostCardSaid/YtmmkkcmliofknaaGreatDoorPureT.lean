/- Pure laws: places, points and tables. -/
import Derived.Test.YtmmkkcmliofknaaGreatDoorPureQ
namespace Go.Proofs.YtmmkkcmliofknaaGreatDoor
open Go
set_option linter.unusedVariables false
set_option linter.unusedSimpArgs false
def zI4 {α : Type} (L : List α) (z : α) (i : Nat) : List α := L.take i ++ List.replicate (L.length - i) z
theorem zLo {α : Type} (L : List α) (z : α) : zI4 L z 0 = List.replicate L.length z := by simp [zI4]
theorem zMn {α : Type} (L : List α) (z : α) : zI4 L z L.length = L := by simp [zI4]
theorem zKp {α : Type} (L : List α) (z : α) (i : Nat) (h : i ≤ L.length) : (zI4 L z i).length = L.length := by simp [zI4]; omega
theorem zNj {α : Type} (L : List α) (z : α) (i : Nat) (h : i < L.length) : (zI4 L z i)[i]? = some z := by
  unfold zI4
  rw [List.getElem?_append_right (by simp; omega), List.getElem?_replicate, if_pos (by simp; omega)]
theorem zJD {α : Type} (L : List α) (z : α) (i : Nat) (h : i < L.length) (a : α) (ha : a = L[i]) : (zI4 L z i).set i a = zI4 L z (i + 1) := by
  subst ha
  apply List.ext_getElem?
  intro j
  by_cases hj : i = j
  · subst hj
    rw [List.getElem?_set_self (by rw [zKp L z i (by omega)]; exact h)]
    unfold zI4
    rw [List.getElem?_append_left (by simp; omega), List.getElem?_take_of_lt (by omega), List.getElem?_eq_getElem h]
  · rw [List.getElem?_set_ne hj]
    unfold zI4
    by_cases hlt : j < i
    · rw [List.getElem?_append_left (by simp; omega), List.getElem?_append_left (by simp; omega), List.getElem?_take_of_lt hlt, List.getElem?_take_of_lt (by omega)]
    · rw [List.getElem?_append_right (by simp; omega), List.getElem?_append_right (by simp; omega), List.getElem?_replicate, List.getElem?_replicate]
      simp only [List.length_take]
      by_cases hz : j < L.length
      · rw [if_pos (by omega), if_pos (by omega)]
      · rw [if_neg (by omega), if_neg (by omega)]
theorem zMz {α : Type} (L : List α) (z : α) (i : Nat) (h : i < L.length) (ha : L[i] = z) : zI4 L z i = zI4 L z (i + 1) := by
  rw [← zJD L z i h z ha.symm]
  symm
  apply List.ext_getElem?
  intro j
  by_cases hj : i = j
  · subst hj
    rw [List.getElem?_set_self (by rw [zKp L z i (by omega)]; exact h), zNj L z i h]
  · rw [List.getElem?_set_ne hj]
theorem zNk {α : Type} (L : List α) (z : α) (i : Nat) (h : i < L.length) : idx (zI4 L z i) (i : Int) = some z := by rw [zJw, zNj L z i h]
theorem zPZ {α : Type} (n : Nat) (z : α) (i : Nat) (h : i < n) : idx (List.replicate n z) (i : Int) = some z := by rw [zJw, List.getElem?_replicate, if_pos h]
theorem zJS {α : Type} (p : α → Bool) (xs : List α) (i : Nat) (h : i < xs.length) : (xs.take (i + 1)).countP p = (xs.take i).countP p + if p xs[i] = true then 1 else 0 := by
  rw [List.take_succ_eq_append_getElem h, List.countP_append, List.countP_singleton]
theorem zLW {α : Type} (p : α → Bool) (xs : List α) (i : Nat) : (xs.take i).countP p ≤ xs.length := Nat.le_trans List.countP_le_length (by simp; omega)
def pP (t : Int) (g : Finish) : Bool := g.Code == 0 && decide (g.Time < t)
def pQ (t : Int) (g : Finish) : Bool := g.Code == 0 && (g.Time == t)
def pl (xs : List Finish) (t : Int) : Int := 1 + ((xs.countP (pP t) : Nat) : Int)
def sh (xs : List Finish) (t : Int) : Int := ((xs.countP (pQ t) : Nat) : Int)
theorem zPv (r : Race) (b : Nat) (hb : b < r.Finishes.length) (h : r.Finishes.length ≤ 1048576) : zH6 r (List.replicate r.Finishes.length (0 : Int)) (b : Int) = some (pl r.Finishes r.Finishes[b].Time, sh r.Finishes r.Finishes[b].Time) := by
  have hl : zAO (zF8 r (List.replicate r.Finishes.length (0 : Int)) (b : Int)) (1, 0, 0) = some (.nxt (pl r.Finishes r.Finishes[b].Time, sh r.Finishes r.Finishes[b].Time, (r.Finishes.length : Int))) := by
    refine zBy r.Finishes.length (by omega) (fun i => (1 + (((r.Finishes.take i).countP (pP r.Finishes[b].Time) : Nat) : Int), (((r.Finishes.take i).countP (pQ r.Finishes[b].Time) : Nat) : Int), (i : Int))) _ (by simp) (fun i hi => ?_) ?_
    · have h1 : ((i : Int) < (r.Finishes.length : Int)) := by omega
      have hP := zJS (pP r.Finishes[b].Time) r.Finishes i hi
      have hQ := zJS (pQ r.Finishes[b].Time) r.Finishes i hi
      have lP := zLW (pP r.Finishes[b].Time) r.Finishes i
      have lQ := zLW (pQ r.Finishes[b].Time) r.Finishes i
      have e1 : w64 (1 + (((r.Finishes.take i).countP (pP r.Finishes[b].Time) : Nat) : Int) + 1) = 1 + (((r.Finishes.take i).countP (pP r.Finishes[b].Time) + 1 : Nat) : Int) := by rw [zBl (by omega)]; omega
      have e2 : w64 ((((r.Finishes.take i).countP (pQ r.Finishes[b].Time) : Nat) : Int) + 1) = (((r.Finishes.take i).countP (pQ r.Finishes[b].Time) + 1 : Nat) : Int) := by rw [zBl (by omega)]; omega
      simp only [zF8, zHU, zEJ, zF7, zF6, zHD, h1, decide_true, zAy, zBs r.Finishes i hi, zBs r.Finishes b hb, zPZ _ _ i hi, zPZ _ _ b hb, zAr, zBB hi (by omega), bne_self_eq_false, zAG, hP, hQ, e1, e2]
      unfold pP pQ
      by_cases hc : r.Finishes[i].Code = 0
      · by_cases hlt : r.Finishes[i].Time < r.Finishes[b].Time
        · have hne : ¬ r.Finishes[i].Time = r.Finishes[b].Time := by omega
          simp [zBm, hc, hlt, hne]
        · by_cases heq : r.Finishes[i].Time = r.Finishes[b].Time <;> simp [zBm, hc, hlt, heq]
      · simp [zBm, hc]
    · simp [zF8, pl, sh]
  simp only [zH6, hl, zAr, zBx, zF5]
def plF (xs : List Finish) (f : Finish) : Int := if f.Code = 0 then pl xs f.Time else 0
def shF (xs : List Finish) (f : Finish) : Int := if f.Code = 0 then sh xs f.Time else 0
theorem zPw (xs : List Finish) (h : xs.length ≤ 1048576) : zH9 xs = some (xs.map (plF xs), xs.map (shF xs)) := by
  have hlen : (xs.map (plF xs)).length = xs.length := by simp
  have hlen2 : (xs.map (shF xs)).length = xs.length := by simp
  have hl : zAO (zGi xs) (List.replicate xs.length (0 : Int), List.replicate xs.length (0 : Int), 0) = some (.nxt (xs.map (plF xs), xs.map (shF xs), (xs.length : Int))) := by
    refine zBy xs.length (by omega) (fun i => (zI4 (xs.map (plF xs)) 0 i, zI4 (xs.map (shF xs)) 0 i, (i : Int))) _ (by rw [zLo, zLo, hlen, hlen2]; rfl) (fun i hi => ?_) ?_
    · have h2 : ((i : Int) < (xs.length : Int)) := by omega
      have l1 := zKp (xs.map (plF xs)) 0 i (by omega)
      have l2 := zKp (xs.map (shF xs)) 0 i (by omega)
      simp only [zGi, zGd, zEP, h2, decide_true, zAy, zBs xs i hi, zAr, zNk (xs.map (plF xs)) 0 i (by omega), zBB hi (by omega), zBm, if_true, Int.toNat_natCast]
      by_cases hc : xs[i].Code = 0
      · rw [if_neg (by simp [zBm, hc])]
        generalize hP : zI4 (xs.map (plF xs)) 0 i = P at *
        generalize hQ : zI4 (xs.map (shF xs)) 0 i = Q at *
        have hq0 : Q[i]? = some 0 := by rw [← hQ, zNj _ _ i (by omega)]
        have hi2 : zAO (zGh xs (P, Q, (i : Int)) xs[i]) (P.set i 1, Q, 0) = some (.nxt (P.set i (pl xs xs[i].Time), Q.set i (sh xs xs[i].Time), (xs.length : Int))) := by
          refine zBy xs.length (by omega) (fun j => (P.set i (1 + (((xs.take j).countP (pP xs[i].Time) : Nat) : Int)), Q.set i ((((xs.take j).countP (pQ xs[i].Time) : Nat) : Int)), (j : Int))) _ ?_ (fun j hj => ?_) ?_
          · have : Q.set i 0 = Q := by
              apply List.ext_getElem?
              intro k
              by_cases hk : i = k
              · subst hk; rw [List.getElem?_set_self (by omega), hq0]
              · rw [List.getElem?_set_ne hk]
            simp [this]
          · have h3 : ((j : Int) < (xs.length : Int)) := by omega
            have hP1 := zJS (pP xs[i].Time) xs j hj
            have hQ1 := zJS (pQ xs[i].Time) xs j hj
            have lP := zLW (pP xs[i].Time) xs j
            have lQ := zLW (pQ xs[i].Time) xs j
            have e1 : w64 (1 + (((xs.take j).countP (pP xs[i].Time) : Nat) : Int) + 1) = 1 + (((xs.take j).countP (pP xs[i].Time) + 1 : Nat) : Int) := by rw [zBl (by omega)]; omega
            have e2 : w64 ((((xs.take j).countP (pQ xs[i].Time) : Nat) : Int) + 1) = (((xs.take j).countP (pQ xs[i].Time) + 1 : Nat) : Int) := by rw [zBl (by omega)]; omega
            simp only [zGh, zHZ, zEQ, zGg, zGf, h3, decide_true, zAy, zBs xs j hj, zAr, zMr P i _ (by omega), zMr Q i _ (by omega), zBB hj (by omega), Int.toNat_natCast, List.set_set, hP1, hQ1, e1, e2]
            unfold pP pQ
            by_cases hcj : xs[j].Code = 0
            · by_cases hlt : xs[j].Time < xs[i].Time
              · have hne : ¬ xs[j].Time = xs[i].Time := by omega
                simp [zBm, hcj, hlt, hne]
              · by_cases heq : xs[j].Time = xs[i].Time <;> simp [zBm, hcj, hlt, heq]
            · simp [zBm, hcj]
          · simp [zGh, pl, sh]
        rw [hi2]
        simp only [zAr, zBx, zGe, zGd, zEP, zBB hi (by omega : xs.length < 4611686018427387904)]
        rw [← hP, ← hQ, zJD _ _ i (by omega) _ (by simp [plF, hc]), zJD _ _ i (by omega) _ (by simp [shF, hc])]
      · rw [if_pos (by simp [zBm, hc]), zMz _ _ i (by omega) (by simp [plF, hc]), zMz _ _ i (by omega) (by simp [shF, hc])]
    · have t1 := zMn (xs.map (plF xs)) 0
      have t2 := zMn (xs.map (shF xs)) 0
      rw [hlen] at t1
      rw [hlen2] at t2
      simp [zGi, t1, t2]
  rw [zH9, zBf (by omega), zBf (by omega), Int.toNat_natCast, hl]
  rfl
def dnc (xs : List Finish) : Nat := xs.countP fun g => g.Code == 1
def pts (xs : List Finish) (s : Int) (f : Finish) : Int :=
  if f.Code = 0 then 5 * (2 * pl xs f.Time + sh xs f.Time - 1) else if f.Code = 9 then 0 else if f.Code = 1 ∨ s = 0 then 10 * ((xs.length : Int) + 1) else 10 * ((xs.length : Int) - (dnc xs : Int) + 1)
theorem zMo (xs : List Finish) (f : Finish) (s : Int) (hs : 0 ≤ s ∧ s ≤ 1) (hc : f.Code ≠ 0) (h : xs.length ≤ 1048576) : zEb xs f.Code s = some (pts xs s f) := by
  rw [zEb, zBm]
  by_cases h9 : f.Code = 9
  · simp [h9, pts]
  · rw [if_neg (by simp [h9])]
    have hl : zAO (zE4 xs f.Code s) ((xs.length : Int), 0) = some (.nxt ((xs.length : Int) - (if f.Code ≠ 1 ∧ s = 1 then ((dnc xs : Nat) : Int) else 0), (xs.length : Int))) := by
      refine zBy xs.length (by omega) (fun i => ((xs.length : Int) - (if f.Code ≠ 1 ∧ s = 1 then (((xs.take i).countP fun g => g.Code == 1 : Nat) : Int) else 0), (i : Int))) _ (by simp) (fun i hi => ?_) ?_
      · have h2 : ((i : Int) < (xs.length : Int)) := by omega
        have hP := zJS (fun g : Finish => g.Code == 1) xs i hi
        have lP := zLW (fun g : Finish => g.Code == 1) xs i
        simp only [zE4, zGV, zE3, zDS, h2, decide_true, zAy, zBs xs i hi, zAr, zBB hi (by omega), hP]
        by_cases hd : xs[i].Code = 1
        · by_cases h1 : f.Code = 1
          · simp [zBm, hd, h1]
          · by_cases h3 : s = 1
            · have e : w64 ((xs.length : Int) - (((xs.take i).countP fun g => g.Code == 1 : Nat) : Int) - 1) = (xs.length : Int) - (((xs.take i).countP fun g => g.Code == 1 : Nat) + 1 : Int) := by rw [zBl (by omega)]; omega
              simp [zBm, hd, h1, h3, e]
            · simp [zBm, hd, h1, h3]
        · simp [zBm, hd]
      · simp [zE4, dnc]
    have ld : dnc xs ≤ xs.length := List.countP_le_length
    rw [hl]
    simp only [zAr, zBx, zE2]
    unfold pts
    rw [if_neg hc, if_neg h9]
    by_cases h1 : f.Code = 1
    · simp only [h1, ne_eq, not_true_eq_false, false_and, if_false, true_or, if_true]
      rw [zBl (n := _ - 0 + 1) (by omega), zBl (by omega)]; simp
    · by_cases h3 : s = 1
      · have h4 : ¬ s = 0 := by omega
        simp only [h1, h3, ne_eq, not_false_eq_true, and_self, if_true, false_or, if_false]
        rw [if_neg (by omega), zBl (n := _ - _ + 1) (by omega), zBl (by omega)]
      · have h4 : s = 0 := by omega
        simp only [h4, ne_eq, if_true, or_true]
        rw [if_neg (by omega), zBl (n := _ - 0 + 1) (by omega), zBl (by omega)]; simp
theorem zS1 (xs : List Finish) (t : Int) : 1 ≤ pl xs t ∧ pl xs t ≤ 1 + (xs.length : Int) := by
  have : xs.countP (pP t) ≤ xs.length := List.countP_le_length
  unfold pl; omega
theorem zS2 (xs : List Finish) (t : Int) : 0 ≤ sh xs t ∧ sh xs t ≤ (xs.length : Int) := by
  have : xs.countP (pQ t) ≤ xs.length := List.countP_le_length
  unfold sh; omega
theorem zP0 (xs : List Finish) (t : Int) (h : xs.length ≤ 1048576) : w64 (5 * w64 (w64 (w64 (2 * pl xs t) + sh xs t) - 1)) = 5 * (2 * pl xs t + sh xs t - 1) := by
  have h1 := zS1 xs t
  have h2 := zS2 xs t
  rw [zBl (n := 2 * pl xs t) (by omega), zBl (n := 2 * pl xs t + sh xs t) (by omega), zBl (n := 2 * pl xs t + sh xs t - 1) (by omega), zBl (by omega)]
theorem zHk {α β : Type} (g : α → β) (xs : List α) (i : Nat) (h : i < xs.length) : (xs.map g).take (i + 1) = (xs.map g).take i ++ [g xs[i]] := by
  rw [List.take_succ_eq_append_getElem (by simpa using h)]; simp
theorem zOa (xs : List Finish) (s : Int) (hs : 0 ≤ s ∧ s ≤ 1) (h : xs.length ≤ 1048576) : zG4 xs s = some (xs.map (pts xs s)) := by
  rw [zG4, zPw xs h, zAr]
  have hl : zAO (zE6 xs s (xs.map (plF xs), xs.map (shF xs))) (([] : List Int), 0) = some (.nxt (xs.map (pts xs s), (xs.length : Int))) := by
    refine zBy xs.length (by omega) (fun i => ((xs.map (pts xs s)).take i, (i : Int))) _ rfl (fun i hi => ?_) ?_
    · have h2 : ((i : Int) < (xs.length : Int)) := by omega
      have hi1 : idx (xs.map (plF xs)) (i : Int) = some (plF xs xs[i]) := by rw [zJw]; simp [hi]
      have hi2 : idx (xs.map (shF xs)) (i : Int) = some (shF xs xs[i]) := by rw [zJw]; simp [hi]
      have hlt : ((xs.map (pts xs s)).take i).length + 1 < 1099511627776 := by simp; omega
      simp only [zE6, zG3, zE5, h2, decide_true, zAy, zBs xs i hi, zAr, hi1, hi2, zBB hi (by omega), zBm, if_true, List.length_singleton, zBf hlt, zHk (pts xs s) xs i hi]
      by_cases hc : xs[i].Code = 0
      · rw [if_pos (by simp [zBm, hc])]
        have e : plF xs xs[i] = pl xs xs[i].Time ∧ shF xs xs[i] = sh xs xs[i].Time := by simp [plF, shF, hc]
        rw [e.1, e.2, zP0 _ _ h]
        have : pts xs s xs[i] = 5 * (2 * pl xs xs[i].Time + sh xs xs[i].Time - 1) := by simp [pts, hc]
        rw [this]
      · rw [if_neg (by simp [zBm, hc]), zMo xs xs[i] s hs hc h, zAr]
    · have : (xs.map (pts xs s)).take xs.length = xs.map (pts xs s) := by rw [List.take_of_length_le (by simp)]
      simp [zE6, this]
  rw [hl]; rfl
theorem zMJ (r : Race) (s : Int) (hs : 0 ≤ s ∧ s ≤ 1) (h : r.Finishes.length ≤ 1048576) : zFU r s = some (r.Finishes.map (pts r.Finishes s)) := by
  have hl1 : zAO (zFA r) (0, 0) = some (.nxt ((r.Finishes.length : Int) - (dnc r.Finishes : Int), (r.Finishes.length : Int))) := by
    refine zBy r.Finishes.length (by omega) (fun i => ((i : Int) - (((r.Finishes.take i).countP fun g => g.Code == 1 : Nat) : Int), (i : Int))) _ (by simp) (fun i hi => ?_) ?_
    · have h2 : ((i : Int) < (r.Finishes.length : Int)) := by omega
      have hP := zJS (fun g : Finish => g.Code == 1) r.Finishes i hi
      have lP := zLW (fun g : Finish => g.Code == 1) r.Finishes i
      simp only [zFA, zHu, zFz, h2, decide_true, zAy, zBs r.Finishes i hi, zAr, zBB hi (by omega), hP]
      by_cases hd : r.Finishes[i].Code = 1
      · have e : (i : Int) - (((r.Finishes.take i).countP fun g => g.Code == 1 : Nat) : Int) = ((i + 1 : Nat) : Int) - ((((r.Finishes.take i).countP fun g => g.Code == 1) + 1 : Nat) : Int) := by omega
        simp only [hd, bne_self_eq_false, zAG, beq_self_eq_true, if_true, e]
      · have e : w64 ((i : Int) - (((r.Finishes.take i).countP fun g => g.Code == 1 : Nat) : Int) + 1) = ((i + 1 : Nat) : Int) - ((((r.Finishes.take i).countP fun g => g.Code == 1) : Nat) : Int) := by rw [zBl (by omega)]; omega
        have hd' : (r.Finishes[i].Code != 1) = true := by simp [zBm, hd]
        have hd2 : ¬ (r.Finishes[i].Code == 1) = true := by simp [zBm, hd]
        simp only [hd', hd2, zAy, if_false, Nat.add_zero, e, Bool.false_eq_true]
    · simp [zFA, dnc]
  have hlen : (r.Finishes.map (pts r.Finishes s)).length = r.Finishes.length := by simp
  have ld : dnc r.Finishes ≤ r.Finishes.length := List.countP_le_length
  have hl2 : zAO (zFx r s ((r.Finishes.length : Int) - (dnc r.Finishes : Int), (r.Finishes.length : Int))) (List.replicate r.Finishes.length (0 : Int), 0) = some (.nxt (r.Finishes.map (pts r.Finishes s), (r.Finishes.length : Int))) := by
    refine zBy r.Finishes.length (by omega) (fun i => (zI4 (r.Finishes.map (pts r.Finishes s)) 0 i, (i : Int))) _ (by rw [zLo, hlen]; rfl) (fun i hi => ?_) ?_
    · have h2 : ((i : Int) < ((zI4 (r.Finishes.map (pts r.Finishes s)) 0 i).length : Int)) := by rw [zKp _ _ _ (by omega), hlen]; omega
      simp only [zFx, zHs, zHt, zDf, zFw, h2, decide_true, zAy, zBs r.Finishes i hi, zAr, Int.toNat_natCast, zPv r i hi h, zNk (r.Finishes.map (pts r.Finishes s)) 0 i (by omega), zBB hi (by omega), zP0 _ _ h]
      rw [zBl (n := (r.Finishes.length : Int) + 1) (by omega), zBl (n := (r.Finishes.length : Int) - (dnc r.Finishes : Int) + 1) (by omega), zBl (n := 10 * ((r.Finishes.length : Int) + 1)) (by omega), zBl (n := 10 * ((r.Finishes.length : Int) - (dnc r.Finishes : Int) + 1)) (by omega)]
      have hget : (r.Finishes.map (pts r.Finishes s))[i]'(by omega) = pts r.Finishes s r.Finishes[i] := by simp
      by_cases hc : r.Finishes[i].Code = 0
      · have : (r.Finishes[i].Code == 0) = true := by simp [zBm, hc]
        simp only [this, zAy]
        rw [zJD _ _ i (by omega) _ (by rw [hget]; simp [pts, hc])]
      · have c0 : (r.Finishes[i].Code == 0) = false := by simp [zBm, hc]
        by_cases h9 : r.Finishes[i].Code = 9
        · have : (r.Finishes[i].Code == 9) = true := by simp [h9]
          simp only [c0, this, zAy, zAG]
          rw [zMz _ _ i (by omega) (by rw [hget]; simp [pts, h9])]
        · have c9 : (r.Finishes[i].Code == 9) = false := by simp [h9]
          by_cases h1 : r.Finishes[i].Code = 1
          · have : (r.Finishes[i].Code == 1) = true := by simp [h1]
            simp only [c0, c9, this, zAy, zAG]
            rw [zJD _ _ i (by omega) _ (by rw [hget]; simp [pts, h1])]
          · have c1 : (r.Finishes[i].Code == 1) = false := by simp [h1]
            by_cases hs0 : s = 0
            · have : (s == 0) = true := by simp [hs0]
              simp only [c0, c9, c1, this, zAy, zAG]
              rw [zJD _ _ i (by omega) _ (by rw [hget]; simp [pts, hc, h9, hs0])]
            · have : (s == 0) = false := by simp [hs0]
              simp only [c0, c9, c1, this, zAG]
              rw [zJD _ _ i (by omega) _ (by rw [hget]; simp [pts, hc, h9, h1, hs0])]
    · have := zMn (r.Finishes.map (pts r.Finishes s)) 0
      rw [hlen] at this
      simp [zFx, this]
  rw [zFU, hl1]
  simp only [zAr, zBx, zFy]
  rw [zBf (by omega), zBf (by omega), Int.toNat_natCast, hl2]
  rfl
end Go.Proofs.YtmmkkcmliofknaaGreatDoor
