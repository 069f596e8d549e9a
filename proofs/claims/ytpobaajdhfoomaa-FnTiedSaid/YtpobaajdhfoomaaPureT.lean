/- Pure laws: places, points and tables. -/
import Derived.Test.YtpobaajdhfoomaaPureQ
namespace Go.Proofs.Ytpobaajdhfoomaa
open Go
set_option linter.unusedVariables false
set_option linter.unusedSimpArgs false
def fill {α : Type} (L : List α) (z : α) (i : Nat) : List α := L.take i ++ List.replicate (L.length - i) z
theorem fill_zero {α : Type} (L : List α) (z : α) : fill L z 0 = List.replicate L.length z := by simp [fill]
theorem fill_all {α : Type} (L : List α) (z : α) : fill L z L.length = L := by simp [fill]
theorem fill_len {α : Type} (L : List α) (z : α) (i : Nat) (h : i ≤ L.length) : (fill L z i).length = L.length := by simp [fill]; omega
theorem fill_get {α : Type} (L : List α) (z : α) (i : Nat) (h : i < L.length) : (fill L z i)[i]? = some z := by
  unfold fill
  rw [List.getElem?_append_right (by simp; omega), List.getElem?_replicate, if_pos (by simp; omega)]
theorem fill_set {α : Type} (L : List α) (z : α) (i : Nat) (h : i < L.length) (a : α) (ha : a = L[i]) : (fill L z i).set i a = fill L z (i + 1) := by
  subst ha
  apply List.ext_getElem?
  intro j
  by_cases hj : i = j
  · subst hj
    rw [List.getElem?_set_self (by rw [fill_len L z i (by omega)]; exact h)]
    unfold fill
    rw [List.getElem?_append_left (by simp; omega), List.getElem?_take_of_lt (by omega), List.getElem?_eq_getElem h]
  · rw [List.getElem?_set_ne hj]
    unfold fill
    by_cases hlt : j < i
    · rw [List.getElem?_append_left (by simp; omega), List.getElem?_append_left (by simp; omega), List.getElem?_take_of_lt hlt, List.getElem?_take_of_lt (by omega)]
    · rw [List.getElem?_append_right (by simp; omega), List.getElem?_append_right (by simp; omega), List.getElem?_replicate, List.getElem?_replicate]
      simp only [List.length_take]
      by_cases hz : j < L.length
      · rw [if_pos (by omega), if_pos (by omega)]
      · rw [if_neg (by omega), if_neg (by omega)]
theorem fill_skip {α : Type} (L : List α) (z : α) (i : Nat) (h : i < L.length) (ha : L[i] = z) : fill L z i = fill L z (i + 1) := by
  rw [← fill_set L z i h z ha.symm]
  symm
  apply List.ext_getElem?
  intro j
  by_cases hj : i = j
  · subst hj
    rw [List.getElem?_set_self (by rw [fill_len L z i (by omega)]; exact h), fill_get L z i h]
  · rw [List.getElem?_set_ne hj]
theorem fill_idx {α : Type} (L : List α) (z : α) (i : Nat) (h : i < L.length) : idx (fill L z i) (i : Int) = some z := by rw [idx_nat, fill_get L z i h]
theorem idx_rep {α : Type} (n : Nat) (z : α) (i : Nat) (h : i < n) : idx (List.replicate n z) (i : Int) = some z := by rw [idx_nat, List.getElem?_replicate, if_pos h]
theorem cnt_succ {α : Type} (p : α → Bool) (xs : List α) (i : Nat) (h : i < xs.length) : (xs.take (i + 1)).countP p = (xs.take i).countP p + if p xs[i] = true then 1 else 0 := by
  rw [List.take_succ_eq_append_getElem h, List.countP_append, List.countP_singleton]
theorem cnt_le {α : Type} (p : α → Bool) (xs : List α) (i : Nat) : (xs.take i).countP p ≤ xs.length := Nat.le_trans List.countP_le_length (by simp; omega)
def pP (t : Int) (g : Finish) : Bool := g.Code == 0 && decide (g.Time < t)
def pQ (t : Int) (g : Finish) : Bool := g.Code == 0 && (g.Time == t)
def pl (xs : List Finish) (t : Int) : Int := 1 + ((xs.countP (pP t) : Nat) : Int)
def sh (xs : List Finish) (t : Int) : Int := ((xs.countP (pQ t) : Nat) : Int)
theorem p_l26Place (r : Race) (b : Nat) (hb : b < r.Finishes.length) (h : r.Finishes.length ≤ 1048576) : M.spec_l26Place r (List.replicate r.Finishes.length (0 : Int)) (b : Int) = some (pl r.Finishes r.Finishes[b].Time, sh r.Finishes r.Finishes[b].Time) := by
  have hl : loopF (M.spec_l26Place_l1 r (List.replicate r.Finishes.length (0 : Int)) (b : Int)) (1, 0, 0) = some (.nxt (pl r.Finishes r.Finishes[b].Time, sh r.Finishes r.Finishes[b].Time, (r.Finishes.length : Int))) := by
    refine loop_run r.Finishes.length (by omega) (fun i => (1 + (((r.Finishes.take i).countP (pP r.Finishes[b].Time) : Nat) : Int), (((r.Finishes.take i).countP (pQ r.Finishes[b].Time) : Nat) : Int), (i : Int))) _ (by simp) (fun i hi => ?_) ?_
    · have h1 : ((i : Int) < (r.Finishes.length : Int)) := by omega
      have hP := cnt_succ (pP r.Finishes[b].Time) r.Finishes i hi
      have hQ := cnt_succ (pQ r.Finishes[b].Time) r.Finishes i hi
      have lP := cnt_le (pP r.Finishes[b].Time) r.Finishes i
      have lQ := cnt_le (pQ r.Finishes[b].Time) r.Finishes i
      have e1 : w64 (1 + (((r.Finishes.take i).countP (pP r.Finishes[b].Time) : Nat) : Int) + 1) = 1 + (((r.Finishes.take i).countP (pP r.Finishes[b].Time) + 1 : Nat) : Int) := by rw [w64_of (by omega)]; omega
      have e2 : w64 ((((r.Finishes.take i).countP (pQ r.Finishes[b].Time) : Nat) : Int) + 1) = (((r.Finishes.take i).countP (pQ r.Finishes[b].Time) + 1 : Nat) : Int) := by rw [w64_of (by omega)]; omega
      simp only [M.spec_l26Place_l1, M.spec_l26Place_j1, M.spec_l26Place_j2, M.spec_l26Place_j3, M.spec_l26Place_j4, M.spec_l26Done, h1, decide_true, ifB_true, idx_lt r.Finishes i hi, idx_lt r.Finishes b hb, idx_rep _ _ i hi, idx_rep _ _ b hb, bnd_some, step64 hi (by omega), bne_self_eq_false, ifB_false, hP, hQ, e1, e2]
      unfold pP pQ
      by_cases hc : r.Finishes[i].Code = 0
      · by_cases hlt : r.Finishes[i].Time < r.Finishes[b].Time
        · have hne : ¬ r.Finishes[i].Time = r.Finishes[b].Time := by omega
          simp [ifB_if, hc, hlt, hne]
        · by_cases heq : r.Finishes[i].Time = r.Finishes[b].Time <;> simp [ifB_if, hc, hlt, heq]
      · simp [ifB_if, hc]
    · simp [M.spec_l26Place_l1, pl, sh]
  simp only [M.spec_l26Place, hl, bnd_some, outc_nxt, M.spec_l26Place_a1]
def dnc (xs : List Finish) : Nat := xs.countP fun g => g.Code == 1
def pts (xs : List Finish) (s : Int) (f : Finish) : Int :=
  if f.Code = 0 then 5 * (2 * pl xs f.Time + sh xs f.Time - 1) else if f.Code = 9 then 0 else if f.Code = 1 ∨ s = 0 then 10 * ((xs.length : Int) + 1) else 10 * ((xs.length : Int) - (dnc xs : Int) + 1)
theorem pl_bd (xs : List Finish) (t : Int) : 1 ≤ pl xs t ∧ pl xs t ≤ 1 + (xs.length : Int) := by
  have : xs.countP (pP t) ≤ xs.length := List.countP_le_length
  unfold pl; omega
theorem sh_bd (xs : List Finish) (t : Int) : 0 ≤ sh xs t ∧ sh xs t ≤ (xs.length : Int) := by
  have : xs.countP (pQ t) ≤ xs.length := List.countP_le_length
  unfold sh; omega
theorem pts_fin (xs : List Finish) (t : Int) (h : xs.length ≤ 1048576) : w64 (5 * w64 (w64 (w64 (2 * pl xs t) + sh xs t) - 1)) = 5 * (2 * pl xs t + sh xs t - 1) := by
  have h1 := pl_bd xs t
  have h2 := sh_bd xs t
  rw [w64_of (n := 2 * pl xs t) (by omega), w64_of (n := 2 * pl xs t + sh xs t) (by omega), w64_of (n := 2 * pl xs t + sh xs t - 1) (by omega), w64_of (by omega)]
theorem take_map_succ {α β : Type} (g : α → β) (xs : List α) (i : Nat) (h : i < xs.length) : (xs.map g).take (i + 1) = (xs.map g).take i ++ [g xs[i]] := by
  rw [List.take_succ_eq_append_getElem (by simpa using h)]; simp
theorem p_l26Points (r : Race) (s : Int) (hs : 0 ≤ s ∧ s ≤ 1) (h : r.Finishes.length ≤ 1048576) : M.spec_l26Points r s = some (r.Finishes.map (pts r.Finishes s)) := by
  have hl1 : loopF (M.spec_l26Points_l1 r) (0, 0) = some (.nxt ((r.Finishes.length : Int) - (dnc r.Finishes : Int), (r.Finishes.length : Int))) := by
    refine loop_run r.Finishes.length (by omega) (fun i => ((i : Int) - (((r.Finishes.take i).countP fun g => g.Code == 1 : Nat) : Int), (i : Int))) _ (by simp) (fun i hi => ?_) ?_
    · have h2 : ((i : Int) < (r.Finishes.length : Int)) := by omega
      have hP := cnt_succ (fun g : Finish => g.Code == 1) r.Finishes i hi
      have lP := cnt_le (fun g : Finish => g.Code == 1) r.Finishes i
      simp only [M.spec_l26Points_l1, M.spec_l26Points_j5, M.spec_l26Points_j6, h2, decide_true, ifB_true, idx_lt r.Finishes i hi, bnd_some, step64 hi (by omega), hP]
      by_cases hd : r.Finishes[i].Code = 1
      · have e : (i : Int) - (((r.Finishes.take i).countP fun g => g.Code == 1 : Nat) : Int) = ((i + 1 : Nat) : Int) - ((((r.Finishes.take i).countP fun g => g.Code == 1) + 1 : Nat) : Int) := by omega
        simp only [hd, bne_self_eq_false, ifB_false, beq_self_eq_true, if_true, e]
      · have e : w64 ((i : Int) - (((r.Finishes.take i).countP fun g => g.Code == 1 : Nat) : Int) + 1) = ((i + 1 : Nat) : Int) - ((((r.Finishes.take i).countP fun g => g.Code == 1) : Nat) : Int) := by rw [w64_of (by omega)]; omega
        have hd' : (r.Finishes[i].Code != 1) = true := by simp [ifB_if, hd]
        have hd2 : ¬ (r.Finishes[i].Code == 1) = true := by simp [ifB_if, hd]
        simp only [hd', hd2, ifB_true, if_false, Nat.add_zero, e, Bool.false_eq_true]
    · simp [M.spec_l26Points_l1, dnc]
  have hlen : (r.Finishes.map (pts r.Finishes s)).length = r.Finishes.length := by simp
  have ld : dnc r.Finishes ≤ r.Finishes.length := List.countP_le_length
  have hl2 : loopF (M.spec_l26Points_l2 r s ((r.Finishes.length : Int) - (dnc r.Finishes : Int), (r.Finishes.length : Int))) (List.replicate r.Finishes.length (0 : Int), 0) = some (.nxt (r.Finishes.map (pts r.Finishes s), (r.Finishes.length : Int))) := by
    refine loop_run r.Finishes.length (by omega) (fun i => (fill (r.Finishes.map (pts r.Finishes s)) 0 i, (i : Int))) _ (by rw [fill_zero, hlen]; rfl) (fun i hi => ?_) ?_
    · have h2 : ((i : Int) < ((fill (r.Finishes.map (pts r.Finishes s)) 0 i).length : Int)) := by rw [fill_len _ _ _ (by omega), hlen]; omega
      simp only [M.spec_l26Points_l2, M.spec_l26Points_j1, M.spec_l26Points_j2, M.spec_l26Points_j3, M.spec_l26Points_j4, h2, decide_true, ifB_true, idx_lt r.Finishes i hi, bnd_some, Int.toNat_natCast, p_l26Place r i hi h, fill_idx (r.Finishes.map (pts r.Finishes s)) 0 i (by omega), step64 hi (by omega), pts_fin _ _ h]
      rw [w64_of (n := (r.Finishes.length : Int) + 1) (by omega), w64_of (n := (r.Finishes.length : Int) - (dnc r.Finishes : Int) + 1) (by omega), w64_of (n := 10 * ((r.Finishes.length : Int) + 1)) (by omega), w64_of (n := 10 * ((r.Finishes.length : Int) - (dnc r.Finishes : Int) + 1)) (by omega)]
      have hget : (r.Finishes.map (pts r.Finishes s))[i]'(by omega) = pts r.Finishes s r.Finishes[i] := by simp
      by_cases hc : r.Finishes[i].Code = 0
      · have : (r.Finishes[i].Code == 0) = true := by simp [ifB_if, hc]
        simp only [this, ifB_true]
        rw [fill_set _ _ i (by omega) _ (by rw [hget]; simp [pts, hc])]
      · have c0 : (r.Finishes[i].Code == 0) = false := by simp [ifB_if, hc]
        by_cases h9 : r.Finishes[i].Code = 9
        · have : (r.Finishes[i].Code == 9) = true := by simp [h9]
          simp only [c0, this, ifB_true, ifB_false]
          rw [fill_skip _ _ i (by omega) (by rw [hget]; simp [pts, h9])]
        · have c9 : (r.Finishes[i].Code == 9) = false := by simp [h9]
          by_cases h1 : r.Finishes[i].Code = 1
          · have : (r.Finishes[i].Code == 1) = true := by simp [h1]
            simp only [c0, c9, this, ifB_true, ifB_false]
            rw [fill_set _ _ i (by omega) _ (by rw [hget]; simp [pts, h1])]
          · have c1 : (r.Finishes[i].Code == 1) = false := by simp [h1]
            by_cases hs0 : s = 0
            · have : (s == 0) = true := by simp [hs0]
              simp only [c0, c9, c1, this, ifB_true, ifB_false]
              rw [fill_set _ _ i (by omega) _ (by rw [hget]; simp [pts, hc, h9, hs0])]
            · have : (s == 0) = false := by simp [hs0]
              simp only [c0, c9, c1, this, ifB_false]
              rw [fill_set _ _ i (by omega) _ (by rw [hget]; simp [pts, hc, h9, h1, hs0])]
    · have := fill_all (r.Finishes.map (pts r.Finishes s)) 0
      rw [hlen] at this
      simp [M.spec_l26Points_l2, this]
  rw [M.spec_l26Points, hl1]
  simp only [bnd_some, outc_nxt, M.spec_l26Points_a1]
  rw [chk_pos (by omega), chk_pos (by omega), Int.toNat_natCast, hl2]
  rfl
end Go.Proofs.Ytpobaajdhfoomaa
