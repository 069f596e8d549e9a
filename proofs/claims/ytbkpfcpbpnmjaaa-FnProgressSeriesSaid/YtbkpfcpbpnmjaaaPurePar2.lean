/- Pure laws of par factors and of a race's new factors. -/
import Derived.Test.YtbkpfcpbpnmjaaaPurePar
namespace Go.Proofs.Ytbkpfcpbpnmjaaa
open Go
set_option linter.unusedVariables false
set_option linter.unusedSimpArgs false
theorem fillP_set {α : Type} (L : List α) (z : α) (i : Nat) (hi : i < L.length) : (L.take i ++ List.replicate (L.length - i) z).set i L[i] = L.take (i + 1) ++ List.replicate (L.length - (i + 1)) z := by
  apply List.ext_getElem
  · simp; omega
  · intro j h1 h2
    simp at h1 h2
    rw [List.getElem_set]
    by_cases hj : i = j
    · subst hj; rw [if_pos rfl, List.getElem_append_left (by simp; omega)]; simp
    · rw [if_neg hj]
      by_cases hlt : j < i
      · rw [List.getElem_append_left (by simp; omega), List.getElem_append_left (by simp; omega)]; simp
      · rw [List.getElem_append_right (by simp; omega), List.getElem_append_right (by simp; omega)]; simp
theorem fillP_get {α : Type} (L : List α) (z : α) (i : Nat) (hi : i < L.length) : (L.take i ++ List.replicate (L.length - i) z)[i]? = some z := by
  rw [List.getElem?_append_right (by simp; omega)]
  have e : i - (L.take i).length = 0 := by simp; omega
  rw [e, List.getElem?_replicate, if_pos (by omega)]
theorem fillP_keep {α : Type} (L : List α) (z : α) (i : Nat) (hi : i < L.length) (hz : L[i] = z) : L.take (i + 1) ++ List.replicate (L.length - (i + 1)) z = L.take i ++ List.replicate (L.length - i) z := by
  rw [← fillP_set L z i hi, hz]
  have h := fillP_get L z i hi
  obtain ⟨hlt, hg⟩ := List.getElem?_eq_some_iff.1 h
  have h2 := List.set_getElem_self hlt
  rw [hg] at h2
  exact h2
theorem half_set {α : Type} (L rs : List α) (i : Nat) (hl : L.length = rs.length) (hi : i < L.length) : (L.take i ++ rs.drop i).set i L[i] = L.take (i + 1) ++ rs.drop (i + 1) := by
  apply List.ext_getElem
  · simp; omega
  · intro j h1 h2
    simp at h1 h2
    rw [List.getElem_set]
    by_cases hj : i = j
    · subst hj; rw [if_pos rfl, List.getElem_append_left (by simp; omega)]; simp
    · rw [if_neg hj]
      by_cases hlt : j < i
      · rw [List.getElem_append_left (by simp; omega), List.getElem_append_left (by simp; omega)]; simp
      · rw [List.getElem_append_right (by simp; omega), List.getElem_append_right (by simp; omega)]
        simp
        congr 1
        omega
theorem half_get {α : Type} (L rs : List α) (i : Nat) (hl : L.length = rs.length) (hi : i < rs.length) : (L.take i ++ rs.drop i)[i]? = some rs[i] := by
  rw [List.getElem?_append_right (by simp; omega)]
  have e : i - (L.take i).length = 0 := by simp; omega
  rw [e, List.getElem?_drop]
  simp [hi]
theorem half_keep {α : Type} (L rs : List α) (i : Nat) (hl : L.length = rs.length) (hi : i < rs.length) (he : L[i] = rs[i]) : L.take (i + 1) ++ rs.drop (i + 1) = L.take i ++ rs.drop i := by
  rw [← half_set L rs i hl (by omega), he]
  have h := half_get L rs i hl hi
  obtain ⟨hlt, hg⟩ := List.getElem?_eq_some_iff.1 h
  conv => lhs; rw [← hg]
  exact List.set_getElem_self hlt
def fac (p t : Int) : Int := max 1 (min 3000 (w64 ((w64 ((w64 (2000 * p)) + t)).tdiv (w64 (2 * t)))))
theorem p_implFac {p t : Int} (ht : 1 ≤ t ∧ t ≤ 1000000000) : M.impl_parFactor p t = some (fac p t) := by
  unfold M.impl_parFactor fac
  rw [chk_pos (by rw [w64_of (by omega)]; omega)]
theorem p_specFac {p t : Int} (ht : 1 ≤ t ∧ t ≤ 1000000000) : M.spec_l25Factor p t = some (fac p t) := by
  unfold M.spec_l25Factor fac
  rw [chk_pos (by rw [w64_of (by omega)]; omega)]
theorem fac_in (p t : Int) : 1 ≤ fac p t ∧ fac p t ≤ 3000 := by unfold fac; omega
def facs (p : Int) (xs : List Finish) : List Int := xs.map fun x => if x.Code = 0 then fac p x.Time else 0
theorem p_implFacs (p : Int) (c : Int) (xs : List Finish) (h : xs.length ≤ 16) (ht : ∀ x ∈ xs, x.Code = 0 → 1 ≤ x.Time ∧ x.Time ≤ 1000000000) : loopF (M.impl_ParFactors_l1 xs (p, c)) (List.replicate xs.length (0 : Int), 0) = some (.nxt (facs p xs, (xs.length : Int))) := by
  have hL : (facs p xs).length = xs.length := by simp [facs]
  have e0 : (facs p xs, (xs.length : Int)) = ((facs p xs).take xs.length ++ List.replicate ((facs p xs).length - xs.length) (0 : Int), (xs.length : Int)) := by rw [List.take_of_length_le (by omega), hL]; simp
  rw [e0]
  refine loop_run xs.length (by omega) (fun i => ((facs p xs).take i ++ List.replicate ((facs p xs).length - i) (0 : Int), (i : Int))) _ (by simp [hL]) (fun i hi => ?_) ?_
  · have h1 : ((i : Int) < (xs.length : Int)) := by omega
    have hg : (facs p xs)[i]'(by omega) = if xs[i].Code = 0 then fac p xs[i].Time else 0 := by simp [facs]
    simp only [M.impl_ParFactors_l1, M.impl_ParFactors_j1, M.impl_ParFactors_j2, h1, decide_true, ifB_true, idx_lt xs i hi, bnd_some, step64 hi (by omega), ifB_if, if_true, Int.toNat_natCast]
    by_cases hz : xs[i].Code = 0
    · rw [if_pos (by simp [hz]), p_implFac (ht _ (List.getElem_mem hi) hz), bnd_some, idx_nat, fillP_get _ _ _ (by omega), bnd_some]
      rw [if_pos hz] at hg
      rw [← fillP_set (facs p xs) 0 i (by omega), hg]
    · rw [if_neg (by simp [hz])]
      rw [if_neg hz] at hg
      rw [fillP_keep (facs p xs) 0 i (by omega) hg]
  · simp [M.impl_ParFactors_l1]
def parFactorsR (n : Int) (xs : List Finish) (rs : List Rating) : List Int × Int := if (parTimeR n xs rs).2 = 0 then (facs (parTimeR n xs rs).1 xs, 0) else ([], (parTimeR n xs rs).2)
theorem parTimeR_ok {n : Int} {xs : List Finish} {rs : List Rating} (h : (parTimeR n xs rs).2 = 0) : code22 n xs rs = 0 ∧ timesOf xs rs ≠ [] ∧ (parTimeR n xs rs).1 = parOf xs rs := by
  unfold parTimeR at h ⊢
  split at h
  · rename_i h1
    split at h
    · simp at h
    · rename_i h2; rw [if_pos h1, if_neg h2]; exact ⟨h1, h2, rfl⟩
  · rename_i h1; exact absurd h h1
theorem p_implParFactors (n : Int) (xs : List Finish) (rs : List Rating) (h : xs.length ≤ 1048576) (h' : rs.length ≤ 1048576) : M.impl_ParFactors n xs rs = some (parFactorsR n xs rs) := by
  simp only [M.impl_ParFactors, p_implParTime n xs rs h h', bnd_some, ifB_if, parFactorsR]
  by_cases h1 : (parTimeR n xs rs).2 = 0
  · have hf := code22_ok (parTimeR_ok h1).1
    have hn : n.toNat = xs.length := by have := hf.2.2.1.1; omega
    rw [if_neg (by simp [h1]), if_pos h1, chk_pos (by have := hf.2.1; omega), hn, p_implFacs _ _ xs hf.1.2.1 hf.1.2.2.1]
    rfl
  · rw [if_pos (by simp [h1]), if_neg h1]
def cntF (xs : List Finish) : Nat := (xs.filter (fun x => x.Code == 0)).length
theorem cnt_times (xs : List Finish) (rs : List Rating) (h : xs.length = rs.length) : (timesOf xs rs).length = cntF xs := by
  unfold timesOf cntF
  rw [List.length_map]
  have e : xs = (xs.zip rs).map Prod.fst := by rw [List.map_fst_zip (by omega)]
  conv => rhs; rw [e]
  rw [List.filter_map, List.length_map]
  rfl
theorem cntF_succ (xs : List Finish) (i : Nat) (hi : i < xs.length) : cntF (xs.take (i + 1)) = cntF (xs.take i) + (if xs[i].Code = 0 then 1 else 0) := by
  unfold cntF
  rw [List.take_succ_eq_append_getElem hi, List.filter_append, List.length_append]
  by_cases h : xs[i].Code = 0 <;> simp [h]
theorem cntF_le (xs : List Finish) (i : Nat) : cntF (xs.take i) ≤ i := by
  have := List.length_filter_le (fun x : Finish => x.Code == 0) (xs.take i)
  rw [List.length_take] at this
  unfold cntF
  omega
def newV (a : ProgressRules) (v f : Int) : Int := max a.Low (min a.High (w64 (v + (max (w64 (0 - a.Step)) (min a.Step (w64 ((w64 (a.Gain * (w64 (f - v)))).tdiv 1000)))))))
theorem p_implNew (a : ProgressRules) (v f : Int) : M.impl_progress a v f = some (newV a v f) := rfl
theorem p_specNew (a : ProgressRules) (v f : Int) : M.spec_l25New a v f = some (newV a v f) := rfl
def turnR (a : ProgressRules) (p : Int) (m : Bool) (q : Finish × Rating) : Rating := if m = true ∧ q.1.Code = 0 then Rating.mk q.2.Boat (newV a q.2.Value (fac p q.1.Time)) else q.2
def raceR (a : ProgressRules) (xs : List Finish) (rs : List Rating) : List Rating := (xs.zip rs).map (turnR a (parOf xs rs) (decide (2 ≤ cntF xs)))
theorem raceR_len (a : ProgressRules) (xs : List Finish) (rs : List Rating) (h : xs.length = rs.length) : (raceR a xs rs).length = xs.length := by simp [raceR, h]
theorem p_specRace (a : ProgressRules) (xs : List Finish) (rs : List Rating) (h : FR xs rs) : M.spec_l25Race a xs rs = some (raceR a xs rs) := by
  have hf := h
  obtain ⟨hl, h16, ht, hv⟩ := h
  have hT := cnt_times xs rs hl
  have hgo : ∀ (x7 : Int × Int), x7.2 = ((cntF xs : Nat) : Int) → (2 ≤ cntF xs → x7.1 = parOf xs rs) → loopF (M.spec_l25Race_l1 a xs rs x7) (([] : List Rating), 0) = some (.nxt (raceR a xs rs, (rs.length : Int))) := by
    intro x7 h2 hp
    have hL := raceR_len a xs rs hl
    have e0 : (raceR a xs rs, (rs.length : Int)) = ((raceR a xs rs).take rs.length, (rs.length : Int)) := by rw [List.take_of_length_le (by omega)]
    rw [e0]
    refine loop_run rs.length (by omega) (fun i => ((raceR a xs rs).take i, (i : Int))) _ (by simp) (fun i hi => ?_) ?_
    · have hx : i < xs.length := by omega
      have h1 : ((i : Int) < (rs.length : Int)) := by omega
      have hg : (raceR a xs rs)[i]'(by omega) = turnR a (parOf xs rs) (decide (2 ≤ cntF xs)) (xs[i], rs[i]) := by simp [raceR]
      rw [List.take_succ_eq_append_getElem (by omega), hg]
      simp only [M.spec_l25Race_l1, M.spec_l25Race_j1, M.spec_l25Race_j2, h1, decide_true, ifB_true, idx_lt xs i hx, idx_lt rs i hi, bnd_some, step64 hi (by omega), ifB_if, if_true, h2]
      by_cases hc : 2 ≤ cntF xs
      · have hc' : (2 : Int) ≤ ((cntF xs : Nat) : Int) := by omega
        by_cases hz : xs[i].Code = 0
        · have et : turnR a (parOf xs rs) (decide (2 ≤ cntF xs)) (xs[i], rs[i]) = Rating.mk rs[i].Boat (newV a rs[i].Value (fac x7.1 xs[i].Time)) := by rw [hp hc]; unfold turnR; rw [if_pos ⟨by simp [hc], hz⟩]
          rw [if_pos (by simp [hc']), if_pos (by simp [hz]), p_specFac (ht _ (List.getElem_mem hx) hz), bnd_some, p_specNew, bnd_some, chk_pos (by simp; omega), et]
        · have et : turnR a (parOf xs rs) (decide (2 ≤ cntF xs)) (xs[i], rs[i]) = rs[i] := by unfold turnR; rw [if_neg (fun hh => hz hh.2)]
          rw [if_pos (by simp [hc']), if_neg (by simp [hz]), chk_pos (by simp; omega), et]
      · have hc' : ¬ (2 : Int) ≤ ((cntF xs : Nat) : Int) := by omega
        have et : turnR a (parOf xs rs) (decide (2 ≤ cntF xs)) (xs[i], rs[i]) = rs[i] := by unfold turnR; rw [if_neg (fun hh => by simp [hc] at hh)]
        rw [if_neg (by simp [hc']), if_neg (by simp), chk_pos (by simp; omega), et]
    · simp [M.spec_l25Race_l1]
  simp only [M.spec_l25Race, p_l25Par xs rs hf, bnd_some]
  rw [hgo _ (by split <;> rename_i h0 <;> simp only [← hT] <;> simp [h0]) (fun h2 => by rw [if_neg (fun h0 => by rw [h0] at hT; simp at hT; omega)])]
  rfl
theorem p_clone (rs : List Rating) (h : rs.length ≤ 1048576) : M.slices_Clone___impl_Rating_impl_Rating_ rs = some rs := by
  unfold M.slices_Clone___impl_Rating_impl_Rating_
  rw [chk_pos (by simp; omega), List.nil_append]
theorem p_implRace (a : ProgressRules) (xs : List Finish) (rs : List Rating) (h : FR xs rs) : M.impl_progressRace a xs rs = some (raceR a xs rs) := by
  have hf := h
  obtain ⟨hl, h16, ht, hv⟩ := h
  have hT := cnt_times xs rs hl
  have hL := raceR_len a xs rs hl
  have hl1 : loopF (M.impl_progressRace_l1 xs) (0, 0) = some (.nxt (((cntF xs : Nat) : Int), (xs.length : Int))) := by
    have e0 : (((cntF xs : Nat) : Int), (xs.length : Int)) = (((cntF (xs.take xs.length) : Nat) : Int), (xs.length : Int)) := by rw [List.take_length]
    rw [e0]
    refine loop_run xs.length (by omega) (fun i => (((cntF (xs.take i) : Nat) : Int), (i : Int))) _ (by simp [cntF]) (fun i hi => ?_) ?_
    · have h1 : ((i : Int) < (xs.length : Int)) := by omega
      have hc := cntF_le xs i
      rw [cntF_succ xs i hi]
      simp only [M.impl_progressRace_l1, M.impl_progressRace_j4, M.impl_progressRace_j5, h1, decide_true, ifB_true, idx_lt xs i hi, bnd_some, step64 hi (by omega), ifB_if, if_true]
      by_cases hz : xs[i].Code = 0
      · rw [if_pos (by simp [hz]), if_pos hz, w64_of (by omega)]; rfl
      · rw [if_neg (by simp [hz]), if_neg hz]; rfl
    · simp [M.impl_progressRace_l1]
  have hgo : ∀ (p : Int) (s : Int × Int), s.1 = ((cntF xs : Nat) : Int) → (2 ≤ cntF xs → p = parOf xs rs) → loopF (M.impl_progressRace_l2 a xs p s) (rs, 0) = some (.nxt (raceR a xs rs, (xs.length : Int))) := by
    intro p s hs hp
    have e0 : (raceR a xs rs, (xs.length : Int)) = ((raceR a xs rs).take xs.length ++ rs.drop xs.length, (xs.length : Int)) := by rw [List.take_of_length_le (by omega), List.drop_of_length_le (by omega), List.append_nil]
    rw [e0]
    refine loop_run xs.length (by omega) (fun i => ((raceR a xs rs).take i ++ rs.drop i, (i : Int))) _ (by simp) (fun i hi => ?_) ?_
    · have hr : i < rs.length := by omega
      have h1 : ((i : Int) < (xs.length : Int)) := by omega
      have hg : (raceR a xs rs)[i]'(by omega) = turnR a (parOf xs rs) (decide (2 ≤ cntF xs)) (xs[i], rs[i]) := by simp [raceR]
      have hat : idx ((raceR a xs rs).take i ++ rs.drop i) (i : Int) = some rs[i] := by rw [idx_nat]; exact half_get _ _ i (by omega) hr
      simp only [M.impl_progressRace_l2, M.impl_progressRace_j1, M.impl_progressRace_j2, M.impl_progressRace_j3, h1, decide_true, ifB_true, idx_lt xs i hi, bnd_some, step64 hi (by omega), ifB_if, if_true, hs, hat, Int.toNat_natCast]
      by_cases hc : 2 ≤ cntF xs
      · have hc' : (1 : Int) < ((cntF xs : Nat) : Int) := by omega
        by_cases hz : xs[i].Code = 0
        · have et : turnR a (parOf xs rs) (decide (2 ≤ cntF xs)) (xs[i], rs[i]) = Rating.mk rs[i].Boat (newV a rs[i].Value (fac p xs[i].Time)) := by rw [hp hc]; unfold turnR; rw [if_pos ⟨by simp [hc], hz⟩]
          rw [if_pos (by simp [hc']), if_pos (by simp [hz]), p_implFac (ht _ (List.getElem_mem hi) hz), bnd_some, p_implNew, bnd_some, ← et, ← hg, half_set _ _ i (by omega) (by omega)]
        · have et : turnR a (parOf xs rs) (decide (2 ≤ cntF xs)) (xs[i], rs[i]) = rs[i] := by unfold turnR; rw [if_neg (fun hh => hz hh.2)]
          rw [if_pos (by simp [hc']), if_neg (by simp [hz]), half_keep _ _ i (by omega) hr (hg.trans et)]
      · have hc' : ¬ (1 : Int) < ((cntF xs : Nat) : Int) := by omega
        have et : turnR a (parOf xs rs) (decide (2 ≤ cntF xs)) (xs[i], rs[i]) = rs[i] := by unfold turnR; rw [if_neg (fun hh => by simp [hc] at hh)]
        rw [if_neg (by simp [hc']), if_neg (by simp), half_keep _ _ i (by omega) hr (hg.trans et)]
    · simp [M.impl_progressRace_l2]
  simp only [M.impl_progressRace, p_clone rs (by omega), p_parTime xs rs hf, bnd_some, hl1, outc_nxt, M.impl_progressRace_a1]
  rw [hgo _ _ rfl (fun h2 => by rw [if_neg (fun h0 => by rw [h0] at hT; simp at hT; omega)])]
  rfl
def progRaceR (a : ProgressRules) (n : Int) (xs : List Finish) (rs : List Rating) : List Rating × Int := if IsProgress a then if code22 n xs rs = 0 then (raceR a xs rs, 0) else ([], code22 n xs rs) else ([], 1)
theorem p_specProgressRace (a : ProgressRules) (n : Int) (xs : List Finish) (rs : List Rating) (h : xs.length ≤ 1048576) (h' : rs.length ≤ 1048576) : M.spec_ProgressRace a n xs rs = some (progRaceR a n xs rs) := by
  simp only [M.spec_ProgressRace, p_specIsProgress, p_l22Code n xs rs h h', bnd_some, ifB_if, progRaceR]
  by_cases h0 : IsProgress a
  · rw [if_neg (by simp [h0]), if_pos h0]
    by_cases h1 : code22 n xs rs = 0
    · rw [if_neg (by simp [h1]), if_pos h1, p_specRace a xs rs (code22_ok h1).1, bnd_some]
    · rw [if_pos (by simp [h1]), if_neg h1]
  · rw [if_pos (by simp [h0]), if_neg h0]
theorem p_implProgressRace (a : ProgressRules) (n : Int) (xs : List Finish) (rs : List Rating) (h : xs.length ≤ 1048576) (h' : rs.length ≤ 1048576) : M.impl_ProgressRace a n xs rs = some (progRaceR a n xs rs) := by
  simp only [M.impl_ProgressRace, p_implIsProgress, p_ratingsCode n xs rs h h', bnd_some, ifB_if, progRaceR]
  by_cases h0 : IsProgress a
  · rw [if_neg (by simp [h0]), if_pos h0]
    by_cases h1 : code22 n xs rs = 0
    · rw [if_neg (by simp [h1]), if_pos h1, p_implRace a xs rs (code22_ok h1).1, bnd_some]
    · rw [if_pos (by simp [h1]), if_neg h1]
  · rw [if_pos (by simp [h0]), if_neg h0]
end Go.Proofs.Ytbkpfcpbpnmjaaa
