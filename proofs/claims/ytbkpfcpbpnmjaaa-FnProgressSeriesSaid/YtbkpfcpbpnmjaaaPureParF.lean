/- Pure laws over drawn races: par times, new factors, factors after several races. -/
import Derived.Test.YtbkpfcpbpnmjaaaPurePar4
import Derived.Test.YtbkpfcpbpnmjaaaPureDr
namespace Go.Proofs.Ytbkpfcpbpnmjaaa
open Go
set_option linter.unusedVariables false
set_option linter.unusedSimpArgs false
def cLt (p : Int) (T : List Int) : Nat := T.countP (fun x => decide (x < p))
def cGt (p : Int) (T : List Int) : Nat := T.countP (fun x => decide (p < x))
theorem med_facts (T : List Int) (h0 : T ≠ []) : let p := ((srtB ltI T).reverse[(T.length - 1) / 2]?).getD 0
    2 * cLt p T < T.length ∧ 2 * cGt p T ≤ T.length ∧ cLt p T + cGt p T < T.length := by
  intro p
  have hm : 0 < T.length := List.length_pos_iff.2 h0
  have hl := srtI_len T
  have hperm : (srtB ltI T).reverse.Perm T := (List.reverse_perm _).trans (srtB_perm ltI T)
  have hsort : (srtB ltI T).reverse.Pairwise (fun a b => a ≤ b) := by rw [List.pairwise_reverse]; exact srtB_sorted T
  have hk : (T.length - 1) / 2 < (srtB ltI T).reverse.length := by omega
  have hp : p = (srtB ltI T).reverse[(T.length - 1) / 2] := by show ((srtB ltI T).reverse[(T.length - 1) / 2]?).getD 0 = _; rw [List.getElem?_eq_getElem hk]; rfl
  unfold cLt cGt
  rw [← hperm.countP_eq, ← hperm.countP_eq]
  generalize (srtB ltI T).reverse = S at *
  generalize hkk : (T.length - 1) / 2 = k at *
  rw [List.pairwise_iff_getElem] at hsort
  have d0 : (S.drop k).countP (fun x => decide (x < p)) = 0 := by
    rw [List.countP_eq_zero]
    intro x hx
    obtain ⟨j, hj, rfl⟩ := List.mem_iff_getElem.1 hx
    rw [List.length_drop] at hj
    rw [List.getElem_drop]
    rcases Nat.eq_zero_or_pos j with rfl | hj0
    · simp [hp]
    · have := hsort k (k + j) hk (by omega) (by omega)
      simp only [hp, decide_eq_true_eq]; omega
  have t0 : (S.take (k + 1)).countP (fun x => decide (p < x)) = 0 := by
    rw [List.countP_eq_zero]
    intro x hx
    obtain ⟨j, hj, rfl⟩ := List.mem_iff_getElem.1 hx
    rw [List.length_take] at hj
    rw [List.getElem_take]
    rcases Nat.lt_or_ge j k with hj0 | hj0
    · have := hsort j k (by omega) hk hj0
      simp only [hp, decide_eq_true_eq]; omega
    · have : j = k := by omega
      subst this
      simp [hp]
  have c1 : S.countP (fun x => decide (x < p)) ≤ k := by
    conv => lhs; rw [← List.take_append_drop k S]
    rw [List.countP_append, d0]
    have := List.countP_le_length (p := fun x => decide (x < p)) (l := S.take k)
    rw [List.length_take] at this
    omega
  have c2 : S.countP (fun x => decide (p < x)) ≤ T.length - (k + 1) := by
    conv => lhs; rw [← List.take_append_drop (k + 1) S]
    rw [List.countP_append, t0]
    have := List.countP_le_length (p := fun x => decide (p < x)) (l := S.drop (k + 1))
    rw [List.length_drop] at this
    omega
  omega
def corrL (xs : List Finish) (rs : List Rating) : List Finish := (xs.zip rs).map fun p => Finish.mk p.1.Boat p.1.Code (if p.1.Code = 0 then cor p.1.Time p.2.Value else p.1.Time)
theorem p_CorrectFinishes (n : Int) (xs : List Finish) (rs : List Rating) (h : xs.length ≤ 1048576) (h' : rs.length ≤ 1048576) (h0 : code22 n xs rs = 0) : M.impl_CorrectFinishes n xs rs = some (corrL xs rs, 0) := by
  obtain ⟨hl, h16, ht, hv⟩ := (code22_ok h0).1
  have hL : (corrL xs rs).length = xs.length := by simp [corrL, hl]
  have hloop : loopF (M.impl_CorrectFinishes_l1 xs rs) (([] : List Finish), 0) = some (.nxt (corrL xs rs, (xs.length : Int))) := by
    have e0 : (corrL xs rs, (xs.length : Int)) = ((corrL xs rs).take xs.length, (xs.length : Int)) := by rw [List.take_of_length_le (by omega)]
    rw [e0]
    refine loop_run xs.length (by omega) (fun i => ((corrL xs rs).take i, (i : Int))) _ (by simp) (fun i hi => ?_) (by simp [M.impl_CorrectFinishes_l1])
    have hr : i < rs.length := by omega
    have h1 : ((i : Int) < (xs.length : Int)) := by omega
    have hg : (corrL xs rs)[i]'(by omega) = Finish.mk xs[i].Boat xs[i].Code (if xs[i].Code = 0 then cor xs[i].Time rs[i].Value else xs[i].Time) := by simp [corrL]
    rw [List.take_succ_eq_append_getElem (by omega), hg]
    simp only [M.impl_CorrectFinishes_l1, M.impl_CorrectFinishes_j1, h1, decide_true, ifB_true, idx_lt xs i hi, idx_lt rs i hr, bnd_some, step64 hi (by omega), ifB_if, if_true]
    by_cases hz : xs[i].Code = 0
    · rw [if_pos (by simp [hz]), if_pos hz, p_implCor (ht _ (List.getElem_mem hi) hz) (hv _ (List.getElem_mem hr)), bnd_some, chk_pos (by simp; omega)]
    · rw [if_neg (by simp [hz]), if_neg hz, chk_pos (by simp; omega)]
  simp only [M.impl_CorrectFinishes, p_ratingsCode n xs rs h h', bnd_some, h0]
  rw [show ((0 : Int) != 0) = false from rfl, ifB_false, hloop]
  rfl
theorem pure_FnParTime (c : List UInt8) (hc : OkD.ok c) : M.laws_FnParTime c = some true := by
  rw [M.laws_FnParTime, p_big, bnd_some, ifB_if]
  by_cases hl : 4096 < (c.length : Int)
  · simp [hl]
  · rw [if_neg (by simpa using hl)]
    obtain ⟨b, hb, hb1, hb2⟩ := p_DrawParTime c (by omega)
    obtain ⟨n, xs, rs⟩ := b
    simp only at hb1 hb2
    have hx : xs.length ≤ 1048576 := by omega
    have hr : rs.length ≤ 1048576 := by omega
    simp only [hb, bnd_some, p_implParTime n xs rs hx hr, p_specParTime n xs rs hx hr, bne_self_eq_false, ifB_false, M.laws_FnParTime_j1]
    simp only [ifB_if]
    by_cases h0 : (parTimeR n xs rs).2 = 0
    · obtain ⟨h1, h2, h3⟩ := parTimeR_ok h0
      have hf := (code22_ok h1).1
      have hm : 0 < (timesOf xs rs).length := List.length_pos_iff.2 h2
      have hT := timesOf_len xs rs
      have hL : (corrL xs rs).length = xs.length := by simp [corrL, hf.1]
      rw [if_neg (by simp [h0]), p_CorrectFinishes n xs rs hx hr h1, bnd_some]
      generalize hq : parTimeR n xs rs = q at *
      obtain ⟨q1, q2⟩ := q
      simp only at h0 h3
      subst h0 h3
      have hloop : loopF (M.laws_FnParTime_l1 (parOf xs rs, 0) (corrL xs rs, 0)) (0, 0, 0, 0) = some (.nxt (((timesOf xs rs).length : Int), ((cLt (parOf xs rs) (timesOf xs rs) : Nat) : Int), ((cGt (parOf xs rs) (timesOf xs rs) : Nat) : Int), (xs.length : Int))) := by
        have e0 : ((((timesOf xs rs).length : Int), ((cLt (parOf xs rs) (timesOf xs rs) : Nat) : Int), ((cGt (parOf xs rs) (timesOf xs rs) : Nat) : Int), (xs.length : Int)) : Int × Int × Int × Int) =
          (((timesOf (xs.take xs.length) (rs.take xs.length)).length : Int), ((cLt (parOf xs rs) (timesOf (xs.take xs.length) (rs.take xs.length)) : Nat) : Int), ((cGt (parOf xs rs) (timesOf (xs.take xs.length) (rs.take xs.length)) : Nat) : Int), (xs.length : Int)) := by rw [List.take_length, hf.1, List.take_length]
        rw [e0]
        generalize parOf xs rs = p
        refine loop_run xs.length (by omega) (fun i => (((timesOf (xs.take i) (rs.take i)).length : Int), ((cLt p (timesOf (xs.take i) (rs.take i)) : Nat) : Int), ((cGt p (timesOf (xs.take i) (rs.take i)) : Nat) : Int), (i : Int))) _ (by simp [timesOf, cLt, cGt]) (fun i hi => ?_) (by simp [M.laws_FnParTime_l1, hL])
        have hri : i < rs.length := by have := hf.1; omega
        have g1 : ((i : Int) < ((corrL xs rs).length : Int)) := by omega
        have hg : idx (corrL xs rs) (i : Int) = some (Finish.mk xs[i].Boat xs[i].Code (if xs[i].Code = 0 then cor xs[i].Time rs[i].Value else xs[i].Time)) := by rw [idx_nat, List.getElem?_eq_getElem (by omega)]; simp [corrL]
        have hlen := timesOf_len (xs.take i) (rs.take i)
        rw [List.length_take] at hlen
        have hc1 := List.countP_le_length (p := fun x => decide (x < p)) (l := timesOf (xs.take i) (rs.take i))
        have hc2 := List.countP_le_length (p := fun x => decide (p < x)) (l := timesOf (xs.take i) (rs.take i))
        rw [timesOf_succ xs rs i hi hri]
        simp only [M.laws_FnParTime_l1, M.laws_FnParTime_j3, M.laws_FnParTime_j4, M.laws_FnParTime_j5, g1, decide_true, ifB_true, hg, bnd_some, step64 hi (by have := hf.2.1; omega), ifB_if, if_true]
        by_cases hz : xs[i].Code = 0
        · rw [if_neg (by simp [hz])]
          simp only [hz, if_true]
          generalize timesOf (xs.take i) (rs.take i) = T at *
          generalize cor xs[i].Time rs[i].Value = x
          have w1 : w64 ((T.length : Int) + 1) = ((T.length + 1 : Nat) : Int) := by rw [w64_of (by omega)]; rfl
          have w2 : w64 (((cLt p T : Nat) : Int) + 1) = ((cLt p T + 1 : Nat) : Int) := by unfold cLt; rw [w64_of (by omega)]; rfl
          have w3 : w64 (((cGt p T : Nat) : Int) + 1) = ((cGt p T + 1 : Nat) : Int) := by unfold cGt; rw [w64_of (by omega)]; rfl
          have a1 : cLt p (T ++ [x]) = cLt p T + (if x < p then 1 else 0) := by unfold cLt; rw [List.countP_append]; by_cases hh : x < p <;> simp [hh]
          have a2 : cGt p (T ++ [x]) = cGt p T + (if p < x then 1 else 0) := by unfold cGt; rw [List.countP_append]; by_cases hh : p < x <;> simp [hh]
          rw [a1, a2, List.length_append, List.length_singleton, w1, w2, w3]
          by_cases hA : x < p
          · have hB : ¬ p < x := by omega
            simp [hA, hB]
          · by_cases hB : p < x
            · simp [hA, hB]
            · simp [hA, hB]
        · rw [if_pos (by simp [hz])]
          simp [hz]
      rw [hloop]
      have hmed := med_facts (timesOf xs rs) h2
      simp only at hmed
      rw [show (((srtB ltI (timesOf xs rs)).reverse[((timesOf xs rs).length - 1) / 2]?).getD 0) = parOf xs rs from rfl] at hmed
      obtain ⟨m1, m2, m3⟩ := hmed
      have h16 := hf.2.1
      simp only [bnd_some, outc_nxt, M.laws_FnParTime_a1, M.laws_FnParTime_j2]
      rw [w64_of (n := 2 * ((cLt (parOf xs rs) (timesOf xs rs) : Nat) : Int)) (by omega), w64_of (n := 2 * ((cGt (parOf xs rs) (timesOf xs rs) : Nat) : Int)) (by omega), w64_of (by omega)]
      rw [decide_eq_true (p := (0 : Int) < ((timesOf xs rs).length : Int)) (by omega), decide_eq_true (p := 2 * ((cLt (parOf xs rs) (timesOf xs rs) : Nat) : Int) < ((timesOf xs rs).length : Int)) (by omega), decide_eq_true (p := 2 * ((cGt (parOf xs rs) (timesOf xs rs) : Nat) : Int) ≤ ((timesOf xs rs).length : Int)) (by omega), decide_eq_true (p := ((cLt (parOf xs rs) (timesOf xs rs) : Nat) : Int) + ((cGt (parOf xs rs) (timesOf xs rs) : Nat) : Int) < ((timesOf xs rs).length : Int)) (by omega)]
      rfl
    · rw [if_pos (by simp [h0])]
theorem p_ProgFac {a : ProgressRules} (ha : IsProgress a) {v f : Int} (hv : 1 ≤ v ∧ v ≤ 3000) (hf : 1 ≤ f ∧ f ≤ 3000) : M.impl_ProgressFactor a v f = some (newV a v f, 0) := by
  simp only [M.impl_ProgressFactor, M.impl_ProgressFactor_j1, p_implIsProgress, ha, M.impl_isFactor, p_within, hv, hf, and_self, decide_true, Bool.not_true, bnd_some, ifB_false, p_implNew]
theorem p_CountFinished {n : Int} {xs : List Finish} (h : (1 ≤ n ∧ n ≤ 16) ∧ OkRace n xs) : M.impl_CountFinished xs = some (((cntF xs : Nat) : Int), 0) := by
  have h16 : xs.length ≤ 16 := by have := h.2.1; omega
  have hfc : M.impl_finishesCode xs = some 0 := by
    have hl : loopF (M.impl_finishesCode_l1 xs) 0 = some (.nxt (xs.length : Int)) := by
      refine loop_run xs.length (by omega) (fun i => (i : Int)) _ rfl (fun i hi => ?_) (by simp [M.impl_finishesCode_l1])
      have h1 : ((i : Int) < (xs.length : Int)) := by omega
      have hb := h.2.2 i hi
      unfold badFin at hb
      rw [List.getElem?_eq_getElem hi] at hb
      have hok : (decide (0 ≤ xs[i].Boat ∧ xs[i].Boat ≤ 15) && (if xs[i].Code = 0 then decide (1 ≤ xs[i].Time ∧ xs[i].Time ≤ 1000000000) else decide (1 ≤ xs[i].Code ∧ xs[i].Code ≤ 9) && (xs[i].Time == 0))) = true := by
        by_cases hz : xs[i].Code = 0
        · simp [hz] at hb ⊢; omega
        · simp [hz] at hb ⊢; omega
      simp only [M.impl_finishesCode_l1, h1, decide_true, ifB_true, idx_lt xs i hi, bnd_some, p_IsFinish, hok, Bool.not_true, ifB_false, step64 hi (by omega)]
    have e : decide ((16 : Int) < (xs.length : Int)) = false := decide_eq_false (by omega)
    rw [M.impl_finishesCode, e, ifB_false, hl]
    rfl
  have hl1 : loopF (M.impl_CountFinished_l1 xs) (0, 0) = some (.nxt (((cntF xs : Nat) : Int), (xs.length : Int))) := by
    have e0 : (((cntF xs : Nat) : Int), (xs.length : Int)) = (((cntF (xs.take xs.length) : Nat) : Int), (xs.length : Int)) := by rw [List.take_length]
    rw [e0]
    refine loop_run xs.length (by omega) (fun i => (((cntF (xs.take i) : Nat) : Int), (i : Int))) _ (by simp [cntF]) (fun i hi => ?_) (by simp [M.impl_CountFinished_l1])
    have h1 : ((i : Int) < (xs.length : Int)) := by omega
    have hc := cntF_le xs i
    rw [cntF_succ xs i hi]
    simp only [M.impl_CountFinished_l1, M.impl_CountFinished_j1, M.impl_CountFinished_j2, h1, decide_true, ifB_true, idx_lt xs i hi, bnd_some, step64 hi (by omega), ifB_if, if_true]
    by_cases hz : xs[i].Code = 0
    · rw [if_pos (by simp [hz]), if_pos hz, w64_of (by omega)]; rfl
    · rw [if_neg (by simp [hz]), if_neg hz]; rfl
  rw [M.impl_CountFinished, hfc, bnd_some, show ((0 : Int) != 0) = false from rfl, ifB_false, hl1]
  rfl
theorem pure_FnProgressRace (c : List UInt8) (hc : OkD.ok c) : M.laws_FnProgressRace c = some true := by
  rw [M.laws_FnProgressRace, p_big, bnd_some, ifB_if]
  by_cases hl : 4096 < (c.length : Int)
  · simp [hl]
  · rw [if_neg (by simpa using hl)]
    obtain ⟨b, hb, hb1, hb2⟩ := p_DrawProgressRace c (by omega)
    obtain ⟨a, n, xs, rs⟩ := b
    simp only at hb1 hb2
    have hx : xs.length ≤ 1048576 := by omega
    have hr : rs.length ≤ 1048576 := by omega
    simp only [hb, bnd_some, p_implProgressRace a n xs rs hx hr, p_specProgressRace a n xs rs hx hr, bne_self_eq_false, ifB_false]
    by_cases ha : IsProgress a
    · by_cases h0 : code22 n xs rs = 0
      · have hR : progRaceR a n xs rs = (raceR a xs rs, 0) := by unfold progRaceR; rw [if_pos ha, if_pos h0]
        obtain ⟨hf, hn, hok, hrat⟩ := code22_ok h0
        obtain ⟨hxr, h16, ht, hv⟩ := hf
        have hL := raceR_len a xs rs hxr
        have hcnt := cnt_times xs rs hxr
        have e1 : (((raceR a xs rs).length : Int) != (rs.length : Int)) = false := by simp; omega
        rw [hR]
        simp only [p_CountFinished ⟨hn, hok⟩, bnd_some, show ((0 : Int) != 0) = false from rfl, ifB_false, e1, M.laws_FnProgressRace_j1, p_implParFactors n xs rs hx hr]
        have hloop : loopF (M.laws_FnProgressRace_l1 (a, n, xs, rs) (raceR a xs rs, 0) (((cntF xs : Nat) : Int), 0) (parFactorsR n xs rs)) 0 = some (.nxt (xs.length : Int)) := by
          refine loop_run xs.length (by omega) (fun i => (i : Int)) _ rfl (fun i hi => ?_) (by simp [M.laws_FnProgressRace_l1, hL])
          have hri : i < rs.length := by omega
          have g1 : ((i : Int) < ((raceR a xs rs).length : Int)) := by omega
          have hg : idx (raceR a xs rs) (i : Int) = some (turnR a (parOf xs rs) (decide (2 ≤ cntF xs)) (xs[i], rs[i])) := by rw [idx_nat, List.getElem?_eq_getElem (by omega)]; simp [raceR]
          have hbad := hrat.2.2 i hri
          unfold badRating at hbad
          rw [List.getElem?_eq_getElem hri] at hbad
          have hbo : rs[i].Boat = (i : Int) := by simp at hbad; exact hbad.1
          simp only [M.laws_FnProgressRace_l1, M.laws_FnProgressRace_j2, M.laws_FnProgressRace_j3, g1, decide_true, ifB_true, idx_lt xs i hi, bnd_some]
          have keep : turnR a (parOf xs rs) (decide (2 ≤ cntF xs)) (xs[i], rs[i]) = rs[i] → M.laws_FnProgressRace_j4 (a, n, xs, rs) (raceR a xs rs, 0) (parFactorsR n xs rs) (i : Int) true = some (.cont ((i + 1 : Nat) : Int)) := fun he => by
            simp only [M.laws_FnProgressRace_j4, M.laws_FnProgressRace_j2, M.laws_FnProgressRace_j3, ifB_true, hg, he, idx_lt rs i hri, bnd_some, step64 hi (by omega)]
            simp [eqL]
          by_cases hc2 : 2 ≤ cntF xs
          · have hc' : decide (((cntF xs : Nat) : Int) < 2) = false := decide_eq_false (by omega)
            rw [hc', ifB_false]
            by_cases hz : xs[i].Code = 0
            · have e2 : (xs[i].Code != 0) = false := by simp [hz]
              have hT0 : timesOf xs rs ≠ [] := fun hh => by rw [hh] at hcnt; simp at hcnt; omega
              have hP : parFactorsR n xs rs = (facs (parOf xs rs) xs, 0) := by
                unfold parFactorsR parTimeR
                rw [if_pos h0, if_neg hT0]
                rfl
              have hfl : (facs (parOf xs rs) xs).length = xs.length := by simp [facs]
              have e3 : (((facs (parOf xs rs) xs).length : Int) != ((raceR a xs rs).length : Int)) = false := by simp; omega
              have hfi : idx (facs (parOf xs rs) xs) (i : Int) = some (fac (parOf xs rs) xs[i].Time) := by rw [idx_nat, List.getElem?_eq_getElem (by omega)]; simp [facs, hz]
              have et : turnR a (parOf xs rs) (decide (2 ≤ cntF xs)) (xs[i], rs[i]) = Rating.mk rs[i].Boat (newV a rs[i].Value (fac (parOf xs rs) xs[i].Time)) := by unfold turnR; rw [if_pos ⟨by simp [hc2], hz⟩]
              simp only [e2, M.laws_FnProgressRace_j4, M.laws_FnProgressRace_j5, M.laws_FnProgressRace_j6, M.laws_FnProgressRace_j2, M.laws_FnProgressRace_j3, ifB_false, hP, show ((0 : Int) != 0) = false from rfl, e3, idx_lt rs i hri, hfi, bnd_some, p_ProgFac ha (hv _ (List.getElem_mem hri)) (fac_in _ _), hg, et, bne_self_eq_false, hbo, step64 hi (by omega)]
            · have e2 : (xs[i].Code != 0) = true := by simp [hz]
              rw [e2]
              exact keep (by unfold turnR; rw [if_neg (fun hh => hz hh.2)])
          · have hc' : decide (((cntF xs : Nat) : Int) < 2) = true := decide_eq_true (by omega)
            rw [hc', ifB_true]
            exact keep (by unfold turnR; rw [if_neg (fun hh => by simp [hc2] at hh)])
        rw [hloop]
        rfl
      · have hR : progRaceR a n xs rs = ([], code22 n xs rs) := by unfold progRaceR; rw [if_pos ha, if_neg h0]
        have e1 : (code22 n xs rs != 0) = true := by simp [h0]
        rw [hR]
        simp only [e1, ifB_true]
        rfl
    · have hR : progRaceR a n xs rs = ([], 1) := by unfold progRaceR; rw [if_neg ha]
      rw [hR]
      rfl
def bndP (a : ProgressRules) (x : Rating) : Bool := decide (x.Value ≤ a.Low) || decide (a.High ≤ x.Value)
def bndL (a : ProgressRules) (xs : List Rating) : List Int := (xs.filter (bndP a)).map (fun x => x.Boat)
theorem bndL_len (a : ProgressRules) (xs : List Rating) : (bndL a xs).length ≤ xs.length := by unfold bndL; rw [List.length_map]; exact List.length_filter_le _ _
theorem p_implBounded {a : ProgressRules} (ha : IsProgress a) {n : Int} {xs : List Rating} (h : IsRatings n xs) : M.impl_BoundedBoats a n xs = some (bndL a xs, 0) := by
  have h16 : xs.length ≤ 16 := by have := h.2.1; have := h.1; omega
  have hl : loopF (M.impl_BoundedBoats_l1 a xs) (([] : List Int), 0) = some (.nxt (bndL a xs, (xs.length : Int))) := by
    have e0 : (bndL a xs, (xs.length : Int)) = (bndL a (xs.take xs.length), (xs.length : Int)) := by rw [List.take_length]
    rw [e0]
    refine loop_run xs.length (by omega) (fun i => (bndL a (xs.take i), (i : Int))) _ (by simp [bndL]) (fun i hi => ?_) (by simp [M.impl_BoundedBoats_l1])
    have h1 : ((i : Int) < (xs.length : Int)) := by omega
    have hlen := bndL_len a (xs.take i)
    rw [List.length_take] at hlen
    have e1 : bndL a (xs.take (i + 1)) = bndL a (xs.take i) ++ (if bndP a xs[i] = true then [xs[i].Boat] else []) := by
      unfold bndL
      rw [List.take_succ_eq_append_getElem hi, List.filter_append, List.map_append]
      congr 1
      by_cases hb : bndP a xs[i] = true <;> simp [hb]
    rw [e1]
    have hc : (bndL a (xs.take i)).length + [xs[i].Boat].length < 1099511627776 := by simp; omega
    simp only [M.impl_BoundedBoats_l1, M.impl_BoundedBoats_j1, M.impl_BoundedBoats_j2, M.impl_BoundedBoats_j3, h1, decide_true, ifB_true, idx_lt xs i hi, bnd_some, step64 hi (by omega), chk_pos hc, bndP]
    by_cases hA : xs[i].Value ≤ a.Low
    · simp [hA]
    · by_cases hB : a.High ≤ xs[i].Value
      · simp [hA, hB]
      · simp [hA, hB]
  simp only [M.impl_BoundedBoats, p_implIsProgress, ha, p_implIsRatings n xs (by omega), h, decide_true, Bool.not_true, bnd_some, ifB_false, hl]
  rfl
theorem p_hasInt (l : List Int) (b : Int) (h : l.length ≤ 1048576) : M.laws_hasInt l b = some (decide (b ∈ l)) := by
  have hl : loopF (M.laws_hasInt_l1 l b) 0 = some (if ∀ i, i < l.length → (l[i]? == some b) = false then .nxt (l.length : Int) else .ret true) := by
    refine loop_find l.length (by omega) (fun i => (i : Int)) (fun i => l[i]? == some b) _ _ rfl (fun i hi => ?_) (by simp [M.laws_hasInt_l1])
    have h1 : ((i : Int) < (l.length : Int)) := by omega
    simp only [M.laws_hasInt_l1, h1, decide_true, ifB_true, idx_lt l i hi, bnd_some, step64 hi (by omega), ifB_if, if_true, List.getElem?_eq_getElem hi]
    by_cases hb : l[i] = b <;> simp [hb]
  rw [M.laws_hasInt, hl, bnd_some]
  by_cases hb : b ∈ l
  · obtain ⟨i, hi, he⟩ := List.mem_iff_getElem.1 hb
    rw [if_neg (fun hh => by have := hh i hi; rw [List.getElem?_eq_getElem hi, he] at this; simp at this), outc_ret, decide_eq_true hb]
  · rw [if_pos (fun i hi => by
      rw [List.getElem?_eq_getElem hi]
      have : l[i] ≠ b := fun he => hb (he ▸ List.getElem_mem hi)
      simpa using this), outc_nxt, decide_eq_false hb]
    rfl
theorem bndL_mem {a : ProgressRules} {n : Int} {xs : List Rating} (h : IsRatings n xs) (i : Nat) (hi : i < xs.length) : ((i : Int) ∈ bndL a xs) ↔ bndP a xs[i] = true := by
  have hbo : ∀ j (hj : j < xs.length), xs[j].Boat = (j : Int) := fun j hj => by
    have := h.2.2 j hj
    unfold badRating at this
    rw [List.getElem?_eq_getElem hj] at this
    simp at this
    exact this.1
  unfold bndL
  rw [List.mem_map]
  constructor
  · rintro ⟨x, hx, he⟩
    obtain ⟨hx1, hx2⟩ := List.mem_filter.1 hx
    obtain ⟨j, hj, rfl⟩ := List.mem_iff_getElem.1 hx1
    have : j = i := by have := hbo j hj; omega
    subst this
    exact hx2
  · intro hb
    exact ⟨xs[i], List.mem_filter.2 ⟨List.getElem_mem hi, hb⟩, hbo i hi⟩
theorem pure_FnProgressSeries (c : List UInt8) (hc : OkD.ok c) : M.laws_FnProgressSeries c = some true := by
  rw [M.laws_FnProgressSeries, p_big, bnd_some, ifB_if]
  by_cases hl : 4096 < (c.length : Int)
  · simp [hl]
  · rw [if_neg (by simpa using hl)]
    obtain ⟨b, hb, hb1, hb2, hb3⟩ := p_DrawProgressSeries c (by omega)
    obtain ⟨a, n, races, rs⟩ := b
    simp only at hb1 hb2 hb3
    have hx : races.length ≤ 1048576 := by omega
    have hxr : ∀ x ∈ races, x.length ≤ 1048576 := fun x hm => by have := hb2 x hm; omega
    have hr : rs.length ≤ 1048576 := by omega
    simp only [hb, bnd_some, p_implSeries a n races rs hx hxr hr, p_specSeries a n races rs hx hxr hr, bne_self_eq_false, ifB_false]
    by_cases h0 : codeS a n races rs = 0
    · obtain ⟨ha, h20, hg, hrat⟩ := codeS_ok h0
      have hR : seriesR a n races rs = (serR a rs races, 0) := by unfold seriesR; rw [if_pos h0]
      have hser := serR_ok (rs := rs) (races := races) ha hg hrat
      have hn := hrat.1
      have e1 : (((serR a rs races).length : Int) != n) = false := by have := hser.2.1; simp; omega
      rw [hR]
      simp only [show ((0 : Int) != 0) = false from rfl, ifB_false, e1, p_implBounded ha hser, bnd_some]
      have hsl : (serR a rs races).length = n.toNat := by have := hser.2.1; omega
      have hloop : loopF (M.laws_FnProgressSeries_l1 (a, n, races, rs) (serR a rs races, 0) (bndL a (serR a rs races), 0)) 0 = some (.nxt ((n.toNat : Nat) : Int)) := by
        refine loop_run n.toNat (by omega) (fun i => (i : Int)) _ rfl (fun i hi => ?_) ?_
        · have g1 : (i : Int) < n := by omega
          have hir : i < rs.length := by have := hrat.2.1; omega
          have his : i < (serR a rs races).length := by omega
          have hh : histRes a n races rs (i : Int) = (histR a rs races (i : Int), 0) := by unfold histRes; rw [if_pos h0, if_pos (by omega)]
          have e2 : (((histR a rs races (i : Int)).length : Int) != (w64 ((races.length : Int) + 1))) = false := by rw [histR_len, w64_of (by omega)]; simp
          have e3 : w64 (((histR a rs races (i : Int)).length : Int) - 1) = ((races.length : Nat) : Int) := by rw [histR_len, w64_of (by omega)]; omega
          have q0 : idx (histR a rs races (i : Int)) 0 = some rs[i].Value := by
            rw [show (0 : Int) = ((0 : Nat) : Int) from rfl, idx_nat, histR_get a rs races _ 0 (by omega)]
            unfold atV
            simp [serR, hir]
          have q1 : idx (histR a rs races (i : Int)) ((races.length : Nat) : Int) = some (serR a rs races)[i].Value := by
            rw [idx_nat, histR_get a rs races _ _ (Nat.le_refl _), List.take_length]
            unfold atV
            simp [his]
          have hmem := bndL_mem (a := a) hser i his
          have hlen := bndL_len a (serR a rs races)
          simp only [M.laws_FnProgressSeries_l1, M.laws_FnProgressSeries_j1, M.laws_FnProgressSeries_j2, g1, decide_true, ifB_true, p_implHist a n races rs (i : Int) hx hxr hr, hh, bnd_some, show ((0 : Int) != 0) = false from rfl, ifB_false, e2, e3, q0, q1, idx_lt rs i hir, idx_lt (serR a rs races) i his, bne_self_eq_false, p_hasInt _ _ (show (bndL a (serR a rs races)).length ≤ 1048576 by omega), step64 hi (by omega)]
          unfold bndP at hmem
          by_cases hA : (serR a rs races)[i].Value ≤ a.Low
          · have : decide (((i : Int)) ∈ bndL a (serR a rs races)) = true := decide_eq_true (hmem.2 (by simp [hA]))
            simp [this, hA]
          · by_cases hB : a.High ≤ (serR a rs races)[i].Value
            · have : decide (((i : Int)) ∈ bndL a (serR a rs races)) = true := decide_eq_true (hmem.2 (by simp [hB]))
              simp [this, hA, hB]
            · have : decide (((i : Int)) ∈ bndL a (serR a rs races)) = false := decide_eq_false (fun h => by have := hmem.1 h; simp [hA, hB] at this)
              simp [this, hA, hB]
        · have g1 : ¬ (((n.toNat : Nat) : Int) < n) := by omega
          simp only [M.laws_FnProgressSeries_l1, g1, decide_false, ifB_false]
      rw [hloop]
      rfl
    · have hR : seriesR a n races rs = ([], codeS a n races rs) := by unfold seriesR; rw [if_neg h0]
      have e1 : (codeS a n races rs != 0) = true := by simp [h0]
      rw [hR]
      simp only [e1, ifB_true]
      rfl
end Go.Proofs.Ytbkpfcpbpnmjaaa
