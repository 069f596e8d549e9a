/- Pure laws of the factors after several races. -/
import Derived.Test.YtbkpfcpbpnmjaaaPurePar2
namespace Go.Proofs.Ytbkpfcpbpnmjaaa
open Go
set_option linter.unusedVariables false
set_option linter.unusedSimpArgs false
theorem loop_first {body : Int → Option (Stp Int Int)} (n : Nat) (hn : n < 4611686018427387904) (p : Nat → Bool)
    (step : ∀ i, i < n → body (i : Int) = some (if p i then .ret (i : Int) else .cont ((i + 1 : Nat) : Int))) (last : body (n : Int) = some (.brk (n : Int))) :
    ∃ o, loopF body 0 = some o ∧ ((∃ k : Int, 0 ≤ k ∧ o = .ret k ∧ ¬ ∀ i, i < n → p i = false) ∨ (o = .nxt (n : Int) ∧ ∀ i, i < n → p i = false)) := by
  refine loop_count (body := body) (s := 0) n (by omega) (fun i s => s = (i : Int) ∧ ∀ j, j < i → p j = false) _ ⟨rfl, by simp⟩ (fun i s hi hs => ?_) (fun s hs => ?_)
  · obtain ⟨rfl, hs⟩ := hs
    refine ⟨_, step i hi, ?_⟩
    cases hp : p i with
    | true => exact .inl ⟨(i : Int), by omega, rfl, fun h => by rw [h i hi] at hp; cases hp⟩
    | false =>
      refine ⟨rfl, fun j hj => ?_⟩
      rcases Nat.lt_succ_iff_lt_or_eq.mp hj with h | h
      · exact hs j h
      · subst h; exact hp
  · obtain ⟨rfl, hs⟩ := hs
    exact ⟨_, last, .inr ⟨rfl, hs⟩⟩
theorem any_at {β : Type} (xs : List β) (p : β → Bool) : (∀ i, i < xs.length → (xs[i]?.any p) = false) ↔ xs.any p = false := by
  rw [List.any_eq_false]
  constructor
  · intro h x hx
    obtain ⟨i, hi, rfl⟩ := List.mem_iff_getElem.1 hx
    have := h i hi
    rw [List.getElem?_eq_getElem hi] at this
    simpa using this
  · intro h i hi
    rw [List.getElem?_eq_getElem hi]
    simpa using h _ (List.getElem_mem hi)
theorem p_contFin (xs : List (List Finish)) (f : List Finish → Option Bool) (p : List Finish → Bool) (h : xs.length ≤ 1048576) (hf : ∀ x ∈ xs, f x = some (p x)) : M.slices_ContainsFunc_____impl_Finish___impl_Finish_ xs f = some (xs.any p) := by
  obtain ⟨o, ho, hq⟩ := loop_first (body := M.slices_IndexFunc_____impl_Finish___impl_Finish__l1 xs f) xs.length (by omega) (fun i => xs[i]?.any p)
    (fun i hi => by
      have h1 : ((i : Int) < (xs.length : Int)) := by omega
      simp only [M.slices_IndexFunc_____impl_Finish___impl_Finish__l1, h1, decide_true, ifB_true, idx_lt xs i hi, bnd_some, hf _ (List.getElem_mem hi), step64 hi (by omega), ifB_if, List.getElem?_eq_getElem hi, Option.any_some, if_true]
      split <;> rfl)
    (by simp [M.slices_IndexFunc_____impl_Finish___impl_Finish__l1])
  rw [any_at] at hq
  unfold M.slices_ContainsFunc_____impl_Finish___impl_Finish_ M.slices_IndexFunc_____impl_Finish___impl_Finish_
  rw [ho]
  rcases hq with ⟨k, hk, rfl, hn⟩ | ⟨rfl, hn⟩
  · simp only [bnd_some, outc_ret]
    simp only [Bool.not_eq_false] at hn
    rw [hn, decide_eq_true hk]
  · simp only [bnd_some, outc_nxt, M.slices_IndexFunc_____impl_Finish___impl_Finish__a1, hn]
    rfl
def goodR (n : Int) (xs : List Finish) : Bool := decide ((1 ≤ n ∧ n ≤ 16) ∧ OkRace n xs)
theorem race_ratings {a : ProgressRules} {n : Int} {xs : List Finish} {rs : List Rating} (ha : IsProgress a) (hg : goodR n xs = true) (hr : IsRatings n rs) : IsRatings n (raceR a xs rs) := by
  have hg := of_decide_eq_true hg
  have hl : xs.length = rs.length := by have := hg.2.1; have := hr.2.1; omega
  have hL := raceR_len a xs rs hl
  refine ⟨hg.1, by have := hg.2.1; omega, fun i hi => ?_⟩
  have hb := hr.2.2 i (by omega)
  have hx : (raceR a xs rs)[i]? = some (turnR a (parOf xs rs) (decide (2 ≤ cntF xs)) (xs[i]'(by omega), rs[i]'(by omega))) := by
    rw [List.getElem?_eq_getElem hi]; simp [raceR]
  unfold badRating at hb ⊢
  rw [hx]
  rw [List.getElem?_eq_getElem (by omega : i < rs.length)] at hb
  simp only at hb ⊢
  unfold turnR
  split
  · have hn : a.Low ≤ newV a (rs[i]'(by omega)).Value (fac (parOf xs rs) (xs[i]'(by omega)).Time) ∧ newV a (rs[i]'(by omega)).Value (fac (parOf xs rs) (xs[i]'(by omega)).Time) ≤ a.High := by
      unfold IsProgress at ha; unfold newV; omega
    unfold IsProgress at ha
    simp at hb ⊢
    exact ⟨hb.1, by omega, by omega⟩
  · exact hb
def serR (a : ProgressRules) (rs : List Rating) (races : List (List Finish)) : List Rating := races.foldl (fun r xs => raceR a xs r) rs
theorem serR_ok {a : ProgressRules} {n : Int} {rs : List Rating} {races : List (List Finish)} (ha : IsProgress a) (hg : ∀ xs ∈ races, goodR n xs = true) (hr : IsRatings n rs) : IsRatings n (serR a rs races) :=
  fold_inv (fun r xs => raceR a xs r) (IsRatings n) races rs hr (fun s x hx hs => race_ratings ha (hg x hx) hs)
theorem serR_succ (a : ProgressRules) (rs : List Rating) (races : List (List Finish)) (i : Nat) (hi : i < races.length) : serR a rs (races.take (i + 1)) = raceR a races[i] (serR a rs (races.take i)) := by
  unfold serR
  rw [List.take_succ_eq_append_getElem hi, List.foldl_append]
  rfl
def codeS (a : ProgressRules) (n : Int) (races : List (List Finish)) (rs : List Rating) : Int := if IsProgress a then if (20 : Int) < races.length then 3 else if races.any (fun xs => !goodR n xs) = true then 1 else if IsRatings n rs then 0 else 2 else 1
theorem codeS_ok {a : ProgressRules} {n : Int} {races : List (List Finish)} {rs : List Rating} (h : codeS a n races rs = 0) : IsProgress a ∧ races.length ≤ 20 ∧ (∀ xs ∈ races, goodR n xs = true) ∧ IsRatings n rs := by
  unfold codeS at h
  split at h
  · rename_i h0
    split at h
    · omega
    · rename_i h1
      split at h
      · omega
      · rename_i h2
        split at h
        · rename_i h3
          refine ⟨h0, by omega, fun xs hx => ?_, h3⟩
          rw [Bool.not_eq_true, List.any_eq_false] at h2
          simpa using h2 xs hx
        · omega
  · omega
def stepsR (a : ProgressRules) (rs : List Rating) (races : List (List Finish)) (k : Nat) : List (List Rating) := (List.range (k + 1)).map fun j => serR a rs (races.take j)
theorem stepsR_len (a : ProgressRules) (rs : List Rating) (races : List (List Finish)) (k : Nat) : (stepsR a rs races k).length = k + 1 := by simp [stepsR]
theorem stepsR_get (a : ProgressRules) (rs : List Rating) (races : List (List Finish)) (k j : Nat) (h : j ≤ k) : (stepsR a rs races k)[j]? = some (serR a rs (races.take j)) := by
  unfold stepsR
  rw [List.getElem?_map, List.getElem?_range (by omega)]
  rfl
theorem fr_good {n : Int} {xs : List Finish} {rs : List Rating} (hg : goodR n xs = true) (hr : IsRatings n rs) : FR xs rs := fr_of (of_decide_eq_true hg) hr
def stepsRes (a : ProgressRules) (n : Int) (races : List (List Finish)) (rs : List Rating) : List (List Rating) × Int := if codeS a n races rs = 0 then (stepsR a rs races races.length, 0) else ([], codeS a n races rs)
theorem p_implSteps (a : ProgressRules) (n : Int) (races : List (List Finish)) (rs : List Rating) (h : races.length ≤ 1048576) (hx : ∀ xs ∈ races, xs.length ≤ 1048576) (h' : rs.length ≤ 1048576) : M.impl_progressSteps a n races rs = some (stepsRes a n races rs) := by
  have hc : M.slices_ContainsFunc_____impl_Finish___impl_Finish_ races (fun y0 => M.impl_progressSteps_1 y0 n) = some (races.any (fun xs => !goodR n xs)) := by
    refine p_contFin races _ _ h (fun x hxm => ?_)
    simp only [M.impl_progressSteps_1, p_areFinishes n x (hx x hxm), bnd_some]
    rfl
  have hloop : codeS a n races rs = 0 → loopF (M.impl_progressSteps_l1 a races) (([rs] : List (List Rating)), 0) = some (.nxt (stepsR a rs races races.length, (races.length : Int))) := by
    intro h0
    obtain ⟨ha, h20, hg, hr⟩ := codeS_ok h0
    refine loop_run races.length (by omega) (fun i => (stepsR a rs races i, (i : Int))) _ (by simp [stepsR, serR]) (fun i hi => ?_) ?_
    · have h1 : ((i : Int) < (races.length : Int)) := by omega
      have hs : IsRatings n (serR a rs (races.take i)) := serR_ok ha (fun xs hm => hg xs (List.mem_of_mem_take hm)) hr
      have hlen := stepsR_len a rs races i
      have e : stepsR a rs races (i + 1) = stepsR a rs races i ++ [serR a rs (races.take (i + 1))] := by
        simp only [stepsR, List.range_succ (n := i + 1), List.map_append, List.map_cons, List.map_nil]
      rw [e, serR_succ a rs races i hi]
      simp only [M.impl_progressSteps_l1, h1, decide_true, ifB_true, idx_lt races i hi, bnd_some, step64 hi (by omega), idx_nat, stepsR_get a rs races i i (Nat.le_refl i), p_implRace a _ _ (fr_good (hg _ (List.getElem_mem hi)) hs)]
      rw [chk_pos (by simp; omega)]
    · simp [M.impl_progressSteps_l1]
  simp only [M.impl_progressSteps, p_implIsProgress, bnd_some, hc, p_implIsRatings n rs h', ifB_if, p_clone rs h', stepsRes]
  by_cases h0 : IsProgress a
  · rw [if_neg (by simp [h0])]
    by_cases h1 : (20 : Int) < races.length
    · have e : codeS a n races rs = 3 := by unfold codeS; rw [if_pos h0, if_pos h1]
      rw [if_pos (by simp; omega), e]; rfl
    · rw [if_neg (by simp; omega)]
      by_cases h2 : races.any (fun xs => !goodR n xs) = true
      · have e : codeS a n races rs = 1 := by unfold codeS; rw [if_pos h0, if_neg h1, if_pos h2]
        rw [if_pos h2, e]; rfl
      · rw [if_neg h2]
        by_cases h3 : IsRatings n rs
        · have e : codeS a n races rs = 0 := by unfold codeS; rw [if_pos h0, if_neg h1, if_neg h2, if_pos h3]
          rw [if_neg (by simp [h3]), hloop e, e]; rfl
        · have e : codeS a n races rs = 2 := by unfold codeS; rw [if_pos h0, if_neg h1, if_neg h2, if_neg h3]
          rw [if_pos (by simp [h3]), e]; rfl
  · have e : codeS a n races rs = 1 := by unfold codeS; rw [if_neg h0]
    rw [if_pos (by simp [h0]), e]; rfl
def seriesR (a : ProgressRules) (n : Int) (races : List (List Finish)) (rs : List Rating) : List Rating × Int := if codeS a n races rs = 0 then (serR a rs races, 0) else ([], codeS a n races rs)
theorem p_implSeries (a : ProgressRules) (n : Int) (races : List (List Finish)) (rs : List Rating) (h : races.length ≤ 1048576) (hx : ∀ xs ∈ races, xs.length ≤ 1048576) (h' : rs.length ≤ 1048576) : M.impl_ProgressSeries a n races rs = some (seriesR a n races rs) := by
  simp only [M.impl_ProgressSeries, p_implSteps a n races rs h hx h', bnd_some, ifB_if, stepsRes, seriesR]
  by_cases h0 : codeS a n races rs = 0
  · rw [if_pos h0, if_neg (by simp), if_pos h0, idx_nat, stepsR_get a rs races _ _ (Nat.le_refl _), List.take_length, bnd_some]
  · rw [if_neg h0, if_pos (by simp [h0]), if_neg h0]
theorem p_l25Code (a : ProgressRules) (n : Int) (races : List (List Finish)) (rs : List Rating) (h : races.length ≤ 1048576) (hx : ∀ xs ∈ races, xs.length ≤ 1048576) (h' : rs.length ≤ 1048576) : M.spec_l25Code a n races rs = some (codeS a n races rs) := by
  have hl : loopF (M.spec_l25Code_l1 n races) 0 = some (if ∀ i, i < races.length → (races[i]?.any (fun xs => !goodR n xs)) = false then .nxt (races.length : Int) else .ret 1) := by
    refine loop_find races.length (by omega) (fun i => (i : Int)) (fun i => races[i]?.any (fun xs => !goodR n xs)) 1 _ rfl (fun i hi => ?_) (by simp [M.spec_l25Code_l1])
    have h1 : ((i : Int) < (races.length : Int)) := by omega
    simp only [M.spec_l25Code_l1, h1, decide_true, ifB_true, idx_lt races i hi, bnd_some, p_l22Race n _ (hx _ (List.getElem_mem hi)), step64 hi (by omega), ifB_if, List.getElem?_eq_getElem hi, Option.any_some, if_true]
    rw [show (!goodR n races[i]) = !decide ((1 ≤ n ∧ n ≤ 16) ∧ OkRace n races[i]) from rfl]
    split <;> rfl
  simp only [any_at] at hl
  simp only [M.spec_l25Code, p_specIsProgress, bnd_some, hl, M.spec_l25Code_a1, p_specIsRatings n rs h', ifB_if, codeS]
  by_cases h0 : IsProgress a
  · rw [if_neg (by simp [h0]), if_pos h0]
    by_cases h1 : (20 : Int) < races.length
    · rw [if_pos (by simp; omega), if_pos h1]
    · rw [if_neg (by simp; omega), if_neg h1]
      by_cases h2 : races.any (fun xs => !goodR n xs) = true
      · rw [if_neg (by rw [h2]; simp), if_pos h2]; rfl
      · rw [if_pos (by simpa using h2), if_neg h2]
        by_cases h3 : IsRatings n rs
        · simp [h3]
        · simp [h3]
  · rw [if_pos (by simp [h0]), if_neg h0]
theorem p_specSeries (a : ProgressRules) (n : Int) (races : List (List Finish)) (rs : List Rating) (h : races.length ≤ 1048576) (hx : ∀ xs ∈ races, xs.length ≤ 1048576) (h' : rs.length ≤ 1048576) : M.spec_ProgressSeries a n races rs = some (seriesR a n races rs) := by
  simp only [M.spec_ProgressSeries, p_l25Code a n races rs h hx h', bnd_some, ifB_if, seriesR]
  by_cases h0 : codeS a n races rs = 0
  · obtain ⟨ha, h20, hg, hr⟩ := codeS_ok h0
    rw [if_neg (by simp [h0]), if_pos h0, chk_pos (by simp; omega), List.nil_append]
    have hl := (loop_fold (body := M.spec_ProgressSeries_l1 a races) races (fun r xs => raceR a xs r) (IsRatings n) rs hr (by omega) (fun s x hm hs => race_ratings ha (hg x hm) hs)
      (fun i hi s hs => by
        have h1 : ((i : Int) < (races.length : Int)) := by omega
        simp only [M.spec_ProgressSeries_l1, h1, decide_true, ifB_true, idx_lt races i hi, bnd_some, step64 hi (by omega), p_specRace a _ _ (fr_good (hg _ (List.getElem_mem hi)) hs)])
      (fun s hs => by simp [M.spec_ProgressSeries_l1])).1
    rw [hl]
    rfl
  · rw [if_pos (by simp [h0]), if_neg h0]
end Go.Proofs.Ytbkpfcpbpnmjaaa
