/- Pure laws: the table after all penalties. -/
import Derived.Test.YtgelmamcinlahaaGreatPureZ
namespace Go.Proofs.YtgelmamcinlahaaGreat
open Go
set_option linter.unusedVariables false
set_option linter.unusedSimpArgs false
def mix {α : Type} (L R : List α) (i : Nat) : List α := L.take i ++ R.drop i
theorem mix_zero {α : Type} (L R : List α) : mix L R 0 = R := by simp [mix]
theorem mix_all {α : Type} (L R : List α) (h : L.length = R.length) (n : Nat) (hn : n = R.length) : mix L R n = L := by subst hn; simp [mix, ← h]
theorem mix_len {α : Type} (L R : List α) (i : Nat) (h : L.length = R.length) : (mix L R i).length = R.length := by simp [mix]; omega
theorem mix_get {α : Type} (L R : List α) (i : Nat) (hl : L.length = R.length) (h : i < R.length) : (mix L R i)[i]? = some R[i] := by
  unfold mix
  rw [List.getElem?_append_right (by simp; omega)]
  simp only [List.length_take, List.getElem?_drop]
  have : i + (i - min i L.length) = i := by omega
  rw [this, List.getElem?_eq_getElem h]
theorem mix_set {α : Type} (L R : List α) (i : Nat) (hl : L.length = R.length) (h : i < R.length) : (mix L R i).set i (L[i]'(by omega)) = mix L R (i + 1) := by
  apply List.ext_getElem?
  intro j
  unfold mix
  by_cases hj : j = i
  · subst hj
    rw [List.getElem?_set_self (by simp; omega), List.getElem?_append_left (by simp; omega), List.getElem?_take_of_lt (by omega), List.getElem?_eq_getElem (by omega)]
  · rw [List.getElem?_set_ne (Ne.symm hj)]
    by_cases h1 : j < i
    · rw [List.getElem?_append_left (by simp; omega), List.getElem?_append_left (by simp; omega), List.getElem?_take_of_lt h1, List.getElem?_take_of_lt (by omega)]
    · rw [List.getElem?_append_right (by simp; omega), List.getElem?_append_right (by simp; omega)]
      simp only [List.length_take, List.getElem?_drop]
      congr 1
      omega
theorem mix_skip {α : Type} (L R : List α) (i : Nat) (hl : L.length = R.length) (h : i < R.length) (e : L[i]'(by omega) = R[i]) : mix L R i = mix L R (i + 1) := by
  rw [← mix_set L R i hl h, e]
  apply List.ext_getElem?
  intro j
  by_cases hj : i = j
  · subst hj; rw [List.getElem?_set_self (by rw [mix_len L R i hl]; exact h), mix_get L R i hl h]
  · rw [List.getElem?_set_ne hj]
def ppI (b v : Int) : Int := (20 * b * v + 100).tdiv 200
theorem pp_bd (b v : Int) (hb : 1 ≤ b ∧ b ≤ 16) (hv : 1 ≤ v ∧ v ≤ 100) : (0 ≤ 20 * b * v ∧ 20 * b * v ≤ 32000) ∧ 0 ≤ ppI b v ∧ ppI b v ≤ 161 := by
  have h1 : 0 ≤ 20 * b * v := Int.mul_nonneg (by omega) (by omega)
  have h2 : 20 * b * v ≤ 320 * 100 := Int.mul_le_mul (by omega) (by omega) (by omega) (by omega)
  refine ⟨⟨h1, by omega⟩, ?_⟩
  unfold ppI
  generalize 20 * b * v = z at *
  rw [Int.tdiv_eq_ediv_of_nonneg (by omega)]
  omega
theorem p_percent (b v : Int) (hb : 1 ≤ b ∧ b ≤ 16) (hv : 1 ≤ v ∧ v ≤ 100) : M.spec_l21Percent b v = some (ppI b v) ∧ M.impl_percentPoints b v = some (ppI b v) := by
  obtain ⟨h1, h2⟩ := pp_bd b v hb hv
  have e : w64 ((w64 ((w64 ((w64 (20 * b)) * v)) + 100)).tdiv 200) = ppI b v := by
    rw [w64_of (n := 20 * b) (by omega), w64_of (n := 20 * b * v) (by omega), w64_of (n := 20 * b * v + 100) (by omega)]
    exact w64_of (by unfold ppI at h2; omega)
  exact ⟨by rw [M.spec_l21Percent, e], by rw [M.impl_percentPoints, e]⟩
def nP (b : Int) (k c : Nat) (x : Penalty) : Nat := if x.Kind = 3 ∧ x.Race = (k : Int) ∧ x.Boat = (c : Int) then (ppI b x.Value).toNat else 0
def sumP (b : Int) (xs : List Penalty) (k c : Nat) : Int := ((tot (nP b k c) xs : Nat) : Int)
theorem okVal3 (v : Int) (h : okVal 3 v = true) : 1 ≤ v ∧ v ≤ 100 := by simpa [okVal] using h
theorem nP_le (a : Series) (xs : List Penalty) (hs : IsSeries a) (hp : ArePens a xs) (k c : Nat) : ∀ x ∈ xs, nP a.Boats k c x ≤ 161 := fun x hx => by
  obtain ⟨i, hi, rfl⟩ := List.mem_iff_getElem.1 hx
  unfold nP
  split
  · rename_i h
    have h3 := (pen_ok a xs hp i hi).2.2
    rw [h.1] at h3
    have := (pp_bd a.Boats xs[i].Value hs.1 (okVal3 _ h3)).2
    omega
  · omega
theorem sumP_bd (a : Series) (xs : List Penalty) (hs : IsSeries a) (hp : ArePens a xs) (k c : Nat) : 0 ≤ sumP a.Boats xs k c ∧ sumP a.Boats xs k c ≤ 9660 := by
  have h := tot_le (nP a.Boats k c) 161 xs (nP_le a xs hs hp k c)
  have := hp.1
  unfold sumP; omega
theorem p_sum (a : Series) (xs : List Penalty) (hs : IsSeries a) (hp : ArePens a xs) (k c : Nat) (m1 m2 n1 n2 : List (List Int)) :
    loopF (M.impl_penalizedTable_l3 a xs (m1, (k : Int)) (m2, (c : Int))) (0, 0) = some (.nxt (sumP a.Boats xs k c, (xs.length : Int))) ∧
    loopF (M.spec_l21Table_l3 a xs (n1, (k : Int)) (n2, (c : Int))) (0, 0) = some (.nxt (sumP a.Boats xs k c, (xs.length : Int))) := by
  have hl := hp.1
  have key : ∀ i (h : i < xs.length), (xs[i].Kind = 3 → M.impl_percentPoints a.Boats xs[i].Value = some (ppI a.Boats xs[i].Value) ∧ M.spec_l21Percent a.Boats xs[i].Value = some (ppI a.Boats xs[i].Value)) := fun i hi h3 => by
    have h4 := (pen_ok a xs hp i hi).2.2
    rw [h3] at h4
    have := p_percent a.Boats xs[i].Value hs.1 (okVal3 _ h4)
    exact ⟨this.2, this.1⟩
  have bd : ∀ i (h : i < xs.length), w64 (((tot (nP a.Boats k c) (xs.take i) : Nat) : Int) + ((nP a.Boats k c xs[i] : Nat) : Int)) = ((tot (nP a.Boats k c) (xs.take (i + 1)) : Nat) : Int) := fun i hi => by
    rw [tot_take_succ _ _ i hi]
    have h1 := tot_take_le (nP a.Boats k c) xs i
    have h2 := tot_le (nP a.Boats k c) 161 xs (nP_le a xs hs hp k c)
    have h3 := nP_le a xs hs hp k c xs[i] (List.getElem_mem hi)
    rw [w64_of (by omega)]; simp
  have tn : ∀ i (h : i < xs.length), (xs[i].Kind = 3 ∧ xs[i].Race = (k : Int) ∧ xs[i].Boat = (c : Int)) → ((nP a.Boats k c xs[i] : Nat) : Int) = ppI a.Boats xs[i].Value := fun i hi h => by
    unfold nP
    rw [if_pos h]
    have h4 := (pen_ok a xs hp i hi).2.2
    rw [h.1] at h4
    have := (pp_bd a.Boats xs[i].Value hs.1 (okVal3 _ h4)).2
    omega
  have tz : ∀ i (h : i < xs.length), ¬(xs[i].Kind = 3 ∧ xs[i].Race = (k : Int) ∧ xs[i].Boat = (c : Int)) → ((tot (nP a.Boats k c) (xs.take i) : Nat) : Int) = ((tot (nP a.Boats k c) (xs.take (i + 1)) : Nat) : Int) := fun i hi h => by
    rw [tot_take_succ _ _ i hi]
    have : nP a.Boats k c xs[i] = 0 := by unfold nP; rw [if_neg h]
    rw [this]; rfl
  constructor
  · refine loop_run xs.length (by omega) (fun i => (((tot (nP a.Boats k c) (xs.take i) : Nat) : Int), (i : Int))) _ (by simp [tot]) (fun i hi => ?_) ?_
    · have h2 : ((i : Int) < (xs.length : Int)) := by omega
      simp only [M.impl_penalizedTable_l3, M.impl_penalizedTable_j5, M.impl_penalizedTable_j4, M.impl_penalizedTable_j3, h2, decide_true, ifB_true, idx_lt xs i hi, bnd_some, step64 hi (by omega)]
      by_cases h3 : xs[i].Kind = 3
      · by_cases h4 : xs[i].Race = (k : Int)
        · by_cases h5 : xs[i].Boat = (c : Int)
          · have e := bd i hi
            rw [tn i hi ⟨h3, h4, h5⟩] at e
            simp [h3, h4, h5, (key i hi h3).1, e]
          · have e := tz i hi (by simp [h5])
            simp [h3, h4, h5, e, ifB_if]
        · have e := tz i hi (by simp [h4])
          simp [h3, h4, e, ifB_if]
      · have e := tz i hi (by simp [h3])
        simp [h3, e, ifB_if]
    · simp [M.impl_penalizedTable_l3, sumP]
  · refine loop_run xs.length (by omega) (fun i => (((tot (nP a.Boats k c) (xs.take i) : Nat) : Int), (i : Int))) _ (by simp [tot]) (fun i hi => ?_) ?_
    · have h2 : ((i : Int) < (xs.length : Int)) := by omega
      simp only [M.spec_l21Table_l3, M.spec_l21Table_j6, M.spec_l21Table_j5, M.spec_l21Table_j4, h2, decide_true, ifB_true, idx_lt xs i hi, bnd_some, step64 hi (by omega)]
      by_cases h3 : xs[i].Kind = 3
      · by_cases h4 : xs[i].Race = (k : Int)
        · by_cases h5 : xs[i].Boat = (c : Int)
          · have e := bd i hi
            rw [tn i hi ⟨h3, h4, h5⟩] at e
            simp [h3, h4, h5, (key i hi h3).2, e]
          · have e := tz i hi (by simp [h5])
            simp [h3, h4, h5, e, ifB_if]
        · have e := tz i hi (by simp [h4])
          simp [h3, h4, e, ifB_if]
      · have e := tz i hi (by simp [h3])
        simp [h3, e, ifB_if]
    · simp [M.spec_l21Table_l3, sumP]
def cellP (b s : Int) (xs : List Penalty) (k c : Nat) (fs : List Finish) (f : Finish) : Int :=
  if f.Code = 0 then max (pts fs s f) (min (pts fs s ⟨0, 4, 0⟩) (pts fs s f + sumP b xs k c)) else pts fs s f
def rowP (b s : Int) (xs : List Penalty) (k : Nat) (r : Race) : List Int := r.Finishes.mapIdx fun c f => cellP b s xs k c r.Finishes f
def ptsP (b s : Int) (xs : List Penalty) (rs : List Race) : List (List Int) := rs.mapIdx fun k r => rowP b s xs k r
def ptT (a : Series) (xs : List Penalty) : Table := ⟨a.Boats, ptsP a.Boats a.Scheme xs (penR a xs), (penR a xs).map tblC⟩
theorem pts_bdP (fs : List Finish) (s : Int) (f : Finish) (h : fs.length ≤ 16) : 0 ≤ pts fs s f ∧ pts fs s f ≤ 300 := by
  have h1 := pl_bd fs f.Time
  have h2 := sh_bd fs f.Time
  have h3 : dnc fs ≤ fs.length := List.countP_le_length
  unfold pts
  split
  · omega
  · split
    · omega
    · split <;> omega
theorem dnc_set (fs : List Finish) (c : Nat) (hc : c < fs.length) (h0 : fs[c].Code = 0) (x : Finish) (hx : x.Code = 4) : dnc (fs.set c x) = dnc fs := by
  unfold dnc
  rw [List.countP_set hc]
  simp [h0, hx]
theorem p_worst (S : Series) (hS : IsSeries S) (k c : Nat) (hk : k < S.Races.length) (hc : c < S.Races[k].Finishes.length) (h0 : S.Races[k].Finishes[c].Code = 0) :
    M.spec_l21Worst S (k : Int) (c : Int) = some (pts S.Races[k].Finishes S.Scheme ⟨0, 4, 0⟩) := by
  have hl := (hS.2.2.2 k hk).1
  have hb := hS.1
  have hc' : c < (S.Races[k].Finishes.set c ⟨(c : Int), 4, 0⟩).length := by simpa using hc
  have e := p_l26Points ⟨S.Races[k].Finishes.set c ⟨(c : Int), 4, 0⟩⟩ S.Scheme hS.2.1 (by simp; omega)
  have hlt : 0 + S.Races[k].Finishes.length < 1099511627776 := by omega
  simp only [M.spec_l21Worst, idx_lt _ k hk, bnd_some, List.nil_append, List.length_nil, chk_pos hlt, idx_lt _ c hc, Int.toNat_natCast, e]
  rw [idx_lt _ c (by simpa using hc)]
  simp only [bnd_some, List.getElem_map, List.getElem_set_self]
  unfold pts
  simp only [dnc_set _ c hc h0 ⟨(c : Int), 4, 0⟩ rfl, List.length_set]
  rfl
theorem code4 (fs : List Finish) (s : Int) (hs : 0 ≤ s ∧ s ≤ 1) (h : fs.length ≤ 1048576) : M.impl_codePoints fs 4 s = some (pts fs s ⟨0, 4, 0⟩) := p_codePoints fs ⟨0, 4, 0⟩ s hs (by decide) h
section
variable (a S : Series) (xs : List Penalty) (hs : IsSeries a) (hS : IsSeries S) (hp : ArePens a xs) (hb : S.Boats = a.Boats) (hc : S.Scheme = a.Scheme)
theorem ptsP_len (b s : Int) (rs : List Race) : (ptsP b s xs rs).length = rs.length := by simp [ptsP]
include hs hS hp hb hc in
theorem p_rowI (k : Nat) (hk : k < S.Races.length) (M0 : List (List Int)) (hM : M0.length = S.Races.length) (n1 : List (List Int)) :
    loopF (M.impl_penalizedTable_l2 a xs S (tbl S) (n1, (k : Int)) (tblP S S.Races[k])) (M0.set k (tblP S S.Races[k]), 0) =
      some (.nxt (M0.set k (rowP a.Boats a.Scheme xs k S.Races[k]), (S.Races[k].Finishes.length : Int))) := by
  have hl := (hS.2.2.2 k hk).1
  have hb2 := hS.1
  have hn : S.Races[k].Finishes.length ≤ 16 := by omega
  have eL : (rowP a.Boats a.Scheme xs k S.Races[k]).length = (tblP S S.Races[k]).length := by simp [rowP, tblP]
  have lT : (tblP S S.Races[k]).length = S.Races[k].Finishes.length := by simp [tblP]
  refine loop_run S.Races[k].Finishes.length (by omega) (fun c => (M0.set k (mix (rowP a.Boats a.Scheme xs k S.Races[k]) (tblP S S.Races[k]) c), (c : Int))) _ (by rw [mix_zero]; rfl) (fun c hci => ?_) ?_
  · have h2 : ((c : Int) < ((tblP S S.Races[k]).length : Int)) := by rw [lT]; omega
    have hcT : c < (tblP S S.Races[k]).length := by omega
    have gi : ∀ z : List Int, idx (M0.set k z) (k : Int) = some z := fun z => set_at _ _ _ (by omega)
    have gr : idx (mix (rowP a.Boats a.Scheme xs k S.Races[k]) (tblP S S.Races[k]) c) (c : Int) = some (tblP S S.Races[k])[c] := by rw [idx_nat, mix_get _ _ _ eL hcT]
    have gc : idx (tbl S).Codes (k : Int) = some (tblC S.Races[k]) := by rw [idx_lt _ k (by simpa [tbl] using hk)]; simp [tbl]
    have gc2 : idx (tblC S.Races[k]) (c : Int) = some S.Races[k].Finishes[c].Code := by rw [idx_lt _ c (by simpa [tblC] using hci)]; simp [tblC]
    have vT : (tblP S S.Races[k])[c] = pts S.Races[k].Finishes S.Scheme S.Races[k].Finishes[c] := by simp [tblP]
    have vL : (rowP a.Boats a.Scheme xs k S.Races[k])[c]'(by omega) = cellP a.Boats a.Scheme xs k c S.Races[k].Finishes S.Races[k].Finishes[c] := by simp [rowP]
    simp only [M.impl_penalizedTable_l2, gi, bnd_some, h2, decide_true, ifB_true, gc, gc2, M.impl_penalizedTable_j2, M.impl_penalizedTable_j1]
    by_cases h0 : S.Races[k].Finishes[c].Code = 0
    · have hsum := (p_sum a xs hs hp k c n1 (M0.set k (mix (rowP a.Boats a.Scheme xs k S.Races[k]) (tblP S S.Races[k]) c)) [] []).1
      have bs := sumP_bd a xs hs hp k c
      have bp := pts_bdP S.Races[k].Finishes S.Scheme S.Races[k].Finishes[c] hn
      have ew : w64 ((tblP S S.Races[k])[c] + sumP a.Boats xs k c) = (tblP S S.Races[k])[c] + sumP a.Boats xs k c := w64_of (by rw [vT]; omega)
      have e4 := code4 S.Races[k].Finishes a.Scheme hs.2.1 (by omega)
      have en : (S.Races[k].Finishes[c].Code != 0) = false := by simp [h0]
      have ms := mix_set (rowP a.Boats a.Scheme xs k S.Races[k]) (tblP S S.Races[k]) c eL hcT
      have eV : max (tblP S S.Races[k])[c] (min (pts S.Races[k].Finishes a.Scheme ⟨0, 4, 0⟩) ((tblP S S.Races[k])[c] + sumP a.Boats xs k c)) = (rowP a.Boats a.Scheme xs k S.Races[k])[c]'(by omega) := by
        rw [vL, vT, hc]; unfold cellP; rw [if_pos h0]
      simp only [en, ifB_false, hsum, outc_nxt, M.impl_penalizedTable_a3, idx_lt _ k hk, bnd_some, e4, gr, ew, M.impl_penalizedTable_j2, M.impl_penalizedTable_j1, Int.toNat_natCast, List.set_set, gi, step64 hci (by omega), eV, ms]
    · have en : (S.Races[k].Finishes[c].Code != 0) = true := by simp [h0]
      have ms := mix_skip (rowP a.Boats a.Scheme xs k S.Races[k]) (tblP S S.Races[k]) c eL hcT (by rw [vL, vT, hc]; unfold cellP; rw [if_neg h0])
      simp only [en, ifB_true, gi, bnd_some, step64 hci (by omega), ← ms]
  · have gi : ∀ z : List Int, idx (M0.set k z) (k : Int) = some z := fun z => set_at _ _ _ (by omega)
    have ma := mix_all (rowP a.Boats a.Scheme xs k S.Races[k]) (tblP S S.Races[k]) eL S.Races[k].Finishes.length (by omega)
    simp [M.impl_penalizedTable_l2, gi, lT, ma]
include hs hS hp hb hc in
theorem p_rowS (k : Nat) (hk : k < S.Races.length) (M0 : List (List Int)) (hM : M0.length = S.Races.length) (n1 : List (List Int)) :
    loopF (M.spec_l21Table_l2 a xs S (tbl S, 0) (n1, (k : Int))) (M0.set k (tblP S S.Races[k]), 0) =
      some (.nxt (M0.set k (rowP a.Boats a.Scheme xs k S.Races[k]), (S.Races[k].Finishes.length : Int))) := by
  have hl := (hS.2.2.2 k hk).1
  have hb2 := hS.1
  have hn : S.Races[k].Finishes.length ≤ 16 := by omega
  have eL : (rowP a.Boats a.Scheme xs k S.Races[k]).length = (tblP S S.Races[k]).length := by simp [rowP, tblP]
  have lT : (tblP S S.Races[k]).length = S.Races[k].Finishes.length := by simp [tblP]
  have eb : (tbl S).Boats = (S.Races[k].Finishes.length : Int) := by rw [hl]; rfl
  refine loop_run S.Races[k].Finishes.length (by omega) (fun c => (M0.set k (mix (rowP a.Boats a.Scheme xs k S.Races[k]) (tblP S S.Races[k]) c), (c : Int))) _ (by rw [mix_zero]; rfl) (fun c hci => ?_) ?_
  · have h2 : ((c : Int) < (S.Races[k].Finishes.length : Int)) := by omega
    have hcT : c < (tblP S S.Races[k]).length := by omega
    have gi : ∀ z : List Int, idx (M0.set k z) (k : Int) = some z := fun z => set_at _ _ _ (by omega)
    have gr : idx (mix (rowP a.Boats a.Scheme xs k S.Races[k]) (tblP S S.Races[k]) c) (c : Int) = some (tblP S S.Races[k])[c] := by rw [idx_nat, mix_get _ _ _ eL hcT]
    have gc : idx (tbl S).Codes (k : Int) = some (tblC S.Races[k]) := by rw [idx_lt _ k (by simpa [tbl] using hk)]; simp [tbl]
    have gc2 : idx (tblC S.Races[k]) (c : Int) = some S.Races[k].Finishes[c].Code := by rw [idx_lt _ c (by simpa [tblC] using hci)]; simp [tblC]
    have vT : (tblP S S.Races[k])[c] = pts S.Races[k].Finishes S.Scheme S.Races[k].Finishes[c] := by simp [tblP]
    have vL : (rowP a.Boats a.Scheme xs k S.Races[k])[c]'(by omega) = cellP a.Boats a.Scheme xs k c S.Races[k].Finishes S.Races[k].Finishes[c] := by simp [rowP]
    have hsum := (p_sum a xs hs hp k c [] [] n1 (M0.set k (mix (rowP a.Boats a.Scheme xs k S.Races[k]) (tblP S S.Races[k]) c))).2
    have bs := sumP_bd a xs hs hp k c
    have bp := pts_bdP S.Races[k].Finishes S.Scheme S.Races[k].Finishes[c] hn
    have ew : w64 ((tblP S S.Races[k])[c] + sumP a.Boats xs k c) = (tblP S S.Races[k])[c] + sumP a.Boats xs k c := w64_of (by rw [vT]; omega)
    simp only [M.spec_l21Table_l2, eb, h2, decide_true, ifB_true, hsum, bnd_some, outc_nxt, M.spec_l21Table_a3, M.spec_l21Table_j3, M.spec_l21Table_j2, M.spec_l21Table_j1, gc, gc2, step64 hci (by omega)]
    by_cases hz : sumP a.Boats xs k c = 0
    · have ms := mix_skip (rowP a.Boats a.Scheme xs k S.Races[k]) (tblP S S.Races[k]) c eL hcT (by rw [vL, vT, hc]; unfold cellP; rw [hz]; split <;> omega)
      have en : decide (0 < sumP a.Boats xs k c) = false := by simp [hz]
      simp only [en, ifB_false, ← ms]
    · have en : decide (0 < sumP a.Boats xs k c) = true := by simp; omega
      by_cases h0 : S.Races[k].Finishes[c].Code = 0
      · have hw := p_worst S hS k c hk hci h0
        have e0 : (S.Races[k].Finishes[c].Code == 0) = true := by simp [h0]
        have ms := mix_set (rowP a.Boats a.Scheme xs k S.Races[k]) (tblP S S.Races[k]) c eL hcT
        have eV : max (tblP S S.Races[k])[c] (min ((tblP S S.Races[k])[c] + sumP a.Boats xs k c) (pts S.Races[k].Finishes S.Scheme ⟨0, 4, 0⟩)) = (rowP a.Boats a.Scheme xs k S.Races[k])[c]'(by omega) := by
          rw [vL, vT, hc]; unfold cellP; rw [if_pos h0]; omega
        simp only [en, ifB_true, e0, gi, bnd_some, gr, ew, hw, Int.toNat_natCast, List.set_set, eV, ms]
      · have e0 : (S.Races[k].Finishes[c].Code == 0) = false := by simp [h0]
        have ms := mix_skip (rowP a.Boats a.Scheme xs k S.Races[k]) (tblP S S.Races[k]) c eL hcT (by rw [vL, vT, hc]; unfold cellP; rw [if_neg h0])
        simp only [en, ifB_true, e0, ifB_false, ← ms]
  · have ma := mix_all (rowP a.Boats a.Scheme xs k S.Races[k]) (tblP S S.Races[k]) eL S.Races[k].Finishes.length (by omega)
    simp [M.spec_l21Table_l2, eb, ma]
end
theorem p_table (a : Series) (xs : List Penalty) (hs : IsSeries a) (hp : ArePens a xs) : M.impl_penalizedTable a xs = some (ptT a xs) ∧ M.spec_l21Table a xs = some (ptT a xs) := by
  obtain ⟨s1, s2, hI⟩ := p_series a xs hs hp
  have hS := penR_series a xs hs hp
  have hsz : szS ⟨a.Boats, a.Scheme, penR a xs⟩ ≤ 1048576 := by have := series_le _ hS; omega
  have t1 := p_implTableOf _ hsz
  have t2 := p_specTableOf _ hsz
  rw [if_pos hS] at t1 t2
  have t3 : M.impl_tableOf ⟨a.Boats, a.Scheme, penR a xs⟩ = some (tbl ⟨a.Boats, a.Scheme, penR a xs⟩) := by
    rw [M.impl_TableOf, p_implIsSeries _ hsz, bnd_some, ifB_if, if_neg (by simp [hS])] at t1
    cases h : M.impl_tableOf ⟨a.Boats, a.Scheme, penR a xs⟩ with
    | none => rw [h] at t1; cases t1
    | some t => rw [h] at t1; simp at t1; rw [t1]
  generalize hSe : (⟨a.Boats, a.Scheme, penR a xs⟩ : Series) = S at *
  have hb : S.Boats = a.Boats := by rw [← hSe]
  have hc : S.Scheme = a.Scheme := by rw [← hSe]
  have hr : S.Races = penR a xs := by rw [← hSe]
  have lR := hS.2.2.1
  have eL : (ptsP a.Boats a.Scheme xs S.Races).length = (S.Races.map (tblP S)).length := by simp [ptsP]
  have fin : Table.mk (tbl S).Boats (ptsP a.Boats a.Scheme xs S.Races) (tbl S).Codes = ptT a xs := by
    rw [hr]; unfold ptT tbl; simp only [hr, hb]
  have rows : ∀ k (hk : k < S.Races.length), (mix (ptsP a.Boats a.Scheme xs S.Races) (S.Races.map (tblP S)) k).set k (tblP S S.Races[k]) = mix (ptsP a.Boats a.Scheme xs S.Races) (S.Races.map (tblP S)) k ∧
      (mix (ptsP a.Boats a.Scheme xs S.Races) (S.Races.map (tblP S)) k).set k (rowP a.Boats a.Scheme xs k S.Races[k]) = mix (ptsP a.Boats a.Scheme xs S.Races) (S.Races.map (tblP S)) (k + 1) ∧
      idx (mix (ptsP a.Boats a.Scheme xs S.Races) (S.Races.map (tblP S)) k) (k : Int) = some (tblP S S.Races[k]) ∧ (mix (ptsP a.Boats a.Scheme xs S.Races) (S.Races.map (tblP S)) k).length = S.Races.length := fun k hk => by
    have hk' : k < (S.Races.map (tblP S)).length := by simpa using hk
    have g := mix_get (ptsP a.Boats a.Scheme xs S.Races) (S.Races.map (tblP S)) k eL hk'
    have m := mix_set (ptsP a.Boats a.Scheme xs S.Races) (S.Races.map (tblP S)) k eL hk'
    have l := mix_len (ptsP a.Boats a.Scheme xs S.Races) (S.Races.map (tblP S)) k eL
    have e1 : (S.Races.map (tblP S))[k] = tblP S S.Races[k] := by simp
    have e2 : (ptsP a.Boats a.Scheme xs S.Races)[k]'(by simpa [ptsP] using hk) = rowP a.Boats a.Scheme xs k S.Races[k] := by simp [ptsP]
    rw [e1] at g
    rw [e2] at m
    refine ⟨?_, m, by rw [idx_nat, g], by rw [l]; simp⟩
    have hkl : k < (mix (ptsP a.Boats a.Scheme xs S.Races) (S.Races.map (tblP S)) k).length := by rw [l]; exact hk'
    rw [List.getElem?_eq_getElem hkl] at g
    injection g with g
    rw [← g]; exact set_same _ k hkl
  have hall := mix_all (ptsP a.Boats a.Scheme xs S.Races) (S.Races.map (tblP S)) eL S.Races.length (by simp)
  constructor
  · have hl : loopF (M.impl_penalizedTable_l1 a xs S (tbl S)) ((tbl S).Points, 0) = some (.nxt (ptsP a.Boats a.Scheme xs S.Races, (S.Races.length : Int))) := by
      refine loop_run S.Races.length (by omega) (fun k => (mix (ptsP a.Boats a.Scheme xs S.Races) (S.Races.map (tblP S)) k, (k : Int))) _ (by rw [mix_zero]; rfl) (fun k hk => ?_) ?_
      · have h2 : ((k : Int) < ((tbl S).Points.length : Int)) := by simp [tbl]; omega
        obtain ⟨r1, r2, r3, r4⟩ := rows k hk
        have hrow := p_rowI a S xs hs hS hp hb hc k hk _ r4 (mix (ptsP a.Boats a.Scheme xs S.Races) (S.Races.map (tblP S)) k)
        rw [r1, r2] at hrow
        simp only [M.impl_penalizedTable_l1, h2, decide_true, ifB_true, r3, bnd_some, hrow, outc_nxt, M.impl_penalizedTable_a2, step64 hk (by omega)]
      · simp [M.impl_penalizedTable_l1, tbl, hall]
    simp only [M.impl_penalizedTable, s2, bnd_some, t3, hl, outc_nxt, M.impl_penalizedTable_a1, fin]
  · have hl : loopF (M.spec_l21Table_l1 a xs S (tbl S, 0)) ((tbl S).Points, 0) = some (.nxt (ptsP a.Boats a.Scheme xs S.Races, (S.Races.length : Int))) := by
      refine loop_run S.Races.length (by omega) (fun k => (mix (ptsP a.Boats a.Scheme xs S.Races) (S.Races.map (tblP S)) k, (k : Int))) _ (by rw [mix_zero]; rfl) (fun k hk => ?_) ?_
      · obtain ⟨r1, r2, r3, r4⟩ := rows k hk
        have h2 : ((k : Int) < ((mix (ptsP a.Boats a.Scheme xs S.Races) (S.Races.map (tblP S)) k).length : Int)) := by rw [r4]; omega
        have hrow := p_rowS a S xs hs hS hp hb hc k hk _ r4 (mix (ptsP a.Boats a.Scheme xs S.Races) (S.Races.map (tblP S)) k)
        rw [r1, r2] at hrow
        simp only [M.spec_l21Table_l1, h2, decide_true, ifB_true, bnd_some, hrow, outc_nxt, M.spec_l21Table_a2, step64 hk (by omega)]
      · simp [M.spec_l21Table_l1, hall, ptsP_len]
    simp only [M.spec_l21Table, s1, bnd_some, t2, hl, outc_nxt, M.spec_l21Table_a1, fin]
end Go.Proofs.YtgelmamcinlahaaGreat
