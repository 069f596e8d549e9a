/- Pure laws: the table after all penalties. -/
import Derived.Test.YtmmkkcmliofknaaGreatDoorPureZ
namespace Go.Proofs.YtmmkkcmliofknaaGreatDoor
open Go
set_option linter.unusedVariables false
set_option linter.unusedSimpArgs false
def mix {α : Type} (L R : List α) (i : Nat) : List α := L.take i ++ R.drop i
theorem zMk {α : Type} (L R : List α) : mix L R 0 = R := by simp [mix]
theorem zN1 {α : Type} (L R : List α) (h : L.length = R.length) (n : Nat) (hn : n = R.length) : mix L R n = L := by subst hn; simp [mix, ← h]
theorem zPU {α : Type} (L R : List α) (i : Nat) (h : L.length = R.length) : (mix L R i).length = R.length := by simp [mix]; omega
theorem zMV {α : Type} (L R : List α) (i : Nat) (hl : L.length = R.length) (h : i < R.length) : (mix L R i)[i]? = some R[i] := by
  unfold mix
  rw [List.getElem?_append_right (by simp; omega)]
  simp only [List.length_take, List.getElem?_drop]
  have : i + (i - min i L.length) = i := by omega
  rw [this, List.getElem?_eq_getElem h]
theorem zMW {α : Type} (L R : List α) (i : Nat) (hl : L.length = R.length) (h : i < R.length) : (mix L R i).set i (L[i]'(by omega)) = mix L R (i + 1) := by
  apply List.ext_getElem?
  intro j
  unfold mix
  by_cases hj : j = i
  · subst hj
    rw [List.getElem?_set_self (by simp; omega), List.getElem?_append_left (by simp; omega), List.getElem?_take_of_lt (by omega), List.getElem?_eq_getElem (by omega)]
  · rw [List.getElem?_set_ne (Ne.symm hj)]
    by_cases h1 : j < i
    · rw [List.getElem?_append_left (by simp; omega), List.getElem?_append_left (by simp; omega), List.getElem?_take_of_lt h1, List.getElem?_take_of_lt (by omega)]
    · rw [List.getElem?_append_right (by simp; omega), List.getElem?_append_right (by simp; omega)]
      simp only [List.length_take, List.getElem?_drop]
      congr 1
      omega
theorem zNe {α : Type} (L R : List α) (i : Nat) (hl : L.length = R.length) (h : i < R.length) (e : L[i]'(by omega) = R[i]) : mix L R i = mix L R (i + 1) := by
  rw [← zMW L R i hl h, e]
  apply List.ext_getElem?
  intro j
  by_cases hj : i = j
  · subst hj; rw [List.getElem?_set_self (by rw [zPU L R i hl]; exact h), zMV L R i hl h]
  · rw [List.getElem?_set_ne hj]
def ppI (b v : Int) : Int := (20 * b * v + 100).tdiv 200
theorem zRW (b v : Int) (hb : 1 ≤ b ∧ b ≤ 16) (hv : 1 ≤ v ∧ v ≤ 100) : (0 ≤ 20 * b * v ∧ 20 * b * v ≤ 32000) ∧ 0 ≤ ppI b v ∧ ppI b v ≤ 161 := by
  have h1 : 0 ≤ 20 * b * v := Int.mul_nonneg (by omega) (by omega)
  have h2 : 20 * b * v ≤ 320 * 100 := Int.mul_le_mul (by omega) (by omega) (by omega) (by omega)
  refine ⟨⟨h1, by omega⟩, ?_⟩
  unfold ppI
  generalize 20 * b * v = z at *
  rw [Int.tdiv_eq_ediv_of_nonneg (by omega)]
  omega
theorem zQw (b v : Int) (hb : 1 ≤ b ∧ b ≤ 16) (hv : 1 ≤ v ∧ v ≤ 100) : zFi b v = some (ppI b v) ∧ zDT b v = some (ppI b v) := by
  obtain ⟨h1, h2⟩ := zRW b v hb hv
  have e : w64 ((w64 ((w64 ((w64 (20 * b)) * v)) + 100)).tdiv 200) = ppI b v := by
    rw [zBl (n := 20 * b) (by omega), zBl (n := 20 * b * v) (by omega), zBl (n := 20 * b * v + 100) (by omega)]
    exact zBl (by unfold ppI at h2; omega)
  exact ⟨by rw [zFi, e], by rw [zDT, e]⟩
def nP (b : Int) (k c : Nat) (x : Penalty) : Nat := if x.Kind = 3 ∧ x.Race = (k : Int) ∧ x.Boat = (c : Int) then (ppI b x.Value).toNat else 0
def zKN (b : Int) (xs : List Penalty) (k c : Nat) : Int := ((tot (nP b k c) xs : Nat) : Int)
theorem zPp (v : Int) (h : zJ7 3 v = true) : 1 ≤ v ∧ v ≤ 100 := by simpa [zJ7] using h
theorem zRX (a : Series) (xs : List Penalty) (hs : zBM a) (hp : zD1 a xs) (k c : Nat) : ∀ x ∈ xs, nP a.Boats k c x ≤ 161 := fun x hx => by
  obtain ⟨i, hi, rfl⟩ := List.mem_iff_getElem.1 hx
  unfold nP
  split
  · rename_i h
    have h3 := (zMB a xs hp i hi).2.2
    rw [h.1] at h3
    have := (zRW a.Boats xs[i].Value hs.1 (zPp _ h3)).2
    omega
  · omega
theorem zPV (a : Series) (xs : List Penalty) (hs : zBM a) (hp : zD1 a xs) (k c : Nat) : 0 ≤ zKN a.Boats xs k c ∧ zKN a.Boats xs k c ≤ 9660 := by
  have h := zLZ (nP a.Boats k c) 161 xs (zRX a xs hs hp k c)
  have := hp.1
  unfold zKN; omega
theorem zSY (a : Series) (xs : List Penalty) (hs : zBM a) (hp : zD1 a xs) (k c : Nat) (m1 m2 n1 n2 : List (List Int)) :
    zAO (zDy a xs (m1, (k : Int)) (m2, (c : Int))) (0, 0) = some (.nxt (zKN a.Boats xs k c, (xs.length : Int))) ∧
    zAO (zGp a xs (n1, (k : Int)) (n2, (c : Int))) (0, 0) = some (.nxt (zKN a.Boats xs k c, (xs.length : Int))) := by
  have hl := hp.1
  have key : ∀ i (h : i < xs.length), (xs[i].Kind = 3 → zDT a.Boats xs[i].Value = some (ppI a.Boats xs[i].Value) ∧ zFi a.Boats xs[i].Value = some (ppI a.Boats xs[i].Value)) := fun i hi h3 => by
    have h4 := (zMB a xs hp i hi).2.2
    rw [h3] at h4
    have := zQw a.Boats xs[i].Value hs.1 (zPp _ h4)
    exact ⟨this.2, this.1⟩
  have bd : ∀ i (h : i < xs.length), w64 (((tot (nP a.Boats k c) (xs.take i) : Nat) : Int) + ((nP a.Boats k c xs[i] : Nat) : Int)) = ((tot (nP a.Boats k c) (xs.take (i + 1)) : Nat) : Int) := fun i hi => by
    rw [zLy _ _ i hi]
    have h1 := zMG (nP a.Boats k c) xs i
    have h2 := zLZ (nP a.Boats k c) 161 xs (zRX a xs hs hp k c)
    have h3 := zRX a xs hs hp k c xs[i] (List.getElem_mem hi)
    rw [zBl (by omega)]; simp
  have tn : ∀ i (h : i < xs.length), (xs[i].Kind = 3 ∧ xs[i].Race = (k : Int) ∧ xs[i].Boat = (c : Int)) → ((nP a.Boats k c xs[i] : Nat) : Int) = ppI a.Boats xs[i].Value := fun i hi h => by
    unfold nP
    rw [if_pos h]
    have h4 := (zMB a xs hp i hi).2.2
    rw [h.1] at h4
    have := (zRW a.Boats xs[i].Value hs.1 (zPp _ h4)).2
    omega
  have tz : ∀ i (h : i < xs.length), ¬(xs[i].Kind = 3 ∧ xs[i].Race = (k : Int) ∧ xs[i].Boat = (c : Int)) → ((tot (nP a.Boats k c) (xs.take i) : Nat) : Int) = ((tot (nP a.Boats k c) (xs.take (i + 1)) : Nat) : Int) := fun i hi h => by
    rw [zLy _ _ i hi]
    have : nP a.Boats k c xs[i] = 0 := by unfold nP; rw [if_neg h]
    rw [this]; rfl
  constructor
  · refine zBy xs.length (by omega) (fun i => (((tot (nP a.Boats k c) (xs.take i) : Nat) : Int), (i : Int))) _ (by simp [tot]) (fun i hi => ?_) ?_
    · have h2 : ((i : Int) < (xs.length : Int)) := by omega
      simp only [zDy, zCy, zDx, zEU, h2, decide_true, zAy, zBs xs i hi, zAr, zBB hi (by omega)]
      by_cases h3 : xs[i].Kind = 3
      · by_cases h4 : xs[i].Race = (k : Int)
        · by_cases h5 : xs[i].Boat = (c : Int)
          · have e := bd i hi
            rw [tn i hi ⟨h3, h4, h5⟩] at e
            simp [h3, h4, h5, (key i hi h3).1, e]
          · have e := tz i hi (by simp [h5])
            simp [h3, h4, h5, e, zBm]
        · have e := tz i hi (by simp [h4])
          simp [h3, h4, e, zBm]
      · have e := tz i hi (by simp [h3])
        simp [h3, e, zBm]
    · simp [zDy, zKN]
  · refine zBy xs.length (by omega) (fun i => (((tot (nP a.Boats k c) (xs.take i) : Nat) : Int), (i : Int))) _ (by simp [tot]) (fun i hi => ?_) ?_
    · have h2 : ((i : Int) < (xs.length : Int)) := by omega
      simp only [zGp, zER, zGo, zH1, h2, decide_true, zAy, zBs xs i hi, zAr, zBB hi (by omega)]
      by_cases h3 : xs[i].Kind = 3
      · by_cases h4 : xs[i].Race = (k : Int)
        · by_cases h5 : xs[i].Boat = (c : Int)
          · have e := bd i hi
            rw [tn i hi ⟨h3, h4, h5⟩] at e
            simp [h3, h4, h5, (key i hi h3).2, e]
          · have e := tz i hi (by simp [h5])
            simp [h3, h4, h5, e, zBm]
        · have e := tz i hi (by simp [h4])
          simp [h3, h4, e, zBm]
      · have e := tz i hi (by simp [h3])
        simp [h3, e, zBm]
    · simp [zGp, zKN]
def zKI (b s : Int) (xs : List Penalty) (k c : Nat) (fs : List Finish) (f : Finish) : Int :=
  if f.Code = 0 then max (pts fs s f) (min (pts fs s ⟨0, 4, 0⟩) (pts fs s f + zKN b xs k c)) else pts fs s f
def zIz (b s : Int) (xs : List Penalty) (k : Nat) (r : Race) : List Int := r.Finishes.mapIdx fun c f => zKI b s xs k c r.Finishes f
def zIA (b s : Int) (xs : List Penalty) (rs : List Race) : List (List Int) := rs.mapIdx fun k r => zIz b s xs k r
def ptT (a : Series) (xs : List Penalty) : Table := ⟨a.Boats, zIA a.Boats a.Scheme xs (zIY a xs), (zIY a xs).map zJn⟩
theorem zMX (fs : List Finish) (s : Int) (f : Finish) (h : fs.length ≤ 16) : 0 ≤ pts fs s f ∧ pts fs s f ≤ 300 := by
  have h1 := zS1 fs f.Time
  have h2 := zS2 fs f.Time
  have h3 : dnc fs ≤ fs.length := List.countP_le_length
  unfold pts
  split
  · omega
  · split
    · omega
    · split <;> omega
theorem zSJ (fs : List Finish) (c : Nat) (hc : c < fs.length) (h0 : fs[c].Code = 0) (x : Finish) (hx : x.Code = 4) : dnc (fs.set c x) = dnc fs := by
  unfold dnc
  rw [List.countP_set hc]
  simp [h0, hx]
theorem zSK (S : Series) (hS : zBM S) (k c : Nat) (hk : k < S.Races.length) (hc : c < S.Races[k].Finishes.length) (h0 : S.Races[k].Finishes[c].Code = 0) :
    zH7 S (k : Int) (c : Int) = some (pts S.Races[k].Finishes S.Scheme ⟨0, 4, 0⟩) := by
  have hl := (hS.2.2.2 k hk).1
  have hb := hS.1
  have hc' : c < (S.Races[k].Finishes.set c ⟨(c : Int), 4, 0⟩).length := by simpa using hc
  have e := zMJ ⟨S.Races[k].Finishes.set c ⟨(c : Int), 4, 0⟩⟩ S.Scheme hS.2.1 (by simp; omega)
  have hlt : 0 + S.Races[k].Finishes.length < 1099511627776 := by omega
  simp only [zH7, zBs _ k hk, zAr, List.nil_append, List.length_nil, zBf hlt, zBs _ c hc, Int.toNat_natCast, e]
  rw [zBs _ c (by simpa using hc)]
  simp only [zAr, List.getElem_map, List.getElem_set_self]
  unfold pts
  simp only [zSJ _ c hc h0 ⟨(c : Int), 4, 0⟩ rfl, List.length_set]
  rfl
theorem zTR (fs : List Finish) (s : Int) (hs : 0 ≤ s ∧ s ≤ 1) (h : fs.length ≤ 1048576) : zEb fs 4 s = some (pts fs s ⟨0, 4, 0⟩) := zMo fs ⟨0, 4, 0⟩ s hs (by decide) h
section
variable (a S : Series) (xs : List Penalty) (hs : zBM a) (hS : zBM S) (hp : zD1 a xs) (hb : S.Boats = a.Boats) (hc : S.Scheme = a.Scheme)
theorem zOT (b s : Int) (rs : List Race) : (zIA b s xs rs).length = rs.length := by simp [zIA]
include hs hS hp hb hc in
theorem zTg (k : Nat) (hk : k < S.Races.length) (M0 : List (List Int)) (hM : M0.length = S.Races.length) (n1 : List (List Int)) :
    zAO (zDz a xs S (tbl S) (n1, (k : Int)) (zCo S S.Races[k])) (M0.set k (zCo S S.Races[k]), 0) =
      some (.nxt (M0.set k (zIz a.Boats a.Scheme xs k S.Races[k]), (S.Races[k].Finishes.length : Int))) := by
  have hl := (hS.2.2.2 k hk).1
  have hb2 := hS.1
  have hn : S.Races[k].Finishes.length ≤ 16 := by omega
  have eL : (zIz a.Boats a.Scheme xs k S.Races[k]).length = (zCo S S.Races[k]).length := by simp [zIz, zCo]
  have lT : (zCo S S.Races[k]).length = S.Races[k].Finishes.length := by simp [zCo]
  refine zBy S.Races[k].Finishes.length (by omega) (fun c => (M0.set k (mix (zIz a.Boats a.Scheme xs k S.Races[k]) (zCo S S.Races[k]) c), (c : Int))) _ (by rw [zMk]; rfl) (fun c hci => ?_) ?_
  · have h2 : ((c : Int) < ((zCo S S.Races[k]).length : Int)) := by rw [lT]; omega
    have hcT : c < (zCo S S.Races[k]).length := by omega
    have gi : ∀ z : List Int, idx (M0.set k z) (k : Int) = some z := fun z => zMr _ _ _ (by omega)
    have gr : idx (mix (zIz a.Boats a.Scheme xs k S.Races[k]) (zCo S S.Races[k]) c) (c : Int) = some (zCo S S.Races[k])[c] := by rw [zJw, zMV _ _ _ eL hcT]
    have gc : idx (tbl S).Codes (k : Int) = some (zJn S.Races[k]) := by rw [zBs _ k (by simpa [tbl] using hk)]; simp [tbl]
    have gc2 : idx (zJn S.Races[k]) (c : Int) = some S.Races[k].Finishes[c].Code := by rw [zBs _ c (by simpa [zJn] using hci)]; simp [zJn]
    have vT : (zCo S S.Races[k])[c] = pts S.Races[k].Finishes S.Scheme S.Races[k].Finishes[c] := by simp [zCo]
    have vL : (zIz a.Boats a.Scheme xs k S.Races[k])[c]'(by omega) = zKI a.Boats a.Scheme xs k c S.Races[k].Finishes S.Races[k].Finishes[c] := by simp [zIz]
    simp only [zDz, gi, zAr, h2, decide_true, zAy, gc, gc2, zCx, zDv]
    by_cases h0 : S.Races[k].Finishes[c].Code = 0
    · have hsum := (zSY a xs hs hp k c n1 (M0.set k (mix (zIz a.Boats a.Scheme xs k S.Races[k]) (zCo S S.Races[k]) c)) [] []).1
      have bs := zPV a xs hs hp k c
      have bp := zMX S.Races[k].Finishes S.Scheme S.Races[k].Finishes[c] hn
      have ew : w64 ((zCo S S.Races[k])[c] + zKN a.Boats xs k c) = (zCo S S.Races[k])[c] + zKN a.Boats xs k c := zBl (by rw [vT]; omega)
      have e4 := zTR S.Races[k].Finishes a.Scheme hs.2.1 (by omega)
      have en : (S.Races[k].Finishes[c].Code != 0) = false := by simp [h0]
      have ms := zMW (zIz a.Boats a.Scheme xs k S.Races[k]) (zCo S S.Races[k]) c eL hcT
      have eV : max (zCo S S.Races[k])[c] (min (pts S.Races[k].Finishes a.Scheme ⟨0, 4, 0⟩) ((zCo S S.Races[k])[c] + zKN a.Boats xs k c)) = (zIz a.Boats a.Scheme xs k S.Races[k])[c]'(by omega) := by
        rw [vL, vT, hc]; unfold zKI; rw [if_pos h0]
      simp only [en, zAG, hsum, zBx, zDw, zBs _ k hk, zAr, e4, gr, ew, zCx, zDv, Int.toNat_natCast, List.set_set, gi, zBB hci (by omega), eV, ms]
    · have en : (S.Races[k].Finishes[c].Code != 0) = true := by simp [h0]
      have ms := zNe (zIz a.Boats a.Scheme xs k S.Races[k]) (zCo S S.Races[k]) c eL hcT (by rw [vL, vT, hc]; unfold zKI; rw [if_neg h0])
      simp only [en, zAy, gi, zAr, zBB hci (by omega), ← ms]
  · have gi : ∀ z : List Int, idx (M0.set k z) (k : Int) = some z := fun z => zMr _ _ _ (by omega)
    have ma := zN1 (zIz a.Boats a.Scheme xs k S.Races[k]) (zCo S S.Races[k]) eL S.Races[k].Finishes.length (by omega)
    simp [zDz, gi, lT, ma]
include hs hS hp hb hc in
theorem zTh (k : Nat) (hk : k < S.Races.length) (M0 : List (List Int)) (hM : M0.length = S.Races.length) (n1 : List (List Int)) :
    zAO (zGq a xs S (tbl S, 0) (n1, (k : Int))) (M0.set k (zCo S S.Races[k]), 0) =
      some (.nxt (M0.set k (zIz a.Boats a.Scheme xs k S.Races[k]), (S.Races[k].Finishes.length : Int))) := by
  have hl := (hS.2.2.2 k hk).1
  have hb2 := hS.1
  have hn : S.Races[k].Finishes.length ≤ 16 := by omega
  have eL : (zIz a.Boats a.Scheme xs k S.Races[k]).length = (zCo S S.Races[k]).length := by simp [zIz, zCo]
  have lT : (zCo S S.Races[k]).length = S.Races[k].Finishes.length := by simp [zCo]
  have eb : (tbl S).Boats = (S.Races[k].Finishes.length : Int) := by rw [hl]; rfl
  refine zBy S.Races[k].Finishes.length (by omega) (fun c => (M0.set k (mix (zIz a.Boats a.Scheme xs k S.Races[k]) (zCo S S.Races[k]) c), (c : Int))) _ (by rw [zMk]; rfl) (fun c hci => ?_) ?_
  · have h2 : ((c : Int) < (S.Races[k].Finishes.length : Int)) := by omega
    have hcT : c < (zCo S S.Races[k]).length := by omega
    have gi : ∀ z : List Int, idx (M0.set k z) (k : Int) = some z := fun z => zMr _ _ _ (by omega)
    have gr : idx (mix (zIz a.Boats a.Scheme xs k S.Races[k]) (zCo S S.Races[k]) c) (c : Int) = some (zCo S S.Races[k])[c] := by rw [zJw, zMV _ _ _ eL hcT]
    have gc : idx (tbl S).Codes (k : Int) = some (zJn S.Races[k]) := by rw [zBs _ k (by simpa [tbl] using hk)]; simp [tbl]
    have gc2 : idx (zJn S.Races[k]) (c : Int) = some S.Races[k].Finishes[c].Code := by rw [zBs _ c (by simpa [zJn] using hci)]; simp [zJn]
    have vT : (zCo S S.Races[k])[c] = pts S.Races[k].Finishes S.Scheme S.Races[k].Finishes[c] := by simp [zCo]
    have vL : (zIz a.Boats a.Scheme xs k S.Races[k])[c]'(by omega) = zKI a.Boats a.Scheme xs k c S.Races[k].Finishes S.Races[k].Finishes[c] := by simp [zIz]
    have hsum := (zSY a xs hs hp k c [] [] n1 (M0.set k (mix (zIz a.Boats a.Scheme xs k S.Races[k]) (zCo S S.Races[k]) c))).2
    have bs := zPV a xs hs hp k c
    have bp := zMX S.Races[k].Finishes S.Scheme S.Races[k].Finishes[c] hn
    have ew : w64 ((zCo S S.Races[k])[c] + zKN a.Boats xs k c) = (zCo S S.Races[k])[c] + zKN a.Boats xs k c := zBl (by rw [vT]; omega)
    simp only [zGq, eb, h2, decide_true, zAy, hsum, zAr, zBx, zGn, zGm, zGl, zH0, gc, gc2, zBB hci (by omega)]
    by_cases hz : zKN a.Boats xs k c = 0
    · have ms := zNe (zIz a.Boats a.Scheme xs k S.Races[k]) (zCo S S.Races[k]) c eL hcT (by rw [vL, vT, hc]; unfold zKI; rw [hz]; split <;> omega)
      have en : decide (0 < zKN a.Boats xs k c) = false := by simp [hz]
      simp only [en, zAG, ← ms]
    · have en : decide (0 < zKN a.Boats xs k c) = true := by simp; omega
      by_cases h0 : S.Races[k].Finishes[c].Code = 0
      · have hw := zSK S hS k c hk hci h0
        have e0 : (S.Races[k].Finishes[c].Code == 0) = true := by simp [h0]
        have ms := zMW (zIz a.Boats a.Scheme xs k S.Races[k]) (zCo S S.Races[k]) c eL hcT
        have eV : max (zCo S S.Races[k])[c] (min ((zCo S S.Races[k])[c] + zKN a.Boats xs k c) (pts S.Races[k].Finishes S.Scheme ⟨0, 4, 0⟩)) = (zIz a.Boats a.Scheme xs k S.Races[k])[c]'(by omega) := by
          rw [vL, vT, hc]; unfold zKI; rw [if_pos h0]; omega
        simp only [en, zAy, e0, gi, zAr, gr, ew, hw, Int.toNat_natCast, List.set_set, eV, ms]
      · have e0 : (S.Races[k].Finishes[c].Code == 0) = false := by simp [h0]
        have ms := zNe (zIz a.Boats a.Scheme xs k S.Races[k]) (zCo S S.Races[k]) c eL hcT (by rw [vL, vT, hc]; unfold zKI; rw [if_neg h0])
        simp only [en, zAy, e0, zAG, ← ms]
  · have ma := zN1 (zIz a.Boats a.Scheme xs k S.Races[k]) (zCo S S.Races[k]) eL S.Races[k].Finishes.length (by omega)
    simp [zGq, eb, ma]
end
theorem zMl (a : Series) (xs : List Penalty) (hs : zBM a) (hp : zD1 a xs) : zDr a xs = some (ptT a xs) ∧ zFq a xs = some (ptT a xs) := by
  obtain ⟨s1, s2, hI⟩ := zO2 a xs hs hp
  have hS := zLe a xs hs hp
  have hsz : szS ⟨a.Boats, a.Scheme, zIY a xs⟩ ≤ 1048576 := by have := zNJ _ hS; omega
  have t1 := zLA _ hsz
  have t2 := zNu _ hsz
  rw [if_pos hS] at t1 t2
  have t3 : zDs ⟨a.Boats, a.Scheme, zIY a xs⟩ = some (tbl ⟨a.Boats, a.Scheme, zIY a xs⟩) := by
    rw [zJi, zJl _ hsz, zAr, zBm, if_neg (by simp [hS])] at t1
    cases h : zDs ⟨a.Boats, a.Scheme, zIY a xs⟩ with
    | none => rw [h] at t1; cases t1
    | some t => rw [h] at t1; simp at t1; rw [t1]
  generalize hSe : (⟨a.Boats, a.Scheme, zIY a xs⟩ : Series) = S at *
  have hb : S.Boats = a.Boats := by rw [← hSe]
  have hc : S.Scheme = a.Scheme := by rw [← hSe]
  have hr : S.Races = zIY a xs := by rw [← hSe]
  have lR := hS.2.2.1
  have eL : (zIA a.Boats a.Scheme xs S.Races).length = (S.Races.map (zCo S)).length := by simp [zIA]
  have fin : Table.mk (tbl S).Boats (zIA a.Boats a.Scheme xs S.Races) (tbl S).Codes = ptT a xs := by
    rw [hr]; unfold ptT tbl; simp only [hr, hb]
  have rows : ∀ k (hk : k < S.Races.length), (mix (zIA a.Boats a.Scheme xs S.Races) (S.Races.map (zCo S)) k).set k (zCo S S.Races[k]) = mix (zIA a.Boats a.Scheme xs S.Races) (S.Races.map (zCo S)) k ∧
      (mix (zIA a.Boats a.Scheme xs S.Races) (S.Races.map (zCo S)) k).set k (zIz a.Boats a.Scheme xs k S.Races[k]) = mix (zIA a.Boats a.Scheme xs S.Races) (S.Races.map (zCo S)) (k + 1) ∧
      idx (mix (zIA a.Boats a.Scheme xs S.Races) (S.Races.map (zCo S)) k) (k : Int) = some (zCo S S.Races[k]) ∧ (mix (zIA a.Boats a.Scheme xs S.Races) (S.Races.map (zCo S)) k).length = S.Races.length := fun k hk => by
    have hk' : k < (S.Races.map (zCo S)).length := by simpa using hk
    have g := zMV (zIA a.Boats a.Scheme xs S.Races) (S.Races.map (zCo S)) k eL hk'
    have m := zMW (zIA a.Boats a.Scheme xs S.Races) (S.Races.map (zCo S)) k eL hk'
    have l := zPU (zIA a.Boats a.Scheme xs S.Races) (S.Races.map (zCo S)) k eL
    have e1 : (S.Races.map (zCo S))[k] = zCo S S.Races[k] := by simp
    have e2 : (zIA a.Boats a.Scheme xs S.Races)[k]'(by simpa [zIA] using hk) = zIz a.Boats a.Scheme xs k S.Races[k] := by simp [zIA]
    rw [e1] at g
    rw [e2] at m
    refine ⟨?_, m, by rw [zJw, g], by rw [l]; simp⟩
    have hkl : k < (mix (zIA a.Boats a.Scheme xs S.Races) (S.Races.map (zCo S)) k).length := by rw [l]; exact hk'
    rw [List.getElem?_eq_getElem hkl] at g
    injection g with g
    rw [← g]; exact zNm _ k hkl
  have hall := zN1 (zIA a.Boats a.Scheme xs S.Races) (S.Races.map (zCo S)) eL S.Races.length (by simp)
  constructor
  · have hl : zAO (zDA a xs S (tbl S)) ((tbl S).Points, 0) = some (.nxt (zIA a.Boats a.Scheme xs S.Races, (S.Races.length : Int))) := by
      refine zBy S.Races.length (by omega) (fun k => (mix (zIA a.Boats a.Scheme xs S.Races) (S.Races.map (zCo S)) k, (k : Int))) _ (by rw [zMk]; rfl) (fun k hk => ?_) ?_
      · have h2 : ((k : Int) < ((tbl S).Points.length : Int)) := by simp [tbl]; omega
        obtain ⟨r1, r2, r3, r4⟩ := rows k hk
        have hrow := zTg a S xs hs hS hp hb hc k hk _ r4 (mix (zIA a.Boats a.Scheme xs S.Races) (S.Races.map (zCo S)) k)
        rw [r1, r2] at hrow
        simp only [zDA, h2, decide_true, zAy, r3, zAr, hrow, zBx, zDu, zBB hk (by omega)]
      · simp [zDA, tbl, hall]
    simp only [zDr, s2, zAr, t3, hl, zBx, zDt, fin]
  · have hl : zAO (zGr a xs S (tbl S, 0)) ((tbl S).Points, 0) = some (.nxt (zIA a.Boats a.Scheme xs S.Races, (S.Races.length : Int))) := by
      refine zBy S.Races.length (by omega) (fun k => (mix (zIA a.Boats a.Scheme xs S.Races) (S.Races.map (zCo S)) k, (k : Int))) _ (by rw [zMk]; rfl) (fun k hk => ?_) ?_
      · obtain ⟨r1, r2, r3, r4⟩ := rows k hk
        have h2 : ((k : Int) < ((mix (zIA a.Boats a.Scheme xs S.Races) (S.Races.map (zCo S)) k).length : Int)) := by rw [r4]; omega
        have hrow := zTh a S xs hs hS hp hb hc k hk _ r4 (mix (zIA a.Boats a.Scheme xs S.Races) (S.Races.map (zCo S)) k)
        rw [r1, r2] at hrow
        simp only [zGr, h2, decide_true, zAy, zAr, hrow, zBx, zGk, zBB hk (by omega)]
      · simp [zGr, hall, zOT]
    simp only [zFq, s1, zAr, t2, hl, zBx, zGj, fin]
def zN2 (a : Series) (xs : List Penalty) : Table × Int := if zLd a xs = 0 then (ptT a xs, 0) else (⟨0, [], []⟩, zLd a xs)
theorem zKo (a : Series) (xs : List Penalty) (h1 : szS a ≤ 1048576) (h : xs.length ≤ 1048576) : zCd a xs = some (zN2 a xs) ∧ zJr a xs = some (zN2 a xs) := by
  obtain ⟨c1, c2⟩ := zOc a xs h1 h
  simp only [zCd, zJr, c1, c2, zAr, zBm, zN2]
  by_cases h0 : zLd a xs = 0
  · obtain ⟨hs, hp⟩ := (zKq a xs).1 h0
    obtain ⟨s1, s2⟩ := zMl a xs hs hp
    simp [h0, s1, s2]
  · simp [h0]
theorem zSL (a : Series) (xs : List Penalty) : szT (ptT a xs) = 2 * szS ⟨a.Boats, a.Scheme, zIY a xs⟩ := by
  have e : tot (fun x : List Int => x.length) (zIA a.Boats a.Scheme xs (zIY a xs)) = tot (fun x : Race => x.Finishes.length) (zIY a xs) := by
    unfold tot zIA
    congr 1
    apply List.ext_getElem
    · simp
    · intro i h1 h2
      simp [zIz]
  unfold szT szS ptT
  simp only [zSN, List.length_map, zJn, e, zOT]
  omega
theorem zPW (a : Series) (xs : List Penalty) : szT (zN2 a xs).1 ≤ 1048576 := by
  unfold zN2
  split
  · rename_i h0
    obtain ⟨hs, hp⟩ := (zKq a xs).1 h0
    have := zNJ _ (zLe a xs hs hp)
    simp only [zSL]
    omega
  · simp [szT, tot]
end Go.Proofs.YtmmkkcmliofknaaGreatDoor
