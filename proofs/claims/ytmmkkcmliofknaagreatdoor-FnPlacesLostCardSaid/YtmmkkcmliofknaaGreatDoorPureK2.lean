/- Pure laws: discards and counted points. -/
import Derived.Test.YtmmkkcmliofknaaGreatDoorPureK
import Derived.Test.YtmmkkcmliofknaaGreatDoorPureV
namespace Go.Proofs.YtmmkkcmliofknaaGreatDoor
open Go
set_option linter.unusedVariables false
set_option linter.unusedSimpArgs false
theorem zQv {ρ ρ' σ : Type} {b1 : σ → Option (Stp ρ σ)} {b2 : σ → Option (Stp ρ' σ)} (h1 : ∀ s t, b1 s = some (.cont t) → b2 s = some (.cont t)) (h2 : ∀ s t, b1 s = some (.brk t) → b2 s = some (.brk t)) {s s' : σ} (hl : zAO b1 s = some (.nxt s')) : zAO b2 s = some (.nxt s') := by
  unfold zAO at *
  revert s
  generalize zOi = n
  induction n with
  | zero => intro s hl; simp [zHQ] at hl
  | succ n ih =>
    intro s hl
    unfold zHQ at hl ⊢
    cases hb : b1 s with
    | none => rw [hb] at hl; simp at hl
    | some x =>
      rw [hb] at hl
      cases x with
      | ret r => simp at hl
      | brk t => rw [h2 s t hb]; simpa using hl
      | cont t => rw [h1 s t hb]; simp only at hl ⊢; exact ih hl
theorem zPR (s t : List Int × Int) :
    (zAV 0 (fun x y => some (cL x y)) s = some (.cont t) → zEr s = some (.cont t)) ∧
    (zAV 0 (fun x y => some (cL x y)) s = some (.brk t) → zEr s = some (.brk t)) := by
  have hd : ∀ x y, decide (cL x y < 0) = decide (x < y) := fun x y => by
    unfold cL; by_cases h : x < y <;> simp [h]
  simp only [zAV, zBa, zEr, zFv, zAr, hd]
  by_cases h0 : 0 < s.2
  · cases hx : idx s.1 s.2 with
    | none => simp [h0, bnd]
    | some x =>
      cases hy : idx s.1 (w64 (s.2 - 1)) with
      | none => simp [h0, bnd]
      | some y =>
        by_cases hxy : x < y
        · simp only [h0, decide_true, zAy, zAr, hxy]
          cases hz : idx (s.1.set s.2.toNat y) (w64 (s.2 - 1)) <;> simp [bnd]
        · simp [h0, zAr, hxy]
  · simp [h0]
theorem zMH (xs : List Int) (hl : xs.length ≤ 1048576) : zFT xs = some (zMi xs) := by
  have hd : (fun a b => decide (cL a b < 0)) = fun a b : Int => decide (a < b) := by
    funext a b; unfold cL; by_cases h : a < b <;> simp [h]
  rw [zFT, zBf (by simp; omega), List.nil_append]
  cases hx : xs with
  | nil =>
    have e : zAO (zDe) (([] : List Int), 1) = some (.nxt ([], 1)) := by
      refine zBy 0 (by omega) (fun _ => ([], 1)) _ rfl (fun i hi => by omega) ?_
      simp [zDe]
    rw [e]; rfl
  | cons x0 xs' =>
    rw [← hx]
    have hpos : 0 < xs.length := by rw [hx]; simp
    have hl1 : zAO (zDe) (xs, 1) = some (.nxt (zMi xs, (xs.length : Int))) := by
      refine zBy (xs.length - 1) (by omega) (fun i => ((zJC (fun a b => decide (a < b)) (xs.take (i + 1))).reverse ++ xs.drop (i + 1), ((i + 1 : Nat) : Int))) _ ?_ (fun i hi => ?_) ?_
      · rw [hx]; simp [zJC, zKd]
      · have hi' : i + 1 < xs.length := by omega
        have hlen : (zJC (fun a b => decide (a < b)) (xs.take (i + 1))).length = i + 1 := by rw [zOV]; simp; omega
        have hfull : ((zJC (fun a b => decide (a < b)) (xs.take (i + 1))).reverse ++ xs.drop (i + 1)).length = xs.length := by simp [hlen]; omega
        have h2 : (((i + 1 : Nat) : Int) < (((zJC (fun a b => decide (a < b)) (xs.take (i + 1))).reverse ++ xs.drop (i + 1)).length : Int)) := by rw [hfull]; omega
        have hdr : xs.drop (i + 1) = xs[i + 1] :: xs.drop (i + 1 + 1) := List.drop_eq_getElem_cons hi'
        have htt : xs.take (i + 1 + 1) = xs.take (i + 1) ++ [xs[i + 1]] := List.take_succ_eq_append_getElem hi'
        have hin := zS0 (fun x y => some (cL x y)) cL (zJC (fun a b => decide (a < b)) (xs.take (i + 1))) (xs.drop (i + 1 + 1)) xs[i + 1] (fun _ _ => rfl) (by omega)
        rw [hlen, hd] at hin
        have hin2 := zQv (b2 := zEr) (fun s t => (zPR s t).1) (fun s t => (zPR s t).2) hin
        simp only [zDe, zEq, h2, decide_true, zAy]
        rw [hdr, hin2]
        simp only [zAr, zBx, zBB hi' (by omega), zEq]
        rw [htt]
        simp only [zJC, List.foldl_append, List.foldl_cons, List.foldl_nil]
      · have h3 : xs.length - 1 + 1 = xs.length := by omega
        have h4 : ((zJC (fun a b => decide (a < b)) (xs.take (xs.length - 1 + 1))).reverse ++ xs.drop (xs.length - 1 + 1)) = zMi xs := by
          rw [h3, List.take_length, List.drop_length, List.append_nil]; rfl
        have h2 : ¬ (((xs.length - 1 + 1 : Nat) : Int) < ((zMi xs).length : Int)) := by rw [zON]; omega
        simp only [h4]
        simp only [zDe, h2, decide_false, zAG]
        rw [h3]
    rw [hl1]
    rfl
theorem zNd (t : Table) (ht : zCm t) (b : Int) (h0 : 0 ≤ b) (h1 : b < t.Boats) (x y : Int) (hx : x ∈ zCG t.Points.length) (hy : y ∈ zCG t.Points.length) : zDi x y t b = some (zQu t b x y) := by
  obtain ⟨r1, a1, a2, _⟩ := (zIV t ht b h0 h1 x hx).1
  obtain ⟨r2, b1, b2, _⟩ := (zIV t ht b h0 h1 y hy).1
  simp only [zDi, a1, a2, b1, b2, zAr, zQu]
theorem zPS (rule : List Int) (n : Int) : zPo rule n ≤ rule.length := List.countP_le_length
theorem zNY (t : Table) (rule : List Int) (b : Int) (ht : zCm t) (h0 : 0 ≤ b) (h1 : b < t.Boats) (hr : rule.length ≤ 3) : zHe t rule b = some (inD t (dsK t rule b)) := by
  have hn := ht.2.1
  have hc := zPQ rule (t.Points.length : Int) (by omega)
  have hcl := zPS rule (t.Points.length : Int)
  have hord := zML t.Points.length (by omega) (fun y0 y1 => zDi y0 y1 t b) (zQu t b) (fun x hx y hy => zNd t ht b h0 h1 x y hx hy)
  have hL : (zJC (fun a b_1 => decide (zQu t b a b_1 < 0)) (zCG t.Points.length)).reverse = zJu t b := rfl
  rw [hL] at hord
  have hlen : (zJu t b).length = t.Points.length := by rw [(zLl t b).length_eq, zJm]
  have hmem : ∀ i (hi : i < (zJu t b).length), (zJu t b)[i] ∈ zCG t.Points.length := fun i hi => (zLl t b).mem_iff.1 (List.getElem_mem hi)
  rw [zHe, zSM, hc, zAr, hord, zAr]
  generalize hm : zPo rule (t.Points.length : Int) = m at *
  have hl : zAO (zFb t b (zJu t b)) (([] : List Int), ((m : Nat) : Int), 0) = some (.nxt ((ndL t b).take m, ((m - (ndL t b).length : Nat) : Int), ((zJu t b).length : Int))) := by
    refine zBy (zJu t b).length (by omega) (fun i => ((((zJu t b).take i).filter (ndK t b)).take m, ((m - (((zJu t b).take i).filter (ndK t b)).length : Nat) : Int), (i : Int))) _ (by simp) (fun i hi => ?_) ?_
    · have h2 : ((i : Int) < ((zJu t b).length : Int)) := by omega
      obtain ⟨rr, c1, c2⟩ := (zIV t ht b h0 h1 _ (hmem i hi)).2
      have e1 : ((zJu t b).take (i + 1)).filter (ndK t b) = ((zJu t b).take i).filter (ndK t b) ++ (if ndK t b (zJu t b)[i] = true then [(zJu t b)[i]] else []) := by
        rw [List.take_succ_eq_append_getElem hi, List.filter_append, List.filter_cons]; simp
      have e0 : (cdK t b (zJu t b)[i] != 7) = ndK t b (zJu t b)[i] := rfl
      have lF : (((zJu t b).take i).filter (ndK t b)).length ≤ i := Nat.le_trans (List.length_filter_le _ _) (by simp; omega)
      generalize hF : ((zJu t b).take i).filter (ndK t b) = F at *
      simp only [zFb, zHd, zE9, zFa, h2, decide_true, zAy, zBs _ i hi, zAr, c1, c2, e0, zBB hi (by omega), e1]
      by_cases hlt : F.length < m
      · have h3 : (0 : Int) < ((m - F.length : Nat) : Int) := by omega
        have e2 : F.take m = F := List.take_of_length_le (by omega)
        simp only [h3, decide_true, zAy, e2]
        cases hnd : ndK t b (zJu t b)[i]
        · simp [zAG, e2]
        · have e3 : (F ++ [(zJu t b)[i]]).take m = F ++ [(zJu t b)[i]] := List.take_of_length_le (by simp; omega)
          have e4 : w64 (((m - F.length : Nat) : Int) - 1) = ((m - (F.length + 1) : Nat) : Int) := by rw [zBl (by omega)]; omega
          simp only [zAy, if_true, List.length_singleton, List.length_append, e3, e4]
          rw [zBf (by omega)]
      · have h3 : ¬ (0 : Int) < ((m - F.length : Nat) : Int) := by omega
        have e2 : ∀ z, (F ++ z).take m = F.take m := fun z => List.take_append_of_le_length (by omega)
        simp only [h3, decide_false, zAG, e2, List.length_append]
        have e5 : m - (F.length + (if ndK t b (zJu t b)[i] = true then [(zJu t b)[i]] else []).length) = m - F.length := by omega
        rw [e5]
    · simp only [zFb, Int.lt_irrefl, decide_false, zAG, List.take_length]
      rfl
  rw [hl]
  simp only [zAr, zBx, zE8]
  rw [zPl _ (by simp; omega), zSF]
  unfold dsK
  rw [hm]
  rfl
def flg (t : Table) (D : List Int) : List Bool := (zCG t.Points.length).map fun k => decide (k ∈ D)
theorem zMj (t : Table) (D : List Int) : (flg t D).length = t.Points.length := by simp [flg, zJm]
theorem zKG (t : Table) (D : List Int) (i : Nat) (hi : i < t.Points.length) : idx (flg t D) (i : Int) = some (decide ((i : Int) ∈ D)) := by
  rw [zJw]; simp [flg, zCG, hi]
theorem zSG (t : Table) (D : List Int) (i : Nat) (hi : i < t.Points.length) : (flg t D).set i true = flg t (D ++ [(i : Int)]) := by
  apply List.ext_getElem?
  intro j
  by_cases hj : i = j
  · subst hj
    rw [List.getElem?_set_self (by rw [zMj]; exact hi)]
    simp [flg, zCG, hi]
  · rw [List.getElem?_set_ne hj]
    by_cases hj2 : j < t.Points.length
    · have : ¬ (j : Int) = (i : Int) := by omega
      simp [flg, zCG, hj2, this]
    · simp [flg, zCG, hj2]
theorem zRV (t : Table) (rule : List Int) (b : Int) (ht : zCm t) (h0 : 0 ≤ b) (h1 : b < t.Boats) (hr : rule.length ≤ 3) : zIP t rule b = some (flg t (dsK t rule b)) := by
  have hn := ht.2.1
  have hcl := zPS rule (t.Points.length : Int)
  have hst := zPn t ht b h0 h1
  have hnd := zNG t b
  rw [zIP, zBf (by omega), zPQ rule _ (by omega), zAr, Int.toNat_natCast]
  unfold dsK
  generalize hm : zPo rule (t.Points.length : Int) = m at *
  have hl : zAO (zHG t b) (List.replicate t.Points.length false, ((m : Nat) : Int)) = some (.nxt (flg t ((ndL t b).take m), 0)) := by
    refine zBy m (by omega) (fun j => (flg t ((ndL t b).take j), ((m - j : Nat) : Int))) _ ?_ (fun j hj => ?_) ?_
    · have : flg t ([] : List Int) = List.replicate t.Points.length false := by
        apply List.ext_getElem?
        intro k
        by_cases hk : k < t.Points.length
        · simp [flg, zCG, hk, List.getElem?_replicate]
        · simp [flg, zCG, hk, List.getElem?_replicate]
      simp [this]
    · have h2 : (0 : Int) < ((m - j : Nat) : Int) := by omega
      have e4 : w64 (((m - j : Nat) : Int) - 1) = ((m - (j + 1) : Nat) : Int) := by rw [zBl (by omega)]; omega
      have hsplit : (ndL t b).take j ++ (ndL t b).drop j = ndL t b := List.take_append_drop _ _
      generalize hD : (ndL t b).take j = D at *
      generalize hR : (ndL t b).drop j = rem at *
      have hcand : ∀ k, k ∈ rem ↔ k ∈ zCG t.Points.length ∧ ndK t b k = true ∧ k ∉ D := fun k => by
        rw [← hsplit] at hnd
        have hdis := (List.nodup_append.1 hnd).2.2
        have hmem := zPP t b k
        rw [← hsplit, List.mem_append] at hmem
        constructor
        · intro hk
          have := hmem.1 (.inr hk)
          exact ⟨this.1, this.2, fun hd => hdis k hd k hk rfl⟩
        · rintro ⟨a1, a2, a3⟩
          rcases hmem.2 ⟨a1, a2⟩ with h | h
          · exact (a3 h).elim
          · exact h
      have hpw : rem.Pairwise (RK t b) := by
        rw [← hsplit] at hst
        exact (List.pairwise_append.1 hst).2.1
      have hin : ∃ o, zAO (zCU t b (flg t D, ((m - j : Nat) : Int))) (-1, 0) = some o ∧ ∃ best k, o = .nxt (best, k) ∧ ((best = -1 ∧ ∀ k ∈ zCG t.Points.length, k ∉ rem) ∨ (best ∈ rem ∧ ∀ k ∈ zCG t.Points.length, k ∈ rem → k = best ∨ RK t b best k)) := by
        refine zDd t.Points.length (by omega) (fun i s => s.2 = (i : Int) ∧ ((s.1 = -1 ∧ ∀ k ∈ zCG i, k ∉ rem) ∨ (s.1 ∈ rem ∧ s.1 ∈ zCG i ∧ ∀ k ∈ zCG i, k ∈ rem → k = s.1 ∨ RK t b s.1 k))) _ ⟨rfl, .inl ⟨rfl, by simp [zCG]⟩⟩ (fun i s hi hs => ?_) (fun s hs => ?_)
        · obtain ⟨best, k⟩ := s
          obtain ⟨hk, hb⟩ := hs
          simp only at hk hb
          subst hk
          have e1 : ((i : Int) < ((flg t D).length : Int)) := by rw [zMj]; omega
          have himem : (i : Int) ∈ zCG t.Points.length := (zIQ _ _).2 ⟨i, hi, rfl⟩
          obtain ⟨⟨rp, p1, p2, _⟩, rc, c1, c2⟩ := zIV t ht b h0 h1 (i : Int) himem
          have e0 : (cdK t b (i : Int) != 7) = ndK t b (i : Int) := rfl
          have stay : (i : Int) ∉ rem → ((best = -1 ∧ ∀ k ∈ zCG (i + 1), k ∉ rem) ∨ (best ∈ rem ∧ best ∈ zCG (i + 1) ∧ ∀ k ∈ zCG (i + 1), k ∈ rem → k = best ∨ RK t b best k)) := fun hni => by
            rw [zJv]
            rcases hb with ⟨b1, b2⟩ | ⟨b1, b2, b3⟩
            · refine .inl ⟨b1, fun k hk => ?_⟩
              rcases List.mem_append.1 hk with hk | hk
              · exact b2 k hk
              · simp at hk; subst hk; exact hni
            · refine .inr ⟨b1, List.mem_append_left _ b2, fun k hk hkr => ?_⟩
              rcases List.mem_append.1 hk with hk | hk
              · exact b3 k hk hkr
              · simp at hk; subst hk; exact (hni hkr).elim
          by_cases hiD : (i : Int) ∈ D
          · have hni : (i : Int) ∉ rem := fun h => ((hcand _).1 h).2.2 hiD
            refine ⟨.cont (best, ((i + 1 : Nat) : Int)), ?_, rfl, stay hni⟩
            simp only [zCU, zCg, zCT, zDL, e1, decide_true, zAy, zKG t D i hi, zAr, hiD, Bool.not_true, zAG, zBB hi (by omega)]
          · cases hnk : ndK t b (i : Int)
            · have hni : (i : Int) ∉ rem := fun h => by have := ((hcand _).1 h).2.1; rw [hnk] at this; cases this
              refine ⟨.cont (best, ((i + 1 : Nat) : Int)), ?_, rfl, stay hni⟩
              simp only [zCU, zCg, zCT, zDL, e1, decide_true, decide_false, zAy, zKG t D i hi, zAr, hiD, Bool.not_false, c1, c2, e0, hnk, zAG, zBB hi (by omega)]
            · have hri : (i : Int) ∈ rem := (hcand _).2 ⟨himem, hnk, hiD⟩
              rcases hb with ⟨b1, b2⟩ | ⟨b1, b2, b3⟩
              · subst b1
                refine ⟨.cont ((i : Int), ((i + 1 : Nat) : Int)), ?_, rfl, .inr ⟨hri, (zIQ _ _).2 ⟨i, by omega, rfl⟩, fun k hk hkr => ?_⟩⟩
                · simp only [zCU, zCg, zCT, zDL, e1, decide_true, decide_false, zAy, zKG t D i hi, zAr, hiD, Bool.not_false, c1, c2, e0, hnk, show ((-1 : Int) < 0) from by decide, zBB hi (by omega)]
                · rw [zJv] at hk
                  rcases List.mem_append.1 hk with hk | hk
                  · exact (b2 k hk hkr).elim
                  · simp at hk; exact .inl hk
              · obtain ⟨ib, hib, hbe⟩ := (zIQ _ _).1 b2
                subst hbe
                have hbm : (ib : Int) ∈ zCG t.Points.length := ((hcand _).1 b1).1
                obtain ⟨rb, q1, q2, _⟩ := (zIV t ht b h0 h1 (ib : Int) hbm).1
                have hneg : ¬ ((ib : Int) < 0) := by omega
                by_cases hlt : ptK t b (ib : Int) < ptK t b (i : Int)
                · refine ⟨.cont ((i : Int), ((i + 1 : Nat) : Int)), ?_, rfl, .inr ⟨hri, (zIQ _ _).2 ⟨i, by omega, rfl⟩, fun k hk hkr => ?_⟩⟩
                  · simp only [zCU, zCg, zCT, zDL, e1, decide_true, decide_false, zAy, zAG, zKG t D i hi, zAr, hiD, Bool.not_false, c1, c2, e0, hnk, hneg, p1, p2, q1, q2, hlt, zBB hi (by omega)]
                  · rw [zJv] at hk
                    rcases List.mem_append.1 hk with hk | hk
                    · rcases b3 k hk hkr with rfl | h
                      · exact .inr (.inl hlt)
                      · right; unfold RK at h ⊢; simp only; omega
                    · simp at hk; exact .inl hk
                · refine ⟨.cont ((ib : Int), ((i + 1 : Nat) : Int)), ?_, rfl, .inr ⟨b1, (zIQ _ _).2 ⟨ib, by omega, rfl⟩, fun k hk hkr => ?_⟩⟩
                  · simp only [zCU, zCg, zCT, zDL, e1, decide_true, decide_false, zAy, zAG, zKG t D i hi, zAr, hiD, Bool.not_false, c1, c2, e0, hnk, hneg, p1, p2, q1, q2, hlt, zBB hi (by omega)]
                  · rw [zJv] at hk
                    rcases List.mem_append.1 hk with hk | hk
                    · exact b3 k hk hkr
                    · simp at hk; subst hk; right; unfold RK; simp only; omega
        · obtain ⟨best, k⟩ := s
          obtain ⟨hk, hb⟩ := hs
          simp only at hk hb
          subst hk
          have e1 : ¬ (((t.Points.length : Nat) : Int) < ((flg t D).length : Int)) := by rw [zMj]; omega
          refine ⟨.brk (best, ((t.Points.length : Nat) : Int)), by simp only [zCU, e1, decide_false, zAG], best, _, rfl, ?_⟩
          rcases hb with hb | ⟨b1, b2, b3⟩
          · exact .inl hb
          · exact .inr ⟨b1, b3⟩
      obtain ⟨o, ho, best, kk, rfl, hbest⟩ := hin
      simp only [zHG, zHF, zIF, zHE, h2, decide_true, zAy, ho, zAr, zBx, e4]
      rcases hbest with ⟨rfl, hb2⟩ | ⟨hb1, hb2⟩
      · have hrem : rem = [] := by
          cases hrm : rem with
          | nil => rfl
          | cons h tl => exact (hb2 h ((hcand h).1 (by rw [hrm]; exact List.mem_cons_self)).1 (by rw [hrm]; exact List.mem_cons_self)).elim
        have e5 : (ndL t b).take (j + 1) = D := by
          rw [← hD]
          have hlen : (ndL t b).length ≤ j := by
            have := congrArg List.length hR
            rw [hrem] at this
            simp at this
            omega
          rw [List.take_of_length_le (by omega), List.take_of_length_le hlen]
        have e6 : ¬ ((0 : Int) ≤ -1) := by decide
        simp only [e6, decide_false, zAG, e5]
      · cases hrm : rem with
        | nil => rw [hrm] at hb1; cases hb1
        | cons h tl =>
          have hhm : h ∈ rem := by rw [hrm]; exact List.mem_cons_self
          have hbe : best = h := by
            rw [hrm] at hb1
            rcases List.mem_cons.1 hb1 with e | htl
            · exact e
            · rcases hb2 h ((hcand h).1 hhm).1 hhm with e | hrk
              · exact e.symm
              · rw [hrm] at hpw
                exact (zRU t b _ _ hrk ((List.pairwise_cons.1 hpw).1 best htl)).elim
          subst hbe
          obtain ⟨ib, hib, rfl⟩ := (zIQ _ _).1 ((hcand best).1 hhm).1
          have hjl : j < (ndL t b).length := by
            have := congrArg List.length hR
            rw [hrm] at this
            simp at this
            omega
          have hget : (ndL t b)[j] = (ib : Int) := by
            have := List.drop_eq_getElem_cons hjl
            rw [hR, hrm] at this
            injection this with h1 _
            exact h1.symm
          have e5 : (ndL t b).take (j + 1) = D ++ [(ib : Int)] := by
            rw [List.take_succ_eq_append_getElem hjl, hD, hget]
          have e6 : ((0 : Int) ≤ (ib : Int)) := by omega
          simp only [e6, decide_true, zAy, zKG t D ib hib, zAr, Int.toNat_natCast, zSG t D ib hib, e5]
    · simp [zHG]
  rw [hl]
  rfl
end Go.Proofs.YtmmkkcmliofknaaGreatDoor
