/- Pure law over draws: the places that a boat loses, the penalties of a hearing. -/
import Derived.Test.YtmmkkcmliofknaaGreatDoorPurePL
import Derived.Test.YtmmkkcmliofknaaGreatDoorPureDz
import Derived.Test.YtmmkkcmliofknaaGreatDoorPureTx3
namespace Go.Proofs.YtmmkkcmliofknaaGreatDoor
open Go
set_option linter.unusedVariables false
set_option linter.unusedSimpArgs false
theorem zQx (a : Series) (xs : List Penalty) (rule : List Int) (b : Int) (h1 : szS a ≤ 1048576) (h : xs.length ≤ 1048576) (hr : rule.length ≤ 1048576) : ∃ r, zFn a xs rule b = some r ∧ zCi a xs rule b = some r ∧
    (r.2 = 0 → zLd a xs = 0 ∧ zBM a ∧ zD1 a xs ∧ zIW rule ∧ (0 ≤ b ∧ b < a.Boats) ∧ r.1 = w64 (rkB (ptT a xs) rule b - rkB (ptT a []) rule b)) := by
  obtain ⟨r, r1, r2⟩ := zN0 a xs rule b h1 h hr
  refine ⟨r, r1, r2, fun hz => ?_⟩
  obtain ⟨c1, c2⟩ := zOc a xs h1 h
  by_cases h0 : zLd a xs = 0
  · obtain ⟨hs, hp⟩ := (zKq a xs).1 h0
    have hb := hs.1
    have e : w64 (a.Boats - 1) = a.Boats - 1 := zBl (by omega)
    by_cases h2 : zIW rule
    · by_cases h3 : 0 ≤ b ∧ b ≤ a.Boats - 1
      · have hpn : zD1 a [] := ⟨by simp, fun i hi => by simp at hi⟩
        have T1 := zI2 a xs hs hp
        have T2 := zI2 a [] hs hpn
        obtain ⟨s1, s2⟩ := zMl a xs hs hp
        obtain ⟨s3, s4⟩ := zMl a [] hs hpn
        have b0 : 0 ≤ b := h3.1
        have b1 : b < a.Boats := by omega
        have rl := zNZ rule h2
        have k3 := zKF _ rule b T1 b0 b1 rl
        have k4 := zKF _ rule b T2 b0 b1 rl
        simp only [zCi, zBR, zCa, c2, zAr, zFP rule hr, zEV, h0, beq_self_eq_true, zAy, decide_eq_true h2, Bool.not_true, zAG, e, decide_eq_true h3, bne_self_eq_false, s2, k3, s4, k4] at r2
        have r2 := Option.some.inj r2
        subst r2
        exact ⟨h0, hs, hp, h2, ⟨b0, b1⟩, rfl⟩
      · exfalso
        simp only [zCi, zBR, zCa, c2, zAr, zFP rule hr, zEV, h0, beq_self_eq_true, zAy, decide_eq_true h2, Bool.not_true, zAG, e, decide_eq_false h3, Bool.not_false] at r2
        have r2 := Option.some.inj r2
        subst r2
        simp at hz
    · exfalso
      simp only [zCi, zBR, zCa, c2, zAr, zFP rule hr, zEV, h0, beq_self_eq_true, zAy, decide_eq_false h2, Bool.not_false] at r2
      have r2 := Option.some.inj r2
      subst r2
      simp at hz
  · exfalso
    have e0 : (zLd a xs != 0) = true := by simpa using h0
    have e1 : (zLd a xs == 0) = false := by simpa using h0
    simp only [zCi, zBR, zCa, c2, zAr, e0, e1, zAG, zAy] at r2
    have r2 := Option.some.inj r2
    subst r2
    exact h0 hz
theorem zPq (x y : Int) (L : List Statement) (h : L.length ≤ 1048576) : ∃ v, zH8 x y L = some v := by
  have inner : ∀ (i : Nat) (s : Statement), i < L.length → ∃ o, zAO (zEN L (i : Int) s) 0 = some o := fun i s hi => by
    obtain ⟨o, ho, _⟩ := zDd (body := zEN L (i : Int) s) (s := 0) i (by omega) (fun k s => s = (k : Int)) (fun _ => True) rfl
      (fun k s' hk hs => by
        subst hs
        have e1 : (k : Int) < (i : Int) := by omega
        simp only [zEN, e1, decide_true, zAy, zBs L k (by omega), zAr, zGc, zBB hk (by omega)]
        cases L[k].Speaker == s.Speaker with
        | true =>
          rw [zAy]
          cases L[k].Fact == s.Fact with
          | true => exact ⟨.ret false, rfl, trivial⟩
          | false => exact ⟨.cont ((k + 1 : Nat) : Int), rfl, rfl⟩
        | false => exact ⟨.cont ((k + 1 : Nat) : Int), rfl, rfl⟩)
      (fun s' hs => by subst hs; exact ⟨.brk (i : Int), by simp only [zEN, Int.lt_irrefl, decide_false, zAG], trivial⟩)
    exact ⟨o, ho⟩
  rw [zH8, zBm]
  split
  · exact ⟨_, rfl⟩
  · obtain ⟨o, ho, _⟩ := zDd (body := zEO x y L) (s := 0) L.length (by omega) (fun k s => s = (k : Int)) (fun _ => True) rfl
      (fun k s' hk hs => by
        subst hs
        have e1 : (k : Int) < (L.length : Int) := by omega
        have j2 : ∀ b, (∃ r, zCQ L (k : Int) L[k] b = some (.ret r)) ∨ zCQ L (k : Int) L[k] b = some (.cont ((k + 1 : Nat) : Int)) := fun b => by
          cases b with
          | true => exact .inl ⟨false, rfl⟩
          | false =>
            obtain ⟨o, ho⟩ := inner k L[k] hk
            simp only [zCQ, zAG, ho, zAr, zGb, zBB hk (by omega)]
            cases o with
            | ret r => exact .inl ⟨r, rfl⟩
            | nxt s => exact .inr rfl
        have j1 : ∀ b, (∃ r, zCl L (k : Int) L[k] b = some (.ret r)) ∨ zCl L (k : Int) L[k] b = some (.cont ((k + 1 : Nat) : Int)) := fun b => by
          cases b with
          | true => exact .inl ⟨false, rfl⟩
          | false =>
            simp only [zCl, zAG, zEV, zAr]
            cases decide (0 ≤ L[k].Fact ∧ L[k].Fact ≤ 7) with
            | false => exact j2 true
            | true =>
              cases (L[k].Says != 1) with
              | true => exact j2 _
              | false => exact j2 _
        have fin : ∀ b, ∃ t, zCl L (k : Int) L[k] b = some t ∧ ((∃ r, t = .ret r) ∨ t = .cont ((k + 1 : Nat) : Int)) := fun b => by
          rcases j1 b with ⟨r, h⟩ | h
          · exact ⟨_, h, .inl ⟨r, rfl⟩⟩
          · exact ⟨_, h, .inr rfl⟩
        have all : ∃ t, zEO x y L (k : Int) = some t ∧ ((∃ r, t = .ret r) ∨ t = .cont ((k + 1 : Nat) : Int)) := by
          simp only [zEO, e1, decide_true, zAy, zBs L k hk, zAr, zEV]
          cases L[k].Speaker != x with
          | false => rw [zAG]; exact fin _
          | true =>
            rw [zAy]
            cases L[k].Speaker != y with
            | false => rw [zAG]; exact fin _
            | true => rw [zAy]; exact fin _
        obtain ⟨t, h1, h2⟩ := all
        refine ⟨t, h1, ?_⟩
        rcases h2 with ⟨r, rfl⟩ | rfl
        · trivial
        · rfl)
      (fun s' hs => by subst hs; exact ⟨.brk (L.length : Int), by simp only [zEO, Int.lt_irrefl, decide_false, zAG], trivial⟩)
    rw [ho, zAr]
    cases o with
    | ret r => exact ⟨_, rfl⟩
    | nxt s => exact ⟨_, rfl⟩
theorem zRY {c : List UInt8} {a d : Int} (h : OkS c a d) : ∃ b, zJh ⟨c, a, d⟩ = some b ∧ OkS c b.2.1 b.2.2 := by
  refine nx h 5 (by omega) fun x5 aa da h _ _ => ?_
  refine nx h 4 (by omega) fun x10 ab db h _ _ => ?_
  refine nx h 14 (by omega) fun x18 a1 d1 h hr hr' => ?_
  obtain ⟨o, ho, a2, d2, L, k, rfl, h2, hL⟩ := zDd (body := zG0 ⟨c, a, d⟩ (x5, aa, da) (x10, ab, db)) (s := (a1, d1, ([] : List Statement), x18)) x18.toNat (by omega)
    (fun i s => ∃ a2 d2 L, s = (a2, d2, L, x18 - (i : Int)) ∧ OkS c a2 d2 ∧ L.length ≤ i) (fun o => ∃ a2 d2 L k, o = .nxt (a2, d2, L, k) ∧ OkS c a2 d2 ∧ L.length ≤ 14) ⟨a1, d1, [], by simp, h, by simp⟩
    (fun i s hi hs => by
      obtain ⟨a2, d2, L, rfl, h2, hl⟩ := hs
      have g1 : (0 : Int) < x18 - (i : Int) := by omega
      have g2 : w64 (x18 - (i : Int) - 1) = x18 - ((i + 1 : Nat) : Int) := by rw [zBl (by omega)]; omega
      simp only [zG0, g1, decide_true, zAy]
      refine nx h2 5 (by omega) fun y1 a3 d3 h3 hy1 hy1' => ?_
      refine nxt (zHO _ _ hy1 (by simp; omega)) fun y2 _ => ?_
      refine nx h3 4 (by omega) fun y3 a4 d4 h4 _ _ => ?_
      refine nx h4 2 (by omega) fun y5 a5 d5 h5 _ _ => ?_
      rw [zBf (by simp; omega), zBf (by simp; omega)]
      have j7 : ∀ (a6 d6 : Int) (b : Bool), OkS c a6 d6 → ∃ a2' d2' L', zEc (a2, d2, L, x18 - (i : Int)) y2 (y3, a4, d4) (y5, a5, d5) (a6, d6, b) = some (.cont (a2', d2', L', x18 - ((i + 1 : Nat) : Int))) ∧ OkS c a2' d2' ∧ L'.length ≤ i + 1 := fun a6 d6 b h6 => by
        cases b with
        | true =>
          simp only [zEc, zAy, zFk, zGZ, g2]
          rw [zBf (by simp; omega)]
          exact ⟨_, _, _, rfl, h6, by simp; omega⟩
        | false =>
          simp only [zEc, zAG, zFk, zGZ, g2]
          exact ⟨_, _, _, rfl, h6, by omega⟩
      obtain ⟨v, hv⟩ := zPq x5 ((w64 ((w64 (x5 + 1)) + x10)).tmod 5) ((([] : List Statement) ++ L) ++ ([(Statement.mk y2 y3 (w64 ((w64 (2 * y5)) - 1)))] : List Statement)) (by simp; omega)
      rw [hv, zAr]
      refine zFr (fun _ => ?_) (fun _ => ?_)
      · obtain ⟨p1, p2, p3, q1, q2, q3⟩ := j7 a5 d5 true h5
        exact ⟨_, q1, p1, p2, p3, rfl, q2, q3⟩
      · refine nx h5 60 (by omega) fun y6 a6 d6 h6 _ _ => ?_
        obtain ⟨p1, p2, p3, q1, q2, q3⟩ := j7 a6 d6 (y6 == 0) h6
        exact ⟨_, q1, p1, p2, p3, rfl, q2, q3⟩)
    (fun s hs => by
      obtain ⟨a2, d2, L, rfl, h2, hl⟩ := hs
      have g1 : ¬ (0 : Int) < x18 - ((x18.toNat : Nat) : Int) := by omega
      exact ⟨.brk (a2, d2, L, x18 - ((x18.toNat : Nat) : Int)), by simp only [zG0, g1, decide_false, zAG], a2, d2, L, _, rfl, h2, by omega⟩)
  rw [ho]
  simp only [zAr, zBx, zGY]
  have j1 : ∀ (a3 d3 : Int) (Q : List Statement), OkS c a3 d3 → ∃ b, zGW ⟨c, a, d⟩ (x5, aa, da) (x10, ab, db) (a3, d3, Q) = some b ∧ OkS c b.2.1 b.2.2 := fun a3 d3 Q h3 => by
    refine nx h3 24 (by omega) fun y a4 d4 h4 _ _ => ?_
    exact zFr (fun _ => ⟨_, rfl, h4⟩) (fun _ => ⟨_, rfl, h4⟩)
  have j3 : ∀ (a3 d3 : Int) (b : Bool), OkS c a3 d3 → (b = true → 0 < L.length) → ∃ q, zGX ⟨c, a, d⟩ (x5, aa, da) (x10, ab, db) (a2, d2, L, k) (a3, d3, b) = some q ∧ OkS c q.2.1 q.2.2 := fun a3 d3 b h3 hb => by
    refine zFr (fun hbb => ?_) (fun _ => j1 _ _ _ h3)
    have hp := hb (by simpa using hbb)
    refine nx h3 _ (by simp only; omega) fun y1 a4 d4 h4 hy hy' => ?_
    have hy2 : y1 < (L.length : Int) := by simp only at hy'; omega
    refine nx h4 3 (by omega) fun y2 a5 d5 h5 _ _ => ?_
    refine zFr (fun _ => ?_) (fun _ => zFr (fun _ => ?_) (fun _ => zFr (fun _ => ?_) (fun _ => j1 _ _ _ h5)))
    · exact nxt (zHO _ _ hy hy2) fun z _ => j1 _ _ _ h5
    · exact nxt (zHO _ _ hy hy2) fun z _ => j1 _ _ _ h5
    · exact nxt (zHO _ _ hy hy2) fun z _ => j1 _ _ _ h5
  refine zFr (fun hb => ?_) (fun _ => j3 _ _ _ h2 (fun hf => by cases hf))
  have hp : 0 < L.length := by have := of_decide_eq_true hb; omega
  exact nx h2 16 (by omega) fun y a3 d3 h3 _ _ => j3 _ _ _ h3 (fun _ => hp)
theorem zN3 (c : List UInt8) (h : c.length ≤ 4096) : ∃ b, zDU c = some b ∧ True := by
  obtain ⟨d, k1, k2⟩ := zR4 c (by omega)
  rw [zDU, k1, zAr]
  refine nxt (zRY k2) fun x h => ?_
  refine nx h 13 (by omega) fun y a1 d1 h _ _ => ?_
  refine nx h 24 (by omega) fun y a1 d1 h _ _ => ?_
  refine nx h 4 (by omega) fun y a1 d1 h _ _ => ?_
  refine nx h 24 (by omega) fun y a1 d1 h _ _ => ?_
  refine nx h 7 (by omega) fun y a1 d1 h hy hy' => ?_
  have e : w64 (y.tdiv 2) = y / 2 := by rw [Int.tdiv_eq_ediv_of_nonneg hy, zBl (by omega)]
  simp only [e]
  exact nxt (zHO _ _ (by omega) (by simp; omega)) fun z _ => ⟨_, rfl, trivial⟩
theorem zN4 (c : List UInt8) (h : c.length ≤ 4096) : ∃ b, zDq c = some b ∧ szS b.1 ≤ 1048576 ∧ b.2.1.length ≤ 100 ∧ b.2.2.1.length ≤ 10 := by
  obtain ⟨d, k1, k2⟩ := zR4 c (by omega)
  rw [zDq, k1, zAr]
  refine nxt (zQB k2) fun x hx => ?_
  obtain ⟨h1, h2, h3, h4⟩ := hx
  refine nxt (zNX h1) fun y hy => ?_
  refine nx hy.1 _ (by omega) fun z a1 d1 h5 _ _ => ?_
  exact nx h5 24 (by omega) fun z a1 d1 h6 _ _ => ⟨_, rfl, h2, h3, hy.2⟩
theorem zOU (x : Int) : zDR x = zE1 x := rfl
theorem zPr (x y z : Int) : ∃ r : List Int × Int, zED x y z = some r ∧ zEE x y z = some r ∧ r.1.length ≤ 2 := by
  have hp : zG1 x y = zEe x y := by
    simp only [zG1, zEe, zD3, zGw, zEV, zAr, zDV, zCR]
  have hq : ∃ b, zEe x y = some b := by
    simp only [zEe, zEV, zAr, zCR, zBm]
    split
    · split
      · exact ⟨_, rfl⟩
      · exact ⟨_, rfl⟩
    · exact ⟨_, rfl⟩
  obtain ⟨b, hb⟩ := hq
  have j : ∀ q, ∃ r : List Int × Int, zCv x y z q = some r ∧ zCw x y z q = some r ∧ r.1.length ≤ 2 := fun q => by
    simp only [zCv, zCw, zBm]
    split
    · exact ⟨_, rfl, rfl, by simp⟩
    · split
      · exact ⟨_, rfl, rfl, by simp⟩
      · split
        · exact ⟨_, rfl, rfl, by simp⟩
        · split
          · exact ⟨_, rfl, rfl, by simp⟩
          · exact ⟨_, rfl, rfl, by simp⟩
  simp only [zED, zEE, hp, hb, zAr, zII, zGw, zEV]
  cases b with
  | true => simp only [Bool.not_true, zAG]; exact j _
  | false => simp only [Bool.not_false, zAy]; exact j _
theorem zRZ (a0 a1 a2 a3 a4 : Int) : ∃ r : List Penalty × Int, zFD a0 a1 a2 a3 a4 = some r ∧ zFE a0 a1 a2 a3 a4 = some r ∧ r.1.length ≤ 2 := by
  obtain ⟨⟨bs, cd⟩, p1, p2, p3⟩ := zPr a1 a2 a3
  simp only at p3
  obtain ⟨k, hk⟩ : ∃ k, zE1 a4 = some k := by
    simp only [zE1, zD8, zBm]
    split
    · exact ⟨_, rfl⟩
    · split
      · exact ⟨_, rfl⟩
      · exact ⟨_, rfl⟩
  have hr : ∀ i : Nat, i < bs.length → bs.take (i + 1) = bs.take i ++ [bs[i]!] := fun i hi => by rw [List.take_succ_eq_append_getElem hi, getElem!_pos bs i hi]
  have l1 : zAO (zCW a0 a4 (bs, cd)) ([], 0) = some (.nxt (bs.map (fun x => Penalty.mk a0 x 1 a4), (bs.length : Int))) := by
    have := zBy (body := zCW a0 a4 (bs, cd)) (s := ([], 0)) bs.length (by omega) (fun i => ((bs.take i).map (fun x => Penalty.mk a0 x 1 a4), (i : Int))) (bs.map (fun x => Penalty.mk a0 x 1 a4), (bs.length : Int)) rfl (fun i hi => by
      have e1 : (i : Int) < (bs.length : Int) := by omega
      simp only [zCW, e1, decide_true, zAy, zBs bs i hi, zAr, zBB hi (by omega)]
      rw [zBf (by simp; omega), List.take_succ_eq_append_getElem hi, List.map_append]; rfl) (by simp only [zCW, Int.lt_irrefl, decide_false, zAG, List.take_length])
    exact this
  have l2 : zAO (zHX a0 a4 (bs, cd)) ([], 0) = some (.nxt (bs.map (fun x => Penalty.mk a0 x 1 a4), (bs.length : Int))) := l1
  simp only [zFD, zFE, zCX, zEg, p1, p2, zOU, hk, zGw, zEV, zAr, l1, l2, zBx, zEd, zEf, zAy]
  cases decide (0 ≤ a0 ∧ a0 ≤ 11) <;> cases k <;> cases hc : (cd != 0) <;> simp only [Bool.not_true, Bool.not_false, zAy, zAG] <;> first | exact ⟨_, rfl, rfl, Nat.zero_le _⟩ | exact ⟨_, rfl, rfl, by simpa using p3⟩
theorem zR0 : (⟨#[32]⟩ : ByteArray) ++ (⟨#[99, 111, 100, 101, 32]⟩ : ByteArray) = (⟨#[32, 99, 111, 100, 101, 32]⟩ : ByteArray) := rfl
theorem zR1 : (⟨#[32]⟩ : ByteArray) ++ (⟨#[116, 105, 109, 101, 32]⟩ : ByteArray) = (⟨#[32, 116, 105, 109, 101, 32]⟩ : ByteArray) := rfl
theorem zR2 : (⟨#[32]⟩ : ByteArray) ++ (⟨#[112, 101, 114, 99, 101, 110, 116, 32]⟩ : ByteArray) = (⟨#[32, 112, 101, 114, 99, 101, 110, 116, 32]⟩ : ByteArray) := rfl
theorem zQy (x : Penalty) : ∃ s : ByteArray, zGu x = some s ∧ zGv x = some s := by
  have no : ∃ s : ByteArray, zBT x true = some s ∧ zBU x true = some s := ⟨_, rfl, rfl⟩
  simp only [zGu, zGv, zD3, zGw, zEV, zAr, zMI, zLU]
  by_cases h1 : 0 ≤ x.Race ∧ x.Race ≤ 11
  · by_cases h2 : 0 ≤ x.Boat ∧ x.Boat ≤ 15
    · by_cases h3 : zJ7 x.Kind x.Value = true
      · simp only [h1, h2, h3, and_self, decide_true, Bool.not_true, zAG]
        have t1 := zPx x.Race (by omega) (by omega)
        have t2 := zPx x.Boat (by omega) (by omega)
        have n1 := zNl x.Race (by omega) (by omega)
        have n2 := zNl x.Boat (by omega) (by omega)
        have s1 := zMA x.Race (by omega) (by omega)
        have s2 := zMA x.Boat (by omega) (by omega)
        have z1 : (⟨#[32]⟩ : ByteArray).size = 1 := rfl
        have z2 : (⟨#[32, 99, 111, 100, 101, 32]⟩ : ByteArray).size = 6 := rfl
        have z3 : (⟨#[99, 111, 100, 101, 32]⟩ : ByteArray).size = 5 := rfl
        have z4 : (⟨#[32, 116, 105, 109, 101, 32]⟩ : ByteArray).size = 6 := rfl
        have z5 : (⟨#[116, 105, 109, 101, 32]⟩ : ByteArray).size = 5 := rfl
        have z6 : (⟨#[32, 112, 101, 114, 99, 101, 110, 116, 32]⟩ : ByteArray).size = 9 := rfl
        have z7 : (⟨#[112, 101, 114, 99, 101, 110, 116, 32]⟩ : ByteArray).size = 8 := rfl
        by_cases k1 : x.Kind = 1
        · have hv : 0 ≤ x.Value ∧ x.Value ≤ 9 := by
            unfold zJ7 at h3
            simp [k1] at h3
            omega
          obtain ⟨w1, w2⟩ := zR8 x.Value hv.1 hv.2
          have w3 := zPy x.Value hv.1 hv.2
          have kk : (x.Kind == 1) = true := by simpa using k1
          refine ⟨(((zLX x.Race ++ (⟨#[32]⟩ : ByteArray)) ++ zLX x.Boat) ++ (⟨#[32, 99, 111, 100, 101, 32]⟩ : ByteArray)) ++ nmB x.Value, ?_, ?_⟩
          · simp only [zBT, zAG, t1, t2, zAr, kk, zAy, w3]
            rw [zBf (by simp only [z1]; omega), zBf (by simp only [ByteArray.size_append, z1]; omega), zBf (by simp only [ByteArray.size_append, z1, z2]; omega), zBf (by simp only [ByteArray.size_append, z1, z2]; omega)]
          · simp only [zBU, zAG, n1, n2, zAr, kk, zAy, zIS, w1]
            rw [zBf (by simp only [z1]; omega), zBf (by simp only [ByteArray.size_append, z1]; omega), zBf (by simp only [ByteArray.size_append, z1]; omega), zBf (by simp only [ByteArray.size_append, z1, z3]; omega), zBf (by simp only [ByteArray.size_append, z1, z3]; omega), ← zR0]
            simp only [ByteArray.append_assoc]
        · have kk : (x.Kind == 1) = false := by simpa using k1
          have hv : 0 ≤ x.Value ∧ x.Value ≤ 1000000000 := by
            unfold zJ7 at h3
            rw [if_neg k1] at h3
            split at h3
            · simp at h3; omega
            · simp at h3; omega
          have t3 := zPx x.Value (by omega) (by omega)
          have n3 := zNl x.Value (by omega) (by omega)
          have s3 := zMA x.Value (by omega) (by omega)
          by_cases k2 : x.Kind = 2
          · have kq : (x.Kind == 2) = true := by simpa using k2
            refine ⟨(((zLX x.Race ++ (⟨#[32]⟩ : ByteArray)) ++ zLX x.Boat) ++ (⟨#[32, 116, 105, 109, 101, 32]⟩ : ByteArray)) ++ zLX x.Value, ?_, ?_⟩
            · simp only [zBT, zAG, t1, t2, zAr, kk, kq, zAy, t3]
              rw [zBf (by simp only [z1]; omega), zBf (by simp only [ByteArray.size_append, z1]; omega), zBf (by simp only [ByteArray.size_append, z1, z4]; omega), zBf (by simp only [ByteArray.size_append, z1, z4]; omega)]
            · simp only [zBU, zAG, n1, n2, zAr, kk, kq, zAy, n3]
              rw [zBf (by simp only [z1]; omega), zBf (by simp only [ByteArray.size_append, z1]; omega), zBf (by simp only [ByteArray.size_append, z1]; omega), zBf (by simp only [ByteArray.size_append, z1, z5]; omega), zBf (by simp only [ByteArray.size_append, z1, z5]; omega), ← zR1]
              simp only [ByteArray.append_assoc]
          · have kq : (x.Kind == 2) = false := by simpa using k2
            refine ⟨(((zLX x.Race ++ (⟨#[32]⟩ : ByteArray)) ++ zLX x.Boat) ++ (⟨#[32, 112, 101, 114, 99, 101, 110, 116, 32]⟩ : ByteArray)) ++ zLX x.Value, ?_, ?_⟩
            · simp only [zBT, zAG, t1, t2, zAr, kk, kq, zAy, t3]
              rw [zBf (by simp only [z1]; omega), zBf (by simp only [ByteArray.size_append, z1]; omega), zBf (by simp only [ByteArray.size_append, z1, z6]; omega), zBf (by simp only [ByteArray.size_append, z1, z6]; omega)]
            · simp only [zBU, zAG, n1, n2, zAr, kk, kq, zAy, n3]
              rw [zBf (by simp only [z1]; omega), zBf (by simp only [ByteArray.size_append, z1]; omega), zBf (by simp only [ByteArray.size_append, z1]; omega), zBf (by simp only [ByteArray.size_append, z1, z7]; omega), zBf (by simp only [ByteArray.size_append, z1, z7]; omega), ← zR2]
              simp only [ByteArray.append_assoc]
      · simp only [h1, h2, h3, and_self, decide_true, Bool.not_true, zAG, Bool.not_false]
        exact no
    · simp only [h1, h2, and_self, decide_true, decide_false, Bool.not_true, zAG, Bool.not_false, zAy]
      exact no
  · simp only [h1, decide_false, Bool.not_false, zAy]
    exact no
theorem zMm (c : List UInt8) (hc : OkD.ok c) : zHy c = some true := by
  rw [zHy, zTS, zAr, zBm]
  by_cases hl : 4096 < (c.length : Int)
  · simp [hl]
  · rw [if_neg (by simpa using hl)]
    obtain ⟨⟨a, xs, rule, b⟩, hD, hq1, hq2, hq3⟩ := zN4 c (by omega)
    simp only at hq1 hq2 hq3
    obtain ⟨⟨v, x, y, z, k⟩, hD2, _⟩ := zN3 c (by omega)
    obtain ⟨r, r1, r2, r3⟩ := zQx a xs rule b hq1 (by omega) (by omega)
    obtain ⟨u, u1, u2, u3⟩ := zRZ v x y z k
    have hloop : zAO (zC2 u u) 0 = some (.nxt ((u.1.length : Nat) : Int)) := by
      refine zBy (body := zC2 u u) u.1.length (by omega) (fun i => (i : Int)) _ rfl (fun i hi => ?_) (by simp only [zC2, Int.lt_irrefl, decide_false, zAG])
      have e1 : (i : Int) < (u.1.length : Int) := by omega
      obtain ⟨s, s1, s2⟩ := zQy u.1[i]
      have e2 : eqL [u.1[i].Race, u.1[i].Boat, u.1[i].Kind, u.1[i].Value] [u.1[i].Race, u.1[i].Boat, u.1[i].Kind, u.1[i].Value] = true := (zPG _ _).2 rfl
      simp only [zC2, e1, decide_true, zAy, zBs u.1 i hi, zAr, e2, Bool.not_true, zAG, s1, s2, zR7, zEn, zBB hi (by omega)]
    simp only [hD, zAr, r1, r2, bne_self_eq_false, zAG, zEp, hD2, u1, u2, zEo, hloop, zBx, zEm]
    by_cases hz : r.2 = 0
    · obtain ⟨p0, hs, hp, hru, ⟨b0, b1⟩, hr⟩ := r3 hz
      have hb := hs.1
      have hpn : zD1 a [] := ⟨by simp, fun i hi => by simp at hi⟩
      have p1 : zLd a [] = 0 := (zKq a []).2 ⟨hs, hpn⟩
      have T1 := zI2 a xs hs hp
      have T2 := zI2 a [] hs hpn
      have rl := zNZ rule hru
      have e1 : zCd a [] = some (ptT a [], 0) := by rw [(zKo a [] hq1 (by simp)).1, zN2, if_pos p1]
      have e2 : zCd a xs = some (ptT a xs, 0) := by rw [(zKo a xs hq1 (by omega)).1, zN2, if_pos p0]
      have rk : ∀ T : Table, zCm T → szT T ≤ 1048576 → zHN T rule = some (zJo T rule, 0) := fun T hT hsz => by
        obtain ⟨c1, _⟩ := zOR T rule 0 hsz (by omega)
        have hTb := hT.1
        have h0 : cdT T rule 0 = 0 := by unfold cdT; rw [if_pos hT, if_pos ⟨hru, by omega, by omega⟩]
        simp only [zHN, c1, h0, zAr, bne_self_eq_false, zAG, zLa T rule hT rl]
      have sz1 : szT (ptT a xs) ≤ 1048576 := by have := zPW a xs; rw [zN2, if_pos p0] at this; exact this
      have sz2 : szT (ptT a []) ≤ 1048576 := by have := zPW a []; rw [zN2, if_pos p1] at this; exact this
      have i1 : idx (zJo (ptT a xs) rule) b = some (rkB (ptT a xs) rule b) := by
        have := zK9 (ptT a xs) rule b.toNat (show b.toNat < a.Boats.toNat by omega)
        unfold idx; rw [if_pos b0, this]
        congr 2
        omega
      have i2 : idx (zJo (ptT a []) rule) b = some (rkB (ptT a []) rule b) := by
        have := zK9 (ptT a []) rule b.toNat (show b.toNat < a.Boats.toNat by omega)
        unfold idx; rw [if_pos b0, this]
        congr 2
        omega
      have n1 : ¬ ((zJo (ptT a xs) rule).length : Int) ≤ b := by
        rw [zM8]
        show ¬ ((a.Boats.toNat : Nat) : Int) ≤ b
        omega
      have n2 : ¬ ((zJo (ptT a []) rule).length : Int) ≤ b := by
        rw [zM8]
        show ¬ ((a.Boats.toNat : Nat) : Int) ≤ b
        omega
      rw [hz]
      simp only [bne_self_eq_false, zAG, e1, e2, zAr, rk _ T1 sz1, rk _ T2 sz2, n1, n2, decide_false, zBQ, i1, i2, hr, beq_self_eq_true]
    · rw [show (r.2 != 0) = true by simpa using hz, zAy]
end Go.Proofs.YtmmkkcmliofknaaGreatDoor
