/- Pure laws: discards. -/
import Derived.Test.YtmmkkcmliofknaaGreatDoorPureU
import Derived.Test.YtmmkkcmliofknaaGreatDoorPureSort
namespace Go.Proofs.YtmmkkcmliofknaaGreatDoor
open Go
set_option linter.unusedVariables false
set_option linter.unusedSimpArgs false
theorem zTe (x y : Int) : zHc x y = some (decide (x < y)) := by
  simp only [zHc, zGs, zDY, zAr, bne_self_eq_false, zAG]
def cL (x y : Int) : Int := if x < y then -1 else 0
theorem zSD (xs : List Int) (a b : Int) : zBC xs a b = zBj xs a b (fun x y => some (cL x y)) := by
  have hd : ∀ x y, decide (cL x y < 0) = decide (x < y) := fun x y => by
    unfold cL; by_cases h : x < y <;> simp [h]
  have e2 : ∀ s, zB1 a s = zAV a (fun x y => some (cL x y)) s := fun s => by
    simp only [zB1, zAV, zTe, zAr, hd]
    rfl
  have e1 : ∀ s, zB2 a b s = zA4 a b (fun x y => some (cL x y)) s := fun s => by
    simp only [zB2, zA4, zLG e2]
    rfl
  simp only [zBC, zBj, zLG e1]
  rfl
def zMi (xs : List Int) : List Int := (zJC (fun a b => decide (a < b)) xs).reverse
theorem zLk (xs : List Int) : (zMi xs).Perm xs := (List.reverse_perm _).trans (zLm _ _)
theorem zON (xs : List Int) : (zMi xs).length = xs.length := (zLk xs).length_eq
theorem zRT (xs : List Int) (h : xs.length ≤ 1048576) : zBC xs 0 (xs.length : Int) = some ((), zMi xs) := by
  rw [zSD, zPY _ cL xs (fun _ _ _ _ => rfl) h]
  have e : (fun a b => decide (cL a b < 0)) = fun a b : Int => decide (a < b) := by
    funext a b; unfold cL; by_cases h : a < b <;> simp [h]
  rw [e]; rfl
set_option maxRecDepth 100000 in
theorem zTf (n : Nat) (h : n ≤ 12) : ∃ x, zIU (IntKind.u64.wrap (n : Int)) = some x := by
  have : n = 0 ∨ n = 1 ∨ n = 2 ∨ n = 3 ∨ n = 4 ∨ n = 5 ∨ n = 6 ∨ n = 7 ∨ n = 8 ∨ n = 9 ∨ n = 10 ∨ n = 11 ∨ n = 12 := by omega
  rcases this with rfl | rfl | rfl | rfl | rfl | rfl | rfl | rfl | rfl | rfl | rfl | rfl | rfl <;> exact ⟨_, rfl⟩
theorem zPl (xs : List Int) (h : xs.length ≤ 12) : zB5 xs = some ((), zMi xs) := by
  obtain ⟨x, hx⟩ := zTf xs.length h
  rw [zB5, hx, zAr]
  have hl : ∃ o, zAO (zCt xs 0 (xs.length : Int) x) () = some o ∧ o = .ret ((), zMi xs) := by
    refine zDd 0 (by omega) (fun _ _ => True) _ trivial (fun i s hi _ => by omega) (fun s _ => ?_)
    have e1 : w64 ((xs.length : Int) - 0) ≤ 12 := by rw [zBl (by omega)]; omega
    exact ⟨.ret ((), zMi xs), by simp only [zCt, e1, decide_true, zAy, zRT xs (by omega), zAr], rfl⟩
  obtain ⟨o, ho, rfl⟩ := hl
  rw [zCZ, ho]
  rfl
theorem zPm (xs : List Int) (v : Int) (h : xs.length ≤ 1048576) : zBL xs v = some (decide (v ∈ xs)) := by
  by_cases hm : v ∈ xs
  · have hl : ∃ o, zAO (zBp xs v) 0 = some o ∧ ∃ i : Nat, o = .ret (i : Int) := by
      refine zDd xs.length (by omega) (fun i s => s = (i : Int) ∧ ∀ j, j < i → xs[j]? ≠ some v) _ ⟨rfl, fun j hj => by omega⟩ (fun i s hi hs => ?_) (fun s hs => ?_)
      · obtain ⟨rfl, hn⟩ := hs
        have h1 : ((i : Int) < (xs.length : Int)) := by omega
        by_cases he : v = xs[i]
        · exact ⟨.ret (i : Int), by simp only [zBp, h1, decide_true, zAy, zBs xs i hi, zAr, ← he, beq_self_eq_true], i, rfl⟩
        · refine ⟨.cont ((i + 1 : Nat) : Int), ?_, rfl, fun j hj => ?_⟩
          · have : (v == xs[i]) = false := by simpa using he
            simp only [zBp, h1, decide_true, zAy, zBs xs i hi, zAr, this, zAG, zBB hi (by omega)]
          · by_cases hji : j = i
            · subst hji; rw [List.getElem?_eq_getElem hi]; intro hh; injection hh with hh; exact he hh.symm
            · exact hn j (by omega)
      · obtain ⟨rfl, hn⟩ := hs
        obtain ⟨j, hj, e⟩ := List.mem_iff_getElem.1 hm
        exact ((hn j hj) (by rw [List.getElem?_eq_getElem hj, e])).elim
    obtain ⟨o, ho, i, rfl⟩ := hl
    simp only [zBL, zCk, ho, zAr, zH2, hm, decide_true]
    rw [decide_eq_true (show (0 : Int) ≤ (i : Int) by omega)]
  · have hl : zAO (zBp xs v) 0 = some (.nxt (xs.length : Int)) := by
      refine zBy xs.length (by omega) (fun i => (i : Int)) _ rfl (fun i hi => ?_) ?_
      · have h1 : ((i : Int) < (xs.length : Int)) := by omega
        have : (v == xs[i]) = false := by
          have : v ≠ xs[i] := fun e => hm (e ▸ List.getElem_mem hi)
          simpa using this
        simp only [zBp, h1, decide_true, zAy, zBs xs i hi, zAr, this, zAG, zBB hi (by omega)]
      · simp [zBp]
    simp only [zBL, zCk, hl, zAr, zBx, zB9, hm, decide_false]
    rfl
def zPN (R : List (List Int)) (b : Int) (k : Int) : Int := ((R[k.toNat]?.getD [])[b.toNat]?).getD 0
def ptK (t : Table) (b k : Int) : Int := zPN t.Points b k
def cdK (t : Table) (b k : Int) : Int := zPN t.Codes b k
theorem zSE (t : Table) (ht : zCm t) (i : Nat) (hi : i < t.Points.length) : ∃ (h : i < t.Codes.length), zIR t.Points[i] t.Boats 10000 ∧ zIR t.Codes[i] t.Boats 9 := by
  have h2 : i < t.Codes.length := by have := ht.2.2.1; omega
  have h3 := ht.2.2.2 i hi
  unfold zMM at h3
  simp only [List.getElem?_eq_getElem hi, List.getElem?_eq_getElem h2, Bool.or_eq_false_iff, Bool.not_eq_false', decide_eq_true_eq] at h3
  exact ⟨h2, h3⟩
theorem zPO (xs : List Int) (n m b : Int) (h : zIR xs n m) (h0 : 0 ≤ b) (h1 : b < n) : ∃ x, idx xs b = some x ∧ xs[b.toNat]? = some x ∧ 0 ≤ x ∧ x ≤ m := by
  have hl := h.1
  have hb : b.toNat < xs.length := by omega
  have hx := h.2 b.toNat hb
  unfold zLY at hx
  simp only [List.getElem?_eq_getElem hb, Bool.not_eq_false', decide_eq_true_eq] at hx
  refine ⟨xs[b.toNat], ?_, List.getElem?_eq_getElem hb, hx.1, hx.2⟩
  unfold idx
  rw [if_pos h0, List.getElem?_eq_getElem hb]
theorem zIV (t : Table) (ht : zCm t) (b : Int) (h0 : 0 ≤ b) (h1 : b < t.Boats) (k : Int) (hk : k ∈ zCG t.Points.length) :
    (∃ r, idx t.Points k = some r ∧ idx r b = some (ptK t b k) ∧ 0 ≤ ptK t b k ∧ ptK t b k ≤ 10000) ∧ (∃ r, idx t.Codes k = some r ∧ idx r b = some (cdK t b k)) := by
  obtain ⟨i, hi, rfl⟩ := (zIQ _ _).1 hk
  obtain ⟨h2, r1, r2⟩ := zSE t ht i hi
  obtain ⟨x, x1, x2, x3, x4⟩ := zPO _ _ _ b r1 h0 h1
  obtain ⟨y, y1, y2, y3, y4⟩ := zPO _ _ _ b r2 h0 h1
  have e1 : ptK t b (i : Int) = x := by simp [ptK, zPN, hi, x2]
  have e2 : cdK t b (i : Int) = y := by simp [cdK, zPN, h2, y2]
  exact ⟨⟨_, zBs _ i hi, by rw [e1]; exact x1, by omega, by omega⟩, ⟨_, zBs _ i h2, by rw [e2]; exact y1⟩⟩
def RK (t : Table) (b : Int) (x y : Int) : Prop := ptK t b y < ptK t b x ∨ (ptK t b x = ptK t b y ∧ x < y)
theorem zRU (t : Table) (b x y : Int) (h : RK t b x y) (g : RK t b y x) : False := by
  unfold RK at h g; omega
theorem zOO (key : Int → Int) : ∀ (xs : List Int), xs.Pairwise (· < ·) → (zJC (fun a b => decide (key a < key b)) xs).Pairwise fun a b => key b < key a ∨ (key b = key a ∧ b < a) := by
  have step : ∀ (ra : List Int) (x : Int), (∀ y ∈ ra, y < x) → ra.Pairwise (fun a b => key b < key a ∨ (key b = key a ∧ b < a)) → (zKd (fun a b => decide (key a < key b)) ra x).Pairwise fun a b => key b < key a ∨ (key b = key a ∧ b < a) := by
    intro ra x hlt h
    unfold zKd
    have happ := List.takeWhile_append_dropWhile (p := fun b => decide (key x < key b)) (l := ra)
    have hp : (ra.takeWhile (fun b => decide (key x < key b)) ++ ra.dropWhile (fun b => decide (key x < key b))).Pairwise (fun a b => key b < key a ∨ (key b = key a ∧ b < a)) := by rw [happ]; exact h
    obtain ⟨p1, p2, p3⟩ := List.pairwise_append.1 hp
    have t1 : ∀ a ∈ ra.takeWhile (fun b => decide (key x < key b)), key x < key a := fun a ha => by
      obtain ⟨k, hk, rfl⟩ := List.mem_iff_getElem.1 ha
      have hle := zOW (fun b => decide (key x < key b)) ra
      have := zN7 (fun b => decide (key x < key b)) ra k (by omega) hk
      have e := (zLn (fun b => decide (key x < key b)) ra).1
      have e2 : (ra.takeWhile (fun b => decide (key x < key b)))[k] = ra[k] := by
        have e3 : (ra.takeWhile (fun b => decide (key x < key b)))[k]? = ra[k]? := by rw [e, List.getElem?_take_of_lt hk]
        rw [List.getElem?_eq_getElem hk, List.getElem?_eq_getElem (by omega)] at e3
        injection e3
      rw [e2]; simpa using this
    have hdm : ∀ a ∈ ra.dropWhile (fun b => decide (key x < key b)), a ∈ ra := fun a ha => by rw [← happ]; exact List.mem_append_right _ ha
    have t2 : ∀ a ∈ ra.dropWhile (fun b => decide (key x < key b)), key a ≤ key x := fun a ha => by
      have hle := zOW (fun b => decide (key x < key b)) ra
      have e := (zLn (fun b => decide (key x < key b)) ra).2
      rw [e] at ha p2
      by_cases hlt : (ra.takeWhile (fun b => decide (key x < key b))).length < ra.length
      · have h0 := zN8 (fun b => decide (key x < key b)) ra hlt
        rw [List.drop_eq_getElem_cons hlt] at ha p2
        have h0' : key (ra[(ra.takeWhile (fun b => decide (key x < key b))).length]) ≤ key x := by simpa using h0
        rcases List.mem_cons.1 ha with rfl | ha
        · exact h0'
        · have := (List.pairwise_cons.1 p2).1 a ha
          omega
      · rw [List.drop_eq_nil_of_le (by omega)] at ha; cases ha
    refine List.pairwise_append.2 ⟨p1, List.pairwise_cons.2 ⟨fun a ha => ?_, p2⟩, fun a ha b hb => ?_⟩
    · have h1 := t2 a ha
      have h2 := hlt a (hdm a ha)
      omega
    · rcases List.mem_cons.1 hb with rfl | hb
      · exact .inl (t1 a ha)
      · exact p3 a ha b hb
  have key2 : ∀ (ys ra : List Int), (∀ y ∈ ra, ∀ z ∈ ys, y < z) → ys.Pairwise (· < ·) → ra.Pairwise (fun a b => key b < key a ∨ (key b = key a ∧ b < a)) → (ys.foldl (zKd (fun a b => decide (key a < key b))) ra).Pairwise fun a b => key b < key a ∨ (key b = key a ∧ b < a) := by
    intro ys
    induction ys with
    | nil => intro ra _ _ h; exact h
    | cons y ys ih =>
      intro ra h1 h2 h
      obtain ⟨h3, h4⟩ := List.pairwise_cons.1 h2
      refine ih _ (fun a ha z hz => ?_) h4 (step ra y (fun a ha => h1 a ha y List.mem_cons_self) h)
      rcases List.mem_cons.1 ((zMy _ ra y).mem_iff.1 ha) with rfl | ha
      · exact h3 z hz
      · exact h1 a ha z (List.mem_cons_of_mem _ hz)
  intro xs h
  exact key2 xs [] (fun y hy => by cases hy) h List.Pairwise.nil
theorem zNb (n : Nat) : (zCG n).Pairwise (· < ·) := by
  unfold zCG
  rw [List.pairwise_map]
  exact (List.pairwise_lt_range).imp (fun h => by omega)
theorem zNc (n : Nat) : (zCG n).Nodup := (zNb n).imp (fun h => by omega)
def zQu (t : Table) (b x y : Int) : Int := w64 (ptK t b y - ptK t b x)
def zJu (t : Table) (b : Int) : List Int := (zJC (fun x y => decide (zQu t b x y < 0)) (zCG t.Points.length)).reverse
theorem zLl (t : Table) (b : Int) : (zJu t b).Perm (zCG t.Points.length) := (List.reverse_perm _).trans (zLm _ _)
theorem zOP {α : Type} (lt lt' : α → α → Bool) (xs : List α) (h : ∀ a ∈ xs, ∀ b ∈ xs, lt a b = lt' a b) : zJC lt xs = zJC lt' xs := by
  have twc : ∀ (p q : α → Bool) (as : List α), (∀ a ∈ as, p a = q a) → as.takeWhile p = as.takeWhile q ∧ as.dropWhile p = as.dropWhile q := by
    intro p q as
    induction as with
    | nil => intro _; simp
    | cons a as ih =>
      intro h
      have ih := ih (fun x hx => h x (List.mem_cons_of_mem _ hx))
      simp only [List.takeWhile_cons, List.dropWhile_cons, h a List.mem_cons_self, ih.1, ih.2, and_self]
  have key : ∀ (ys ra : List α), (∀ a ∈ ys, a ∈ xs) → (∀ a ∈ ra, a ∈ xs) → ys.foldl (zKd lt) ra = ys.foldl (zKd lt') ra := by
    intro ys
    induction ys with
    | nil => intro ra _ _; rfl
    | cons y ys ih =>
      intro ra hy hr
      have e : zKd lt ra y = zKd lt' ra y := by
        have := twc (lt y) (lt' y) ra (fun b hb => h y (hy y List.mem_cons_self) b (hr b hb))
        unfold zKd; rw [this.1, this.2]
      rw [List.foldl_cons, List.foldl_cons, e]
      refine ih _ (fun a ha => hy a (List.mem_cons_of_mem _ ha)) (fun a ha => ?_)
      rcases List.mem_cons.1 ((zMy lt' ra y).mem_iff.1 ha) with rfl | ha
      · exact hy _ List.mem_cons_self
      · exact hr a ha
  exact key xs [] (fun a h => h) (fun a h => by cases h)
theorem zOQ (t : Table) (ht : zCm t) (b : Int) (h0 : 0 ≤ b) (h1 : b < t.Boats) : (zJu t b).Pairwise (RK t b) := by
  unfold zJu
  rw [List.pairwise_reverse, zOP _ (fun x y => decide (-(ptK t b x) < -(ptK t b y))) _ (fun x hx y hy => by
    obtain ⟨_, _, _, x1, x2⟩ := (zIV t ht b h0 h1 x hx).1
    obtain ⟨_, _, _, y1, y2⟩ := (zIV t ht b h0 h1 y hy).1
    unfold zQu
    rw [zBl (by omega)]
    by_cases h : ptK t b y < ptK t b x
    · rw [decide_eq_true (by omega), decide_eq_true (by omega)]
    · rw [decide_eq_false (by omega), decide_eq_false (by omega)])]
  refine (zOO (fun k => -(ptK t b k)) _ (zNb _)).imp (fun {x y} h => ?_)
  unfold RK
  omega
def ndK (t : Table) (b : Int) (k : Int) : Bool := cdK t b k != 7
def ndL (t : Table) (b : Int) : List Int := (zJu t b).filter (ndK t b)
theorem zPP (t : Table) (b k : Int) : k ∈ ndL t b ↔ k ∈ zCG t.Points.length ∧ ndK t b k = true := by
  unfold ndL; rw [List.mem_filter, (zLl t b).mem_iff]
theorem zNG (t : Table) (b : Int) : (ndL t b).Nodup := ((zLl t b).nodup_iff.2 (zNc _)).sublist List.filter_sublist
theorem zPn (t : Table) (ht : zCm t) (b : Int) (h0 : 0 ≤ b) (h1 : b < t.Boats) : (ndL t b).Pairwise (RK t b) := (zOQ t ht b h0 h1).filter _
def zPo (rule : List Int) (n : Int) : Nat := rule.countP fun x => decide (x ≤ n)
theorem zPQ (rule : List Int) (n : Int) (h : rule.length ≤ 1048576) : zFo rule n = some ((zPo rule n : Nat) : Int) := by
  have hl : zAO (zDC rule n) (0, 0) = some (.nxt (((zPo rule n : Nat) : Int), (rule.length : Int))) := by
    refine zBy rule.length (by omega) (fun i => ((((rule.take i).countP fun x => decide (x ≤ n) : Nat) : Int), (i : Int))) _ (by simp) (fun i hi => ?_) ?_
    · have h2 : ((i : Int) < (rule.length : Int)) := by omega
      have hP : (rule.take (i + 1)).countP (fun x => decide (x ≤ n)) = (rule.take i).countP (fun x => decide (x ≤ n)) + if decide (rule[i] ≤ n) = true then 1 else 0 := zJS _ rule i hi
      have lP := zLW (fun x => decide (x ≤ n)) rule i
      have e : w64 ((((rule.take i).countP fun x => decide (x ≤ n) : Nat) : Int) + 1) = (((rule.take i).countP (fun x => decide (x ≤ n)) + 1 : Nat) : Int) := by rw [zBl (by omega)]; omega
      simp only [zDC, zF0, zEG, h2, decide_true, zAy, zBs _ i hi, zAr, zBB hi (by omega), hP, e]
      by_cases hd : rule[i] ≤ n <;> simp [hd]
    · simp [zDC, zPo]
  rw [zFo, hl]; rfl
def dsK (t : Table) (rule : List Int) (b : Int) : List Int := (ndL t b).take (zPo rule (t.Points.length : Int))
def inD (t : Table) (D : List Int) : List Int := (zCG t.Points.length).filter fun k => decide (k ∈ D)
theorem zSF (t : Table) (b : Int) (m : Nat) : zMi ((ndL t b).take m) = inD t ((ndL t b).take m) := by
  have hn : ((ndL t b).take m).Nodup := (zNG t b).sublist (List.take_sublist _ _)
  have hs : (zMi ((ndL t b).take m)).Pairwise (· ≤ ·) := by
    unfold zMi
    rw [List.pairwise_reverse]
    have key : ∀ (ys ra : List Int), ra.Pairwise (fun a b => b ≤ a) → (ys.foldl (zKd fun a b => decide (a < b)) ra).Pairwise fun a b : Int => b ≤ a := by
      intro ys
      induction ys with
      | nil => intro ra h; exact h
      | cons y ys ih =>
        intro ra h
        refine ih _ ?_
        unfold zKd
        have happ := List.takeWhile_append_dropWhile (p := fun b => decide (y < b)) (l := ra)
        have hp : (ra.takeWhile (fun b => decide (y < b)) ++ ra.dropWhile (fun b => decide (y < b))).Pairwise (fun a b => b ≤ a) := by rw [happ]; exact h
        obtain ⟨p1, p2, p3⟩ := List.pairwise_append.1 hp
        have t1 : ∀ a ∈ ra.takeWhile (fun b => decide (y < b)), y < a := fun a ha => by
          obtain ⟨k, hk, rfl⟩ := List.mem_iff_getElem.1 ha
          have hle := zOW (fun b => decide (y < b)) ra
          have := zN7 (fun b => decide (y < b)) ra k (by omega) hk
          have e := (zLn (fun b => decide (y < b)) ra).1
          have e2 : (ra.takeWhile (fun b => decide (y < b)))[k] = ra[k] := by
            have e3 : (ra.takeWhile (fun b => decide (y < b)))[k]? = ra[k]? := by rw [e, List.getElem?_take_of_lt hk]
            rw [List.getElem?_eq_getElem hk, List.getElem?_eq_getElem (by omega)] at e3
            injection e3
          rw [e2]; simpa using this
        have t2 : ∀ a ∈ ra.dropWhile (fun b => decide (y < b)), a ≤ y := fun a ha => by
          have hle := zOW (fun b => decide (y < b)) ra
          have e := (zLn (fun b => decide (y < b)) ra).2
          rw [e] at ha p2
          by_cases hlt : (ra.takeWhile (fun b => decide (y < b))).length < ra.length
          · have h0 := zN8 (fun b => decide (y < b)) ra hlt
            rw [List.drop_eq_getElem_cons hlt] at ha p2
            have h0' : (ra[(ra.takeWhile (fun b => decide (y < b))).length]) ≤ y := by simpa using h0
            rcases List.mem_cons.1 ha with rfl | ha
            · exact h0'
            · have := (List.pairwise_cons.1 p2).1 a ha; omega
          · rw [List.drop_eq_nil_of_le (by omega)] at ha; cases ha
        refine List.pairwise_append.2 ⟨p1, List.pairwise_cons.2 ⟨t2, p2⟩, fun a ha b hb => ?_⟩
        rcases List.mem_cons.1 hb with rfl | hb
        · have := t1 a ha; omega
        · exact p3 a ha b hb
    exact key _ [] List.Pairwise.nil
  have hd : (inD t ((ndL t b).take m)).Pairwise (· ≤ ·) := ((zNb _).filter _).imp (fun h => by omega)
  refine List.Perm.eq_of_pairwise (fun a b _ _ h1 h2 => by omega) hs hd ?_
  refine (zLk _).trans ((List.perm_ext_iff_of_nodup hn ((zNc _).sublist List.filter_sublist)).2 fun a => ?_)
  rw [List.mem_filter, decide_eq_true_eq]
  constructor
  · intro h; exact ⟨((zPP t b a).1 (List.mem_of_mem_take h)).1, h⟩
  · intro h; exact h.2
end Go.Proofs.YtmmkkcmliofknaaGreatDoor
