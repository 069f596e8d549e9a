/- Pure laws: the standing, the lead. -/
import Derived.Test.YtpobaajdhfoomaaPureCB2
namespace Go.Proofs.Ytpobaajdhfoomaa
open Go
set_option linter.unusedVariables false
set_option linter.unusedSimpArgs false
set_option linter.unusedSectionVars false
theorem srtI_sorted (xs : List Int) : (srtI xs).Pairwise (· ≤ ·) := by
  unfold srtI
  rw [List.pairwise_reverse]
  have key : ∀ (ys ra : List Int), ra.Pairwise (fun a b => b ≤ a) → (ys.foldl (insB fun a b => decide (a < b)) ra).Pairwise fun a b : Int => b ≤ a := by
    intro ys
    induction ys with
    | nil => intro ra h; exact h
    | cons y ys ih =>
      intro ra h
      refine ih _ ?_
      unfold insB
      have happ := List.takeWhile_append_dropWhile (p := fun b => decide (y < b)) (l := ra)
      have hp : (ra.takeWhile (fun b => decide (y < b)) ++ ra.dropWhile (fun b => decide (y < b))).Pairwise (fun a b => b ≤ a) := by rw [happ]; exact h
      obtain ⟨p1, p2, p3⟩ := List.pairwise_append.1 hp
      have t1 : ∀ a ∈ ra.takeWhile (fun b => decide (y < b)), y < a := fun a ha => by
        obtain ⟨k, hk, rfl⟩ := List.mem_iff_getElem.1 ha
        have hle := tw_le (fun b => decide (y < b)) ra
        have := tw_get (fun b => decide (y < b)) ra k (by omega) hk
        have e := (tw_take (fun b => decide (y < b)) ra).1
        have e2 : (ra.takeWhile (fun b => decide (y < b)))[k] = ra[k] := by
          have e3 : (ra.takeWhile (fun b => decide (y < b)))[k]? = ra[k]? := by rw [e, List.getElem?_take_of_lt hk]
          rw [List.getElem?_eq_getElem hk, List.getElem?_eq_getElem (by omega)] at e3
          injection e3
        rw [e2]; simpa using this
      have t2 : ∀ a ∈ ra.dropWhile (fun b => decide (y < b)), a ≤ y := fun a ha => by
        have hle := tw_le (fun b => decide (y < b)) ra
        have e := (tw_take (fun b => decide (y < b)) ra).2
        rw [e] at ha p2
        by_cases hlt : (ra.takeWhile (fun b => decide (y < b))).length < ra.length
        · have h0 := tw_end (fun b => decide (y < b)) ra hlt
          rw [List.drop_eq_getElem_cons hlt] at ha p2
          have h0' : (ra[(ra.takeWhile (fun b => decide (y < b))).length]) ≤ y := by simpa using h0
          rcases List.mem_cons.1 ha with rfl | ha
          · exact h0'
          · have := (List.pairwise_cons.1 p2).1 a ha; omega
        · rw [List.drop_eq_nil_of_le (by omega)] at ha; cases ha
      refine List.pairwise_append.2 ⟨p1, List.pairwise_cons.2 ⟨t2, p2⟩, fun a ha b hb => ?_⟩
      rcases List.mem_cons.1 hb with rfl | hb
      · have := t1 a ha; omega
      · exact p3 a ha b hb
  exact key _ [] List.Pairwise.nil
def lexS : List Int → List Int → Int
  | a :: x, b :: y => if a = b then lexS x y else sg a b
  | _, _ => 0
theorem sg_anti (a b : Int) : sg a b = - sg b a := by unfold sg; split <;> split <;> omega
theorem sg_lt (a b : Int) : sg a b < 0 ↔ a < b := by unfold sg; split <;> (try split) <;> omega
theorem lexS_anti : ∀ (x y : List Int), lexS x y = - lexS y x
  | [], [] => rfl
  | [], _ :: _ => rfl
  | _ :: _, [] => rfl
  | a :: x, b :: y => by
    unfold lexS
    by_cases h : a = b
    · rw [if_pos h, if_pos h.symm]; exact lexS_anti x y
    · rw [if_neg h, if_neg (fun e => h e.symm)]; exact sg_anti a b
theorem lexS_trans : ∀ (x y z : List Int), lexS x y < 0 → lexS y z < 0 → lexS x z < 0
  | [], _, _, h, _ => by simp [lexS] at h
  | _ :: _, [], _, h, _ => by simp [lexS] at h
  | _ :: _, _ :: _, [], _, h => by simp [lexS] at h
  | a :: x, b :: y, c :: z, h1, h2 => by
    unfold lexS at h1 h2 ⊢
    by_cases e1 : a = b
    · by_cases e2 : b = c
      · rw [if_pos e1] at h1
        rw [if_pos e2] at h2
        rw [if_pos (e1.trans e2)]
        exact lexS_trans x y z h1 h2
      · rw [if_neg e2, sg_lt] at h2
        rw [if_neg (by omega), sg_lt]; omega
    · rw [if_neg e1, sg_lt] at h1
      by_cases e2 : b = c
      · rw [if_neg (by omega), sg_lt]; omega
      · rw [if_neg e2, sg_lt] at h2
        rw [if_neg (by omega), sg_lt]; omega
theorem lexS_app (u v : List Int) : ∀ s : List Int, lexS (s ++ u) (s ++ v) = lexS u v
  | [] => rfl
  | a :: s => by
    show (if a = a then lexS (s ++ u) (s ++ v) else sg a a) = _
    rw [if_pos rfl]; exact lexS_app u v s
theorem lexS_at : ∀ (i : Nat) (x y : List Int) (a b : Int), x[i]? = some a → y[i]? = some b → (∀ j, j < i → x[j]? = y[j]?) → a ≠ b → lexS x y = sg a b
  | 0, p :: x, q :: y, a, b, hx, hy, _, hne => by
    simp at hx hy
    subst hx hy
    unfold lexS
    rw [if_neg hne]
  | 0, [], _, _, _, hx, _, _, _ => by simp at hx
  | 0, _ :: _, [], _, _, _, hy, _, _ => by simp at hy
  | i + 1, [], _, _, _, hx, _, _, _ => by simp at hx
  | i + 1, _ :: _, [], _, _, _, hy, _, _ => by simp at hy
  | i + 1, p :: x, q :: y, a, b, hx, hy, hj, hne => by
    have h0 := hj 0 (by omega)
    simp at h0 hx hy
    unfold lexS
    rw [if_pos h0]
    exact lexS_at i x y a b hx hy (fun j hji => by have := hj (j + 1) (by omega); simpa using this) hne
theorem lexS_self : ∀ x : List Int, lexS x x = 0
  | [] => rfl
  | a :: x => by unfold lexS; rw [if_pos rfl]; exact lexS_self x
theorem lexS_eq : ∀ (x y : List Int), x.length = y.length → lexS x y = 0 → x = y
  | [], [], _, _ => rfl
  | [], _ :: _, h, _ => by simp at h
  | _ :: _, [], h, _ => by simp at h
  | a :: x, b :: y, h, hz => by
    unfold lexS at hz
    by_cases e : a = b
    · rw [if_pos e] at hz
      rw [e, lexS_eq x y (by simpa using h) hz]
    · rw [if_neg e] at hz
      unfold sg at hz
      split at hz
      · omega
      · split at hz <;> omega
def rvP (t : Table) (b : Int) : List Int := (List.range t.Points.length).map fun j => ptK t b ((t.Points.length - 1 - j : Nat) : Int)
def kyB (t : Table) (rule : List Int) (b : Int) : List Int := ntK t rule b :: (if ntK t rule b = 0 then [] else stK t rule b) ++ rvP t b
theorem rvP_get (t : Table) (b : Int) (j : Nat) (h : j < t.Points.length) : (rvP t b)[j]? = some (ptK t b ((t.Points.length - 1 - j : Nat) : Int)) := by simp [rvP, h]
theorem lst_lex (t : Table) (a b : Int) : (lstB t a b).1 = lexS (rvP t a) (rvP t b) := by
  unfold lstB
  cases h : dfL t a b with
  | some j =>
    unfold dfL at h
    rw [List.find?_range_eq_some] at h
    obtain ⟨h1, h2, h3⟩ := h
    have hj : j < t.Points.length := by simpa using h2
    refine (lexS_at j _ _ _ _ (rvP_get t a j hj) (rvP_get t b j hj) (fun i hi => ?_) (by simpa using h1)).symm
    have := h3 i hi
    rw [rvP_get t a i (by omega), rvP_get t b i (by omega)]
    simpa using this
  | none =>
    unfold dfL at h
    rw [List.find?_range_eq_none] at h
    have e : rvP t a = rvP t b := by
      apply List.ext_getElem?
      intro i
      by_cases hi : i < t.Points.length
      · have := h i hi
        rw [rvP_get t a i hi, rvP_get t b i hi]
        simpa using this
      · rw [List.getElem?_eq_none (by simp [rvP]; omega), List.getElem?_eq_none (by simp [rvP]; omega)]
    rw [e, lexS_self]
theorem sum_zero : ∀ (xs : List Int), (∀ x ∈ xs, 0 ≤ x) → xs.sum = 0 → ∀ x ∈ xs, x = 0
  | [], _, _, x, hx => by cases hx
  | y :: ys, h, hs, x, hx => by
    have h1 := h y List.mem_cons_self
    have h2 : 0 ≤ ys.sum := by
      clear hs hx h1
      have hn : ∀ z ∈ ys, 0 ≤ z := fun z hz => h z (List.mem_cons_of_mem _ hz)
      clear h
      induction ys with
      | nil => simp
      | cons z zs ih =>
        have := hn z List.mem_cons_self
        have := ih (fun q hq => hn q (List.mem_cons_of_mem _ hq))
        simp only [List.sum_cons]; omega
    simp only [List.sum_cons] at hs
    rcases List.mem_cons.1 hx with rfl | hx
    · omega
    · exact sum_zero ys (fun z hz => h z (List.mem_cons_of_mem _ hz)) (by omega) x hx
theorem same_len (x y : List Int) (hy : Bd 10000 y) (sy : y.Pairwise (· ≤ ·)) (hs : x.sum = y.sum) (hz : y.sum ≠ 0) (ha : ∀ j, j < min x.length y.length → x[j]? = y[j]?) (hl : x.length ≤ y.length) : x.length = y.length := by
  refine Decidable.byContradiction fun hne => ?_
  have hlt : x.length < y.length := by omega
  have e1 : y.take x.length = x := by
    apply List.ext_getElem?
    intro j
    by_cases hj : j < x.length
    · rw [List.getElem?_take_of_lt hj]; exact (ha j (by omega)).symm
    · rw [List.getElem?_eq_none (by simp; omega), List.getElem?_eq_none (by omega)]
  have e2 := List.take_append_drop x.length y
  rw [e1] at e2
  have e3 : x.sum + (y.drop x.length).sum = y.sum := by rw [← sum_app, e2]
  have hd : ∀ z ∈ y.drop x.length, z = 0 := sum_zero _ (fun z hz => (hy z (List.mem_of_mem_drop hz)).1) (by omega)
  have h0 : (y[x.length]) = 0 := hd _ (by rw [List.drop_eq_getElem_cons hlt]; exact List.mem_cons_self)
  have hall : ∀ z ∈ y, z = 0 := fun z hz => by
    obtain ⟨j, hj, rfl⟩ := List.mem_iff_getElem.1 hz
    have b1 := (hy y[j] (List.getElem_mem hj)).1
    by_cases hjx : j < x.length
    · have := List.pairwise_iff_getElem.1 sy j x.length hj hlt hjx
      omega
    · refine hd _ ?_
      refine List.mem_iff_getElem.2 ⟨j - x.length, by simp; omega, ?_⟩
      rw [List.getElem_drop]
      congr 1
      omega
  have : y.sum = 0 := by
    clear hy sy hs hz ha hl hne hlt e1 e2 e3 hd h0
    induction y with
    | nil => rfl
    | cons z zs ih =>
      have := hall z List.mem_cons_self
      have := ih (fun q hq => hall q (List.mem_cons_of_mem _ hq))
      simp only [List.sum_cons]; omega
  exact hz this
theorem agree (x y : List Int) (h : dfF x y = none) : ∀ j, j < min x.length y.length → x[j]? = y[j]? := fun j hj => by
  unfold dfF at h
  rw [List.find?_range_eq_none] at h
  have := h j hj
  rw [List.getElem?_eq_getElem (by omega), List.getElem?_eq_getElem (by omega)]
  have e1 := getD_lt x j (by omega)
  have e2 := getD_lt y j (by omega)
  rw [e1, e2] at this
  simpa using this
theorem agree_eq (t : Table) (rule : List Int) (a b : Int) (ht : IsTable t) (a0 : 0 ≤ a) (a1 : a < t.Boats) (b0 : 0 ≤ b) (b1 : b < t.Boats) (hn : ntK t rule a = ntK t rule b) (hz : ntK t rule b ≠ 0) (h : dfF (stK t rule a) (stK t rule b) = none) : stK t rule a = stK t rule b := by
  have ag := agree _ _ h
  have sa := stK_sum t rule a ht a0 a1
  have sb := stK_sum t rule b ht b0 b1
  have hl : (stK t rule a).length = (stK t rule b).length := by
    by_cases hle : (stK t rule a).length ≤ (stK t rule b).length
    · exact same_len _ _ (stK_bd t rule b ht b0 b1) (srtI_sorted _) (by omega) (by omega) ag hle
    · exact (same_len _ _ (stK_bd t rule a ht a0 a1) (srtI_sorted _) (by omega) (by omega) (fun j hj => (ag j (by omega)).symm) (by omega)).symm
  apply List.ext_getElem?
  intro j
  by_cases hj : j < (stK t rule a).length
  · exact ag j (by omega)
  · rw [List.getElem?_eq_none (by omega), List.getElem?_eq_none (by omega)]
theorem cmp_lex (t : Table) (rule : List Int) (a b : Int) (ht : IsTable t) (a0 : 0 ≤ a) (a1 : a < t.Boats) (b0 : 0 ≤ b) (b1 : b < t.Boats) : (cmpB t rule a b).1 = lexS (kyB t rule a) (kyB t rule b) := by
  unfold cmpB kyB
  by_cases hn : ntK t rule a = ntK t rule b
  · rw [if_neg (by simpa using hn), hn]
    show _ = if ntK t rule b = ntK t rule b then lexS ((if ntK t rule b = 0 then [] else stK t rule a) ++ rvP t a) ((if ntK t rule b = 0 then [] else stK t rule b) ++ rvP t b) else sg (ntK t rule b) (ntK t rule b)
    rw [if_pos rfl]
    have sa := stK_sum t rule a ht a0 a1
    have sb := stK_sum t rule b ht b0 b1
    by_cases hz : ntK t rule b = 0
    · simp only [hz, if_true, List.nil_append]
      have za := sum_zero (stK t rule a) (fun x hx => (stK_bd t rule a ht a0 a1 x hx).1) (by omega)
      have zb := sum_zero (stK t rule b) (fun x hx => (stK_bd t rule b ht b0 b1 x hx).1) (by omega)
      have hd : dfF (stK t rule a) (stK t rule b) = none := by
        unfold dfF
        rw [List.find?_range_eq_none]
        intro j hj
        have ja : j < (stK t rule a).length := by omega
        have jb : j < (stK t rule b).length := by omega
        rw [getD_lt _ j ja, getD_lt _ j jb, za _ (List.getElem_mem ja), zb _ (List.getElem_mem jb)]
        simp
      rw [hd]
      exact lst_lex t a b
    · rw [if_neg hz, if_neg hz]
      cases h : dfF (stK t rule a) (stK t rule b) with
      | some i =>
        have h' := h
        unfold dfF at h'
        rw [List.find?_range_eq_some] at h'
        obtain ⟨h1, h2, h3⟩ := h'
        have hi : i < min (stK t rule a).length (stK t rule b).length := by simpa using h2
        have ia : i < (stK t rule a).length := by omega
        have ib : i < (stK t rule b).length := by omega
        have e1 := getD_lt (stK t rule a) i ia
        have e2 := getD_lt (stK t rule b) i ib
        rw [e1, e2] at h1
        simp only [e1, e2]
        refine (lexS_at i _ _ _ _ ?_ ?_ (fun j hj => ?_) (by simpa using h1)).symm
        · rw [List.getElem?_append_left ia, List.getElem?_eq_getElem ia]
        · rw [List.getElem?_append_left ib, List.getElem?_eq_getElem ib]
        · rw [List.getElem?_append_left (by omega), List.getElem?_append_left (by omega), List.getElem?_eq_getElem (by omega), List.getElem?_eq_getElem (by omega)]
          have := h3 j hj
          rw [getD_lt _ j (by omega), getD_lt _ j (by omega)] at this
          simpa using this
      | none =>
        rw [agree_eq t rule a b ht a0 a1 b0 b1 hn hz h, lexS_app]
        exact lst_lex t a b
  · rw [if_pos (by simpa using hn)]
    show _ = if ntK t rule a = ntK t rule b then _ else sg (ntK t rule a) (ntK t rule b)
    rw [if_neg hn]
theorem ky_len (t : Table) (rule : List Int) (a b : Int) (ht : IsTable t) (a0 : 0 ≤ a) (a1 : a < t.Boats) (b0 : 0 ≤ b) (b1 : b < t.Boats) (h : (cmpB t rule a b).1 = 0) : kyB t rule a = kyB t rule b := by
  have hz := h
  rw [cmp_lex t rule a b ht a0 a1 b0 b1] at hz
  have hn : ntK t rule a = ntK t rule b := by
    refine Decidable.byContradiction fun hn => ?_
    unfold cmpB at h
    rw [if_pos hn] at h
    unfold sg at h
    split at h
    · omega
    · split at h <;> omega
  have hlen : (rvP t a).length = (rvP t b).length := by simp [rvP]
  by_cases h0 : ntK t rule b = 0
  · refine lexS_eq _ _ ?_ hz
    unfold kyB
    rw [hn, if_pos h0, if_pos h0]
    simp [hlen]
  · cases hd : dfF (stK t rule a) (stK t rule b) with
    | some i =>
      exfalso
      have h' := hd
      unfold dfF at h'
      rw [List.find?_range_eq_some] at h'
      have h1 := h'.1
      unfold cmpB at h
      rw [if_neg (by simpa using hn), hd] at h
      simp only at h
      have h1' : (stK t rule a).getD i 0 ≠ (stK t rule b).getD i 0 := by simpa using h1
      unfold sg at h
      split at h
      · omega
      · split at h <;> omega
    | none =>
      have es := agree_eq t rule a b ht a0 a1 b0 b1 hn h0 hd
      refine lexS_eq _ _ ?_ hz
      unfold kyB
      rw [hn, es]
      simp [hlen]
theorem countP_lt {α : Type} (p q : α → Bool) (a : α) : ∀ (xs : List α), (∀ x ∈ xs, p x = true → q x = true) → a ∈ xs → p a = false → q a = true → xs.countP p < xs.countP q
  | [], _, ha, _, _ => by cases ha
  | x :: xs, h, ha, h1, h2 => by
    have hx := h x List.mem_cons_self
    have hr : xs.countP p ≤ xs.countP q := List.countP_mono_left (fun y hy => h y (List.mem_cons_of_mem _ hy))
    rw [List.countP_cons, List.countP_cons]
    rcases List.mem_cons.1 ha with rfl | ha
    · simp only [h1, h2, if_true]
      simp; omega
    · have := countP_lt p q a xs (fun y hy => h y (List.mem_cons_of_mem _ hy)) ha h1 h2
      cases hp : p x with
      | true => simp [hx hp]; exact this
      | false => cases q x <;> simp <;> omega
section
variable (t : Table) (rule : List Int) (ht : IsTable t)
include ht
theorem inB (a : Int) (h : a ∈ idxs t.Boats.toNat) : 0 ≤ a ∧ a < t.Boats := by
  obtain ⟨i, hi, rfl⟩ := (idxs_mem _ _).1 h
  omega
theorem rk_of_lt (a b : Int) (ha : a ∈ idxs t.Boats.toNat) (hb : b ∈ idxs t.Boats.toNat) (h : (cmpB t rule a b).1 < 0) : rkB t rule a < rkB t rule b := by
  obtain ⟨a0, a1⟩ := inB t ht a ha
  obtain ⟨b0, b1⟩ := inB t ht b hb
  have := countP_lt (betB t rule a) (betB t rule b) a (idxs t.Boats.toNat) (fun k hk hka => by
    obtain ⟨k0, k1⟩ := inB t ht k hk
    unfold betB at hka ⊢
    simp only [decide_eq_true_eq] at hka ⊢
    rw [cmp_lex t rule _ _ ht k0 k1 a0 a1] at hka
    rw [cmp_lex t rule _ _ ht a0 a1 b0 b1] at h
    rw [cmp_lex t rule _ _ ht k0 k1 b0 b1]
    exact lexS_trans _ _ _ hka h) ha (by unfold betB; rw [cmp_lex t rule _ _ ht a0 a1 a0 a1, lexS_self]; rfl) (by unfold betB; simpa using h)
  unfold rkB; omega
theorem rk_of_eq (a b : Int) (ha : a ∈ idxs t.Boats.toNat) (hb : b ∈ idxs t.Boats.toNat) (h : (cmpB t rule a b).1 = 0) : rkB t rule a = rkB t rule b := by
  obtain ⟨a0, a1⟩ := inB t ht a ha
  obtain ⟨b0, b1⟩ := inB t ht b hb
  have e := ky_len t rule a b ht a0 a1 b0 b1 h
  have hc : (idxs t.Boats.toNat).countP (betB t rule a) = (idxs t.Boats.toNat).countP (betB t rule b) := List.countP_congr fun k hk => by
    obtain ⟨k0, k1⟩ := inB t ht k hk
    unfold betB
    rw [cmp_lex t rule _ _ ht k0 k1 a0 a1, cmp_lex t rule _ _ ht k0 k1 b0 b1, e]
  unfold rkB; rw [hc]
theorem cmp_anti (a b : Int) (ha : a ∈ idxs t.Boats.toNat) (hb : b ∈ idxs t.Boats.toNat) : (cmpB t rule a b).1 = - (cmpB t rule b a).1 := by
  obtain ⟨a0, a1⟩ := inB t ht a ha
  obtain ⟨b0, b1⟩ := inB t ht b hb
  rw [cmp_lex t rule _ _ ht a0 a1 b0 b1, cmp_lex t rule _ _ ht b0 b1 a0 a1]
  exact lexS_anti _ _
theorem cmp_rk (a b : Int) (ha : a ∈ idxs t.Boats.toNat) (hb : b ∈ idxs t.Boats.toNat) : decide ((cmpB t rule a b).1 < 0) = decide (rkB t rule a < rkB t rule b) := by
  apply decide_eq_decide.2
  constructor
  · exact rk_of_lt t rule ht a b ha hb
  · intro h
    refine Decidable.byContradiction fun hn => ?_
    have h2 := cmp_anti t rule ht a b ha hb
    by_cases h0 : (cmpB t rule a b).1 = 0
    · have := rk_of_eq t rule ht a b ha hb h0; omega
    · have := rk_of_lt t rule ht b a hb ha (by omega); omega
theorem rk_le (a : Int) (ha : a ∈ idxs t.Boats.toNat) : 1 ≤ rkB t rule a ∧ rkB t rule a ≤ t.Boats := by
  obtain ⟨a0, a1⟩ := inB t ht a ha
  have := countP_lt (betB t rule a) (fun _ => true) a (idxs t.Boats.toNat) (fun _ _ _ => rfl) ha (by unfold betB; rw [cmp_lex t rule _ _ ht a0 a1 a0 a1, lexS_self]; rfl) rfl
  have h2 : (idxs t.Boats.toNat).countP (fun _ => true) = t.Boats.toNat := by rw [List.countP_true, idxs_len]
  unfold rkB; omega
end
def RS (t : Table) (rule : List Int) (a b : Int) : Prop := rkB t rule a < rkB t rule b ∨ (rkB t rule a = rkB t rule b ∧ a < b)
def sdB (t : Table) (rule : List Int) : Nat → List Int
  | 0 => []
  | m + 1 => sdB t rule m ++ (idxs t.Boats.toNat).filter fun k => decide (rkB t rule k = ((m + 1 : Nat) : Int))
theorem sdB_mem (t : Table) (rule : List Int) (a : Int) : ∀ m, a ∈ sdB t rule m ↔ a ∈ idxs t.Boats.toNat ∧ 1 ≤ rkB t rule a ∧ rkB t rule a ≤ (m : Int)
  | 0 => by
    unfold sdB
    constructor
    · intro h; cases h
    · intro h; omega
  | m + 1 => by
    unfold sdB
    rw [List.mem_append, sdB_mem t rule a m, List.mem_filter]
    simp only [decide_eq_true_eq]
    constructor
    · rintro (h | h)
      · exact ⟨h.1, h.2.1, by omega⟩
      · exact ⟨h.1, by omega, by omega⟩
    · rintro ⟨h1, h2, h3⟩
      by_cases h : rkB t rule a ≤ (m : Int)
      · exact .inl ⟨h1, h2, h⟩
      · exact .inr ⟨h1, by omega⟩
theorem sdB_sorted (t : Table) (rule : List Int) : ∀ m, (sdB t rule m).Pairwise (RS t rule)
  | 0 => List.Pairwise.nil
  | m + 1 => by
    unfold sdB
    refine List.pairwise_append.2 ⟨sdB_sorted t rule m, ?_, fun a ha b hb => ?_⟩
    · have h1 := (idxs_asc t.Boats.toNat).filter (fun k => decide (rkB t rule k = ((m + 1 : Nat) : Int)))
      refine h1.imp_of_mem fun {a b} ha hb hab => ?_
      have ea := (List.mem_filter.1 ha).2
      have eb := (List.mem_filter.1 hb).2
      simp only [decide_eq_true_eq] at ea eb
      exact .inr ⟨by omega, hab⟩
    · have h1 := (sdB_mem t rule a m).1 ha
      have h2 := (List.mem_filter.1 hb).2
      simp only [decide_eq_true_eq] at h2
      exact .inl (by omega)
theorem sd_all (t : Table) (rule : List Int) (ht : IsTable t) : (srtB (fun a b => decide ((cmpB t rule a b).1 < 0)) (idxs t.Boats.toNat)).reverse = sdB t rule t.Boats.toNat := by
  have hb := ht.1
  rw [srtB_congr' _ (fun a b => decide (rkB t rule a < rkB t rule b)) _ (fun a ha b hb => cmp_rk t rule ht a b ha hb)]
  have hs := srtB_stable (rkB t rule) (idxs t.Boats.toNat) (idxs_asc _)
  have hp : (srtB (fun a b => decide (rkB t rule a < rkB t rule b)) (idxs t.Boats.toNat)).reverse.Pairwise (RS t rule) := by
    rw [List.pairwise_reverse]
    exact hs
  have hd : (sdB t rule t.Boats.toNat).Pairwise (RS t rule) := sdB_sorted t rule _
  refine List.Perm.eq_of_pairwise (fun a b _ _ h1 h2 => ?_) hp hd ?_
  · unfold RS at h1 h2; omega
  · refine ((List.reverse_perm _).trans (srtB_perm _ _)).trans ?_
    refine (List.perm_ext_iff_of_nodup (idxs_nodup _) (hd.imp fun {a b} h e => by subst e; unfold RS at h; omega)).2 fun a => ?_
    rw [sdB_mem]
    constructor
    · intro h
      have := rk_le t rule ht a h
      exact ⟨h, this.1, by omega⟩
    · exact fun h => h.1
theorem sdB_len (t : Table) (rule : List Int) (ht : IsTable t) : (sdB t rule t.Boats.toNat).length = t.Boats.toNat := by
  rw [← sd_all t rule ht, List.length_reverse, srtB_len, idxs_len]
theorem p_implStanding (t : Table) (rule : List Int) (ht : IsTable t) (hr : rule.length ≤ 3) : M.impl_standingOf t rule = some (sdB t rule t.Boats.toNat) := by
  have hb := ht.1
  have h := p_sortedIndices t.Boats.toNat (by omega) (fun y0 y1 => M.impl_standingOf_1 y0 y1 t rule) (fun a b => (cmpB t rule a b).1) (fun a ha b hb => by
    obtain ⟨a0, a1⟩ := inB t ht a ha
    obtain ⟨b0, b1⟩ := inB t ht b hb
    simp only [M.impl_standingOf_1, (p_compare t rule a b ht a0 a1 b0 b1 hr).1, bnd_some])
  have e : ((t.Boats.toNat : Nat) : Int) = t.Boats := by omega
  rw [e] at h
  rw [M.impl_standingOf, h, bnd_some, sd_all t rule ht]
theorem sdB_le (t : Table) (rule : List Int) : ∀ m, (sdB t rule m).length ≤ m * t.Boats.toNat
  | 0 => by simp [sdB]
  | m + 1 => by
    have := sdB_le t rule m
    have h2 : ((idxs t.Boats.toNat).filter fun k => decide (rkB t rule k = ((m + 1 : Nat) : Int))).length ≤ t.Boats.toNat := Nat.le_trans (List.length_filter_le _ _) (by rw [idxs_len]; exact Nat.le_refl _)
    unfold sdB
    rw [List.length_append, Nat.succ_mul]
    omega
theorem p_specStanding (t : Table) (rule : List Int) (ht : IsTable t) (hr : rule.length ≤ 3) : M.spec_l28Standing t rule = some (sdB t rule t.Boats.toNat) := by
  have hb := ht.1
  have hl : loopF (M.spec_l28Standing_l1 t rule) (([] : List Int), 1) = some (.nxt (sdB t rule t.Boats.toNat, ((t.Boats.toNat + 1 : Nat) : Int))) := by
    refine loop_run t.Boats.toNat (by omega) (fun i => (sdB t rule i, ((i + 1 : Nat) : Int))) _ rfl (fun i hi => ?_) ?_
    · have e1 : (((i + 1 : Nat) : Int) ≤ t.Boats) := by omega
      have hle := sdB_le t rule i
      have hm : i * t.Boats.toNat ≤ 16 * 16 := Nat.mul_le_mul (by omega) (by omega)
      have h2 : loopF (M.spec_l28Standing_l2 t rule (sdB t rule i, ((i + 1 : Nat) : Int))) (sdB t rule i, 0) = some (.nxt (sdB t rule (i + 1), (t.Boats.toNat : Int))) := by
        refine loop_run t.Boats.toNat (by omega) (fun j => (sdB t rule i ++ (idxs j).filter (fun k => decide (rkB t rule k = ((i + 1 : Nat) : Int))), (j : Int))) _ (by simp [idxs]) (fun j hj => ?_) ?_
        · have e2 : ((j : Int) < t.Boats) := by omega
          have hf := filt_len (fun k => decide (rkB t rule k = ((i + 1 : Nat) : Int))) j
          have hf2 : (sdB t rule i ++ (idxs j).filter (fun k => decide (rkB t rule k = ((i + 1 : Nat) : Int)))).length + 1 < 1099511627776 := by rw [List.length_append]; omega
          simp only [M.spec_l28Standing_l2, M.spec_l28Standing_j2, M.spec_l28Standing_j1, e2, decide_true, ifB_true, p_specRank t rule (j : Int) ht (by omega) e2 hr, bnd_some, List.length_singleton, chk_pos hf2, step64 hj (by omega), filt_succ]
          by_cases h : rkB t rule (j : Int) = ((i + 1 : Nat) : Int)
          · have h3 : (rkB t rule (j : Int) == ((i + 1 : Nat) : Int)) = true := by simpa using h
            simp only [h3, ifB_true]
            simp only [h, decide_true, if_true, List.append_assoc]
          · have h3 : (rkB t rule (j : Int) == ((i + 1 : Nat) : Int)) = false := by simpa using h
            simp only [h3, ifB_false]
            simp only [h, decide_false, Bool.false_eq_true, if_false, List.append_nil]
        · have e2 : ¬ ((t.Boats.toNat : Int) < t.Boats) := by omega
          simp only [M.spec_l28Standing_l2, e2, decide_false, ifB_false]; rfl
      have e3 : w64 (((i + 1 : Nat) : Int) + 1) = ((i + 1 + 1 : Nat) : Int) := by rw [w64_of (by omega)]; omega
      simp only [M.spec_l28Standing_l1, e1, decide_true, ifB_true, h2, bnd_some, outc_nxt, M.spec_l28Standing_a2, e3]
    · have e1 : ¬ (((t.Boats.toNat + 1 : Nat) : Int) ≤ t.Boats) := by omega
      simp only [M.spec_l28Standing_l1, e1, decide_false, ifB_false]
  rw [M.spec_l28Standing, hl]; rfl
theorem p_StandingOf (t : Table) (rule : List Int) (h : szT t ≤ 1048576) (hr : rule.length ≤ 1048576) : ∃ r, M.spec_StandingOf t rule = some r ∧ M.impl_StandingOf t rule = some r ∧ r.1.length ≤ 1048576 ∧ ((r.2 = 0 ∧ IsTable t ∧ IsRule3 rule ∧ r = (sdB t rule t.Boats.toNat, 0)) ∨ (r.2 ≠ 0 ∧ r = ([], cdT t rule 0))) := by
  obtain ⟨c1, c2⟩ := p_tableCode t rule 0 h hr
  by_cases h0 : cdT t rule 0 = 0
  · obtain ⟨ht, hu, a0, a1⟩ := cdT_zero t rule 0 h0
    have hb := ht.1
    refine ⟨(sdB t rule t.Boats.toNat, 0), ?_, ?_, by simp only [sdB_len t rule ht]; omega, .inl ⟨rfl, ht, hu, rfl⟩⟩
    · simp only [M.spec_StandingOf, c2, h0, bnd_some, bne_self_eq_false, ifB_false, p_specStanding t rule ht (rule_le rule hu)]
    · simp only [M.impl_StandingOf, c1, h0, bnd_some, bne_self_eq_false, ifB_false, p_implStanding t rule ht (rule_le rule hu)]
  · have e : (cdT t rule 0 != 0) = true := by simpa using h0
    refine ⟨([], cdT t rule 0), ?_, ?_, by simp, .inr ⟨h0, rfl⟩⟩
    · simp only [M.spec_StandingOf, c2, bnd_some, e, ifB_true]
    · simp only [M.impl_StandingOf, c1, bnd_some, e, ifB_true]
end Go.Proofs.Ytpobaajdhfoomaa
