/- More of my proof rules: slices whose elements hold slices. -/
import Derived.Test.YtmmkkcmliofknaaGreatDoorBase3
namespace Go.Proofs.YtmmkkcmliofknaaGreatDoor
open Go Go.RowKit Go.ChangeShapes Go.WideShapes
set_option linter.unusedVariables false
set_option linter.unusedSimpArgs false
set_option linter.unusedSectionVars false
def zA2 (w1 : World) (S : Nat → Prop) : Ent where
  S := S
  H w := ∀ k, S k → k < w1.heap.size ∧ w.heap[k]? = w1.heap[k]?
  fr hf h := fun k hk => ⟨(h k hk).1, (hf k hk).trans (h k hk).2⟩
  lt {w k} h hk := by
    have h1 := (h k hk).2
    rw [Array.getElem?_eq_getElem (h k hk).1] at h1
    exact zHS h1
section
variable {α : Type} [GoT α] {w0 w w1 : World} {Γ : List Ent} {E : TypeId} {S : Nat → Prop} {v : Value} {xs : List α}
theorem Hp.freeze (h : Hp w0 Γ w) (i : Nat) (hi : Γ[i]? = some (Ent.own E S v xs)) : ∃ w1, Hp w0 (Γ.set i (zA2 w1 S)) w ∧ (Ent.own E S v xs).H w1 :=
  ⟨w, h.upd i hi (Mod.refl S w) (fun k _ hk => hk) (fun k hk => ⟨(h.get i hi).2 k hk, rfl⟩) (fun k hk => .inl hk), h.get i hi⟩
theorem Hp.thaw (h : Hp w0 Γ w) (i : Nat) (hi : Γ[i]? = some (zA2 w1 S)) (ho : (Ent.own E S v xs).H w1) : Hp w0 (Γ.set i (Ent.own E S v xs)) w :=
  h.upd i hi (Mod.refl S w) (fun k _ hk => hk) ((Ent.own E S v xs).fr (fun k hk => (h.get i hi k hk).2) ho) (fun k hk => .inl hk)
theorem Hp.rdF (h : Hp w0 Γ w) (i : Nat) (hi : Γ[i]? = some (zA2 w1 S)) (hr : rdL S w1 v xs) : rdL (· < w.heap.size) w v xs :=
  (hr.fr fun k hk => (h.get i hi k hk).2).mono fun _ hk => (zA2 w1 S).lt (h.get i hi) hk
theorem Hp.cellS {B b q : Nat} {u : Value} (h : Hp w0 Γ w) (i : Nat) (hi : Γ[i]? = some (zAg w1 B)) (hb : b < B) (hc : w1.cell? ⟨b, q, none⟩ = some u) : w.cell? ⟨b, q, none⟩ = some u := by
  rw [← hc]; exact zL0 ((h.get i hi).2 b hb) q
theorem Hp.cellF {b q : Nat} {u : Value} (h : Hp w0 Γ w) (i : Nat) (hi : Γ[i]? = some (zA2 w1 S)) (hb : S b) (hc : w1.cell? ⟨b, q, none⟩ = some u) : w.cell? ⟨b, q, none⟩ = some u := by
  rw [← hc]; exact zL0 ((h.get i hi b hb).2) q
end
class Wrap (β : Type) (α : outParam Type) [GoT β] [GoT α] where
  get : β → List α
  sz1 : GoT.sz β = 1
  rd : ∀ {S w cs x}, GoT.rd (α := β) S w cs x → ∃ u, cs = [u] ∧ rdL S w u (get x)
  own : ∀ {S w cs x}, GoT.own (α := β) S w cs x → ∃ u E, cs = [u] ∧ ownL E S w u (get x)
  close : ∀ {S w u E x}, ownL E S w u (get x) → GoT.own (α := β) S w [u] x
instance (α : Type) [GoT α] : Wrap (List α) α := ⟨id, rfl, fun h => h, fun ⟨u, E, h1, h2⟩ => ⟨u, E, h1, h2⟩, fun {S w u E x} h => ⟨u, E, rfl, h⟩⟩
instance : Wrap Race Finish := ⟨Race.Finishes, rfl, fun h => h, fun ⟨u, E, h1, h2⟩ => ⟨u, E, h1, h2⟩, fun {S w u E x} h => ⟨u, E, rfl, h⟩⟩
theorem zBI {α : Type} [GoT α] {S : Nat → Prop} {w : World} {v : Value} {xs : List α} (h : rdL S w v xs) : v.oneCell' = true := by
  obtain ⟨A, cap, rfl, _⟩ := h; rfl
structure SlV where
  val : Value
  is : ∃ A n c, val = .slice A n c
instance : Flat SlV := ⟨1, by decide, fun x => [x.1], fun _ => rfl, by rintro ⟨v, A, n, c, rfl⟩ u hu; simp at hu; subst hu; rfl⟩
theorem rdL.slv {α : Type} [GoT α] {S : Nat → Prop} {w : World} {v : Value} {xs : List α} (h : rdL S w v xs) : ∃ A n c, v = .slice A n c := by
  obtain ⟨A, cap, rfl, _⟩ := h; exact ⟨_, _, _, rfl⟩
section
variable {α β : Type} [GoT α] [GoT β] [Wrap β α] {w w' : World} {E : TypeId} {S : Nat → Prop} {v : Value} {xs : List β}
theorem zCp {i : Int} {a : β} (h : rdL S w v xs) (h0 : 0 ≤ i) (ha : xs[i.toNat]? = some a) : ∃ b q u, IxAddr v 1 i b q ∧ S b ∧ w.cell? ⟨b, q, none⟩ = some u ∧ rdL S w u (Wrap.get (α := α) a) := by
  obtain ⟨A, cap, rfl, h1, h2, h3⟩ := h
  have hlt : i.toNat < xs.length := (List.getElem?_eq_some_iff.1 ha).1
  obtain ⟨b, o, rfl, hb, hr⟩ := h3 (by omega)
  obtain ⟨cs, hcs, hcell⟩ := hr _ a ha
  obtain ⟨u, rfl, hu⟩ := Wrap.rd hcs
  refine ⟨b, _, u, ⟨o, xs.length, cap, rfl, h0, by omega, rfl⟩, hb, ?_, hu⟩
  have := hcell 0 u rfl
  rw [Wrap.sz1 (β := β) (α := α)] at this
  exact this
def Rows (us : List SlV) (xs : List β) (T : Nat → Nat → Prop) (w : World) : Prop := us.length = xs.length ∧ ∀ i (u : SlV) x, us[i]? = some u → xs[i]? = some x → ∃ E, ownL E (T i) w u.1 (Wrap.get (α := α) x)
theorem zLg (h : ownL E S w v xs) : ∃ us T S1, ownL (α := SlV) E S1 w v us ∧ Rows (α := α) us xs T w ∧ (∀ k, S1 k → S k) ∧ (∀ i k, T i k → S k ∧ ¬ S1 k) ∧ (∀ i j k, T i k → T j k → i = j) := by
  obtain ⟨A, cap, rfl, h1, h2, h3⟩ := h
  rcases h3 with ⟨rfl, rfl⟩ | ⟨b, arr, rfl, hb, hh, hs, T, hT, hT1, hT2⟩
  · have hx : xs = [] := List.eq_nil_of_length_eq_zero (by omega)
    subst hx
    exact ⟨[], fun _ _ => False, zBO, zOk, ⟨rfl, fun i u x hu => by simp at hu⟩, fun _ h => h.elim, fun _ _ h => h.elim, fun _ _ _ h => h.elim⟩
  · have ex : ∀ i x, xs[i]? = some x → ∃ u : SlV, arr[i]? = some u.1 ∧ ∃ E, ownL E (T i) w u.1 (Wrap.get (α := α) x) := by
      intro i x hx
      obtain ⟨cs, hcs, hcell⟩ := hT i x hx
      obtain ⟨u, E', rfl, hu⟩ := Wrap.own hcs
      have hc := hcell 0 u rfl
      rw [Wrap.sz1 (β := β) (α := α)] at hc
      exact ⟨⟨u, hu.rdL.slv⟩, by simpa using hc, E', hu⟩
    have all : ∀ n, n ≤ xs.length → ∃ us : List SlV, us.length = n ∧ ∀ i (u : SlV), us[i]? = some u → arr[i]? = some u.1 ∧ ∀ x, xs[i]? = some x → ∃ E, ownL E (T i) w u.1 (Wrap.get (α := α) x) := by
      intro n
      induction n with
      | zero => intro _; exact ⟨[], rfl, fun i u hu => by simp at hu⟩
      | succ n ih =>
        intro hn
        obtain ⟨us, hl, hus⟩ := ih (by omega)
        obtain ⟨u, hu1, hu2⟩ := ex n xs[n] (List.getElem?_eq_getElem (by omega))
        refine ⟨us ++ [u], by simp [hl], fun i u' hu' => ?_⟩
        by_cases hi : i < n
        · rw [List.getElem?_append_left (by omega)] at hu'
          exact hus i u' hu'
        · rw [List.getElem?_append_right (by omega)] at hu'
          have hi' : i = n := by
            apply Classical.byContradiction
            intro hne
            rw [List.getElem?_eq_none (by simp; omega)] at hu'
            cases hu'
          subst hi'
          rw [hl, Nat.sub_self] at hu'
          simp at hu'
          subst hu'
          refine ⟨hu1, fun x hx => ?_⟩
          rw [List.getElem?_eq_getElem (by omega)] at hx
          injection hx with hx
          subst hx
          exact hu2
    obtain ⟨us, hl, hus⟩ := all xs.length (Nat.le_refl _)
    refine ⟨us, T, (· = b), ⟨some ⟨b, 0, none⟩, cap, by rw [hl], by omega, h2, .inr ⟨b, arr, rfl, rfl, hh, ?_, fun _ _ => False, fun i u hu => ⟨[u.1], rfl, fun j x hj => ?_⟩, fun _ _ h => h.elim, fun _ _ _ h => h.elim⟩⟩, ⟨hl, fun i u x hu hx => (hus i u hu).2 x hx⟩, fun k hk => by rw [hk]; exact hb, fun i k hk => hT1 i k hk, hT2⟩
    · rw [hs, Wrap.sz1 (β := β) (α := α)]; rfl
    · cases j with
      | zero =>
        simp at hj
        subst hj
        have := (hus i u hu).1
        show arr[i * 1 + 0]? = _
        simpa using this
      | succ j => simp at hj
theorem zJL {us : List SlV} {T : Nat → Nat → Prop} {S1 : Nat → Prop} (ho : ownL (α := SlV) E S1 w v us) (hr : Rows (α := α) us xs T w) (h1 : ∀ k, S1 k → S k) (hT1 : ∀ i k, T i k → S k ∧ ¬ S1 k) (hT2 : ∀ i j k, T i k → T j k → i = j) : ownL E S w v xs := by
  obtain ⟨A, cap, rfl, h2, h3, h4⟩ := ho
  rw [hr.1] at h2 ⊢
  refine ⟨A, cap, rfl, h2, h3, ?_⟩
  rcases h4 with h4 | ⟨b, arr, rfl, hb, hh, hs, T', hT', _, _⟩
  · exact .inl h4
  · refine .inr ⟨b, arr, rfl, h1 b hb, hh, by rw [hs, Wrap.sz1 (β := β) (α := α)]; rfl, T, fun i x hx => ?_, fun i k hk => ⟨(hT1 i k hk).1, fun e => (hT1 i k hk).2 (by rw [e]; exact hb)⟩, hT2⟩
    have hlt : i < xs.length := (List.getElem?_eq_some_iff.1 hx).1
    have hlt' : i < us.length := by rw [hr.1]; exact hlt
    have hu : us[i]? = some us[i] := List.getElem?_eq_getElem hlt'
    obtain ⟨E', ho'⟩ := hr.2 i _ x hu hx
    refine ⟨[us[i].1], Wrap.close ho', fun j y hj => ?_⟩
    obtain ⟨cs, hcs, hcell⟩ := hT' i _ hu
    have hcs' : cs = [us[i].1] := hcs
    subst hcs'
    have := hcell j y hj
    rw [Wrap.sz1 (β := β) (α := α)]
    exact this
end
theorem Hp.merge {w0 w w' : World} {Γ : List Ent} {e e2 e' : Ent} (h : Hp w0 (e :: e2 :: Γ) w) {T : Nat → Prop} (hm : Mod T w w') (hT : ∀ k, k < w.heap.size → T k → e.S k) (he : e'.H w') (hS : ∀ k, e'.S k → e.S k ∨ e2.S k ∨ w.heap.size ≤ k) : Hp w0 (e' :: Γ) w' := by
  have p1 := List.pairwise_cons.1 h.pw
  have p2 := List.pairwise_cons.1 p1.2
  refine ⟨h.same.trans hm.toSame, fun a ha => ?_, List.pairwise_cons.2 ⟨fun a ha k hk hk' => ?_, p2.2⟩⟩
  · rcases List.mem_cons.1 ha with rfl | ha
    · exact he
    · have ha' : a ∈ e :: e2 :: Γ := List.mem_cons_of_mem _ (List.mem_cons_of_mem _ ha)
      refine a.fr (fun k hk => ?_) (h.all a ha')
      have hlt := a.lt (h.all a ha') hk
      exact hm.blk k hlt (fun ht => p1.1 a (List.mem_cons_of_mem _ ha) k (hT k hlt ht) hk)
  · rcases hS k hk with h1 | h1 | h1
    · exact p1.1 a (List.mem_cons_of_mem _ ha) k h1 hk'
    · exact p2.1 a ha k h1 hk'
    · have := a.lt (h.all a (List.mem_cons_of_mem _ (List.mem_cons_of_mem _ ha))) hk'
      omega
section
variable {P : Program} {N : Nat} {ops : Array Oper} {K : Fr → World → Prop} {F : Fr} {w0 w : World} {Γ : List Ent} {d : Nat} {ty t e : TypeId} {pos : String} {aft : Array Edge} {x y : Operand} {sz by_ : Nat} {zv : Value}
variable {α β : Type} [GoT α] [GoT β] [Wrap β α]
theorem zPF {us : List SlV} {xs : List β} {T : Nat → Nat → Prop} {w w' : World} (h : Rows (α := α) us xs T w) (hf : ∀ i k, T i k → w'.heap[k]? = w.heap[k]?) : Rows (α := α) us xs T w' :=
  ⟨h.1, fun i u x hu hx => by obtain ⟨E, ho⟩ := h.2 i u x hu hx; exact ⟨E, ho.fr (hf i)⟩⟩
theorem zEF (α : Type) [GoT α] {β : Type} [GoT β] [Wrap β α] {S S2 : Nat → Prop} {v v2 : Value} {xs zs : List β} (hL : Hp w0 (Ent.own e S v xs :: Ent.own e S2 v2 zs :: Γ) w) (ht : P.underlying t = some (.slice e)) (hti : TyI P e 1 by_ zv) (hzv : zv.cells.size = 1)
    (hx : ev F x = v) (hy : ev F y = v2) (hn : xs.length + zs.length < 1099511627776) (hb : by_ ≤ 64) (hd : Nat.blt d N = true)
    (h : ∀ w' v' S'', Hp w0 (Ent.own e S'' v' (xs ++ zs) :: Γ) w' → K (upd F d v') w') : OP P N ops ⟨some d, .call { callee := .builtin .append, args := #[x, y], argTypes := #[t, t] }, ty, pos, aft, none⟩ K F w := by
  have o1 := hL.get 0 rfl
  have o2 := hL.get 1 rfl
  have dis : ∀ k, S k → S2 k → False := hL.disj (i := 0) (j := 1) (by decide) rfl rfl
  obtain ⟨us, T, S1, f1, r1, a1, a2, a3⟩ := zLg (α := α) (β := β) o1.1
  obtain ⟨us2, T2, S12, f2, r2, b1, b2, b3⟩ := zLg (α := α) (β := β) o2.1
  have hbb : (us.length + us2.length) * by_ ≤ 1099511627776 * 64 := Nat.mul_le_mul (by rw [r1.1, r2.1]; omega) hb
  obtain ⟨v', w', S'', h3, h4, h5, h6, h7⟩ := zOh (P := P) (F := F) (ty := ty) ht (α := SlV) hti hzv hx hy f1 f2.rdL (by omega) (by rw [r1.1, r2.1]; omega)
  have k1 : ∀ i k, T i k → k < w.heap.size ∧ ¬ S1 k := fun i k hk => ⟨o1.2 k (a2 i k hk).1, (a2 i k hk).2⟩
  have k2 : ∀ i k, T2 i k → k < w.heap.size ∧ ¬ S1 k := fun i k hk => ⟨o2.2 k (b2 i k hk).1, fun hs => dis k (a1 k hs) (b2 i k hk).1⟩
  have r1' := zPF r1 (w' := w') fun i k hk => h7.blk k (k1 i k hk).1 (k1 i k hk).2
  have r2' := zPF r2 (w' := w') fun i k hk => h7.blk k (k2 i k hk).1 (k2 i k hk).2
  let T3 : Nat → Nat → Prop := fun i => if i < us.length then T i else T2 (i - us.length)
  have e3 : ∀ i k, T3 i k → (∃ j, T j k) ∨ ∃ j, T2 j k := by
    intro i k hk
    simp only [T3] at hk
    split at hk
    · exact .inl ⟨_, hk⟩
    · exact .inr ⟨_, hk⟩
  have rr : Rows (α := α) (us ++ us2) (xs ++ zs) T3 w' := by
    refine ⟨by simp [r1.1, r2.1], fun i u x hu hx => ?_⟩
    by_cases hi : i < us.length
    · rw [List.getElem?_append_left hi] at hu
      rw [List.getElem?_append_left (by rw [← r1.1]; exact hi)] at hx
      simpa only [T3, if_pos hi] using r1'.2 i u x hu hx
    · rw [List.getElem?_append_right (by omega)] at hu
      rw [List.getElem?_append_right (by rw [← r1.1]; omega), ← r1.1] at hx
      simpa only [T3, if_neg hi] using r2'.2 _ u x hu hx
  refine zAk hd h3 (h w' v' (fun k => S'' k ∨ (∃ i, T i k) ∨ ∃ i, T2 i k) (hL.merge h7 (fun k _ hk => a1 k hk) ⟨zJL h4 rr (fun k hk => .inl hk) (fun i k hk => ⟨.inr (e3 i k hk), fun hs => ?_⟩) ?_, fun k hk => ?_⟩ (fun k hk => ?_)))
  · rcases h5 k hs with g | g
    · rcases e3 i k hk with ⟨j, hj⟩ | ⟨j, hj⟩
      · exact (k1 j k hj).2 g.1
      · exact (k2 j k hj).2 g.1
    · rcases e3 i k hk with ⟨j, hj⟩ | ⟨j, hj⟩
      · have := (k1 j k hj).1; omega
      · have := (k2 j k hj).1; omega
  · intro i j k hi hj
    simp only [T3] at hi hj
    split at hi <;> split at hj
    · exact a3 i j k hi hj
    · exact (dis k (a2 i k hi).1 (b2 _ k hj).1).elim
    · exact (dis k (a2 j k hj).1 (b2 _ k hi).1).elim
    · have := b3 _ _ k hi hj; omega
  · rcases hk with hk | ⟨i, hk⟩ | ⟨i, hk⟩
    · exact h6 k hk
    · exact Nat.lt_of_lt_of_le (k1 i k hk).1 h7.size
    · exact Nat.lt_of_lt_of_le (k2 i k hk).1 h7.size
  · rcases hk with hk | ⟨i, hk⟩ | ⟨i, hk⟩
    · rcases h5 k hk with g | g
      · exact .inl (a1 k g.1)
      · exact .inr (.inr g)
    · exact .inl (a2 i k hk).1
    · exact .inr (.inl (b2 i k hk).1)
theorem zBP {S2 : Nat → Prop} {u : Value} {ys : List α} {E2 : TypeId} {o : Operand} (x' : β) (hx' : Wrap.get (α := α) x' = ys) (hL : Hp w0 (Ent.own E2 S2 u ys :: Γ) w) (ht : P.underlying t = some (.slice e)) (hi : TyI P e 1 by_ zv) (ho : (ev F o).cells = #[u]) (hd : Nat.blt d N = true)
    (h : ∀ w' v S, Hp w0 (Ent.own e S v [x'] :: Γ) w' → K (upd F d v) w') : OP P N ops ⟨some d, .buildSlice t 1 #[(0, o)], ty, pos, aft, none⟩ K F w := by
  have o2 := hL.get 0 rfl
  have hfill : Instr.fill (fun i => some (i * Flat.sz SlV, Flat.sz SlV)) (madeCells (if 1 * Flat.sz SlV = 0 then #[] else zv.cells) (1 * Flat.sz SlV)) ((#[(0, o)] : Array (Nat × Operand)).map fun (i, x) => (i, ev F x)).toList = some #[u] := by
    have h1 : Flat.sz SlV = 1 := rfl
    simp [Instr.fill, madeCells, h1, ho]
    apply Array.ext
    · simp
    · intro j h1 h2
      have h0 : j = 0 := by simp at h1; omega
      subst h0
      simp
  refine zBS (α := SlV) [⟨u, o2.1.rdL.slv⟩] hL ht hi rfl (by decide) hfill rfl hd fun w' v S hH => h w' v (fun k => S k ∨ S2 k) ?_
  have f1 := hH.get 0 rfl
  have f2 := hH.get 1 rfl
  have dis : ∀ k, S k → S2 k → False := hH.disj (i := 0) (j := 1) (by decide) rfl rfl
  refine hH.merge (Mod.refl S w') (fun k _ hk => hk) ⟨zJL (T := fun i => if i = 0 then S2 else zBO) f1.1 ⟨rfl, fun i u' x hu hx => ?_⟩ (fun k hk => .inl hk) (fun i k hk => ?_) (fun i j k hi hj => ?_), fun k hk => ?_⟩ (fun k hk => ?_)
  · cases i with
    | zero =>
      simp at hu hx
      subst hu hx
      simp only [if_true]
      rw [hx']
      exact ⟨E2, f2.1⟩
    | succ i => simp at hx
  · split at hk
    · exact ⟨.inr hk, fun hs => dis k hs hk⟩
    · exact hk.elim
  · split at hi <;> split at hj
    · omega
    · exact hj.elim
    · exact hi.elim
    · exact hi.elim
  · rcases hk with hk | hk
    · exact f1.2 k hk
    · exact f2.2 k hk
  · rcases hk with hk | hk
    · exact .inl hk
    · exact .inr (.inl hk)
theorem Hp.partR {S : Nat → Prop} {v u : Value} {xs : List β} {k : Int} {a : β} {b q : Nat} {E : TypeId} (h : Hp w0 Γ w) (i : Nat) (hi : Γ[i]? = some (Ent.own E S v xs)) (hix : IxAddr v 1 k b q) (ha : xs[k.toNat]? = some a) (hc : w.cell? ⟨b, q, none⟩ = some u) :
    ∃ E2 S1, (Ent.own E2 S1 u (Wrap.get (α := α) a)).H w ∧ ∀ w' S1' ys' Γr (a' : β), Mut w w' S1 (Ent.own E2 S1' u ys' :: Γr) → Wrap.get (α := α) a' = ys' → ∃ S', Hp w0 (Γr ++ Γ.set i (Ent.own E S' v (xs.set k.toNat a'))) w' := by
  have o1 := h.get i hi
  obtain ⟨us, T, S1, f1, r1, a1, a2, a3⟩ := zLg (α := α) (β := β) o1.1
  have hlt : k.toNat < us.length := by rw [r1.1]; exact (List.getElem?_eq_some_iff.1 ha).1
  have hcell := zAv (α := SlV) f1.rdL hix (List.getElem?_eq_getElem hlt) 0 _ rfl
  rw [Nat.add_zero, hc] at hcell
  injection hcell with hcell
  obtain ⟨E2, hrow⟩ := r1.2 k.toNat _ a (List.getElem?_eq_getElem hlt) ha
  rw [← hcell] at hrow
  refine ⟨E2, T k.toNat, ⟨hrow, fun m hm => o1.2 m (a2 _ m hm).1⟩, fun w' S1' ys' Γr a' hM ha' => ?_⟩
  have k1 : ∀ m, S1 m → m < w.heap.size := fun m hm => o1.2 m (a1 m hm)
  have kT : ∀ j m, T j m → m < w.heap.size := fun j m hm => o1.2 m (a2 j m hm).1
  have hp := List.pairwise_cons.1 hM.pw
  have hown := hM.all _ List.mem_cons_self
  have f1' : ownL (α := SlV) E S1 w' v us := f1.fr fun m hm => hM.mod.blk m (k1 m hm) fun ht => (a2 _ m ht).2 hm
  let T3 : Nat → Nat → Prop := fun j => if j = k.toNat then S1' else T j
  have rr : Rows (α := α) us (xs.set k.toNat a') T3 w' := by
    refine ⟨by rw [List.length_set]; exact r1.1, fun j u' x' hu hx' => ?_⟩
    by_cases hj : j = k.toNat
    · subst hj
      rw [List.getElem?_set_self (by rw [← r1.1]; exact hlt)] at hx'
      injection hx' with hx'
      subst hx'
      rw [List.getElem?_eq_getElem hlt] at hu
      injection hu with hu
      subst hu
      simp only [T3, if_true]
      rw [ha', ← hcell]
      exact ⟨E2, hown.1.1⟩
    · rw [List.getElem?_set_ne (Ne.symm hj)] at hx'
      simp only [T3, if_neg hj]
      obtain ⟨E', ho⟩ := r1.2 j u' x' hu hx'
      exact ⟨E', ho.fr fun m hm => hM.mod.blk m (kT j m hm) fun ht => hj (a3 j _ m hm ht)⟩
  have s1 : ∀ m, S1' m → ¬ S1 m ∧ (T k.toNat m ∨ w.heap.size ≤ m) := fun m hm => by
    rcases hown.2 m hm with h1 | h1
    · exact ⟨(a2 _ m h1).2, .inl h1⟩
    · exact ⟨fun hs => by have := k1 m hs; omega, .inr h1⟩
  have e3 : ∀ j m, T3 j m → (∃ j, T j m) ∨ S1' m := by
    intro j m hk
    simp only [T3] at hk
    split at hk
    · exact .inr hk
    · exact .inl ⟨_, hk⟩
  have hM2 : Mut w w' S (Ent.own E (fun m => S1 m ∨ (∃ j, j ≠ k.toNat ∧ T j m) ∨ S1' m) v (xs.set k.toNat a') :: Γr) := by
    refine ⟨hM.mod.mono fun m _ hm => (a2 _ m hm).1, fun e he => ?_, List.pairwise_cons.2 ⟨fun e he m hm hm' => ?_, hp.2⟩⟩
    · rcases List.mem_cons.1 he with rfl | he
      · refine ⟨⟨zJL f1' rr (fun m hm => .inl hm) (fun j m hm => ⟨?_, fun hs => ?_⟩) ?_, fun m hm => ?_⟩, fun m hm => ?_⟩
        · simp only [T3] at hm
          split at hm
          · exact .inr (.inr hm)
          · rename_i hne; exact .inr (.inl ⟨j, hne, hm⟩)
        · simp only [T3] at hm
          split at hm
          · exact (s1 m hm).1 hs
          · exact (a2 j m hm).2 hs
        · intro j1 j2 m h1 h2
          simp only [T3] at h1 h2
          split at h1 <;> split at h2
          · omega
          · rename_i hne
            rcases (s1 m h1).2 with g | g
            · exact (hne (a3 _ _ m h2 g)).elim
            · have := kT _ m h2; omega
          · rename_i hne _
            rcases (s1 m h2).2 with g | g
            · exact (hne (a3 _ _ m h1 g)).elim
            · have := kT _ m h1; omega
          · exact a3 _ _ m h1 h2
        · rcases hm with hm | ⟨j, _, hm⟩ | hm
          · exact Nat.lt_of_lt_of_le (k1 m hm) hM.mod.size
          · exact Nat.lt_of_lt_of_le (kT j m hm) hM.mod.size
          · exact hown.1.2 m hm
        · rcases hm with hm | ⟨j, _, hm⟩ | hm
          · exact .inl (a1 m hm)
          · exact .inl (a2 j m hm).1
          · rcases (s1 m hm).2 with g | g
            · exact .inl (a2 _ m g).1
            · exact .inr g
      · have := hM.all e (List.mem_cons_of_mem _ he)
        exact ⟨this.1, fun m hm => (this.2 m hm).imp (fun g => (a2 _ m g).1) id⟩
    · rcases hm with hm | ⟨j, hne, hm⟩ | hm
      · rcases (hM.all e (List.mem_cons_of_mem _ he)).2 m hm' with g | g
        · exact (a2 _ m g).2 hm
        · have := k1 m hm; omega
      · rcases (hM.all e (List.mem_cons_of_mem _ he)).2 m hm' with g | g
        · exact hne (a3 _ _ m hm g)
        · have := kT j m hm; omega
      · exact hp.1 e he m hm hm'
  exact ⟨_, h.mut i hi hM2⟩
theorem zM2 (β : Type) [GoT β] [Wrap β α] (hL : Hp w0 Γ w) (ht : P.underlying t = some (.slice e)) (hi : TyI P e 1 by_ zv) (hd : Nat.blt d N = true)
    (h : ∀ w' v S, Hp w0 (Ent.own e S v ([] : List β) :: Γ) w' → K (upd F d v) w') : OP P N ops ⟨some d, .buildSlice t 0 #[], ty, pos, aft, none⟩ K F w := by
  refine zBS (α := SlV) [] hL ht hi rfl (by decide) (cells := #[]) (by simp [Instr.fill, madeCells]) rfl hd fun w' v S hH => h w' v S ?_
  have o := hH.get 0 rfl
  have hc : ownL e S w' v ([] : List β) := zJL (α := α) (T := fun _ _ => False) o.1 ⟨rfl, fun i u x hu hx => by simp at hx⟩ (fun k hk => hk) (fun i k hk => hk.elim) (fun i j k hk => hk.elim)
  have := hH.upd 0 rfl (Mod.refl S w') (fun k _ hk => hk) (e' := Ent.own e S v ([] : List β)) ⟨hc, o.2⟩ (fun k hk => .inl hk)
  simpa using this
end
end Go.Proofs.YtmmkkcmliofknaaGreatDoor
