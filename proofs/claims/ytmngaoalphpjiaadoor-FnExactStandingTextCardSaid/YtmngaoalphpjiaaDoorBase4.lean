/- More of my proof rules: slices whose elements hold slices. -/
import Derived.Test.YtmngaoalphpjiaaDoorBase3
namespace Go.Proofs.YtmngaoalphpjiaaDoor
open Go Go.RowKit Go.ChangeShapes Go.WideShapes
set_option linter.unusedVariables false
set_option linter.unusedSimpArgs false
set_option linter.unusedSectionVars false
def Ent.frzS (w1 : World) (S : Nat → Prop) : Ent where
  S := S
  H w := ∀ k, S k → k < w1.heap.size ∧ w.heap[k]? = w1.heap[k]?
  fr hf h := fun k hk => ⟨(h k hk).1, (hf k hk).trans (h k hk).2⟩
  lt {w k} h hk := by
    have h1 := (h k hk).2
    rw [Array.getElem?_eq_getElem (h k hk).1] at h1
    exact lt_of_some h1
section
variable {α : Type} [GoT α] {w0 w w1 : World} {Γ : List Ent} {E : TypeId} {S : Nat → Prop} {v : Value} {xs : List α}
theorem Hp.freeze (h : Hp w0 Γ w) (i : Nat) (hi : Γ[i]? = some (Ent.own E S v xs)) : ∃ w1, Hp w0 (Γ.set i (Ent.frzS w1 S)) w ∧ (Ent.own E S v xs).H w1 :=
  ⟨w, h.upd i hi (Mod.refl S w) (fun k _ hk => hk) (fun k hk => ⟨(h.get i hi).2 k hk, rfl⟩) (fun k hk => .inl hk), h.get i hi⟩
theorem Hp.thaw (h : Hp w0 Γ w) (i : Nat) (hi : Γ[i]? = some (Ent.frzS w1 S)) (ho : (Ent.own E S v xs).H w1) : Hp w0 (Γ.set i (Ent.own E S v xs)) w :=
  h.upd i hi (Mod.refl S w) (fun k _ hk => hk) ((Ent.own E S v xs).fr (fun k hk => (h.get i hi k hk).2) ho) (fun k hk => .inl hk)
theorem Hp.cellS {B b q : Nat} {u : Value} (h : Hp w0 Γ w) (i : Nat) (hi : Γ[i]? = some (Ent.snap w1 B)) (hb : b < B) (hc : w1.cell? ⟨b, q, none⟩ = some u) : w.cell? ⟨b, q, none⟩ = some u := by
  rw [← hc]; exact cell_fr ((h.get i hi).2 b hb) q
end
class Wrap (β : Type) (α : outParam Type) [GoT β] [GoT α] where
  get : β → List α
  sz1 : GoT.sz β = 1
  rd : ∀ {S w cs x}, GoT.rd (α := β) S w cs x → ∃ u, cs = [u] ∧ rdL S w u (get x)
  own : ∀ {S w cs x}, GoT.own (α := β) S w cs x → ∃ u E, cs = [u] ∧ ownL E S w u (get x)
  close : ∀ {S w u E x}, ownL E S w u (get x) → GoT.own (α := β) S w [u] x
instance (α : Type) [GoT α] : Wrap (List α) α := ⟨id, rfl, fun h => h, fun ⟨u, E, h1, h2⟩ => ⟨u, E, h1, h2⟩, fun {S w u E x} h => ⟨u, E, rfl, h⟩⟩
instance : Wrap Race Finish := ⟨Race.Finishes, rfl, fun h => h, fun ⟨u, E, h1, h2⟩ => ⟨u, E, h1, h2⟩, fun {S w u E x} h => ⟨u, E, rfl, h⟩⟩
theorem rdL_one {α : Type} [GoT α] {S : Nat → Prop} {w : World} {v : Value} {xs : List α} (h : rdL S w v xs) : v.oneCell' = true := by
  obtain ⟨A, cap, rfl, _⟩ := h; rfl
structure SlV where
  val : Value
  is : ∃ A n c, val = .slice A n c
instance : Flat SlV := ⟨1, by decide, fun x => [x.1], fun _ => rfl, by rintro ⟨v, A, n, c, rfl⟩ u hu; simp at hu; subst hu; rfl⟩
theorem rdL.slv {α : Type} [GoT α] {S : Nat → Prop} {w : World} {v : Value} {xs : List α} (h : rdL S w v xs) : ∃ A n c, v = .slice A n c := by
  obtain ⟨A, cap, rfl, _⟩ := h; exact ⟨_, _, _, rfl⟩
section
variable {α β : Type} [GoT α] [GoT β] [Wrap β α] {w w' : World} {E : TypeId} {S : Nat → Prop} {v : Value} {xs : List β}
theorem rdN_at {i : Int} {a : β} (h : rdL S w v xs) (h0 : 0 ≤ i) (ha : xs[i.toNat]? = some a) : ∃ b q u, IxAddr v 1 i b q ∧ S b ∧ w.cell? ⟨b, q, none⟩ = some u ∧ rdL S w u (Wrap.get (α := α) a) := by
  obtain ⟨A, cap, rfl, h1, h2, h3⟩ := h
  have hlt : i.toNat < xs.length := (List.getElem?_eq_some_iff.1 ha).1
  obtain ⟨b, o, rfl, hb, hr⟩ := h3 (by omega)
  obtain ⟨cs, hcs, hcell⟩ := hr _ a ha
  obtain ⟨u, rfl, hu⟩ := Wrap.rd hcs
  refine ⟨b, _, u, ⟨o, xs.length, cap, rfl, h0, by omega, rfl⟩, hb, ?_, hu⟩
  have := hcell 0 u rfl
  rw [Wrap.sz1 (β := β) (α := α)] at this
  exact this
def Rows (us : List SlV) (xs : List β) (T : Nat → Nat → Prop) (w : World) : Prop := us.length = xs.length ∧ ∀ i (u : SlV) x, us[i]? = some u → xs[i]? = some x → ∃ E, ownL E (T i) w u.1 (Wrap.get (α := α) x)
theorem nest_open (h : ownL E S w v xs) : ∃ us T S1, ownL (α := SlV) E S1 w v us ∧ Rows (α := α) us xs T w ∧ (∀ k, S1 k → S k) ∧ (∀ i k, T i k → S k ∧ ¬ S1 k) ∧ (∀ i j k, T i k → T j k → i = j) := by
  obtain ⟨A, cap, rfl, h1, h2, h3⟩ := h
  rcases h3 with ⟨rfl, rfl⟩ | ⟨b, arr, rfl, hb, hh, hs, T, hT, hT1, hT2⟩
  · have hx : xs = [] := List.eq_nil_of_length_eq_zero (by omega)
    subst hx
    exact ⟨[], fun _ _ => False, None_, ownL_nil, ⟨rfl, fun i u x hu => by simp at hu⟩, fun _ h => h.elim, fun _ _ h => h.elim, fun _ _ _ h => h.elim⟩
  · have ex : ∀ i x, xs[i]? = some x → ∃ u : SlV, arr[i]? = some u.1 ∧ ∃ E, ownL E (T i) w u.1 (Wrap.get (α := α) x) := by
      intro i x hx
      obtain ⟨cs, hcs, hcell⟩ := hT i x hx
      obtain ⟨u, E', rfl, hu⟩ := Wrap.own hcs
      have hc := hcell 0 u rfl
      rw [Wrap.sz1 (β := β) (α := α)] at hc
      exact ⟨⟨u, hu.rdL.slv⟩, by simpa using hc, E', hu⟩
    have all : ∀ n, n ≤ xs.length → ∃ us : List SlV, us.length = n ∧ ∀ i (u : SlV), us[i]? = some u → arr[i]? = some u.1 ∧ ∀ x, xs[i]? = some x → ∃ E, ownL E (T i) w u.1 (Wrap.get (α := α) x) := by
      intro n
      induction n with
      | zero => intro _; exact ⟨[], rfl, fun i u hu => by simp at hu⟩
      | succ n ih =>
        intro hn
        obtain ⟨us, hl, hus⟩ := ih (by omega)
        obtain ⟨u, hu1, hu2⟩ := ex n xs[n] (List.getElem?_eq_getElem (by omega))
        refine ⟨us ++ [u], by simp [hl], fun i u' hu' => ?_⟩
        by_cases hi : i < n
        · rw [List.getElem?_append_left (by omega)] at hu'
          exact hus i u' hu'
        · rw [List.getElem?_append_right (by omega)] at hu'
          have hi' : i = n := by
            apply Classical.byContradiction
            intro hne
            rw [List.getElem?_eq_none (by simp; omega)] at hu'
            cases hu'
          subst hi'
          rw [hl, Nat.sub_self] at hu'
          simp at hu'
          subst hu'
          refine ⟨hu1, fun x hx => ?_⟩
          rw [List.getElem?_eq_getElem (by omega)] at hx
          injection hx with hx
          subst hx
          exact hu2
    obtain ⟨us, hl, hus⟩ := all xs.length (Nat.le_refl _)
    refine ⟨us, T, (· = b), ⟨some ⟨b, 0, none⟩, cap, by rw [hl], by omega, h2, .inr ⟨b, arr, rfl, rfl, hh, ?_, fun _ _ => False, fun i u hu => ⟨[u.1], rfl, fun j x hj => ?_⟩, fun _ _ h => h.elim, fun _ _ _ h => h.elim⟩⟩, ⟨hl, fun i u x hu hx => (hus i u hu).2 x hx⟩, fun k hk => by rw [hk]; exact hb, fun i k hk => hT1 i k hk, hT2⟩
    · rw [hs, Wrap.sz1 (β := β) (α := α)]; rfl
    · cases j with
      | zero =>
        simp at hj
        subst hj
        have := (hus i u hu).1
        show arr[i * 1 + 0]? = _
        simpa using this
      | succ j => simp at hj
theorem nest_close {us : List SlV} {T : Nat → Nat → Prop} {S1 : Nat → Prop} (ho : ownL (α := SlV) E S1 w v us) (hr : Rows (α := α) us xs T w) (h1 : ∀ k, S1 k → S k) (hT1 : ∀ i k, T i k → S k ∧ ¬ S1 k) (hT2 : ∀ i j k, T i k → T j k → i = j) : ownL E S w v xs := by
  obtain ⟨A, cap, rfl, h2, h3, h4⟩ := ho
  rw [hr.1] at h2 ⊢
  refine ⟨A, cap, rfl, h2, h3, ?_⟩
  rcases h4 with h4 | ⟨b, arr, rfl, hb, hh, hs, T', hT', _, _⟩
  · exact .inl h4
  · refine .inr ⟨b, arr, rfl, h1 b hb, hh, by rw [hs, Wrap.sz1 (β := β) (α := α)]; rfl, T, fun i x hx => ?_, fun i k hk => ⟨(hT1 i k hk).1, fun e => (hT1 i k hk).2 (by rw [e]; exact hb)⟩, hT2⟩
    have hlt : i < xs.length := (List.getElem?_eq_some_iff.1 hx).1
    have hlt' : i < us.length := by rw [hr.1]; exact hlt
    have hu : us[i]? = some us[i] := List.getElem?_eq_getElem hlt'
    obtain ⟨E', ho'⟩ := hr.2 i _ x hu hx
    refine ⟨[us[i].1], Wrap.close ho', fun j y hj => ?_⟩
    obtain ⟨cs, hcs, hcell⟩ := hT' i _ hu
    have hcs' : cs = [us[i].1] := hcs
    subst hcs'
    have := hcell j y hj
    rw [Wrap.sz1 (β := β) (α := α)]
    exact this
end
theorem Hp.merge {w0 w w' : World} {Γ : List Ent} {e e2 e' : Ent} (h : Hp w0 (e :: e2 :: Γ) w) {T : Nat → Prop} (hm : Mod T w w') (hT : ∀ k, k < w.heap.size → T k → e.S k) (he : e'.H w') (hS : ∀ k, e'.S k → e.S k ∨ e2.S k ∨ w.heap.size ≤ k) : Hp w0 (e' :: Γ) w' := by
  have p1 := List.pairwise_cons.1 h.pw
  have p2 := List.pairwise_cons.1 p1.2
  refine ⟨h.same.trans hm.toSame, fun a ha => ?_, List.pairwise_cons.2 ⟨fun a ha k hk hk' => ?_, p2.2⟩⟩
  · rcases List.mem_cons.1 ha with rfl | ha
    · exact he
    · have ha' : a ∈ e :: e2 :: Γ := List.mem_cons_of_mem _ (List.mem_cons_of_mem _ ha)
      refine a.fr (fun k hk => ?_) (h.all a ha')
      have hlt := a.lt (h.all a ha') hk
      exact hm.blk k hlt (fun ht => p1.1 a (List.mem_cons_of_mem _ ha) k (hT k hlt ht) hk)
  · rcases hS k hk with h1 | h1 | h1
    · exact p1.1 a (List.mem_cons_of_mem _ ha) k h1 hk'
    · exact p2.1 a ha k h1 hk'
    · have := a.lt (h.all a (List.mem_cons_of_mem _ (List.mem_cons_of_mem _ ha))) hk'
      omega
section
variable {P : Program} {N : Nat} {ops : Array Oper} {K : Fr → World → Prop} {F : Fr} {w0 w : World} {Γ : List Ent} {d : Nat} {ty t e : TypeId} {pos : String} {aft : Array Edge} {x y : Operand} {sz by_ : Nat} {zv : Value}
variable {α β : Type} [GoT α] [GoT β] [Wrap β α]
theorem rows_fr {us : List SlV} {xs : List β} {T : Nat → Nat → Prop} {w w' : World} (h : Rows (α := α) us xs T w) (hf : ∀ i k, T i k → w'.heap[k]? = w.heap[k]?) : Rows (α := α) us xs T w' :=
  ⟨h.1, fun i u x hu hx => by obtain ⟨E, ho⟩ := h.2 i u x hu hx; exact ⟨E, ho.fr (hf i)⟩⟩
theorem S_makeN {n : Int} {k1 k2 : IntKind} (z0 : β) (hz0 : Wrap.get (α := α) z0 = []) (hL : Hp w0 Γ w) (ht : P.underlying t = some (.slice e)) (hi : TyI P e 1 by_ zv) (hx : ev F x = .int k1 n) (hy : ev F y = .int k2 n) (hz : zv.cells = #[.slice none 0 0])
    (hn : 0 ≤ n ∧ n < 1099511627776) (hb : by_ ≤ 256) (hd : Nat.blt d N = true) (h : ∀ w' v S, Hp w0 (Ent.own e S v (List.replicate n.toNat z0) :: Γ) w' → K (upd F d v) w') : OP P N ops ⟨some d, .makeSlice t x y, ty, pos, aft, none⟩ K F w := by
  refine S_make (α := SlV) ⟨.slice none 0 0, none, 0, 0, rfl⟩ hL ht hi hx hy hz hn hb hd fun w' v S hH => h w' v S ?_
  have o := hH.get 0 rfl
  have hc : ownL e S w' v (List.replicate n.toNat z0) := nest_close (α := α) (T := fun _ _ => False) o.1 ⟨by rw [List.length_replicate, List.length_replicate], fun i u x hu hx => ⟨0, by
    have hu' : u = ⟨.slice none 0 0, none, 0, 0, rfl⟩ := by
      have := List.mem_of_getElem? hu
      exact (List.mem_replicate.1 this).2
    have hx' : x = z0 := by
      have := List.mem_of_getElem? hx
      exact (List.mem_replicate.1 this).2
    subst hu' hx'
    rw [hz0]
    exact (ownL_nil).mono (fun k hk => hk.elim)⟩⟩ (fun k hk => hk) (fun i k hk => hk.elim) (fun i j k hk => hk.elim)
  have := hH.upd 0 rfl (Mod.refl S w') (fun k _ hk => hk) (e' := Ent.own e S v (List.replicate n.toNat z0)) ⟨hc, o.2⟩ (fun k hk => .inl hk)
  simpa using this
theorem S_storeR {S S2 : Nat → Prop} {v u : Value} {xs : List β} {ys : List α} {k : Int} {a : β} (a' : β) (ha' : Wrap.get (α := α) a' = ys) {b q : Nat} {E E2 : TypeId} (hL : Hp w0 (Ent.own E S v xs :: Ent.own E2 S2 u ys :: Γ) w) (ht : TyI P t 1 by_ zv)
    (hix : IxAddr v 1 k b q) (ha : xs[k.toNat]? = some a) (hx : ev F x = .pointer (some ⟨b, q, none⟩)) (hy : ev F y = u)
    (h : ∀ w' S', Hp w0 (Ent.own E S' v (xs.set k.toNat a') :: Γ) w' → K F w') : OP P N ops ⟨none, .store t x y, ty, pos, aft, none⟩ K F w := by
  have o1 := hL.get 0 rfl
  have o2 := hL.get 1 rfl
  have dis : ∀ k, S k → S2 k → False := hL.disj (i := 0) (j := 1) (by decide) rfl rfl
  obtain ⟨us, T, S1, f1, r1, a1, a2, a3⟩ := nest_open (α := α) o1.1
  have hlt : k.toNat < us.length := by rw [r1.1]; exact (List.getElem?_eq_some_iff.1 ha).1
  have hH : Hp w [Ent.own (α := SlV) E S1 v us, Ent.frz w S1] w := Hp.startIO (e := Ent.own (α := SlV) E S1 v us) ⟨f1, fun k hk => o1.2 k (a1 k hk)⟩
  refine S_storeX (α := SlV) (K := K) (w0 := w) (Γ := [Ent.own (α := SlV) E S1 v us, Ent.frz w S1]) ⟨u, o2.1.rdL.slv⟩ (j := 0) hH 0 rfl ht hix (List.getElem?_eq_getElem hlt) hx rfl ?_ hy rfl rfl fun w' hH' => ?_
  · obtain ⟨A, n, c, rfl⟩ := o2.1.rdL.slv; rfl
  · have hm : Mod S1 w w' := ⟨hH'.same, fun k hk hn => hH'.get 1 rfl k hk hn⟩
    have f1' := hH'.get 0 rfl
    have k1 : ∀ i k, T i k → k < w.heap.size ∧ ¬ S1 k := fun i k hk => ⟨o1.2 k (a2 i k hk).1, (a2 i k hk).2⟩
    have k2 : ∀ k, S2 k → k < w.heap.size ∧ ¬ S1 k := fun k hk => ⟨o2.2 k hk, fun hs => dis k (a1 k hs) hk⟩
    have r1' := rows_fr r1 (w' := w') fun i k hk => hm.blk k (k1 i k hk).1 (k1 i k hk).2
    have o2' : ownL E2 S2 w' u ys := o2.1.fr fun k hk => hm.blk k (k2 k hk).1 (k2 k hk).2
    let T3 : Nat → Nat → Prop := fun i => if i = k.toNat then S2 else T i
    have e3 : ∀ i m, T3 i m → (∃ j, T j m) ∨ S2 m := by
      intro i m hk
      simp only [T3] at hk
      split at hk
      · exact .inr hk
      · exact .inl ⟨_, hk⟩
    have rr : Rows (α := α) (us.set k.toNat ⟨u, o2.1.rdL.slv⟩) (xs.set k.toNat a') T3 w' := by
      refine ⟨by simp [r1.1], fun i u' x' hu hx' => ?_⟩
      by_cases hi : i = k.toNat
      · subst hi
        rw [List.getElem?_set_self hlt] at hu
        rw [List.getElem?_set_self (by rw [← r1.1]; exact hlt)] at hx'
        injection hu with hu
        injection hx' with hx'
        subst hu hx'
        simp only [T3, if_true]
        rw [ha']
        exact ⟨E2, o2'⟩
      · rw [List.getElem?_set_ne (Ne.symm hi)] at hu hx'
        simp only [T3, if_neg hi]
        exact r1'.2 i u' x' hu hx'
    refine h w' (fun m => S1 m ∨ (∃ i, T i m) ∨ S2 m) (hL.merge hm (fun m _ hk => a1 m hk) ⟨nest_close f1'.1 rr (fun m hk => .inl hk) (fun i m hk => ⟨.inr (e3 i m hk), fun hs => ?_⟩) ?_, fun m hk => ?_⟩ (fun m hk => ?_))
    · rcases e3 i m hk with ⟨j, hj⟩ | hj
      · exact (k1 j m hj).2 hs
      · exact (k2 m hj).2 hs
    · intro i j m hi hj
      simp only [T3] at hi hj
      split at hi <;> split at hj
      · omega
      · exact (dis m (a2 j m hj).1 hi).elim
      · exact (dis m (a2 i m hi).1 hj).elim
      · exact a3 i j m hi hj
    · rcases hk with hk | ⟨i, hk⟩ | hk
      · exact f1'.2 m hk
      · exact Nat.lt_of_lt_of_le (k1 i m hk).1 hm.size
      · exact Nat.lt_of_lt_of_le (k2 m hk).1 hm.size
    · rcases hk with hk | ⟨i, hk⟩ | hk
      · exact .inl (a1 m hk)
      · exact .inl (a2 i m hk).1
      · exact .inr (.inl hk)
end
end Go.Proofs.YtmngaoalphpjiaaDoor
