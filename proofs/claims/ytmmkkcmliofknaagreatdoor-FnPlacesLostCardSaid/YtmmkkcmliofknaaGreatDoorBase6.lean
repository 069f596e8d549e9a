/- More of my proof rules: a row's name kept while the row is changed. -/
import Derived.Test.YtmmkkcmliofknaaGreatDoorBase5
namespace Go.Proofs.YtmmkkcmliofknaaGreatDoor
open Go Go.RowKit Go.ChangeShapes Go.WideShapes
set_option linter.unusedVariables false
set_option linter.unusedSimpArgs false
set_option linter.unusedSectionVars false
theorem lA {α : Type} (a : α) (as bs : List α) : (a :: as) ++ bs = a :: (as ++ bs) := rfl
theorem lB {α : Type} (as : List α) : [] ++ as = as := rfl
theorem lC {α : Type} (a b : α) (as : List α) : (a :: as).set 0 b = b :: as := rfl
theorem lD {α : Type} (a b : α) (as : List α) (n : Nat) : (a :: as).set (n + 1) b = a :: as.set n b := rfl
theorem IxAddr.inj {v : Value} {sz : Nat} {i : Int} {b q b' q' : Nat} (h : IxAddr v sz i b q) (h' : IxAddr v sz i b' q') : b = b' ∧ q = q' := by
  obtain ⟨o, n, cap, e1, _, _, rfl⟩ := h
  obtain ⟨o', n', cap', e2, _, _, rfl⟩ := h'
  rw [e1] at e2
  injection e2 with e2
  injection e2 with e2
  injection e2 with e3 e4
  exact ⟨e3, by rw [e4]⟩
theorem rdL.ixS {α : Type} [GoT α] {S : Nat → Prop} {w : World} {v : Value} {xs : List α} {sz : Nat} {i : Int} {b q : Nat} (h : rdL S w v xs) (hix : IxAddr v sz i b q) (hlt : i.toNat < xs.length) : S b := by
  obtain ⟨A, cap, rfl, h1, h2, h3⟩ := h
  obtain ⟨b', o, rfl, hb, hr⟩ := h3 (by omega)
  obtain ⟨o', n', cap', e2, _, _, rfl⟩ := hix
  injection e2 with e2
  injection e2 with e2
  injection e2 with e3 e4
  rw [← e3]; exact hb
section
variable {α β : Type} [GoT α] [GoT β] [Wrap β α] {w0 w w' : World} {Γ : List Ent}
theorem Hp.freezeAt {S : Nat → Prop} {v u : Value} {xs : List β} {k : Int} {a : β} {b q : Nat} {E : TypeId} (h : Hp w0 Γ w) (i : Nat) (hi : Γ[i]? = some (Ent.own E S v xs)) (hix : IxAddr v 1 k b q) (ha : xs[k.toNat]? = some a) (hc : w.cell? ⟨b, q, none⟩ = some u) :
    ∃ w1, Hp w0 (Γ.set i (zA2 w1 S)) w ∧ (Ent.own E S v xs).H w1 ∧ S b ∧ w1.cell? ⟨b, q, none⟩ = some u ∧ rdL S w1 u (Wrap.get (α := α) a) := by
  have o := h.get i hi
  have h0 : 0 ≤ k := by obtain ⟨_, _, _, _, h0, _, _⟩ := hix; exact h0
  obtain ⟨b', q', u', hix', hS, hcell, hr⟩ := zCp (α := α) o.1.rdL h0 ha
  obtain ⟨rfl, rfl⟩ := hix.inj hix'
  rw [hc] at hcell
  injection hcell with hcell
  subst hcell
  exact ⟨w, h.upd i hi (Mod.refl S w) (fun k _ hk => hk) (fun k hk => ⟨o.2 k hk, rfl⟩) (fun k hk => .inl hk), o, hS, hc, hr⟩
theorem Hp.partRC {S : Nat → Prop} {v u : Value} {xs : List β} {k : Int} {a : β} {b q : Nat} {E : TypeId} (h : Hp w0 Γ w) (i : Nat) (hi : Γ[i]? = some (Ent.own E S v xs)) (hix : IxAddr v 1 k b q) (ha : xs[k.toNat]? = some a) (hc : w.cell? ⟨b, q, none⟩ = some u) :
    ∃ E2 S1, (Ent.own E2 S1 u (Wrap.get (α := α) a)).H w ∧ (b < w.heap.size ∧ ¬ S1 b) ∧ ∀ w' S1' ys' Γr (a' : β), Mut w w' S1 (Ent.own E2 S1' u ys' :: Γr) → Wrap.get (α := α) a' = ys' → ∃ S', Hp w0 (Γr ++ Γ.set i (Ent.own E S' v (xs.set k.toNat a'))) w' := by
  have o1 := h.get i hi
  obtain ⟨us, T, S1, f1, r1, a1, a2, a3⟩ := zLg (α := α) (β := β) o1.1
  have hlt : k.toNat < us.length := by rw [r1.1]; exact (List.getElem?_eq_some_iff.1 ha).1
  have hcell := zAv (α := SlV) f1.rdL hix (List.getElem?_eq_getElem hlt) 0 _ rfl
  rw [Nat.add_zero, hc] at hcell
  injection hcell with hcell
  obtain ⟨E2, hrow⟩ := r1.2 k.toNat _ a (List.getElem?_eq_getElem hlt) ha
  rw [← hcell] at hrow
  have hS1b : S1 b := f1.rdL.ixS hix (by rw [r1.1]; exact (List.getElem?_eq_some_iff.1 ha).1)
  refine ⟨E2, T k.toNat, ⟨hrow, fun m hm => o1.2 m (a2 _ m hm).1⟩, ⟨o1.2 b (a1 b hS1b), fun hT => (a2 _ b hT).2 hS1b⟩, fun w' S1' ys' Γr a' hM ha' => ?_⟩
  have k1 : ∀ m, S1 m → m < w.heap.size := fun m hm => o1.2 m (a1 m hm)
  have kT : ∀ j m, T j m → m < w.heap.size := fun j m hm => o1.2 m (a2 j m hm).1
  have hp := List.pairwise_cons.1 hM.pw
  have hown := hM.all _ List.mem_cons_self
  have f1' : ownL (α := SlV) E S1 w' v us := f1.fr fun m hm => hM.mod.blk m (k1 m hm) fun ht => (a2 _ m ht).2 hm
  let T3 : Nat → Nat → Prop := fun j => if j = k.toNat then S1' else T j
  have rr : Rows (α := α) us (xs.set k.toNat a') T3 w' := by
    refine ⟨by rw [List.length_set]; exact r1.1, fun j u' x' hu hx' => ?_⟩
    by_cases hj : j = k.toNat
    · subst hj
      rw [List.getElem?_set_self (by rw [← r1.1]; exact hlt)] at hx'
      injection hx' with hx'
      subst hx'
      rw [List.getElem?_eq_getElem hlt] at hu
      injection hu with hu
      subst hu
      simp only [T3, if_true]
      rw [ha', ← hcell]
      exact ⟨E2, hown.1.1⟩
    · rw [List.getElem?_set_ne (Ne.symm hj)] at hx'
      simp only [T3, if_neg hj]
      obtain ⟨E', ho⟩ := r1.2 j u' x' hu hx'
      exact ⟨E', ho.fr fun m hm => hM.mod.blk m (kT j m hm) fun ht => hj (a3 j _ m hm ht)⟩
  have s1 : ∀ m, S1' m → ¬ S1 m ∧ (T k.toNat m ∨ w.heap.size ≤ m) := fun m hm => by
    rcases hown.2 m hm with h1 | h1
    · exact ⟨(a2 _ m h1).2, .inl h1⟩
    · exact ⟨fun hs => by have := k1 m hs; omega, .inr h1⟩
  have e3 : ∀ j m, T3 j m → (∃ j, T j m) ∨ S1' m := by
    intro j m hk
    simp only [T3] at hk
    split at hk
    · exact .inr hk
    · exact .inl ⟨_, hk⟩
  have hM2 : Mut w w' S (Ent.own E (fun m => S1 m ∨ (∃ j, j ≠ k.toNat ∧ T j m) ∨ S1' m) v (xs.set k.toNat a') :: Γr) := by
    refine ⟨hM.mod.mono fun m _ hm => (a2 _ m hm).1, fun e he => ?_, List.pairwise_cons.2 ⟨fun e he m hm hm' => ?_, hp.2⟩⟩
    · rcases List.mem_cons.1 he with rfl | he
      · refine ⟨⟨zJL f1' rr (fun m hm => .inl hm) (fun j m hm => ⟨?_, fun hs => ?_⟩) ?_, fun m hm => ?_⟩, fun m hm => ?_⟩
        · simp only [T3] at hm
          split at hm
          · exact .inr (.inr hm)
          · rename_i hne; exact .inr (.inl ⟨j, hne, hm⟩)
        · simp only [T3] at hm
          split at hm
          · exact (s1 m hm).1 hs
          · exact (a2 j m hm).2 hs
        · intro j1 j2 m h1 h2
          simp only [T3] at h1 h2
          split at h1 <;> split at h2
          · omega
          · rename_i hne
            rcases (s1 m h1).2 with g | g
            · exact (hne (a3 _ _ m h2 g)).elim
            · have := kT _ m h2; omega
          · rename_i hne _
            rcases (s1 m h2).2 with g | g
            · exact (hne (a3 _ _ m h1 g)).elim
            · have := kT _ m h1; omega
          · exact a3 _ _ m h1 h2
        · rcases hm with hm | ⟨j, _, hm⟩ | hm
          · exact Nat.lt_of_lt_of_le (k1 m hm) hM.mod.size
          · exact Nat.lt_of_lt_of_le (kT j m hm) hM.mod.size
          · exact hown.1.2 m hm
        · rcases hm with hm | ⟨j, _, hm⟩ | hm
          · exact .inl (a1 m hm)
          · exact .inl (a2 j m hm).1
          · rcases (s1 m hm).2 with g | g
            · exact .inl (a2 _ m g).1
            · exact .inr g
      · have := hM.all e (List.mem_cons_of_mem _ he)
        exact ⟨this.1, fun m hm => (this.2 m hm).imp (fun g => (a2 _ m g).1) id⟩
    · rcases hm with hm | ⟨j, hne, hm⟩ | hm
      · rcases (hM.all e (List.mem_cons_of_mem _ he)).2 m hm' with g | g
        · exact (a2 _ m g).2 hm
        · have := k1 m hm; omega
      · rcases (hM.all e (List.mem_cons_of_mem _ he)).2 m hm' with g | g
        · exact hne (a3 _ _ m hm g)
        · have := kT j m hm; omega
      · exact hp.1 e he m hm hm'
  exact ⟨_, h.mut i hi hM2⟩
theorem zKU {P : Program} {N : Nat} {ops : Array Oper} {K : Fr → World → Prop} {F : Fr} {o : Oper} {S : Nat → Prop} {v u : Value} {xs : List β} {k : Int} {a : β} {b q : Nat} {E : TypeId} (ys' : List α) (a' : β) (ha' : Wrap.get (α := α) a' = ys')
    (hL : Hp w0 Γ w) (i : Nat) (hi : Γ[i]? = some (Ent.own E S v xs)) (hix : IxAddr v 1 k b q) (ha : xs[k.toNat]? = some a) (hc : w.cell? ⟨b, q, none⟩ = some u)
    (hs : ∀ (E2 : TypeId) (S1 : Nat → Prop), Hp w [Ent.own E2 S1 u (Wrap.get (α := α) a), zAS w S1] w → (∀ w', Hp w [Ent.own E2 S1 u ys', zAS w S1] w' → K F w') → OP P N ops o K F w)
    (h : ∀ w' S', Hp w0 (Γ.set i (Ent.own E S' v (xs.set k.toNat a'))) w' → w'.cell? ⟨b, q, none⟩ = some u → (xs.set k.toNat a')[k.toNat]? = some a' → K F w') : OP P N ops o K F w := by
  obtain ⟨E2, S1, hp, hnb, hb⟩ := hL.partRC (α := α) i hi hix ha hc
  refine hs E2 S1 (zDc hp) (fun w' hL' => ?_)
  have hM : Mut w w' S1 [Ent.own E2 S1 u ys'] := hL'.mutOut 1 rfl [0] (by decide) (by decide) rfl
  obtain ⟨S', h2⟩ := hb w' S1 ys' [] a' hM ha'
  refine h w' S' (by simpa using h2) ?_ (List.getElem?_set_self (List.getElem?_eq_some_iff.1 ha).1)
  rw [← hc]; exact zL0 (hM.mod.blk b hnb.1 hnb.2) q
end
end Go.Proofs.YtmmkkcmliofknaaGreatDoor
