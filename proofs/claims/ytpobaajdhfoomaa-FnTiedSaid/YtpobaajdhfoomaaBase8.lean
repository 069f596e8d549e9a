/- Shorter words for the links of big claims, and Go's sort as a change of a slice of the call's own. -/
import Derived.Test.YtpobaajdhfoomaaBase7
import Derived.Sort.Grow
namespace Go.Proofs.Ytpobaajdhfoomaa
open Go Go.RowKit Go.ChangeShapes Go.WideShapes
set_option linter.unusedVariables false
set_option linter.unusedSimpArgs false
def bmk : Nat → Nat → List Bool
  | 0, _ => []
  | n + 1, m => Nat.beq (m % 2) 1 :: bmk n (m / 2)
abbrev bma (n m : Nat) : Array Bool := ⟨bmk n m⟩
section
variable {P : Program} {N : Nat} {R K : Fr → World → Prop} {X : Nat → Fr → World → Prop} {F : Fr} {w w' : World} {ops : Array Oper} {rest : List Oper} {d : Nat} {op : Op} {ty : TypeId} {pos : String} {aft : Array Edge}
theorem OV (v : Value) (hd : Nat.blt d N = true) (hx : XV P F op ty w v w') (h : OW P N ops rest K (upd F d v) w') : OW P N ops (⟨some d, op, ty, pos, aft, none⟩ :: rest) K F w := OW.cons (OP.val (v := v) hd hx h)
theorem QV {C : World → Prop} {K : Fr → Prop} {i : Nat} {is : List Nat} (v : Value) (ho : ops[i]? = some ⟨some d, op, ty, pos, aft, none⟩) (hd : Nat.blt d N = true) (hx : ∀ w, C w → XV P F op ty w v w) (h : QW P N ops C K is (upd F d v)) : QW P N ops C K (i :: is) F := QW.cons ho (QP.val hd hx h)
theorem CSR {id : Nat} {l : List Oper} {b : Code} (h : OW P N l.toArray l (fun F w => CW P N b R X K F w) F w) : CW P N (.seq (.region id l.toArray false) b) R X K F w := CW.seq (CW.regionL h)
theorem ONR {id : Nat} {l : List Oper} {b : Code} (h : OW P N l.toArray l (fun F w => CW P N b R X K F w) F w) : OW P N ops [] (fun F w => CW P N (.seq (.region id l.toArray false) b) R X K F w) F w := OW.nil (CSR h)
theorem ONS {a b : Code} (h : CW P N a R X (fun F w => CW P N b R X K F w) F w) : OW P N ops [] (fun F w => CW P N (.seq a b) R X K F w) F w := OW.nil (CW.seq h)
end
theorem rdL.rdL {α : Type} [GoT α] {S : Nat → Prop} {w : World} {v : Value} {xs : List α} (h : rdL S w v xs) : rdL S w v xs := h
def Ent.rdx {α : Type} [GoT α] (S : Nat → Prop) (v : Value) (xs : List α) : Ent where
  S := S
  H w := rdL S w v xs ∧ ∀ k, S k → k < w.heap.size
  fr {w w'} hf h := ⟨h.1.fr hf, fun k hk => by
    have h1 := h.2 k hk
    have h2 := hf k hk
    rw [Array.getElem?_eq_getElem h1] at h2
    exact lt_of_some h2⟩
  lt h hk := h.2 _ hk
section
variable {α : Type} [GoT α] {w0 w w1 : World} {Γ : List Ent} {E : TypeId} {S : Nat → Prop} {v v' : Value} {xs : List α}
theorem Hp.rdxIn (h : Hp w0 Γ w) (i : Nat) (hi : Γ[i]? = some (Ent.own E S v xs)) : Hp w0 (Γ.set i (Ent.rdx S v xs)) w :=
  h.upd i hi (Mod.refl None_ w) (fun k _ hk => hk.elim) (e' := Ent.rdx S v xs) ⟨(h.get i hi).1.rdL, (h.get i hi).2⟩ (fun m hm => .inl hm)
theorem Hp.rdxSub {lo hi' : Int} (h : Hp w0 Γ w) (i : Nat) (hi : Γ[i]? = some (Ent.own E S v xs)) (hs : SubV v (GoT.sz α) lo hi' v') : Hp w0 (Γ.set i (Ent.rdx S v' (subL xs lo hi'))) w :=
  h.upd i hi (Mod.refl None_ w) (fun k _ hk => hk.elim) (e' := Ent.rdx S v' (subL xs lo hi')) ⟨hs.rdL (h.get i hi).1.rdL, (h.get i hi).2⟩ (fun m hm => .inl hm)
theorem Hp.rdX (h : Hp w0 Γ w) (i : Nat) (hi : Γ[i]? = some (Ent.rdx S v xs)) : rdL (· < w.heap.size) w v xs := (h.get i hi).1.mono (h.get i hi).2
theorem Hp.rdxFz (h : Hp w0 Γ w) (i : Nat) (hi : Γ[i]? = some (Ent.rdx S v xs)) : ∃ w1, Hp w0 (Γ.set i (Ent.frzS w1 S)) w ∧ (Ent.rdx S v xs).H w1 :=
  ⟨w, h.upd i hi (Mod.refl S w) (fun k _ hk => hk) (fun k hk => ⟨(h.get i hi).2 k hk, rfl⟩) (fun k hk => .inl hk), h.get i hi⟩
theorem Hp.rdxOut (h : Hp w0 Γ w) (i : Nat) (hi : Γ[i]? = some (Ent.frzS w1 S)) (ho : (Ent.rdx S v xs).H w1) : Hp w0 (Γ.set i (Ent.rdx S v xs)) w :=
  h.upd i hi (Mod.refl S w) (fun k _ hk => hk) ((Ent.rdx S v xs).fr (fun k hk => (h.get i hi k hk).2) ho) (fun k hk => .inl hk)
end
def Ent.cnd {α : Type} [GoT α] (C : Prop) (E : TypeId) (S : Nat → Prop) (v : Value) (xs : List α) : Ent where
  S := S
  H w := rdL S w v xs ∧ (∀ k, S k → k < w.heap.size) ∧ (C → ownL E S w v xs)
  fr {w w'} hf h := ⟨h.1.fr hf, fun k hk => by
    have h1 := h.2.1 k hk
    have h2 := hf k hk
    rw [Array.getElem?_eq_getElem h1] at h2
    exact lt_of_some h2, fun hc => (h.2.2 hc).fr hf⟩
  lt h hk := h.2.1 _ hk
section
variable {α : Type} [GoT α] {w0 w w1 : World} {Γ : List Ent} {E : TypeId} {S : Nat → Prop} {v : Value} {xs : List α} {C : Prop}
theorem Hp.cndIn (h : Hp w0 Γ w) (i : Nat) (hi : Γ[i]? = some (Ent.own E S v xs)) (C : Prop) : Hp w0 (Γ.set i (Ent.cnd C E S v xs)) w :=
  h.upd i hi (Mod.refl None_ w) (fun k _ hk => hk.elim) (e' := Ent.cnd C E S v xs) ⟨(h.get i hi).1.rdL, (h.get i hi).2, fun _ => (h.get i hi).1⟩ (fun m hm => .inl hm)
theorem Hp.cndNo (h : Hp w0 Γ w) (i : Nat) (hi : Γ[i]? = some (Ent.rdx S v xs)) (C : Prop) (E : TypeId) (hn : ¬ C) : Hp w0 (Γ.set i (Ent.cnd C E S v xs)) w :=
  h.upd i hi (Mod.refl None_ w) (fun k _ hk => hk.elim) (e' := Ent.cnd C E S v xs) ⟨(h.get i hi).1, (h.get i hi).2, fun hc => absurd hc hn⟩ (fun m hm => .inl hm)
theorem Hp.cndFz (h : Hp w0 Γ w) (i : Nat) (hi : Γ[i]? = some (Ent.cnd C E S v xs)) : ∃ w1, Hp w0 (Γ.set i (Ent.frzS w1 S)) w ∧ (Ent.cnd C E S v xs).H w1 :=
  ⟨w, h.upd i hi (Mod.refl S w) (fun k _ hk => hk) (fun k hk => ⟨(h.get i hi).2.1 k hk, rfl⟩) (fun k hk => .inl hk), h.get i hi⟩
theorem Hp.cndOut (h : Hp w0 Γ w) (i : Nat) (hi : Γ[i]? = some (Ent.frzS w1 S)) (ho : (Ent.cnd C E S v xs).H w1) : Hp w0 (Γ.set i (Ent.cnd C E S v xs)) w :=
  h.upd i hi (Mod.refl S w) (fun k _ hk => hk) ((Ent.cnd C E S v xs).fr (fun k hk => (h.get i hi k hk).2) ho) (fun k hk => .inl hk)
theorem Hp.cndOwn (h : Hp w0 Γ w) (i : Nat) (hi : Γ[i]? = some (Ent.frzS w1 S)) (ho : (Ent.cnd C E S v xs).H w1) (hc : C) : Hp w0 (Γ.set i (Ent.own E S v xs)) w :=
  h.thaw i hi ⟨ho.2.2 hc, ho.2.1⟩
theorem Hp.cndX (h : Hp w0 Γ w) (i : Nat) (hi : Γ[i]? = some (Ent.cnd C E S v xs)) : Hp w0 (Γ.set i (Ent.rdx S v xs)) w :=
  h.upd i hi (Mod.refl None_ w) (fun k _ hk => hk.elim) (e' := Ent.rdx S v xs) ⟨(h.get i hi).1, (h.get i hi).2.1⟩ (fun m hm => .inl hm)
theorem Hp.rdC (h : Hp w0 Γ w) (i : Nat) (hi : Γ[i]? = some (Ent.cnd C E S v xs)) : rdL (· < w.heap.size) w v xs := (h.get i hi).1.mono (h.get i hi).2.1
end
theorem S_rowTail {P : Program} {N : Nat} {ops : Array Oper} {K : Fr → World → Prop} {F : Fr} {w0 w : World} {Γ : List Ent} {t ty : TypeId} {pos : String} {aft : Array Edge} {x y : Operand} {by_ : Nat} {zv : Value} {α : Type} [GoT α] {S : Nat → Prop} {v u v' : Value} {xs : List (List α)} {k : Int} {a : List α} {b q b0 q0 : Nat} {E : TypeId} (ys : List α)
    (hL : Hp w0 Γ w) (i : Nat) (hi : Γ[i]? = some (Ent.own E S v xs)) (ht : TyI P t 1 by_ zv) (hix0 : IxAddr v 1 k b0 q0) (ha : xs[k.toNat]? = some a) (hc : w.cell? ⟨b0, q0, none⟩ = some u)
    (hsub : ∀ (S : Nat → Prop) (w : World), rdL S w u a → rdL S w v' ys) (hix : IxAddr v 1 k b q) (hx : ev F x = .pointer (some ⟨b, q, none⟩)) (hy : ev F y = v')
    (h : ∀ w', Hp w0 (Γ.set i (Ent.rdx S v (xs.set k.toNat ys))) w' → K F w') : OP P N ops ⟨none, .store t x y, ty, pos, aft, none⟩ K F w := by
  obtain ⟨rfl, rfl⟩ := hix.inj hix0
  have o1 := hL.get i hi
  obtain ⟨us, T, S1, f1, r1, a1, a2, a3⟩ := nest_open (α := α) (β := List α) o1.1
  have hlt : k.toNat < us.length := by rw [r1.1]; exact (List.getElem?_eq_some_iff.1 ha).1
  have hcell := rdF_cells (α := SlV) f1.rdL hix (List.getElem?_eq_getElem hlt) 0 _ rfl
  rw [Nat.add_zero, hc] at hcell
  injection hcell with hcell
  obtain ⟨E2, hrow⟩ := r1.2 k.toNat _ a (List.getElem?_eq_getElem hlt) ha
  rw [← hcell] at hrow
  have hslv := (hsub (T k.toNat) w hrow.rdL).slv
  have hH : Hp w [Ent.own (α := SlV) E S1 v us, Ent.frz w S1] w := Hp.startIO (e := Ent.own (α := SlV) E S1 v us) ⟨f1, fun k hk => o1.2 k (a1 k hk)⟩
  refine S_storeX (α := SlV) (K := K) (w0 := w) (Γ := [Ent.own (α := SlV) E S1 v us, Ent.frz w S1]) ⟨v', hslv⟩ (j := 0) hH 0 rfl ht hix (List.getElem?_eq_getElem hlt) hx rfl ?_ hy rfl rfl fun w' hH' => ?_
  · obtain ⟨A, n, c, rfl⟩ := hslv; rfl
  · have hm : Mod S1 w w' := ⟨hH'.same, fun k hk hn => hH'.get 1 rfl k hk hn⟩
    have f1' := hH'.get 0 rfl
    have k1 : ∀ i k, T i k → k < w.heap.size ∧ ¬ S1 k := fun i k hk => ⟨o1.2 k (a2 i k hk).1, (a2 i k hk).2⟩
    have r1' := rows_fr r1 (w' := w') fun i k hk => hm.blk k (k1 i k hk).1 (k1 i k hk).2
    have hrow' : ownL E2 (T k.toNat) w' u a := hrow.fr fun m hm' => hm.blk m (k1 _ m hm').1 (k1 _ m hm').2
    refine h w' (hL.upd i hi hm (fun m _ hk => a1 m hk) (e' := Ent.rdx S v (xs.set k.toNat ys)) ⟨?_, fun m hk => Nat.lt_of_lt_of_le (o1.2 m hk) hm.size⟩ (fun m hk => .inl hk))
    obtain ⟨A, cap, e, h1, h2, h3⟩ := f1'.1.rdL
    have hlen : (us.set k.toNat ⟨v', hslv⟩).length = (xs.set k.toNat ys).length := by simp [r1.1]
    refine ⟨A, cap, by rw [← hlen]; exact e, by omega, h2, fun h0 => ?_⟩
    obtain ⟨b', o', hA, hb', hcs⟩ := h3 (by omega)
    refine ⟨b', o', hA, a1 _ hb', fun j x hx => ?_⟩
    have hj : j < (us.set k.toNat ⟨v', hslv⟩).length := by rw [hlen]; exact (List.getElem?_eq_some_iff.1 hx).1
    obtain ⟨cs, hcs1, hcs2⟩ := hcs j _ (List.getElem?_eq_getElem hj)
    have hcs1' : cs = [((us.set k.toNat ⟨v', hslv⟩)[j]).1] := hcs1
    subst hcs1'
    refine ⟨_, ⟨_, rfl, ?_⟩, hcs2⟩
    by_cases hjk : j = k.toNat
    · subst hjk
      rw [List.getElem?_set_self (by rw [← r1.1]; exact hlt)] at hx
      injection hx with hx
      subst hx
      rw [List.getElem_set_self]
      exact (hsub _ _ hrow'.rdL).mono fun m hm' => (a2 _ m hm').1
    · rw [List.getElem?_set_ne (Ne.symm hjk)] at hx
      rw [List.getElem_set_ne (Ne.symm hjk)]
      rw [List.length_set] at hj
      obtain ⟨E3, h5⟩ := r1'.2 j _ x (List.getElem?_eq_getElem hj) hx
      exact h5.rdL.mono fun m hm' => (a2 _ m hm').1
end Go.Proofs.Ytpobaajdhfoomaa
