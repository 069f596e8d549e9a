/- Words for a row that grows where it lies in a slice of slices, and for rows that are struck out. -/
import Derived.Test.YtpobaajdhfoomaaBase13
import Derived.ArgAppend
namespace Go.Proofs.Ytpobaajdhfoomaa
open Go Go.RowKit Go.ChangeShapes Go.WideShapes
set_option linter.unusedVariables false
set_option linter.unusedSimpArgs false
set_option linter.unusedSectionVars false
section
variable {α β : Type} [GoT α] [GoT β] [Wrap β α]
def RowsH (us : List SlV) (xs : List β) (T : Nat → Nat → Prop) (w : World) (k : Nat) : Prop := us.length = xs.length ∧ ∀ i (u : SlV) x, i ≠ k → us[i]? = some u → xs[i]? = some x → ∃ E, ownL E (T i) w u.1 (Wrap.get (α := α) x)
def Ent.hole (E : TypeId) (S : Nat → Prop) (v : Value) (xs : List β) (k : Nat) : Ent where
  S := S
  H w := (∃ us T S1, ownL (α := SlV) E S1 w v us ∧ RowsH (α := α) us xs T w k ∧ (∀ m, S1 m → S m) ∧ (∀ i m, T i m → S m ∧ ¬ S1 m) ∧ (∀ i j m, T i m → T j m → i = j)) ∧ ∀ m, S m → m < w.heap.size
  fr {w w'} hf h := by
    obtain ⟨⟨us, T, S1, f1, r1, a1, a2, a3⟩, hlt⟩ := h
    refine ⟨⟨us, T, S1, f1.fr fun k hk => hf k (a1 k hk), ⟨r1.1, fun i u x hi hu hx => ?_⟩, a1, a2, a3⟩, fun k hk => ?_⟩
    · obtain ⟨E', ho⟩ := r1.2 i u x hi hu hx
      exact ⟨E', ho.fr fun k hk => hf k (a2 i k hk).1⟩
    · have h2 := hf k hk
      rw [Array.getElem?_eq_getElem (hlt k hk)] at h2
      exact lt_of_some h2
  lt h hk := h.2 _ hk
variable {P : Program} {N : Nat} {ops : Array Oper} {K : Fr → World → Prop} {F : Fr} {w0 w : World} {Γ : List Ent} {d : Nat} {ty t e : TypeId} {pos : String} {aft : Array Edge} {x y : Operand} {by_ : Nat} {zv : Value}
theorem Hp.holeAt {S : Nat → Prop} {v u : Value} {xs : List β} {k : Int} {a : β} {b q : Nat} {E : TypeId} (h : Hp w0 Γ w) (i : Nat) (hi : Γ[i]? = some (Ent.own E S v xs)) (hix : IxAddr v 1 k b q) (ha : xs[k.toNat]? = some a) (hc : w.cell? ⟨b, q, none⟩ = some u) :
    ∃ (E2 : TypeId) (S2 S' : Nat → Prop), Hp w0 (Ent.own E2 S2 u (Wrap.get (α := α) a) :: Γ.set i (Ent.hole (α := α) E S' v xs k.toNat)) w := by
  have o1 := h.get i hi
  obtain ⟨us, T, S1, f1, r1, a1, a2, a3⟩ := nest_open (α := α) (β := β) o1.1
  have hlt : k.toNat < us.length := by rw [r1.1]; exact (List.getElem?_eq_some_iff.1 ha).1
  have hcell := rdF_cells (α := SlV) f1.rdL hix (List.getElem?_eq_getElem hlt) 0 _ rfl
  rw [Nat.add_zero, hc] at hcell
  injection hcell with hcell
  obtain ⟨E2, hrow⟩ := r1.2 k.toNat _ a (List.getElem?_eq_getElem hlt) ha
  rw [← hcell] at hrow
  have hM : Mut w w S (Ent.hole (α := α) E (fun m => S1 m ∨ ∃ j, j ≠ k.toNat ∧ T j m) v xs k.toNat :: [Ent.own E2 (T k.toNat) u (Wrap.get (α := α) a)]) := by
    refine ⟨Mod.refl S w, fun e he => ?_, List.pairwise_cons.2 ⟨fun e he m hm hm' => ?_, List.pairwise_singleton _ _⟩⟩
    · rcases List.mem_cons.1 he with rfl | he
      · refine ⟨⟨⟨us, fun j m => j ≠ k.toNat ∧ T j m, S1, f1, ⟨r1.1, fun j u' x' hj hu hx => ?_⟩, fun m hm => .inl hm, fun j m hm => ⟨.inr ⟨j, hm⟩, (a2 j m hm.2).2⟩, fun j1 j2 m h1 h2 => a3 _ _ m h1.2 h2.2⟩, fun m hm => ?_⟩, fun m hm => ?_⟩
        · obtain ⟨E', ho⟩ := r1.2 j u' x' hu hx
          exact ⟨E', ho.mono fun m hm => ⟨hj, hm⟩⟩
        · rcases hm with hm | ⟨j, _, hm⟩
          · exact o1.2 m (a1 m hm)
          · exact o1.2 m (a2 j m hm).1
        · rcases hm with hm | ⟨j, _, hm⟩
          · exact .inl (a1 m hm)
          · exact .inl (a2 j m hm).1
      · simp only [List.mem_singleton] at he
        subst he
        exact ⟨⟨hrow, fun m hm => o1.2 m (a2 _ m hm).1⟩, fun m hm => .inl (a2 _ m hm).1⟩
    · simp only [List.mem_singleton] at he
      subst he
      rcases hm with hm | ⟨j, hj, hm⟩
      · exact (a2 _ m hm').2 hm
      · exact hj (a3 _ _ m hm hm')
  have := h.mut i hi hM
  exact ⟨E2, _, _, by simpa using this⟩
theorem S_storeH {S S2 : Nat → Prop} {v u : Value} {xs : List β} {ys : List α} {k : Int} {a : β} (a' : β) (ha' : Wrap.get (α := α) a' = ys) {b q : Nat} {E E2 : TypeId} (hL : Hp w0 (Ent.hole (α := α) E S v xs k.toNat :: Ent.own E2 S2 u ys :: Γ) w) (ht : TyI P t 1 by_ zv)
    (hix : IxAddr v 1 k b q) (ha : xs[k.toNat]? = some a) (hx : ev F x = .pointer (some ⟨b, q, none⟩)) (hy : ev F y = u)
    (h : ∀ w' S', Hp w0 (Ent.own E S' v (xs.set k.toNat a') :: Γ) w' → K F w') : OP P N ops ⟨none, .store t x y, ty, pos, aft, none⟩ K F w := by
  have o1 := hL.get 0 rfl
  have o2 := hL.get 1 rfl
  have dis : ∀ k, S k → S2 k → False := hL.disj (i := 0) (j := 1) (by decide) rfl rfl
  obtain ⟨⟨us, T, S1, f1, r1, a1, a2, a3⟩, o1lt⟩ := o1
  have hlt : k.toNat < us.length := by rw [r1.1]; exact (List.getElem?_eq_some_iff.1 ha).1
  have hH : Hp w [Ent.own (α := SlV) E S1 v us, Ent.frz w S1] w := Hp.startIO (e := Ent.own (α := SlV) E S1 v us) ⟨f1, fun k hk => o1lt k (a1 k hk)⟩
  refine S_storeX (α := SlV) (K := K) (w0 := w) (Γ := [Ent.own (α := SlV) E S1 v us, Ent.frz w S1]) ⟨u, o2.1.rdL.slv⟩ (j := 0) hH 0 rfl ht hix (List.getElem?_eq_getElem hlt) hx rfl ?_ hy rfl rfl fun w' hH' => ?_
  · obtain ⟨A, n, c, rfl⟩ := o2.1.rdL.slv; rfl
  · have hm : Mod S1 w w' := ⟨hH'.same, fun k hk hn => hH'.get 1 rfl k hk hn⟩
    have f1' := hH'.get 0 rfl
    have k1 : ∀ i k, T i k → k < w.heap.size ∧ ¬ S1 k := fun i k hk => ⟨o1lt k (a2 i k hk).1, (a2 i k hk).2⟩
    have k2 : ∀ k, S2 k → k < w.heap.size ∧ ¬ S1 k := fun k hk => ⟨o2.2 k hk, fun hs => dis k (a1 k hs) hk⟩
    have o2' : ownL E2 S2 w' u ys := o2.1.fr fun k hk => hm.blk k (k2 k hk).1 (k2 k hk).2
    let T3 : Nat → Nat → Prop := fun i => if i = k.toNat then S2 else T i
    have e3 : ∀ i m, T3 i m → (∃ j, T j m) ∨ S2 m := by
      intro i m hk
      simp only [T3] at hk
      split at hk
      · exact .inr hk
      · exact .inl ⟨_, hk⟩
    have rr : Rows (α := α) (us.set k.toNat ⟨u, o2.1.rdL.slv⟩) (xs.set k.toNat a') T3 w' := by
      refine ⟨by simp [r1.1], fun i u' x' hu hx' => ?_⟩
      by_cases hi : i = k.toNat
      · subst hi
        rw [List.getElem?_set_self hlt] at hu
        rw [List.getElem?_set_self (by rw [← r1.1]; exact hlt)] at hx'
        injection hu with hu
        injection hx' with hx'
        subst hu hx'
        simp only [T3, if_true]
        rw [ha']
        exact ⟨E2, o2'⟩
      · rw [List.getElem?_set_ne (Ne.symm hi)] at hu hx'
        simp only [T3, if_neg hi]
        obtain ⟨E', ho⟩ := r1.2 i u' x' hi hu hx'
        exact ⟨E', ho.fr fun m hm' => hm.blk m (k1 i m hm').1 (k1 i m hm').2⟩
    refine h w' (fun m => S1 m ∨ (∃ i, T i m) ∨ S2 m) (hL.merge hm (fun m _ hk => a1 m hk) ⟨nest_close f1'.1 rr (fun m hk => .inl hk) (fun i m hk => ⟨.inr (e3 i m hk), fun hs => ?_⟩) ?_, fun m hk => ?_⟩ (fun m hk => ?_))
    · rcases e3 i m hk with ⟨j, hj⟩ | hj
      · exact (k1 j m hj).2 hs
      · exact (k2 m hj).2 hs
    · intro i j m hi hj
      simp only [T3] at hi hj
      split at hi <;> split at hj
      · omega
      · exact (dis m (a2 j m hj).1 hi).elim
      · exact (dis m (a2 i m hi).1 hj).elim
      · exact a3 i j m hi hj
    · rcases hk with hk | ⟨i, hk⟩ | hk
      · exact f1'.2 m hk
      · exact Nat.lt_of_lt_of_le (k1 i m hk).1 hm.size
      · exact Nat.lt_of_lt_of_le (k2 m hk).1 hm.size
    · rcases hk with hk | ⟨i, hk⟩ | hk
      · exact .inl (a1 m hk)
      · exact .inl (a2 i m hk).1
      · exact .inr (.inl hk)
end
section
variable {P : Program} {N : Nat} {ops : Array Oper} {K : Fr → World → Prop} {F : Fr} {w0 w : World} {Γ : List Ent} {d : Nat} {ty t e : TypeId} {pos : String} {aft : Array Edge} {x y : Operand} {by_ : Nat} {zv : Value}
theorem x_appendE {α : Type} [Flat α] {S S' : Nat → Prop} {v v2 : Value} {xs ys : List α} {E : TypeId} (ht : P.underlying t = some (.slice e)) (hi : TyI P e (Flat.sz α) by_ zv) (hzv : zv.cells.size = Flat.sz α)
    (hx : ev F x = v) (hy : ev F y = v2) (h : ownL E S w v xs) (h2 : rdL S' w v2 ys) (hb : (xs.length + ys.length) * by_ ≤ 140737488355328) (hm : xs.length + ys.length ≤ maxLen) (hy0 : 0 < ys.length) :
    ∃ v' w' E' S'', XV P F (.call { callee := .builtin .append, args := #[x, y], argTypes := #[t, t] }) ty w v' w' ∧ ownL E' S'' w' v' (xs ++ ys) ∧ (∀ k, S'' k → (S k ∧ k < w.heap.size) ∨ w.heap.size ≤ k) ∧ (∀ k, S'' k → k < w'.heap.size) ∧ Mod S w w' := by
  have hrun : ∀ v' w', (Builtin.append_ #[t, t] ty #[v, v2]).run P w = .ok v' w' → XV P F (.call { callee := .builtin .append, args := #[x, y], argTypes := #[t, t] }) ty w v' w' := by
    intro v' w' hr dd pos aft g
    simp [execOp, resolve, invoke, builtin, hx, hy, hr]
  obtain ⟨hrow, hS⟩ := own_row h
  have hread := h2
  obtain ⟨A, cap2, rfl, hc1, hc2, hc3⟩ := h2
  obtain ⟨b2, o2, rfl, hb', hcell⟩ := hc3 hy0
  have hnews : ∀ j u, (ys.flatMap Flat.enc)[j]? = some u → w.cell? ((⟨b2, o2, none⟩ : Addr).add j) = some u := by
    intro j u hj
    have hk : j < ys.length * Flat.sz α := by rw [← flatMap_len ys]; exact (List.getElem?_eq_some_iff.1 hj).1
    have hp : 0 < Flat.sz α := Flat.pos
    have g1 : j / Flat.sz α < ys.length := Nat.div_lt_of_lt_mul (by rw [Nat.mul_comm]; exact hk)
    have g2 : j % Flat.sz α < Flat.sz α := Nat.mod_lt _ hp
    have g3 : j / Flat.sz α * Flat.sz α + j % Flat.sz α = j := Nat.div_add_mod' j _
    have g4 := List.getElem?_eq_getElem g1
    rw [← g3, flatMap_get ys _ _ _ g4 g2] at hj
    obtain ⟨cs, hcs, hcc⟩ := hcell _ _ g4
    have hcs' : cs = Flat.enc _ := hcs
    subst hcs'
    have := hcc _ _ hj
    rw [add0, ← g3]; exact this
  have hone : ∀ u ∈ ys.flatMap Flat.enc, u.oneCell' = true := by
    intro u hu
    obtain ⟨y, _, hy2⟩ := List.mem_flatMap.1 hu
    exact Flat.one y u hy2
  have hnl := flatMap_len ys
  have hxl := flatMap_len xs
  rcases own_open h with ⟨rfl, rfl⟩ | ⟨b, arr, cap, rfl, h1, h2, hbS, hh, hs, hc⟩
  · obtain ⟨v', w', S'', g1, g2, g3, g4, g5⟩ := x_append (P := P) (F := F) (ty := ty) (e := e) (S := S) ht hi hzv hx hy (show ownL e S w (.slice none 0 0) ([] : List α) from ownL_nil.mono (fun k hk => hk.elim)) hread hb (by simp only [maxLen] at hm; omega)
    exact ⟨v', w', e, S'', g1, g2, g3, g4, g5⟩
  · obtain ⟨i, i1, i2, i3, i4⟩ := hi.open
    have holds : ∀ j u, (xs.flatMap Flat.enc)[j]? = some u → w.cell? ((⟨b, 0, none⟩ : Addr).add j) = some u := hrow.cells (g := b) rfl
    by_cases hroom : xs.length + ys.length ≤ cap
    · have hfc := run_firstCells_some (P := P) w i.size ys.length ⟨b2, o2, none⟩ ys.length cap2 (ys.flatMap Flat.enc) (by rw [i3]; exact hnl) hnews
      have hfit : 0 + xs.length * i.size + (ys.flatMap Flat.enc).length ≤ arr.size := by rw [hnl, hs, i3, Nat.zero_add, ← Nat.add_mul]; exact Nat.mul_le_mul_right _ hroom
      have hst := run_storeCells_at (P := P) b (0 + xs.length * i.size) E (ys.flatMap Flat.enc) 0 arr w hh (by simpa using hfit) hone
      have hr : (Builtin.append_ #[t, t] ty #[.slice (some ⟨b, 0, none⟩) xs.length cap, .slice (some ⟨b2, o2, none⟩) ys.length cap2]).run P w = .ok (.slice (some ⟨b, 0, none⟩) (xs.length + ys.length) cap) (w.setRow b (arr.toList.take (0 + xs.length * i.size + 0) ++ ys.flatMap Flat.enc ++ arr.toList.drop (0 + xs.length * i.size + 0 + (ys.flatMap Flat.enc).length)).toArray) := by
        simp only [Nat.add_zero, Nat.zero_add] at hst ⊢
        simp [Builtin.append_, run_underlying ht, sizeOf, typeInfo, i1, Builtin.lenOf, hroom, hfc, Addr.add_lit, hst]
      have htake : arr.toList.take (xs.length * Flat.sz α) = xs.flatMap Flat.enc := by
        rcases hrow.2 with ⟨e1, _⟩ | ⟨g, cap', cur, e1, _, e2, _, _, _, e3⟩
        · cases e1
        · injection e1 with e1 _ _
          injection e1 with e1
          injection e1 with e1
          subst e1
          rw [hh] at e2
          injection e2 with e2
          injection e2 with e2
          rw [e2]; exact e3
      rw [i3] at hr hfit
      simp only [Nat.add_zero, Nat.zero_add] at hr hfit
      rw [htake] at hr
      refine ⟨_, _, E, (fun k => k = b), hrun _ _ hr, ?_, fun k hk => .inl ⟨hk ▸ hbS, hk ▸ lt_of_some hh⟩, fun k hk => ?_, ⟨⟨rfl, rfl, rfl, by simp⟩, fun k hk hn => setRow_other w b k _ (fun e => hn (e ▸ hbS))⟩⟩
      · refine row_own (n := xs.length + ys.length) (by simp) (xs := xs ++ ys) ⟨?_, .inr ⟨b, cap, _, rfl, Nat.zero_le _, setRow_heap w b arr _ E _ hh, hroom, h2, ?_, ?_⟩⟩ (fun b' hb' => ?_)
        · rw [flatMap_len, List.length_append]
        · simp only [List.size_toArray, List.length_append, List.length_drop, Array.length_toList, hxl, hnl]
          rw [hnl] at hfit
          omega
        · rw [List.flatMap_append, Nat.add_mul, ← hxl, ← hnl, ← List.length_append]
          exact List.take_left
        · have : some b = some b' := hb'
          injection this with this
          exact this.symm
      · rw [hk]
        exact lt_of_some (setRow_heap w b arr _ E _ hh)
    · obtain ⟨v', w', hr, ho, hg⟩ := run_append_arg_grows (P := P) w t ty e i zv (Flat.sz α) by_ ht i1 i2 i3 i4 hzv Flat.pos ⟨b, 0, none⟩ xs.length cap (xs.flatMap Flat.enc) hxl holds ⟨b2, o2, none⟩ ys.length cap2 (ys.flatMap Flat.enc) hnl hnews (by omega) hm hb
      refine ⟨v', w', e, (fun k => v'.ownBlock = some k), hrun _ _ hr, ?_, fun k hk => .inr (ho.lt k hk).1, fun k hk => (ho.lt k hk).2, ⟨⟨hg.os, hg.tape, hg.output, hg.size⟩, fun k hk hn => hg.block k hk (by simp)⟩⟩
      refine row_own (n := xs.length + ys.length) (by simp) (xs := xs ++ ys) ⟨by rw [flatMap_len, List.length_append], ?_⟩ (fun b' hb' => hb')
      rw [List.flatMap_append]
      exact ho.2.imp id (fun ⟨g, c, cur, q1, _, q2⟩ => ⟨g, c, cur, q1, Nat.zero_le _, q2⟩)
theorem S_appendE {α : Type} [Flat α] {S S' : Nat → Prop} {v v2 : Value} {xs ys : List α} {E : TypeId} (hL : Hp w0 Γ w) (i : Nat) (hi : Γ[i]? = some (Ent.own E S v xs)) (ht : P.underlying t = some (.slice e)) (hti : TyI P e (Flat.sz α) by_ zv) (hzv : zv.cells.size = Flat.sz α)
    (hx : ev F x = v) (hy : ev F y = v2) (h2 : rdL S' w v2 ys) (hy0 : 0 < ys.length) (hn : xs.length + ys.length < 1099511627776) (hb : by_ ≤ 64) (hd : Nat.blt d N = true)
    (h : ∀ w' v' E' S'', Hp w0 (Γ.set i (Ent.own E' S'' v' (xs ++ ys))) w' → K (upd F d v') w') : OP P N ops ⟨some d, .call { callee := .builtin .append, args := #[x, y], argTypes := #[t, t] }, ty, pos, aft, none⟩ K F w := by
  have hown := hL.get i hi
  have hbb : (xs.length + ys.length) * by_ ≤ 1099511627776 * 64 := Nat.mul_le_mul (by omega) hb
  obtain ⟨v', w', E', S'', h3, h4, h5, h6, h7⟩ := x_appendE (P := P) (F := F) (ty := ty) ht hti hzv hx hy hown.1 h2 (by omega) (by simp only [maxLen]; omega) hy0
  exact OP.val hd h3 (h w' v' E' S'' (hL.upd i hi h7 (fun k _ hk => hk) ⟨h4, h6⟩ (fun k hk => (h5 k hk).imp (fun g => g.1) id)))
end
end Go.Proofs.Ytpobaajdhfoomaa
