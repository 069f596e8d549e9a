/- Shorter words for the links of big claims, and Go's sort as a change of a slice of the call's own. -/
import Derived.Test.YtbkpfcpbpnmjaaaBase7
import Derived.Sort.Grow
namespace Go.Proofs.Ytbkpfcpbpnmjaaa
open Go Go.RowKit Go.ChangeShapes Go.WideShapes
set_option linter.unusedVariables false
set_option linter.unusedSimpArgs false
section
variable {P : Program} {N : Nat} {R K : Fr → World → Prop} {X : Nat → Fr → World → Prop} {F : Fr} {w w' : World} {ops : Array Oper} {rest : List Oper} {d : Nat} {op : Op} {ty : TypeId} {pos : String} {aft : Array Edge}
end
theorem Hp.takeRow {α β : Type} [GoT α] [GoT β] [Wrap β α] {w0 w : World} {Γ : List Ent} {S : Nat → Prop} {v u : Value} {xs : List β} {k : Int} {a : β} {b q : Nat} {E : TypeId} (h : Hp w0 Γ w) (i : Nat) (hi : Γ[i]? = some (Ent.own E S v xs)) (hix : IxAddr v 1 k b q) (ha : xs[k.toNat]? = some a) (hc : w.cell? ⟨b, q, none⟩ = some u) :
    ∃ (E2 : TypeId) (S2 : Nat → Prop), Hp w0 (Γ.set i (Ent.own E2 S2 u (Wrap.get (α := α) a))) w := by
  have o1 := h.get i hi
  obtain ⟨us, T, S1, f1, r1, a1, a2, a3⟩ := nest_open (α := α) (β := β) o1.1
  have hlt : k.toNat < us.length := by rw [r1.1]; exact (List.getElem?_eq_some_iff.1 ha).1
  have hcell := rdF_cells (α := SlV) f1.rdL hix (List.getElem?_eq_getElem hlt) 0 _ rfl
  rw [Nat.add_zero, hc] at hcell
  injection hcell with hcell
  obtain ⟨E2, hrow⟩ := r1.2 k.toNat _ a (List.getElem?_eq_getElem hlt) ha
  rw [← hcell] at hrow
  exact ⟨E2, T k.toNat, h.upd i hi (Mod.refl None_ w) (fun k _ hk => hk.elim) (e' := Ent.own E2 (T k.toNat) u (Wrap.get (α := α) a)) ⟨hrow, fun m hm => o1.2 m (a2 _ m hm).1⟩ (fun m hm => .inl (a2 _ m hm).1)⟩
theorem run_eqSliceNil {P : Program} (w : World) (d : Nat) (t e : TypeId) (a : Option Addr) (l c : Nat) (h : P.underlying t = some (.slice e)) : (Op.equalIn (d + 1) t (.slice a l c) (.slice none 0 0)).run P w = .ok a.isNone w := by
  cases a <;> simp [Op.equalIn, run_underlying h]
theorem x_eqNil {P : Program} {F : Fr} {w : World} {ty t u e : TypeId} {x y : Operand} {A : Option Addr} {l c : Nat} (ht : P.underlying t = some (.slice e)) (hx : ev F x = .slice A l c) (hy : ev F y = .slice none 0 0) :
    XV P F (.binOp .eql t x y u) ty w (.bool A.isNone) w := by
  intro dd pos aft g
  have h : (binOp .eql t (.slice A l c) (.slice none 0 0)).run P w = .ok (.bool A.isNone) w := by
    show (do pure (.bool (← Op.equal t (.slice A l c) (.slice none 0 0))) : Sem Value).run P w = _
    rw [Sem.run_bind, show (Op.equal t (.slice A l c) (.slice none 0 0)).run P w = .ok A.isNone w from run_eqSliceNil w 9999 t e A l c ht]; rfl
  have hg : (eqGuard .eql t x y (.slice A l c) (.slice none 0 0)).run P w = .ok () w := by
    unfold eqGuard
    rfl
  simp only [execOp, hx, hy, Sem.run_bind, hg, Result.andThen_ok, h, Sem.run_pure]
theorem rdL_isNone {α : Type} [GoT α] {S : Nat → Prop} {w : World} {v : Value} {xs : List α} {A : Option Addr} {c : Nat} (h : rdL S w v xs) (e : v = .slice A xs.length c) (hb : A.isNone = true) : xs = [] := by
  obtain ⟨A', c', e', _, _, h3⟩ := h
  rw [e] at e'
  injection e' with e1 _ _
  subst e1
  rcases Nat.eq_zero_or_pos xs.length with h0 | h0
  · exact List.eq_nil_of_length_eq_zero h0
  · obtain ⟨b, o, hA, _⟩ := h3 h0
    subst hA
    cases hb
open Go.Sort in
theorem sort_io {P : Program} {n : FuncId} {w0 : World} {E : TypeId} {S : Nat → Prop} {v : Value} {xs ys : List Int} (he : (Ent.own E S v xs).H w0) (hlen : ys.length = xs.length)
    (hS : ∀ blk cap, Holds (Value.int .i64) w0 blk 0 xs.toArray → blk < w0.heap.size → Calls P n #[.slice (some ⟨blk, 0, none⟩) xs.length cap] w0 fun e w' => e = .returned (.tuple #[]) ∧ ∃ n os, w' = grow (putRow (Value.int .i64) (Sort.ahead w0 n) blk 0 ys.toArray) os)
    (hN : Calls P n #[.slice none 0 0] w0 fun e w' => e = .returned (.tuple #[]) ∧ w' = w0) :
    Calls P n #[v] w0 fun e w' => ∃ ioS : Nat → Prop, e = .returned (.tuple #[]) ∧ Mut w0 w' (Ent.own E S v xs).S [Ent.own E ioS v ys] := by
  rcases own_open he.1 with ⟨rfl, rfl⟩ | ⟨b, arr, cap, rfl, h1, h2, hb, hh, hs, hc⟩
  · have : ys = [] := List.eq_nil_of_length_eq_zero hlen
    subst this
    refine hN.mono ?_
    rintro e w' ⟨rfl, rfl⟩
    exact ⟨S, rfl, Mod.refl _ _, fun e he' => by
      simp only [List.mem_singleton] at he'
      subst he'
      exact ⟨he, fun k hk => .inl hk⟩, List.pairwise_singleton _ _⟩
  · have hlt : b < w0.heap.size := he.2 b hb
    have hc' : ∀ j (hj : j < xs.length), arr[j]? = some (.int .i64 xs[j]) := fun j hj => by
      have := hc j xs[j] (List.getElem?_eq_getElem hj) 0 (.int .i64 xs[j]) rfl
      simpa [show Flat.sz Int = 1 from rfl] using this
    have hH : Holds (Value.int .i64) w0 b 0 xs.toArray := fun j hj => by
      have hj' : j < xs.length := by simpa using hj
      refine ⟨?_, by simp [World.frozen?, hh]⟩
      rw [cell_at hh, Nat.zero_add, hc' j hj']
      simp [hj']
    refine (hS b cap hH hlt).mono ?_
    rintro e w' ⟨rfl, n, os, rfl⟩
    have hb1 : (grow (putRow (Value.int .i64) (Sort.ahead w0 n) b 0 ys.toArray) os).heap[b]? = some (.cells (putCells (Value.int .i64) 0 ys.toArray arr) E (0, 0)) := by
      rw [heap_grow_old _ _ (by simpa using hlt)]
      show ((w0.heap.modify b (onCells (putCells (Value.int .i64) 0 ys.toArray))))[b]? = _
      rw [Array.getElem?_modify, if_pos rfl, hh]
      rfl
    have hasz : arr.size = cap := by simpa [show GoT.sz Int = 1 from rfl, show Flat.sz Int = 1 from rfl] using hs
    refine ⟨S, rfl, ⟨⟨rfl, rfl, rfl, ?_⟩, fun k hk ht => ?_⟩, fun e he' => ?_, List.pairwise_singleton _ _⟩
    · show w0.heap.size ≤ (grow (putRow (Value.int .i64) (Sort.ahead w0 n) b 0 ys.toArray) os).heap.size
      rw [size_grow, size_putRow]
      exact Nat.le_add_right _ _
    · rw [heap_grow_old _ _ (by simpa using hk)]
      show ((w0.heap.modify b (onCells (putCells (Value.int .i64) 0 ys.toArray))))[k]? = _
      have hkb : b ≠ k := fun e => ht (e ▸ hb)
      rw [Array.getElem?_modify, if_neg hkb]
    · simp only [List.mem_singleton] at he'
      subst he'
      refine ⟨⟨?_, fun k hk => ?_⟩, fun k hk => .inl hk⟩
      · rw [← hlen]
        refine own_mk (by omega) h2 hb hb1 (by rw [show (putCells (Value.int .i64) 0 ys.toArray arr).size = arr.size by simp [putCells], hs]) ?_ rfl
        intro i x hx j u hu
        obtain ⟨hi, hx'⟩ := List.getElem?_eq_some_iff.1 hx
        match j, hu with
        | 0, hu =>
          have hu' : u = .int .i64 x := by simpa [Flat.enc] using hu.symm
          subst hu'
          show (putCells (Value.int .i64) 0 ys.toArray arr)[i * 1 + 0]? = _
          have hia : arr[i]? = some (.int .i64 (xs[i]'(by omega))) := hc' i (by omega)
          simp only [putCells, Nat.mul_one, Nat.add_zero, Array.getElem?_mapIdx, hia, Option.map_some]
          rw [if_pos ⟨by omega, by simpa using hi⟩]
          simp [hi, hx']
      · have := he.2 k hk
        rw [size_grow, size_putRow]
        exact Nat.lt_of_lt_of_le this (Nat.le_add_right _ _)
end Go.Proofs.Ytbkpfcpbpnmjaaa
