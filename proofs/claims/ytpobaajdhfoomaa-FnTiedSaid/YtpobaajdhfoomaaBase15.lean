/- slices.DeleteFunc over rows, as a change of a slice of slices of the call's own: the rows shorter than two are struck out. -/
import Derived.Test.YtpobaajdhfoomaaBase14
import Derived.Shelf.SlicesE.DeleteFunc
namespace Go.Proofs.Ytpobaajdhfoomaa
open Go Go.RowKit Go.ChangeShapes Go.WideShapes Go.Sort Go.Shelf
set_option linter.unusedVariables false
set_option linter.unusedSimpArgs false
instance : Inhabited SlV := ⟨⟨.slice none 0 0, none, 0, 0, rfl⟩⟩
def lenV : Value → Nat
  | .slice _ n _ => n
  | _ => 0
def shortV (u : SlV) : Bool := decide ((lenV u.1 : Int) < 2)
def LenShort (P : Program) (g : Nat) : Prop := ∀ (W : World) (A : Option Addr) (n c : Nat), Calls P g #[.slice A n c] W fun e w' => e = .returned (.bool (decide ((n : Int) < 2))) ∧ ∃ q, w' = W.drewN q
theorem LenShort.at {P : Program} {g : Nat} (h : LenShort P g) (W : World) (x : SlV) : FnGives P g #[] #[x.1] (.bool (shortV x)) W := by
  obtain ⟨v, A, n, c, rfl⟩ := x
  exact h W A n c
theorem filter_idx {α : Type} (l : List α) (d : α) (p : α → Bool) : l.filter p = ((List.range l.length).filter fun i => p (l.getD i d)).map fun i => l.getD i d := by
  have h : l = (List.range l.length).map fun i => l.getD i d := by
    apply List.ext_getElem
    · simp
    · intro i h1 h2
      simp [List.getD, h1]
  conv => lhs; rw [h]
  rw [List.filter_map]
  rfl
theorem del_io {P : Program} {ρ : Ren} (L : SlLaysH.n10 P ρ) {g : Nat} (eg : ∀ args w, (callFunc g args).run P w = .ok (.enter g args) w) (hg : LenShort P g) (hz : ∀ w, (zeroValue (ρ.t 23)).run P w = .ok (.slice none 0 0) w)
    {w0 : World} {E : TypeId} {S : Nat → Prop} {v : Value} {α : Type} [GoT α] {xs : List (List α)} (he : (Ent.own E S v xs).H w0) (h0 : 0 < xs.length) :
    Calls P (ρ.f 10) #[v, .func (.func g) #[] #[]] w0 fun e w' => ∃ v' S', e = .returned v' ∧ Mut w0 w' (Ent.own E S v xs).S [Ent.own E S' v' (xs.filter fun r => !decide ((r.length : Int) < 2))] := by
  obtain ⟨us, T, S1, f1, r1, a1, a2, a3⟩ := nest_open (α := α) (β := List α) he.1
  have hul : us.length = xs.length := r1.1
  rcases own_open f1 with ⟨_, e2⟩ | ⟨b, arr, cap, rfl, h1, h2, hb, hh, hs, hc⟩
  · rw [e2] at hul; simp at hul; omega
  have hlt : b < w0.heap.size := lt_of_some hh
  have hsz : arr.size = cap := by simpa [show Flat.sz SlV = 1 from rfl] using hs
  have hc' : ∀ j (hj : j < us.length), arr[j]? = some us[j].1 := fun j hj => by
    have := hc j us[j] (List.getElem?_eq_getElem hj) 0 us[j].1 rfl
    simpa [show Flat.sz SlV = 1 from rfl] using this
  have hH : Holds (fun u : SlV => u.1) w0 b 0 us.toArray := fun j hj => by
    have hj' : j < us.length := by simpa using hj
    refine ⟨?_, by simp [World.frozen?, hh]⟩
    rw [cell_at hh, Nat.zero_add, hc' j hj']
    simp [hj']
  have hone : OneCell (fun u : SlV => u.1) := by rintro ⟨u, A, n, c, rfl⟩; rfl
  have hcall := AnyE.slices_DeleteFunc L (fun u : SlV => u.1) hone shortV g #[] eg (default : SlV) hz b 0 cap us.toArray w0 (fun W x _ => hg.at W x) (fun n os dk x _ => hg.at _ x) hH (by simp only [maxLen] at h2; simp; omega) (by simpa using h1)
  have hsize : us.toArray.size = us.length := by simp
  rw [hsize] at hcall
  refine hcall.mono ?_
  rintro e w' ⟨rfl, q, rfl⟩
  simp only [List.toList_toArray]
  -- which rows stay
  let I := (List.range us.length).filter fun i => !shortV (us.getD i default)
  have hI : us.filter (fun x => !shortV x) = I.map fun i => us.getD i default := filter_idx us default _
  have hlen : ∀ i, i < us.length → lenV (us.getD i default).1 = (xs.getD i []).length := fun i hi => by
    obtain ⟨E', ho⟩ := r1.2 i us[i] (xs[i]'(by omega)) (List.getElem?_eq_getElem hi) (List.getElem?_eq_getElem (by omega))
    obtain ⟨A, c, e, _⟩ := ho
    rw [show us.getD i default = us[i] by simp [List.getD, hi], e, show xs.getD i [] = xs[i]'(by omega) by simp [List.getD, show i < xs.length by omega]]
    rfl
  have hX : xs.filter (fun r => !decide ((r.length : Int) < 2)) = I.map fun i => xs.getD i [] := by
    rw [filter_idx xs [] _, ← hul]
    congr 1
    apply List.filter_congr
    intro i hi
    rw [shortV, hlen i (List.mem_range.1 hi)]
  have hnd : I.Nodup := List.Pairwise.filter _ List.nodup_range
  have hIl : ∀ i ∈ I, i < us.length := fun i hi => List.mem_range.1 (List.mem_filter.1 hi).1
  have hIlen : I.length ≤ us.length := by have := List.length_filter_le (fun i => !shortV (us.getD i default)) (List.range us.length); rw [List.length_range] at this; exact this
  rw [hI, hX]
  generalize hd : (I.map (fun i => us.getD i default) ++ List.replicate (us.length - (I.map fun i => us.getD i default).length) default).toArray = D
  have hDs : D.size = us.length := by rw [← hd]; simp; omega
  have hb1 : (putRow (fun u : SlV => u.1) (Sort.ahead w0 q) b 0 D).heap[b]? = some (.cells (putCells (fun u : SlV => u.1) 0 D arr) E (0, 0)) := by
    show ((w0.heap.modify b (onCells (putCells (fun u : SlV => u.1) 0 D))))[b]? = _
    rw [Array.getElem?_modify, if_pos rfl, hh]
    rfl
  have hoth : ∀ k, k ≠ b → (putRow (fun u : SlV => u.1) (Sort.ahead w0 q) b 0 D).heap[k]? = w0.heap[k]? := fun k hk => by
    show ((w0.heap.modify b (onCells (putCells (fun u : SlV => u.1) 0 D))))[k]? = _
    rw [Array.getElem?_modify, if_neg (Ne.symm hk)]
  have hTb : ∀ i m, T i m → m ≠ b := fun i m hm e => (a2 i m hm).2 (e ▸ hb)
  have hsizew : (putRow (fun u : SlV => u.1) (Sort.ahead w0 q) b 0 D).heap.size = w0.heap.size := size_putRow _ _ _ _ _
  refine ⟨_, S, rfl, ⟨⟨rfl, rfl, rfl, Nat.le_of_eq hsizew.symm⟩, fun k hk ht => hoth k (fun e => ht (a1 k (e ▸ hb)))⟩, fun e he' => ?_, List.pairwise_singleton _ _⟩
  simp only [List.mem_singleton] at he'
  subst he'
  refine ⟨⟨?_, fun k hk => by rw [hsizew]; exact he.2 k hk⟩, fun k hk => .inl hk⟩
  have ho : ownL (α := SlV) E (fun k => k = b) (putRow (fun u : SlV => u.1) (Sort.ahead w0 q) b 0 D) (.slice (some ⟨b, 0, none⟩) (I.map fun i => us.getD i default).length cap) (I.map fun i => us.getD i default) := by
    refine own_mk (by rw [List.length_map]; omega) h2 rfl hb1 (by rw [show (putCells (fun u : SlV => u.1) 0 D arr).size = arr.size by simp [putCells], hs]) ?_ rfl
    intro i x hx j u hu
    obtain ⟨hi, hx'⟩ := List.getElem?_eq_some_iff.1 hx
    match j, hu with
    | 0, hu =>
      have hu' : u = x.1 := by simpa [Flat.enc] using hu.symm
      subst hu'
      show (putCells (fun u : SlV => u.1) 0 D arr)[i * 1 + 0]? = _
      rw [List.length_map] at hi
      have hia : arr[i]? = some (us[i]'(by omega)).1 := hc' i (by omega)
      simp only [putCells, Nat.mul_one, Nat.add_zero, Array.getElem?_mapIdx, hia, Option.map_some]
      rw [if_pos ⟨by omega, by omega⟩, Nat.sub_zero]
      have : D[i]! = x := by
        rw [← hd]
        simp only [← hx', List.getElem_map, List.length_map]
        simp only [List.getD]
        simp
        rw [List.getElem?_append_left (by simpa using hi), List.getElem?_map, List.getElem?_eq_getElem hi]
        simp
      rw [this]
  refine nest_close (T := fun i m => ∃ h : i < I.length, T I[i] m) ho ⟨by simp, fun i u x hu hx => ?_⟩ (fun k hk => hk ▸ a1 b hb) (fun i m hm => ?_) ?_
  · obtain ⟨hi, hx'⟩ := List.getElem?_eq_some_iff.1 hx
    rw [List.length_map] at hi
    have hIi := hIl I[i] (List.getElem_mem hi)
    have hu' : u = us[I[i]] := by
      rw [List.getElem?_map, List.getElem?_eq_getElem hi] at hu
      simpa [List.getD, hIi] using hu.symm
    have hx2 : x = xs[I[i]]'(by omega) := by
      rw [List.getElem?_map, List.getElem?_eq_getElem hi] at hx
      simpa [List.getD, show I[i] < xs.length by omega] using hx.symm
    obtain ⟨E', hr⟩ := r1.2 I[i] u x (by rw [hu']; exact List.getElem?_eq_getElem hIi) (by rw [hx2]; exact List.getElem?_eq_getElem (by omega))
    exact ⟨E', (hr.fr fun m hm => hoth m (hTb _ m hm)).mono fun m hm => ⟨hi, hm⟩⟩
  · obtain ⟨_, hm⟩ := hm
    exact ⟨(a2 _ m hm).1, hTb _ m hm⟩
  · rintro i j m ⟨hi, h3⟩ ⟨hj, h4⟩
    have := a3 _ _ m h3 h4
    rcases Nat.lt_trichotomy i j with h | h | h
    · exact absurd this (List.pairwise_iff_getElem.1 hnd i j hi hj h)
    · exact h
    · exact absurd this.symm (List.pairwise_iff_getElem.1 hnd j i hj hi h)
section
variable {P : Program} {N : Nat} {ops : Array Oper} {K : Fr → World → Prop} {F : Fr} {w0 w : World} {Γ : List Ent} {d : Nat} {op : Op} {ty : TypeId} {pos : String} {aft : Array Edge}
theorem S_callRows {fk : FuncId} {args : Array Value} {e' : Value → (Nat → Prop) → Ent} {e0 : Ent} (hL : Hp w0 Γ w) (i : Nat) (hi : Γ[i]? = some e0) (hd : Nat.blt d N = true) (hx : XC P F op ty w fk args)
    (hC : Calls P fk args w fun r w' => ∃ v' S', r = .returned v' ∧ Mut w w' e0.S [e' v' S']) (h : ∀ w' v' S', Hp w0 (Γ.set i (e' v' S')) w' → K (upd F d v') w') : OP P N ops ⟨some d, op, ty, pos, aft, none⟩ K F w := by
  refine OP.call hd hx hC ?_
  rintro r w' ⟨v', S', rfl, hM⟩
  exact ⟨v', rfl, h w' v' S' (by simpa using hL.mut i hi hM)⟩
end
end Go.Proofs.Ytpobaajdhfoomaa
