/- Words for bytes that come from a string and are changed. -/
import Derived.Test.YthkcfjlmblfipaaDoorBase11
import Derived.Lib.ConvBytes
import Derived.Laws.AppendOwn
namespace Go.Proofs.YthkcfjlmblfipaaDoor
open Go Go.RowKit Go.ChangeShapes Go.WideShapes
set_option linter.unusedVariables false
set_option linter.unusedSimpArgs false
theorem u8b {s : ByteArray} {i n : Int} (h : strAt s i = some n) : Value.int .u8 n = Value.int .u8 ((UInt8.ofNat n.toNat).toNat : Int) := by
  unfold strAt at h
  cases hs : (if 0 ≤ i then s[i.toNat]? else none) with
  | none => rw [hs] at h; cases h
  | some b =>
    rw [hs] at h
    injection h with h
    subst h
    simp
def bysL (E : TypeId) (S : Nat → Prop) (w : World) (v : Value) (xs : List UInt8) : Prop :=
  ∃ (b : Nat) (arr : Array Value), v = .slice (some ⟨b, 0, none⟩) xs.length arr.size ∧ xs.length ≤ arr.size ∧ arr.size ≤ maxLen ∧ S b ∧ w.heap[b]? = some (.cells arr E (arr.size, arr.size + 1)) ∧ ∀ (i : Nat) (x : UInt8), xs[i]? = some x → arr[i]? = some (Value.int .u8 (x.toNat : Int))
section
variable {E : TypeId} {S : Nat → Prop} {w w' w0 : World} {v : Value} {xs : List UInt8} {Γ : List Ent}
theorem bysL.fr (h : bysL E S w v xs) (hf : ∀ k, S k → w'.heap[k]? = w.heap[k]?) : bysL E S w' v xs := by
  obtain ⟨b, arr, e, h1, h2, hb, hh, hc⟩ := h
  exact ⟨b, arr, e, h1, h2, hb, (hf b hb).trans hh, hc⟩
theorem bysL.rdL (h : bysL E S w v xs) : rdL S w v xs := by
  obtain ⟨b, arr, rfl, h1, h2, hb, hh, hc⟩ := h
  refine ⟨_, arr.size, rfl, h1, h2, fun _ => ⟨b, 0, rfl, hb, fun i x hx => ⟨[.int .u8 (x.toNat : Int)], rfl, fun j u hj => ?_⟩⟩⟩
  have hj0 : j = 0 := by
    have := (List.getElem?_eq_some_iff.1 hj).1
    simpa using this
  subst hj0
  have hu : Value.int .u8 (x.toNat : Int) = u := by simpa using hj
  subst hu
  have e : 0 + (i * GoT.sz UInt8 + 0) = i := by show 0 + (i * 1 + 0) = i; omega
  rw [e]
  rw [cell_at hh]
  exact hc i x hx
def Ent.bys (E : TypeId) (S : Nat → Prop) (v : Value) (xs : List UInt8) : Ent where
  S := S
  H w := bysL E S w v xs ∧ ∀ k, S k → k < w.heap.size
  fr {w w'} hf h := ⟨h.1.fr hf, fun k hk => by
    have h1 := h.2 k hk
    have h2 := hf k hk
    rw [Array.getElem?_eq_getElem h1] at h2
    exact lt_of_some h2⟩
  lt h hk := h.2 _ hk
theorem Hp.rdY (h : Hp w0 Γ w) (i : Nat) (hi : Γ[i]? = some (Ent.bys E S v xs)) : rdL (· < w.heap.size) w v xs := (h.get i hi).1.rdL.mono (h.get i hi).2
end
section
variable {P : Program} {N : Nat} {ops : Array Oper} {K : Fr → World → Prop} {F : Fr} {w0 w : World} {Γ : List Ent} {d : Nat} {ty t u e : TypeId} {pos : String} {aft : Array Edge} {x y : Operand} {by_ : Nat} {zv : Value}
theorem S_sb {s : ByteArray} (hL : Hp w0 Γ w) (ht : P.underlying t = some .string) (hu : P.underlying u = some (.slice e)) (he : P.underlying e = some (.int .u8)) (hx : ev F x = .string s) (hs : s.size < 1099511627776) (hd : Nat.blt d N = true)
    (h : ∀ w' v S, Hp w0 (Ent.bys e S v s.data.toList :: Γ) w' → K (upd F d v) w') : OP P N ops ⟨some d, .convert t u x, ty, pos, aft, none⟩ K F w := by
  have h1 : XV P F (.convert t u x) ty w (.slice (some ⟨w.heap.size, 0, none⟩) s.size (grownCap w s.size 0 e)) (Lib.bytesWorld w e s) := by
    intro dd ps af g
    simp only [execOp, hx, Sem.run_bind, Lib.run_convert_string_bytes w t u e s ht hu he, Result.andThen_ok, Sem.run_pure]
  have hge := grownCap_ge w s.size 0 e
  have hle := grownCap_le_maxLen w s.size 0 e (by unfold maxLen; omega)
  have hsz : (Lib.bytesCells w e s).size = grownCap w s.size 0 e := by
    unfold Lib.bytesCells
    rw [Array.size_append, Array.size_map, Array.size_replicate]
    have : s.data.size = s.size := rfl
    omega
  have hbys : bysL e (fun k => k = w.heap.size) (Lib.bytesWorld w e s) (.slice (some ⟨w.heap.size, 0, none⟩) s.size (grownCap w s.size 0 e)) s.data.toList := by
    refine ⟨w.heap.size, Lib.bytesCells w e s, ?_, ?_, ?_, rfl, Lib.bytesWorld_at_new w e s, fun i x hx => ?_⟩
    · rw [hsz]; have : s.data.toList.length = s.size := Array.length_toList; rw [this]
    · rw [hsz]; have : s.data.toList.length = s.size := Array.length_toList; omega
    · rw [hsz]; exact hle
    · have hlt : i < s.data.size := by have := (List.getElem?_eq_some_iff.1 hx).1; simpa using this
      have hx' : s.data[i]? = some x := by simpa using hx
      unfold Lib.bytesCells
      rw [Array.getElem?_append_left (by simpa using hlt), Array.getElem?_map, hx']
      rfl
  refine OP.val hd h1 (h _ _ (fun k => k = w.heap.size) (hL.push (Mod.of_below (Lib.bytesWorld_below w e s)) ⟨hbys, fun k hk => ?_⟩ (fun k hk => by have : k = w.heap.size := hk; omega)))
  have : k = w.heap.size := hk
  rw [Lib.bytesWorld_size]; omega
theorem S_storeY {S : Nat → Prop} {v : Value} {u0 : Value} {xs : List UInt8} {k : Int} {a : UInt8} (a' : UInt8) {b q : Nat} {E : TypeId} (hL : Hp w0 Γ w) (i : Nat) (hi : Γ[i]? = some (Ent.bys E S v xs)) (ht : TyI P t 1 by_ zv)
    (hix : IxAddr v 1 k b q) (ha : xs[k.toNat]? = some a) (hx : ev F x = .pointer (some ⟨b, q, none⟩)) (hy : ev F y = u0) (hu : u0 = .int .u8 (a'.toNat : Int))
    (h : ∀ w', Hp w0 (Γ.set i (Ent.bys E S v (xs.set k.toNat a'))) w' → K F w') : OP P N ops ⟨none, .store t x y, ty, pos, aft, none⟩ K F w := by
  subst hu
  obtain ⟨o', n, cap, rfl, h0, h1, rfl⟩ := hix
  have hown := hL.get i hi
  obtain ⟨b', arr, e1, g1, g2, hb, hh, hc⟩ := hown.1
  injection e1 with e2 e3 e4
  injection e2 with e2
  injection e2 with e5 e6
  subst e5 e6 e3 e4
  have hlt : k.toNat < xs.length := (List.getElem?_eq_some_iff.1 ha).1
  rw [Nat.mul_one, Nat.zero_add] at hx
  have hst : XU P F (.store t x y) ty w (w.setCell ⟨b, k.toNat, none⟩ (.int .u8 (a'.toNat : Int))) := by
    intro dd ps g
    have hcell : w.cell? ⟨b, k.toNat, none⟩ = some arr[k.toNat] := by rw [cell_at hh]; exact Array.getElem?_eq_getElem (by omega)
    have hfz : w.frozen? ⟨b, k.toNat, none⟩ = false := by simp [World.frozen?, hh]; omega
    have hs : (store ⟨b, k.toNat, none⟩ (.int .u8 (a'.toNat : Int))).run P w = .ok () (w.setCell ⟨b, k.toNat, none⟩ (.int .u8 (a'.toNat : Int))) := by
      unfold store
      simp_all [Sem.run]
    have h1 : (Value.int .u8 (a'.toNat : Int)).cells = #[.int .u8 (a'.toNat : Int)] := rfl
    simp [execOp, hx, hy, Instr.storeAt, Instr.sureAddr, storeVar, h1, run_sizeOf ht, storeCells, add0, hs]
  refine OP.unit hst ?_
  have hm : Mod (fun m => m = b) w (w.setCell ⟨b, k.toNat, none⟩ (.int .u8 (a'.toNat : Int))) := Mod.setCell w ⟨b, k.toNat, none⟩ _
  refine h _ (hL.upd i hi hm (fun m _ hk => by have : m = b := hk; subst this; exact hb) ⟨⟨b, arr.setIfInBounds k.toNat (.int .u8 (a'.toNat : Int)), by simp, by simpa using g1, by simpa using g2, hb, by rw [set_blk hh]; simp, fun j x hx2 => ?_⟩, fun m hk => Nat.lt_of_lt_of_le (hown.2 m hk) hm.size⟩ (fun m hk => .inl hk))
  rw [List.getElem?_set] at hx2
  by_cases hjk : k.toNat = j
  · subst hjk
    simp [hlt] at hx2
    subst hx2
    rw [Array.getElem?_setIfInBounds_self_of_lt (by omega)]
  · rw [if_neg hjk] at hx2
    rw [Array.getElem?_setIfInBounds_ne hjk]
    exact hc j x hx2
end
end Go.Proofs.YthkcfjlmblfipaaDoor
