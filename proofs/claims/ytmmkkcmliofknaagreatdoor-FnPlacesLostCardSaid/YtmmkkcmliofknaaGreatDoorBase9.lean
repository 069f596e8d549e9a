/- Words for texts: strings put together and held against each other, bytes to a string, arrays of the call's own, the table that numbers are written by. -/
import Derived.Test.YtmmkkcmliofknaaGreatDoorBase8
import Derived.Lib.ItoaNum
import Derived.Lib.LaidTab
import Derived.Stop.LaidErr
import Derived.Laws.Strings
import Derived.Laws.Concat
import Derived.Laws.BytesString
import Derived.Sort.Grow
import Derived.Deep.Draws
namespace Go.Proofs.YtmmkkcmliofknaaGreatDoor
open Go Go.RowKit Go.ChangeShapes Go.WideShapes
set_option linter.unusedVariables false
set_option linter.unusedSimpArgs false
abbrev bts (xs : List UInt8) : ByteArray := ⟨xs.toArray⟩
abbrev sEq (a b : ByteArray) : Bool := a.toList == b.toList
theorem zSu (a b : ByteArray) : sEq a b = decide (a = b) := by
  unfold sEq
  rw [ByteArray.toList_eq, ByteArray.toList_eq]
  by_cases h : a = b
  · subst h; simp
  · have : ¬ a.data.toList = b.data.toList := fun hh => h (ByteArray.ext (Array.toList_inj.1 hh))
    rw [decide_eq_false h]
    exact beq_eq_false_iff_ne.2 this
section
variable {P : Program} {F : Fr} {w w' : World} {ty : TypeId} {x y z : Operand} {t u e : TypeId} {sz by_ : Nat} {zv : Value}
theorem zOo (op : BinOp) {a b : ByteArray} : (eqGuard op t x y (.string a) (.string b)).run P w = .ok () w := by
  unfold eqGuard
  split <;> rfl
theorem zQ2 {op : BinOp} {a b : ByteArray} {v : Value} (hx : ev F x = .string a) (hy : ev F y = .string b) (hr : (binOp op t (.string a) (.string b)).run P w = .ok v w) :
    XV P F (.binOp op t x y u) ty w v w := by
  intro d pos aft g
  simp only [execOp, hx, hy, Sem.run_bind, zOo, Result.andThen_ok, hr, Sem.run_pure]
theorem zIs {a b : ByteArray} (hx : ev F x = .string a) (hy : ev F y = .string b) (h : a.size + b.size ≤ 9223372036854775807) : XV P F (.binOp .add t x y u) ty w (.string (a ++ b)) w :=
  zQ2 hx hy (by simp only [binOp]; exact run_string_add_sum w a b h)
theorem zTa {a b : ByteArray} (hx : ev F x = .string a) (hy : ev F y = .string b) : XV P F (.binOp .neq t x y u) ty w (.bool (!(sEq a b))) w :=
  zQ2 hx hy (by simp [binOp, Op.stringOp, sEq])
theorem zM4 : ∀ (xs : List UInt8) (s : ByteArray), (xs.map fun n => (n.toNat : Int)).foldl (fun r n => r.push (UInt8.ofNat n.toNat)) s = ⟨s.data ++ xs.toArray⟩
  | [], s => by simp
  | a :: xs, s => by
    simp only [List.map_cons, List.foldl_cons]
    rw [zM4 xs]
    have e : UInt8.ofNat (a.toNat : Int).toNat = a := by simp
    rw [e]
    apply ByteArray.ext
    simp [ByteArray.push]
theorem zTA {S : Nat → Prop} {v : Value} {xs : List UInt8} (hs : P.underlying t = some (.slice e)) (he : P.underlying e = some (.int .u8)) (hd : P.underlying u = some .string) (hx : ev F x = v) (h : rdL S w v xs) :
    XV P F (.convert t u x) ty w (.string (bts xs)) w := by
  intro d pos aft g
  obtain ⟨A, cap, rfl, h1, h2, h3⟩ := h
  have hr : (Conv.bytesToString (.slice A xs.length cap)).run P w = .ok (.string (bts xs)) w := by
    cases A with
    | none =>
      have : xs.length = 0 := by
        rcases Nat.eq_zero_or_pos xs.length with h | h
        · exact h
        · obtain ⟨b, o, hA, _⟩ := h3 h; cases hA
      have hx0 := List.eq_nil_of_length_eq_zero this
      subst hx0
      rfl
    | some a =>
      have hl : (loadCells a xs.length).run P w = .ok ((xs.map fun n => (n.toNat : Int)).map (Value.int .u8)).toArray w := by
        have e1 : xs.length = ((xs.map fun n => (n.toNat : Int)).map (Value.int .u8)).length := by simp
        rw [e1]
        refine run_loadCells_list w a _ fun j v hj => ?_
        simp only [List.map_map, List.getElem?_map, Option.map_eq_some_iff] at hj
        obtain ⟨n, hn, rfl⟩ := hj
        have hlt : j < xs.length := (List.getElem?_eq_some_iff.1 hn).1
        obtain ⟨b, o, hA, hb, hcs⟩ := h3 (by omega)
        injection hA with hA
        subst hA
        obtain ⟨cs, hc1, hc2⟩ := hcs j n hn
        have hc1' : cs = [.int .u8 n.toNat] := hc1
        subst hc1'
        have := hc2 0 _ rfl
        rw [zMY]
        have e2 : j * GoT.sz UInt8 + 0 = j := by show j * 1 + 0 = j; omega
        rw [e2] at this
        exact this
      rw [run_bytesToString w a _ _ _ hl, zM4]
      have e3 : (ByteArray.empty.data ++ xs.toArray) = xs.toArray := by
        show (#[] : Array UInt8) ++ xs.toArray = _
        simp
      rw [e3]
  simp only [execOp, hx, Sem.run_bind, run_convert_bytes_string w t u e A xs.length cap hs he hd, hr, Result.andThen_ok, Sem.run_pure]
theorem zSv {b b' q n : Nat} {k : IntKind} {i : Int} (ht : P.underlying t = some (.array n e)) (hi : TyI P e sz by_ zv) (hx : ev F x = .pointer (some ⟨b, 0, none⟩)) (hy : ev F y = .int k i) (h : IxAddr (.slice (some ⟨b, 0, none⟩) n n) sz i b' q) :
    XV P F (.indexAddr t x y) ty w (.pointer (some ⟨b', q, none⟩)) w := by
  obtain ⟨o, n', cap, he, h0, h1, rfl⟩ := h
  injection he with he hn hc
  injection he with he
  injection he with hb ho _
  subst hb ho hn
  intro dd pos aft g
  simp [execOp, hx, hy, Instr.indexAt, Instr.sureAddr, asIntOf, run_underlying ht, h0, h1, zFY hi, zMY]
theorem zQ3 {n by2 : Nat} {zv2 : Value} {cells : Array Value} {parts : List (Nat × Operand)} {ps : List (Nat × Value)} (ht : P.underlying t = some (.array n e)) (hi : TyI P t sz by_ zv) (hie : TyI P e 1 by2 zv2) (hp : EvP F parts ps)
    (hf : Instr.fill (fun i => some (i * 1, 1)) zv.cells ps = some cells) : XV P F (.build t parts.toArray) ty w (.agg cells) w := by
  intro d pos aft g
  obtain ⟨i, h1, h2, _, _⟩ := hi.open
  have h : (Instr.build t (parts.toArray.map fun p => (p.1, ev F p.2))).run P w = .ok (.agg cells) w := by
    have e1 : parts.map (fun p => (p.1, ev F p.2)) = ps := by simpa using hp.map
    simp only [Nat.mul_one] at hf
    simp [Instr.build, zeroValue, typeInfo, h1, h2, run_underlying ht, zFY hie, e1, hf]
  simp only [execOp, Sem.run_bind, h, Result.andThen_ok, Sem.run_pure]
end
section
variable {w0 w w1 : World} {Γ : List Ent} {α : Type} [Flat α]
theorem Hp.rdArr (h : Hp w0 Γ w) (i : Nat) {b : Nat} {E : TypeId} {cs : Array Value} (hi : Γ[i]? = some (Ent.blk b E cs)) (xs : List α) (he : cs.size = xs.length * Flat.sz α) (hc : Cells cs xs) (hl : xs.length ≤ maxLen) :
    rdL (· < w.heap.size) w (.slice (some ⟨b, 0, none⟩) xs.length xs.length) xs :=
  (zMp (E := E) (S := fun k => k = b) (w := w) (b := b) (Nat.le_refl _) hl rfl (h.get i hi) he hc rfl).rdL.mono fun k hk => (Ent.blk b E cs).lt (h.get i hi) hk
end
theorem zNx (xs : List ByteArray) : Cells (xs.map Value.string).toArray xs := by
  intro i x hx j u hj
  have : j = 0 := by
    have := (List.getElem?_eq_some_iff.1 hj).1
    simp [Flat.enc] at this
    exact this
  subst this
  have hj' : Value.string x = u := by simpa [Flat.enc] using hj
  subst hj'
  have e : i * Flat.sz ByteArray + 0 = i := by show i * 1 + 0 = i; omega
  rw [e]
  simp [hx]
theorem Hp.tab {P : Program} {w0 w w1 : World} {Γ : List Ent} {B : Nat} {name : String} {k : IntKind} {zs : List Int} (h : Hp w0 Γ w) (i : Nat) (hi : Γ[i]? = some (zAg w1 B)) (hB : B = w1.heap.size) (ht : Lib.TabIs P w1 name k zs) : Lib.TabIs P w name k zs := by
  have hs := h.get i hi
  subst hB
  unfold Lib.TabIs World.var? at *
  cases hg : P.globalNamed name with
  | none => rw [hg] at ht; cases ht
  | some g =>
    rw [hg] at ht
    simp only [Option.bind_some] at ht ⊢
    have hlt : g < w1.heap.size := by
      cases hh : w1.heap[g]? with
      | none => rw [hh] at ht; cases ht
      | some o => exact zHS hh
    rw [hs.2 g hlt]
    exact ht
theorem u8w (n : Int) : ((UInt8.ofNat (IntKind.u8.wrap n).toNat).toNat : Int) = IntKind.u8.wrap n := by
  have h1 : 0 ≤ IntKind.u8.wrap n ∧ IntKind.u8.wrap n < 256 := by
    simp only [IntKind.wrap]
    constructor <;> (first | (apply Int.emod_nonneg; decide) | (apply Int.emod_lt_of_pos; decide) | (simp; omega) | omega)
  have h2 : (IntKind.u8.wrap n).toNat < 256 := by omega
  rw [UInt8.toNat_ofNat', Nat.mod_eq_of_lt h2]
  omega
theorem zNy {P : Program} {W : World} : ∀ (j : Nat) (l : List (String × DataW Unit)), laidMet P l W → laidMet P (l.drop j) W
  | 0, l, h => h
  | j + 1, [], h => h
  | j + 1, x :: l, h => zNy j l (laidMet.tail h)
theorem zOp {P : Program} {laid : List (String × DataW Unit)} {W : World} {name : String} {k : IntKind} {zs : List Int} {t e : TypeId} {n : Nat} (j : Nat) (hj : laid[j]? = some (name, Lib.tabData k zs))
    (hty : ((P.globalNamed name).bind fun g => (P.globals[g]?).map (·.type)) = some t) (ht : P.underlying t = some (.array n e)) (he : P.underlying e = some (.int k)) (hce : P.cellsOf e = 1) (hct : P.cellsOf t = n) (h : laidMet P laid W) : Lib.TabIs P W name k zs := by
  have h2 := zNy j laid h
  have hl : j < laid.length := (List.getElem?_eq_some_iff.1 hj).1
  rw [List.drop_eq_getElem_cons hl] at h2
  have e1 : laid[j] = (name, Lib.tabData k zs) := by rw [List.getElem?_eq_getElem hl] at hj; exact Option.some.inj hj
  rw [e1] at h2
  cases hg : P.globalNamed name with
  | none => rw [hg] at hty; cases hty
  | some g => rw [hg] at hty; exact Lib.tabIs_of_head hg hty ht he hce hct h2
def zHn (n b : Int) : Option ByteArray := chk (b = 10 ∧ -9223372036854775808 ≤ n ∧ n ≤ 9223372036854775807) (some (bts (Lib.itoa n)))
theorem zPg {w w' : World} (h : ∃ k os, w' = Sort.grow (w.drewN k) os) : Fresh w w' [] := by
  obtain ⟨k, os, rfl⟩ := h
  refine Fresh.nil ⟨⟨rfl, rfl, rfl, ?_⟩, fun j hj _ => ?_⟩
  · simp [Sort.grow, World.drewN]
  · simp only [Sort.grow, World.drewN]
    exact Array.getElem?_append_left hj
end Go.Proofs.YtmmkkcmliofknaaGreatDoor
