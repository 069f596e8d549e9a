/- More of my proof rules: function values, two slices changed together, structs compared. -/
import Derived.Test.YtpobaajdhfoomaaBase4
import Derived.Laws.StructEq
namespace Go.Proofs.Ytpobaajdhfoomaa
open Go Go.RowKit Go.ChangeShapes Go.WideShapes
set_option linter.unusedVariables false
set_option linter.unusedSimpArgs false
set_option linter.unusedSectionVars false

/-! two parts as one -/
def Ent.pair (a b : Ent) : Ent where
  S k := a.S k ∨ b.S k
  H w := a.H w ∧ b.H w ∧ ∀ k, a.S k → b.S k → False
  fr hf h := ⟨a.fr (fun k hk => hf k (.inl hk)) h.1, b.fr (fun k hk => hf k (.inr hk)) h.2.1, h.2.2⟩
  lt h hk := hk.elim (a.lt h.1) (b.lt h.2.1)
theorem Hp.join2 {w0 w : World} {Γ : List Ent} {a b : Ent} (h : Hp w0 (a :: b :: Γ) w) : Hp w0 (Ent.pair a b :: Γ) w := by
  have h1 := List.pairwise_cons.1 h.pw
  have h2 := List.pairwise_cons.1 h1.2
  refine ⟨h.same, fun e he => ?_, List.pairwise_cons.2 ⟨fun e he k hk hk' => ?_, h2.2⟩⟩
  · rcases List.mem_cons.1 he with rfl | he
    · exact ⟨h.all a (by simp), h.all b (by simp), h1.1 b (by simp)⟩
    · exact h.all e (by simp [he])
  · rcases hk with hk | hk
    · exact h1.1 e (by simp [he]) k hk hk'
    · exact h2.1 e he k hk hk'
theorem Hp.split2 {w0 w : World} {Γ : List Ent} {a b : Ent} (h : Hp w0 (Ent.pair a b :: Γ) w) : Hp w0 (a :: b :: Γ) w := by
  have h1 := List.pairwise_cons.1 h.pw
  have hp := h.all (Ent.pair a b) (by simp)
  refine ⟨h.same, fun e he => ?_, List.pairwise_cons.2 ⟨fun e he k hk hk' => ?_, List.pairwise_cons.2 ⟨fun e he k hk hk' => h1.1 e he k (.inr hk) hk', h1.2⟩⟩⟩
  · rcases List.mem_cons.1 he with rfl | he
    · exact hp.1
    · rcases List.mem_cons.1 he with rfl | he
      · exact hp.2.1
      · exact h.all e (by simp [he])
  · rcases List.mem_cons.1 he with rfl | he
    · exact hp.2.2 k hk hk'
    · exact h1.1 e he k (.inl hk) hk'

/-! what stands still for a function value -/
def Agr (K : Nat → Prop) (w w' : World) : Prop := ∀ k, K k → k < w.heap.size ∧ w'.heap[k]? = w.heap[k]?
theorem Agr.lt {K : Nat → Prop} {w w' : World} (h : Agr K w w') {k : Nat} (hk : K k) : k < w'.heap.size := by
  have h1 := (h k hk).2
  rw [Array.getElem?_eq_getElem (h k hk).1] at h1
  exact lt_of_some h1
theorem Agr.trans {K K' : Nat → Prop} {a b c : World} (h : Agr K a b) (hk : ∀ k, K k → K' k) (g : Agr K' b c) : Agr K a c :=
  fun k hK => ⟨(h k hK).1, (g k (hk k hK)).2.trans (h k hK).2⟩
theorem Agr.rdL {α : Type} [GoT α] {K : Nat → Prop} {w w' : World} {v : Value} {xs : List α} (h : Agr K w w') (hr : rdL K w v xs) : rdL (· < w'.heap.size) w' v xs :=
  (hr.fr fun k hk => (h k hk).2).mono fun _ hk => h.lt hk
/-- a box that is read -/
def bxA (K : Nat → Prop) (w : World) (b : Nat) (E : TypeId) (cs : Array Value) : Prop := K b ∧ w.heap[b]? = some (.cells cs E (0, 0))
theorem Agr.bx {K : Nat → Prop} {w w' : World} {b : Nat} {E : TypeId} {cs : Array Value} (h : Agr K w w') (hb : bxA K w b E cs) : bxA (· < w'.heap.size) w' b E cs :=
  ⟨h.lt hb.1, (h b hb.1).2.trans hb.2⟩
theorem bxA.cell {K : Nat → Prop} {w : World} {b : Nat} {E : TypeId} {cs : Array Value} (h : bxA K w b E cs) {o : Nat} {u : Value} (hu : cs[o]? = some u) : w.cell? ⟨b, o, none⟩ = some u := by
  rw [cell_at h.2]; exact hu
theorem bxA.cells {K : Nat → Prop} {w : World} {b : Nat} {E : TypeId} {cs : Array Value} (h : bxA K w b E cs) {o : Nat} {l : List Value} (hu : ∀ j u, l[j]? = some u → cs[o + j]? = some u) : ∀ j u, l[j]? = some u → w.cell? ⟨b, o + j, none⟩ = some u := fun j u hj => by
  rw [cell_at h.2]; exact hu j u hj
theorem bxA.fr {K : Nat → Prop} {w w' : World} {b : Nat} {E : TypeId} {cs : Array Value} (hf : ∀ k, K k → w'.heap[k]? = w.heap[k]?) (h : bxA K w b E cs) : bxA K w' b E cs := ⟨h.1, (hf b h.1).trans h.2⟩
theorem bxA.mono {K K' : Nat → Prop} {w : World} {b : Nat} {E : TypeId} {cs : Array Value} (hf : ∀ k, K k → K' k) (h : bxA K w b E cs) : bxA K' w b E cs := ⟨hf _ h.1, h.2⟩
/-- Go's sort of numbers -/
def M.slices_SortA (a0 : List Int) : Option (Unit × List Int) := ifB (decide (a0.length < 4611686018427387904)) (some ((), a0.mergeSort fun x y => decide (x ≤ y))) none
/-- a function value that can be called while K stands still: R tells what it hands back -/
def FnQ (P : Program) (fk : FuncId) (cp : List Value) (K : Nat → Prop) (w0 : World) (R : World → List Value → Value → Prop) : Prop :=
  CallOK P fk ∧ ∀ w', Agr K w0 w' → ∀ vs v, R w' vs v → Calls P fk (vs ++ cp).toArray w' fun e w'' => e = .returned v ∧ Fresh w' w'' []
theorem Agr.fn {P : Program} {fk : FuncId} {cp : List Value} {K K' : Nat → Prop} {w w' : World} {R : World → List Value → Value → Prop} (h : Agr K w w') (hk : ∀ k, K k → K' k) (hq : FnQ P fk cp K w R) : FnQ P fk cp K' w' R :=
  ⟨hq.1, fun w1 h1 => hq.2 w1 (h.trans hk h1)⟩
theorem Agr.fnS {P : Program} {fk : FuncId} {cp : List Value} {K : Nat → Prop} {w w' : World} {R : World → List Value → Value → Prop} (h : Agr K w w') (hq : FnQ P fk cp K w R) : FnQ P fk cp (· < w'.heap.size) w' R := h.fn (fun _ hk => h.lt hk) hq
section
variable {w0 w w1 : World} {Γ : List Ent}
theorem Hp.agS {B : Nat} (h : Hp w0 Γ w) (i : Nat) (hi : Γ[i]? = some (Ent.snap w1 B)) : Agr (· < B) w1 w :=
  fun k hk => ⟨Nat.lt_of_lt_of_le hk (h.get i hi).1, (h.get i hi).2 k hk⟩
theorem Hp.agZ {T : Nat → Prop} (h : Hp w0 Γ w) (i : Nat) (hi : Γ[i]? = some (Ent.frz w1 T)) : Agr (fun k => k < w1.heap.size ∧ ¬ T k) w1 w :=
  fun k hk => ⟨hk.1, h.get i hi k hk.1 hk.2⟩
theorem Hp.fnS {P : Program} {fk : FuncId} {cp : List Value} {B : Nat} {R : World → List Value → Value → Prop} (h : Hp w0 Γ w) (i : Nat) (hi : Γ[i]? = some (Ent.snap w1 B)) (hq : FnQ P fk cp (· < B) w1 R) : FnQ P fk cp (· < w.heap.size) w R := (h.agS i hi).fnS hq
theorem Hp.fnZ {P : Program} {fk : FuncId} {cp : List Value} {T : Nat → Prop} {R : World → List Value → Value → Prop} (h : Hp w0 Γ w) (i : Nat) (hi : Γ[i]? = some (Ent.frz w1 T)) (hq : FnQ P fk cp (fun k => k < w1.heap.size ∧ ¬ T k) w1 R) : FnQ P fk cp (· < w.heap.size) w R := (h.agZ i hi).fnS hq
theorem Hp.fnSX {P : Program} {fk : FuncId} {cp : List Value} {B : Nat} {e' : Ent} {R : World → List Value → Value → Prop} (h : Hp w0 Γ w) (i j : Nat) (hij : i ≠ j) (hi : Γ[i]? = some (Ent.snap w1 B)) (hj : Γ[j]? = some e') (hq : FnQ P fk cp (· < B) w1 R) : FnQ P fk cp (fun k => k < w.heap.size ∧ ¬ e'.S k) w R :=
  (h.agS i hi).fn (fun k hk => ⟨(h.agS i hi).lt hk, fun hk' => h.disj hij hi hj k hk hk'⟩) hq
theorem Hp.fnZX {P : Program} {fk : FuncId} {cp : List Value} {T : Nat → Prop} {e' : Ent} {R : World → List Value → Value → Prop} (h : Hp w0 Γ w) (i j : Nat) (hij : i ≠ j) (hi : Γ[i]? = some (Ent.frz w1 T)) (hj : Γ[j]? = some e') (hq : FnQ P fk cp (fun k => k < w1.heap.size ∧ ¬ T k) w1 R) : FnQ P fk cp (fun k => k < w.heap.size ∧ ¬ e'.S k) w R :=
  (h.agZ i hi).fn (fun k hk => ⟨(h.agZ i hi).lt hk, fun hk' => h.disj hij hi hj k hk hk'⟩) hq
/-- a box of the call's own -/
theorem Hp.bxB {b : Nat} {E : TypeId} {cs : Array Value} (h : Hp w0 Γ w) (i : Nat) (hi : Γ[i]? = some (Ent.blk b E cs)) : bxA (· < w.heap.size) w b E cs := ⟨(Ent.blk b E cs).lt (h.get i hi) rfl, h.get i hi⟩
theorem Hp.bxX {b : Nat} {E : TypeId} {cs : Array Value} {e' : Ent} (h : Hp w0 Γ w) (i j : Nat) (hij : i ≠ j) (hi : Γ[i]? = some (Ent.blk b E cs)) (hj : Γ[j]? = some e') : bxA (fun k => k < w.heap.size ∧ ¬ e'.S k) w b E cs :=
  ⟨⟨(Ent.blk b E cs).lt (h.get i hi) rfl, fun hk => h.disj hij hi hj b rfl hk⟩, h.get i hi⟩
/-- a box that stood when the call began -/
theorem Hp.bxS {b : Nat} {E : TypeId} {cs : Array Value} {B : Nat} (h : Hp w0 Γ w) (i : Nat) (hi : Γ[i]? = some (Ent.snap w1 B)) (hb : bxA (· < B) w1 b E cs) : bxA (· < w.heap.size) w b E cs := (h.agS i hi).bx hb
theorem Hp.bxSX {b : Nat} {E : TypeId} {cs : Array Value} {B : Nat} {e' : Ent} (h : Hp w0 Γ w) (i j : Nat) (hij : i ≠ j) (hi : Γ[i]? = some (Ent.snap w1 B)) (hj : Γ[j]? = some e') (hb : bxA (· < B) w1 b E cs) : bxA (fun k => k < w.heap.size ∧ ¬ e'.S k) w b E cs :=
  ⟨⟨(h.bxS i hi hb).1, fun hk => h.disj hij hi hj b hb.1 hk⟩, (h.bxS i hi hb).2⟩
theorem Hp.bxZ {b : Nat} {E : TypeId} {cs : Array Value} {T : Nat → Prop} (h : Hp w0 Γ w) (i : Nat) (hi : Γ[i]? = some (Ent.frz w1 T)) (hb : bxA (fun k => k < w1.heap.size ∧ ¬ T k) w1 b E cs) : bxA (· < w.heap.size) w b E cs := (h.agZ i hi).bx hb
theorem Hp.bxZX {b : Nat} {E : TypeId} {cs : Array Value} {T : Nat → Prop} {e' : Ent} (h : Hp w0 Γ w) (i j : Nat) (hij : i ≠ j) (hi : Γ[i]? = some (Ent.frz w1 T)) (hj : Γ[j]? = some e') (hb : bxA (fun k => k < w1.heap.size ∧ ¬ T k) w1 b E cs) : bxA (fun k => k < w.heap.size ∧ ¬ e'.S k) w b E cs :=
  ⟨⟨(h.bxZ i hi hb).1, fun hk => h.disj hij hi hj b hb.1 hk⟩, (h.bxZ i hi hb).2⟩
end
theorem x_makeFunc {P : Program} {F : Fr} {w : World} {ty : TypeId} {f : FuncId} {cap : List Operand} {vs : List Value} (ha : EvL F cap vs) :
    XV P F (.makeFunc (.func f) #[] cap.toArray) ty w (.func (.func f) #[] vs.toArray) w := by
  intro d pos aft g
  have := ha.map
  simp [execOp, Instr.makeFunc, this]

theorem x_lenW {P : Program} {F : Fr} {w : World} {ty t e : TypeId} {x : Operand} {v : Value} {m : Int} (ht : P.underlying t = some (.slice e)) (hx : ev F x = v) (hn : ∃ A n cap, v = .slice A n cap ∧ (n : Int) = m) :
    XV P F (.call { callee := .builtin .len, args := #[x], argTypes := #[t] }) ty w (.int .i64 m) w := by
  obtain ⟨A, n, cap, rfl, rfl⟩ := hn
  exact x_len ht hx
theorem outcE {ρ σ β : Type} {s : σ} {kr : ρ → Option β} {kn : σ → Option β} {r : β} (h : outc (.nxt s) kr kn = some r) : kn s = some r := h
theorem CW.joinR {P : Program} {N : Nat} {R : Fr → World → Prop} {X : Nat → Fr → World → Prop} {K : Fr → World → Prop} {F : Fr} {w : World} {σ : Type} {a : Code} (J : σ → Fr → World → Prop) (kont : σ → Prop)
    (h1 : CW P N a R X (fun F w => ∃ s, kont s ∧ J s F w) F w) (h2 : ∀ s F w, J s F w → kont s → K F w) : CW P N a R X K F w :=
  h1.mono (fun _ _ h => h) (fun _ _ _ h => h) (fun F w ⟨s, hk, hj⟩ => h2 s F w hj hk)

section
variable {P : Program} {N : Nat} {ops : Array Oper} {K : Fr → World → Prop} {F : Fr} {w : World} {S : World → Prop}
theorem DH.node {fuel fuel' : Nat} {listed listed' : Array Bool} (J : Fr → World → Prop) (h1 : ∀ F w, J F w → DH P N ops S fuel' listed' K F w) (h2 : (∀ F w, J F w → DH P N ops S fuel' listed' K F w) → DH P N ops S fuel listed K F w) : DH P N ops S fuel listed K F w := h2 h1
theorem DH.relist {fuel : Nat} {listed listed' : Array Bool} (h : listed = listed') (h1 : DH P N ops S fuel listed' K F w) : DH P N ops S fuel listed K F w := by subst h; exact h1
end

/-! a store into a row of a slice of the call's own -/
theorem S_inRow {P : Program} {N : Nat} {ops : Array Oper} {K : Fr → World → Prop} {F : Fr} {w0 w : World} {Γ : List Ent} {o : Oper} {α β : Type} [GoT α] [GoT β] [Wrap β α] {S : Nat → Prop} {v u : Value} {xs : List β} {k : Int} {a : β} {b q : Nat} {E : TypeId} (ys' : List α) (a' : β) (ha' : Wrap.get (α := α) a' = ys')
    (hL : Hp w0 Γ w) (i : Nat) (hi : Γ[i]? = some (Ent.own E S v xs)) (hix : IxAddr v 1 k b q) (ha : xs[k.toNat]? = some a) (hc : w.cell? ⟨b, q, none⟩ = some u)
    (hs : ∀ (E2 : TypeId) (S1 : Nat → Prop), Hp w [Ent.own E2 S1 u (Wrap.get (α := α) a), Ent.frz w S1] w → (∀ w', Hp w [Ent.own E2 S1 u ys', Ent.frz w S1] w' → K F w') → OP P N ops o K F w)
    (h : ∀ w' S', Hp w0 (Γ.set i (Ent.own E S' v (xs.set k.toNat a'))) w' → K F w') : OP P N ops o K F w := by
  obtain ⟨E2, S1, hp, hb⟩ := hL.partR (α := α) i hi hix ha hc
  refine hs E2 S1 (Hp.startIO hp) (fun w' hL' => ?_)
  have hM : Mut w w' S1 [Ent.own E2 S1 u ys'] := hL'.mutOut 1 rfl [0] (by decide) (by decide) rfl
  obtain ⟨S', h2⟩ := hb w' S1 ys' [] a' hM ha'
  exact h w' S' (by simpa using h2)

/-! a byte of a string -/
def strAt (s : ByteArray) (i : Int) : Option Int := match (if 0 ≤ i then s[i.toNat]? else none) with
  | some b => some (b.toNat : Int)
  | none => none
theorem x_strAt {P : Program} {F : Fr} {w : World} {ty t : TypeId} {x y : Operand} {s : ByteArray} {k : IntKind} {i n : Int} (ht : P.underlying t = some .string) (hx : ev F x = .string s) (hy : ev F y = .int k i) (h : strAt s i = some n) : XV P F (.index t x y) ty w (.int .u8 n) w := by
  intro d pos aft g
  unfold strAt at h
  simp only [execOp, hx, hy, Instr.index, asIntOf, Sem.run_bind, Sem.run_pure, Result.andThen_ok, run_underlying ht]
  cases hs : (if 0 ≤ i then s[i.toNat]? else none) with
  | none => rw [hs] at h; cases h
  | some b =>
    rw [hs] at h
    injection h with h
    subst h
    simp

/-! structs of whole numbers compared -/
def eqL : List Int → List Int → Bool
  | [], [] => true
  | a :: as, b :: bs => a == b && eqL as bs
  | _, _ => false
theorem eqL_iff : ∀ (xs ys : List Int), eqL xs ys = true ↔ xs = ys
  | [], [] => by simp [eqL]
  | a :: as, b :: bs => by simp [eqL, eqL_iff as bs]
  | [], _ :: _ => by simp [eqL]
  | _ :: _, [] => by simp [eqL]
def intFldsB (P : Program) : List Field → Nat → Bool
  | [], _ => true
  | f :: fs, n => (f.name != "_") && (match P.underlying f.type with | some (.int .i64) => true | _ => false) && Nat.beq f.offset n && intFldsB P fs (n + 1)
def eqStructB (P : Program) (t : TypeId) : Bool := (match P.underlying t with | some (.struct fs) => intFldsB P fs.toList 0 | _ => false) && !P.stoodInHeld t && !P.eqGuardType P.depth t
theorem run_part_cell {P : Program} {w : World} {t : TypeId} {k : IntKind} (ht : P.underlying t = some (.int k)) {cs : Array Value} {o : Nat} {v : Value} (hv : cs[o]? = some v) : (part t cs o).run P w = .ok v w := by
  have := isAgg_cell (P := P) (t := t) (d := .int k) ht rfl w
  simp [part, this, hv]
theorem eqFields_ints {P : Program} {w : World} (d : Nat) (X Y : Array Value) : ∀ (fs : List Field) (n : Nat) (xs ys : List Int), intFldsB P fs n = true → xs.length = fs.length → ys.length = fs.length →
    (∀ i x, xs[i]? = some x → X[n + i]? = some (.int .i64 x)) → (∀ i x, ys[i]? = some x → Y[n + i]? = some (.int .i64 x)) → (Op.eqFields (d + 1) X Y fs).run P w = .ok (eqL xs ys) w
  | [], n, [], [], _, _, _, _, _ => by simp [Op.eqFields, eqL]
  | f :: fs, n, x :: xs, y :: ys, hb, h1, h2, hX, hY => by
    simp only [intFldsB, Bool.and_eq_true, bne_iff_ne, ne_eq] at hb
    obtain ⟨⟨⟨hn, ht⟩, ho⟩, hr⟩ := hb
    have ho' : f.offset = n := Nat.eq_of_beq_eq_true ho
    have ht' : P.underlying f.type = some (.int .i64) := by
      revert ht
      split
      · rename_i h; intro _; exact h
      · intro h; cases h
    have e1 := run_part_cell (w := w) ht' (cs := X) (o := f.offset) (v := .int .i64 x) (by rw [ho']; exact hX 0 x rfl)
    have e2 := run_part_cell (w := w) ht' (cs := Y) (o := f.offset) (v := .int .i64 y) (by rw [ho']; exact hY 0 y rfl)
    have ih := eqFields_ints (P := P) (w := w) d X Y fs (n + 1) xs ys hr (by simpa using h1) (by simpa using h2)
      (fun i x' hx => by have := hX (i + 1) x' (by simpa using hx); rw [← this]; congr 1; omega) (fun i x' hx => by have := hY (i + 1) x' (by simpa using hx); rw [← this]; congr 1; omega)
    rw [Op.eqFields, if_pos hn]
    simp only [Sem.run_bind, e1, e2, Result.andThen_ok, run_equalIn_int w d f.type .i64 .i64 x y ht', eqL]
    by_cases hxy : x = y
    · subst hxy; simp [ih]
    · have : (x == y) = false := by simpa using hxy
      simp [this]
theorem x_eqS {P : Program} {F : Fr} {w : World} {ty t u : TypeId} {x y : Operand} {xs ys : List Int} (hb : eqStructB P t = true) (hl : xs.length = ys.length) (hn : (P.fieldsOf t).size = xs.length) (hx : ev F x = .agg (xs.map (Value.int .i64)).toArray) (hy : ev F y = .agg (ys.map (Value.int .i64)).toArray) :
    XV P F (.binOp .eql t x y u) ty w (.bool (eqL xs ys)) w ∧ XV P F (.binOp .neq t x y u) ty w (.bool (!(eqL xs ys))) w := by
  simp only [eqStructB, Bool.and_eq_true, Bool.not_eq_true'] at hb
  obtain ⟨⟨h1, h2⟩, h3⟩ := hb
  have hf : ∃ fs, P.underlying t = some (.struct fs) ∧ intFldsB P fs.toList 0 = true := by
    revert h1
    split
    · rename_i fs h; intro h'; exact ⟨fs, h, h'⟩
    · intro h; cases h
  obtain ⟨fs, hf1, hf2⟩ := hf
  have hfo : P.fieldsOf t = fs := by simp [Program.fieldsOf, hf1]
  have hg : ∀ (xs : List Int) (i : Nat) (x : Int), xs[i]? = some x → ((xs.map (Value.int .i64)).toArray)[0 + i]? = some (Value.int .i64 x) := fun xs i x h => by simp [h]
  have e : (Op.equalIn 10000 t (.agg (xs.map (Value.int .i64)).toArray) (.agg (ys.map (Value.int .i64)).toArray)).run P w = .ok (eqL xs ys) w := by
    rw [show (10000 : Nat) = 9999 + 1 from rfl, run_equalIn_agg w 9999 t _ _ (by rw [hfo]; exact hf1) h2, hfo]
    exact eqFields_ints 9998 _ _ fs.toList 0 xs ys hf2 (by rw [hfo] at hn; simpa using hn.symm) (by rw [hfo] at hn; rw [← hl]; simpa using hn.symm) (hg xs) (hg ys)
  constructor
  · intro d pos aft g
    simp [execOp, hx, hy, run_eqGuard_agg w .eql t x y _ _ h3, run_eql_struct, e]
  · intro d pos aft g
    simp [execOp, hx, hy, run_eqGuard_agg w .neq t x y _ _ h3, run_neq_struct, e]
end Go.Proofs.Ytpobaajdhfoomaa
