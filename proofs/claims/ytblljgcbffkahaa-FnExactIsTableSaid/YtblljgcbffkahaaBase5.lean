/- More of my proof rules: function values, two slices changed together, structs compared. -/
import Derived.Test.YtblljgcbffkahaaBase4
import Derived.Laws.StructEq
namespace Go.Proofs.Ytblljgcbffkahaa
open Go Go.RowKit Go.ChangeShapes Go.WideShapes
set_option linter.unusedVariables false
set_option linter.unusedSimpArgs false
set_option linter.unusedSectionVars false

/-! two parts as one -/
def Ent.pair (a b : Ent) : Ent where
  S k := a.S k ∨ b.S k
  H w := a.H w ∧ b.H w ∧ ∀ k, a.S k → b.S k → False
  fr hf h := ⟨a.fr (fun k hk => hf k (.inl hk)) h.1, b.fr (fun k hk => hf k (.inr hk)) h.2.1, h.2.2⟩
  lt h hk := hk.elim (a.lt h.1) (b.lt h.2.1)
theorem Hp.join2 {w0 w : World} {Γ : List Ent} {a b : Ent} (h : Hp w0 (a :: b :: Γ) w) : Hp w0 (Ent.pair a b :: Γ) w := by
  have h1 := List.pairwise_cons.1 h.pw
  have h2 := List.pairwise_cons.1 h1.2
  refine ⟨h.same, fun e he => ?_, List.pairwise_cons.2 ⟨fun e he k hk hk' => ?_, h2.2⟩⟩
  · rcases List.mem_cons.1 he with rfl | he
    · exact ⟨h.all a (by simp), h.all b (by simp), h1.1 b (by simp)⟩
    · exact h.all e (by simp [he])
  · rcases hk with hk | hk
    · exact h1.1 e (by simp [he]) k hk hk'
    · exact h2.1 e he k hk hk'
theorem Hp.split2 {w0 w : World} {Γ : List Ent} {a b : Ent} (h : Hp w0 (Ent.pair a b :: Γ) w) : Hp w0 (a :: b :: Γ) w := by
  have h1 := List.pairwise_cons.1 h.pw
  have hp := h.all (Ent.pair a b) (by simp)
  refine ⟨h.same, fun e he => ?_, List.pairwise_cons.2 ⟨fun e he k hk hk' => ?_, List.pairwise_cons.2 ⟨fun e he k hk hk' => h1.1 e he k (.inr hk) hk', h1.2⟩⟩⟩
  · rcases List.mem_cons.1 he with rfl | he
    · exact hp.1
    · rcases List.mem_cons.1 he with rfl | he
      · exact hp.2.1
      · exact h.all e (by simp [he])
  · rcases List.mem_cons.1 he with rfl | he
    · exact hp.2.2 k hk hk'
    · exact h1.1 e he k (.inl hk) hk'

/-! what stands still for a function value -/
def Agr (K : Nat → Prop) (w w' : World) : Prop := ∀ k, K k → k < w.heap.size ∧ w'.heap[k]? = w.heap[k]?
theorem Agr.lt {K : Nat → Prop} {w w' : World} (h : Agr K w w') {k : Nat} (hk : K k) : k < w'.heap.size := by
  have h1 := (h k hk).2
  rw [Array.getElem?_eq_getElem (h k hk).1] at h1
  exact lt_of_some h1
theorem Agr.trans {K K' : Nat → Prop} {a b c : World} (h : Agr K a b) (hk : ∀ k, K k → K' k) (g : Agr K' b c) : Agr K a c :=
  fun k hK => ⟨(h k hK).1, (g k (hk k hK)).2.trans (h k hK).2⟩
theorem Agr.rdL {α : Type} [GoT α] {K : Nat → Prop} {w w' : World} {v : Value} {xs : List α} (h : Agr K w w') (hr : rdL K w v xs) : rdL (· < w'.heap.size) w' v xs :=
  (hr.fr fun k hk => (h k hk).2).mono fun _ hk => h.lt hk
/-- a box that is read -/
def bxA (K : Nat → Prop) (w : World) (b : Nat) (E : TypeId) (cs : Array Value) : Prop := K b ∧ w.heap[b]? = some (.cells cs E (0, 0))
theorem Agr.bx {K : Nat → Prop} {w w' : World} {b : Nat} {E : TypeId} {cs : Array Value} (h : Agr K w w') (hb : bxA K w b E cs) : bxA (· < w'.heap.size) w' b E cs :=
  ⟨h.lt hb.1, (h b hb.1).2.trans hb.2⟩
theorem bxA.cell {K : Nat → Prop} {w : World} {b : Nat} {E : TypeId} {cs : Array Value} (h : bxA K w b E cs) {o : Nat} {u : Value} (hu : cs[o]? = some u) : w.cell? ⟨b, o, none⟩ = some u := by
  rw [cell_at h.2]; exact hu
theorem bxA.cells {K : Nat → Prop} {w : World} {b : Nat} {E : TypeId} {cs : Array Value} (h : bxA K w b E cs) {o : Nat} {l : List Value} (hu : ∀ j u, l[j]? = some u → cs[o + j]? = some u) : ∀ j u, l[j]? = some u → w.cell? ⟨b, o + j, none⟩ = some u := fun j u hj => by
  rw [cell_at h.2]; exact hu j u hj
theorem bxA.fr {K : Nat → Prop} {w w' : World} {b : Nat} {E : TypeId} {cs : Array Value} (hf : ∀ k, K k → w'.heap[k]? = w.heap[k]?) (h : bxA K w b E cs) : bxA K w' b E cs := ⟨h.1, (hf b h.1).trans h.2⟩
theorem bxA.mono {K K' : Nat → Prop} {w : World} {b : Nat} {E : TypeId} {cs : Array Value} (hf : ∀ k, K k → K' k) (h : bxA K w b E cs) : bxA K' w b E cs := ⟨hf _ h.1, h.2⟩
/-- a function value that can be called while K stands still: R tells what it hands back -/
def FnQ (P : Program) (fk : FuncId) (cp : List Value) (K : Nat → Prop) (w0 : World) (R : World → List Value → Value → Prop) : Prop :=
  CallOK P fk ∧ ∀ w', Agr K w0 w' → ∀ vs v, R w' vs v → Calls P fk (vs ++ cp).toArray w' fun e w'' => e = .returned v ∧ Fresh w' w'' []
theorem Agr.fn {P : Program} {fk : FuncId} {cp : List Value} {K K' : Nat → Prop} {w w' : World} {R : World → List Value → Value → Prop} (h : Agr K w w') (hk : ∀ k, K k → K' k) (hq : FnQ P fk cp K w R) : FnQ P fk cp K' w' R :=
  ⟨hq.1, fun w1 h1 => hq.2 w1 (h.trans hk h1)⟩
theorem Agr.fnS {P : Program} {fk : FuncId} {cp : List Value} {K : Nat → Prop} {w w' : World} {R : World → List Value → Value → Prop} (h : Agr K w w') (hq : FnQ P fk cp K w R) : FnQ P fk cp (· < w'.heap.size) w' R := h.fn (fun _ hk => h.lt hk) hq
section
variable {w0 w w1 : World} {Γ : List Ent}
theorem Hp.agS {B : Nat} (h : Hp w0 Γ w) (i : Nat) (hi : Γ[i]? = some (Ent.snap w1 B)) : Agr (· < B) w1 w :=
  fun k hk => ⟨Nat.lt_of_lt_of_le hk (h.get i hi).1, (h.get i hi).2 k hk⟩
theorem Hp.agZ {T : Nat → Prop} (h : Hp w0 Γ w) (i : Nat) (hi : Γ[i]? = some (Ent.frz w1 T)) : Agr (fun k => k < w1.heap.size ∧ ¬ T k) w1 w :=
  fun k hk => ⟨hk.1, h.get i hi k hk.1 hk.2⟩
theorem Hp.fnS {P : Program} {fk : FuncId} {cp : List Value} {B : Nat} {R : World → List Value → Value → Prop} (h : Hp w0 Γ w) (i : Nat) (hi : Γ[i]? = some (Ent.snap w1 B)) (hq : FnQ P fk cp (· < B) w1 R) : FnQ P fk cp (· < w.heap.size) w R := (h.agS i hi).fnS hq
theorem Hp.fnZ {P : Program} {fk : FuncId} {cp : List Value} {T : Nat → Prop} {R : World → List Value → Value → Prop} (h : Hp w0 Γ w) (i : Nat) (hi : Γ[i]? = some (Ent.frz w1 T)) (hq : FnQ P fk cp (fun k => k < w1.heap.size ∧ ¬ T k) w1 R) : FnQ P fk cp (· < w.heap.size) w R := (h.agZ i hi).fnS hq
theorem Hp.fnSX {P : Program} {fk : FuncId} {cp : List Value} {B : Nat} {e' : Ent} {R : World → List Value → Value → Prop} (h : Hp w0 Γ w) (i j : Nat) (hij : i ≠ j) (hi : Γ[i]? = some (Ent.snap w1 B)) (hj : Γ[j]? = some e') (hq : FnQ P fk cp (· < B) w1 R) : FnQ P fk cp (fun k => k < w.heap.size ∧ ¬ e'.S k) w R :=
  (h.agS i hi).fn (fun k hk => ⟨(h.agS i hi).lt hk, fun hk' => h.disj hij hi hj k hk hk'⟩) hq
theorem Hp.fnZX {P : Program} {fk : FuncId} {cp : List Value} {T : Nat → Prop} {e' : Ent} {R : World → List Value → Value → Prop} (h : Hp w0 Γ w) (i j : Nat) (hij : i ≠ j) (hi : Γ[i]? = some (Ent.frz w1 T)) (hj : Γ[j]? = some e') (hq : FnQ P fk cp (fun k => k < w1.heap.size ∧ ¬ T k) w1 R) : FnQ P fk cp (fun k => k < w.heap.size ∧ ¬ e'.S k) w R :=
  (h.agZ i hi).fn (fun k hk => ⟨(h.agZ i hi).lt hk, fun hk' => h.disj hij hi hj k hk hk'⟩) hq
/-- a box of the call's own -/
theorem Hp.bxB {b : Nat} {E : TypeId} {cs : Array Value} (h : Hp w0 Γ w) (i : Nat) (hi : Γ[i]? = some (Ent.blk b E cs)) : bxA (· < w.heap.size) w b E cs := ⟨(Ent.blk b E cs).lt (h.get i hi) rfl, h.get i hi⟩
theorem Hp.bxX {b : Nat} {E : TypeId} {cs : Array Value} {e' : Ent} (h : Hp w0 Γ w) (i j : Nat) (hij : i ≠ j) (hi : Γ[i]? = some (Ent.blk b E cs)) (hj : Γ[j]? = some e') : bxA (fun k => k < w.heap.size ∧ ¬ e'.S k) w b E cs :=
  ⟨⟨(Ent.blk b E cs).lt (h.get i hi) rfl, fun hk => h.disj hij hi hj b rfl hk⟩, h.get i hi⟩
/-- a box that stood when the call began -/
theorem Hp.bxS {b : Nat} {E : TypeId} {cs : Array Value} {B : Nat} (h : Hp w0 Γ w) (i : Nat) (hi : Γ[i]? = some (Ent.snap w1 B)) (hb : bxA (· < B) w1 b E cs) : bxA (· < w.heap.size) w b E cs := (h.agS i hi).bx hb
theorem Hp.bxSX {b : Nat} {E : TypeId} {cs : Array Value} {B : Nat} {e' : Ent} (h : Hp w0 Γ w) (i j : Nat) (hij : i ≠ j) (hi : Γ[i]? = some (Ent.snap w1 B)) (hj : Γ[j]? = some e') (hb : bxA (· < B) w1 b E cs) : bxA (fun k => k < w.heap.size ∧ ¬ e'.S k) w b E cs :=
  ⟨⟨(h.bxS i hi hb).1, fun hk => h.disj hij hi hj b hb.1 hk⟩, (h.bxS i hi hb).2⟩
theorem Hp.bxZ {b : Nat} {E : TypeId} {cs : Array Value} {T : Nat → Prop} (h : Hp w0 Γ w) (i : Nat) (hi : Γ[i]? = some (Ent.frz w1 T)) (hb : bxA (fun k => k < w1.heap.size ∧ ¬ T k) w1 b E cs) : bxA (· < w.heap.size) w b E cs := (h.agZ i hi).bx hb
theorem Hp.bxZX {b : Nat} {E : TypeId} {cs : Array Value} {T : Nat → Prop} {e' : Ent} (h : Hp w0 Γ w) (i j : Nat) (hij : i ≠ j) (hi : Γ[i]? = some (Ent.frz w1 T)) (hj : Γ[j]? = some e') (hb : bxA (fun k => k < w1.heap.size ∧ ¬ T k) w1 b E cs) : bxA (fun k => k < w.heap.size ∧ ¬ e'.S k) w b E cs :=
  ⟨⟨(h.bxZ i hi hb).1, fun hk => h.disj hij hi hj b hb.1 hk⟩, (h.bxZ i hi hb).2⟩
end
theorem x_makeFunc {P : Program} {F : Fr} {w : World} {ty : TypeId} {f : FuncId} {cap : List Operand} {vs : List Value} (ha : EvL F cap vs) :
    XV P F (.makeFunc (.func f) #[] cap.toArray) ty w (.func (.func f) #[] vs.toArray) w := by
  intro d pos aft g
  have := ha.map
  simp [execOp, Instr.makeFunc, this]

theorem x_lenW {P : Program} {F : Fr} {w : World} {ty t e : TypeId} {x : Operand} {v : Value} {m : Int} (ht : P.underlying t = some (.slice e)) (hx : ev F x = v) (hn : ∃ A n cap, v = .slice A n cap ∧ (n : Int) = m) :
    XV P F (.call { callee := .builtin .len, args := #[x], argTypes := #[t] }) ty w (.int .i64 m) w := by
  obtain ⟨A, n, cap, rfl, rfl⟩ := hn
  exact x_len ht hx
theorem outcE {ρ σ β : Type} {s : σ} {kr : ρ → Option β} {kn : σ → Option β} {r : β} (h : outc (.nxt s) kr kn = some r) : kn s = some r := h
theorem CW.joinR {P : Program} {N : Nat} {R : Fr → World → Prop} {X : Nat → Fr → World → Prop} {K : Fr → World → Prop} {F : Fr} {w : World} {σ : Type} {a : Code} (J : σ → Fr → World → Prop) (kont : σ → Prop)
    (h1 : CW P N a R X (fun F w => ∃ s, kont s ∧ J s F w) F w) (h2 : ∀ s F w, J s F w → kont s → K F w) : CW P N a R X K F w :=
  h1.mono (fun _ _ h => h) (fun _ _ _ h => h) (fun F w ⟨s, hk, hj⟩ => h2 s F w hj hk)

section
variable {P : Program} {N : Nat} {ops : Array Oper} {K : Fr → World → Prop} {F : Fr} {w : World} {S : World → Prop}
theorem DH.node {fuel fuel' : Nat} {listed listed' : Array Bool} (J : Fr → World → Prop) (h1 : ∀ F w, J F w → DH P N ops S fuel' listed' K F w) (h2 : (∀ F w, J F w → DH P N ops S fuel' listed' K F w) → DH P N ops S fuel listed K F w) : DH P N ops S fuel listed K F w := h2 h1
theorem DH.relist {fuel : Nat} {listed listed' : Array Bool} (h : listed = listed') (h1 : DH P N ops S fuel listed' K F w) : DH P N ops S fuel listed K F w := by subst h; exact h1
end

/-! structs of whole numbers compared -/
def IntFlds (P : Program) (fs : List Field) (n : Nat) : Prop := ∀ i f, fs[i]? = some f → f.name ≠ "_" ∧ P.underlying f.type = some (.int .i64) ∧ f.offset = n + i
theorem run_part_cell {P : Program} {w : World} {t : TypeId} {k : IntKind} (ht : P.underlying t = some (.int k)) {cs : Array Value} {o : Nat} {v : Value} (hv : cs[o]? = some v) : (part t cs o).run P w = .ok v w := by
  have := isAgg_cell (P := P) (t := t) (d := .int k) ht rfl w
  simp [part, this, hv]
end Go.Proofs.Ytblljgcbffkahaa
