/- A program logic over the kit's Code.wp: frames as functions, what a call knows of memory as disjoint parts, one rule an operation; and the reading of a claim's data. Conditions: none. -/
import Derived.WalkKit
import Derived.Deep.Quiet
import Derived.WalkSpells
import Derived.WalkLawsBesides
import Derived.Maps.AppendAt
import Derived.ProofKit
import Derived.OpenShut
import Derived.ShutString
import Derived.Deep.Slices
import Derived.Deep.Fields
namespace Go.Proofs.YtmmkkcmliofknaaGreatDoor
open Go Go.RowKit Go.ChangeShapes Go.WideShapes
set_option linter.unusedVariables false
structure Same (w w' : World) : Prop where
  os : w'.os = w.os
  tape : w'.tape = w.tape
  output : w'.output = w.output
  size : w.heap.size ≤ w'.heap.size
theorem Same.refl (w : World) : Same w w := ⟨rfl, rfl, rfl, Nat.le_refl _⟩
theorem Same.trans {a b c : World} (h : Same a b) (k : Same b c) : Same a c := ⟨k.os.trans h.os, k.tape.trans h.tape, k.output.trans h.output, Nat.le_trans h.size k.size⟩
structure Mod (T : Nat → Prop) (w w' : World) : Prop extends Same w w' where
  blk : ∀ k, k < w.heap.size → ¬ T k → w'.heap[k]? = w.heap[k]?
def zBO : Nat → Prop := fun _ => False
theorem Mod.refl (T : Nat → Prop) (w : World) : Mod T w w := ⟨Same.refl w, fun _ _ _ => rfl⟩
theorem Mod.trans {T : Nat → Prop} {a b c : World} (h : Mod T a b) (k : Mod T b c) : Mod T a c :=
  ⟨h.toSame.trans k.toSame, fun i hi ht => (k.blk i (Nat.lt_of_lt_of_le hi h.size) ht).trans (h.blk i hi ht)⟩
theorem Mod.mono {T T' : Nat → Prop} {a b : World} (h : Mod T a b) (hT : ∀ k, k < a.heap.size → T k → T' k) : Mod T' a b := ⟨h.toSame, fun i hi ht => h.blk i hi fun x => ht (hT i hi x)⟩
theorem Mod.below {w w' : World} (h : Mod zBO w w') : Below w.heap.size w w' := ⟨h.os, h.tape, h.output, h.size, fun k hk => h.blk k hk (fun x => x)⟩
theorem zA8 (w : World) : Mod zBO w { w with drawn := w.drawn + 1 } := ⟨⟨rfl, rfl, rfl, Nat.le_refl _⟩, fun _ _ _ => rfl⟩
theorem Mod.drewN (w : World) (n : Nat) : Mod zBO w (w.drewN n) := ⟨⟨rfl, rfl, rfl, Nat.le_refl _⟩, fun _ _ _ => rfl⟩
theorem Mod.alloc (w : World) (o : Obj) : Mod zBO w (w.alloc o) := ⟨⟨rfl, rfl, rfl, by simp⟩, fun k hk _ => Below.heap_alloc w o k hk⟩
theorem Mod.setCell (w : World) (a : Addr) (v : Value) : Mod (· = a.block) w (w.setCell a v) := ⟨⟨rfl, rfl, rfl, by simp [World.setCell]⟩, fun k _ ht => Below.heap_setCell w a v k ht⟩
class GoT (α : Type) where
  sz : Nat
  pos : 0 < sz
  rd : (Nat → Prop) → World → List Value → α → Prop
  own : (Nat → Prop) → World → List Value → α → Prop
  rd_len : ∀ {S w cs x}, rd S w cs x → cs.length = sz
  rd_one : ∀ {S w cs x}, rd S w cs x → ∀ u ∈ cs, u.oneCell' = true
  own_rd : ∀ {S w cs x}, own S w cs x → rd S w cs x
  rd_fr : ∀ {S w w' cs x}, (∀ k, S k → w'.heap[k]? = w.heap[k]?) → rd S w cs x → rd S w' cs x
  own_fr : ∀ {S w w' cs x}, (∀ k, S k → w'.heap[k]? = w.heap[k]?) → own S w cs x → own S w' cs x
  rd_mono : ∀ {S S' w cs x}, (∀ k, S k → S' k) → rd S w cs x → rd S' w cs x
  own_mono : ∀ {S S' w cs x}, (∀ k, S k → S' k) → own S w cs x → own S' w cs x
class Flat (α : Type) where
  sz : Nat
  pos : 0 < sz
  enc : α → List Value
  len : ∀ x, (enc x).length = sz
  one : ∀ x, ∀ u ∈ enc x, u.oneCell' = true
instance (priority := low) flatGoT (α : Type) [Flat α] : GoT α where
  sz := Flat.sz α
  pos := Flat.pos
  rd _ _ cs x := cs = Flat.enc x
  own _ _ cs x := cs = Flat.enc x
  rd_len h := by rw [h]; exact Flat.len _
  rd_one h := by rw [h]; exact Flat.one _
  own_rd h := h
  rd_fr _ h := h
  own_fr _ h := h
  rd_mono _ h := h
  own_mono _ h := h
instance : Flat Int := ⟨1, by decide, fun n => [.int .i64 n], fun _ => rfl, fun _ _ h => by simp at h; subst h; rfl⟩
instance : Flat Bool := ⟨1, by decide, fun n => [.bool n], fun _ => rfl, fun _ _ h => by simp at h; subst h; rfl⟩
instance : Flat ByteArray := ⟨1, by decide, fun n => [.string n], fun _ => rfl, fun _ _ h => by simp at h; subst h; rfl⟩
instance : Flat UInt8 := ⟨1, by decide, fun n => [.int .u8 n.toNat], fun _ => rfl, fun _ _ h => by simp at h; subst h; rfl⟩
section
variable {α : Type} [GoT α]
def rdL (S : Nat → Prop) (w : World) (v : Value) (xs : List α) : Prop :=
  ∃ A cap, v = .slice A xs.length cap ∧ xs.length ≤ cap ∧ cap ≤ maxLen ∧
    (0 < xs.length → ∃ b o, A = some ⟨b, o, none⟩ ∧ S b ∧ ∀ i x, xs[i]? = some x → ∃ cs, GoT.rd S w cs x ∧ ∀ j u, cs[j]? = some u → w.cell? ⟨b, o + (i * GoT.sz α + j), none⟩ = some u)
def ownL (E : TypeId) (S : Nat → Prop) (w : World) (v : Value) (xs : List α) : Prop :=
  ∃ A cap, v = .slice A xs.length cap ∧ xs.length ≤ cap ∧ cap ≤ maxLen ∧
    ((A = none ∧ cap = 0) ∨
     ∃ b arr, A = some ⟨b, 0, none⟩ ∧ S b ∧ w.heap[b]? = some (.cells arr E (0, 0)) ∧ arr.size = cap * GoT.sz α ∧
      ∃ T : Nat → Nat → Prop, (∀ i x, xs[i]? = some x → ∃ cs, GoT.own (T i) w cs x ∧ ∀ j u, cs[j]? = some u → arr[i * GoT.sz α + j]? = some u) ∧
        (∀ i k, T i k → S k ∧ k ≠ b) ∧ (∀ i j k, T i k → T j k → i = j))
theorem zJW {w : World} {b : Nat} {arr : Array Value} {E : TypeId} {fr : Nat × Nat} (h : w.heap[b]? = some (.cells arr E fr)) (i : Nat) : w.cell? ⟨b, i, none⟩ = arr[i]? := by
  simp [World.cell?, h]
theorem zL0 {w w' : World} {b : Nat} (h : w'.heap[b]? = w.heap[b]?) (i : Nat) : w'.cell? ⟨b, i, none⟩ = w.cell? ⟨b, i, none⟩ := by
  simp [World.cell?, h]
theorem ownL.rdL {E : TypeId} {S : Nat → Prop} {w : World} {v : Value} {xs : List α} (h : ownL E S w v xs) : rdL S w v xs := by
  obtain ⟨A, cap, rfl, h1, h2, h3⟩ := h
  refine ⟨A, cap, rfl, h1, h2, fun hn => ?_⟩
  rcases h3 with ⟨rfl, rfl⟩ | ⟨b, arr, rfl, hb, hh, hs, T, hT, hT1, _⟩
  · omega
  · refine ⟨b, 0, rfl, hb, fun i x hx => ?_⟩
    obtain ⟨cs, ho, hc⟩ := hT i x hx
    exact ⟨cs, GoT.rd_mono (fun k hk => (hT1 i k hk).1) (GoT.own_rd ho), fun j u hj => by rw [Nat.zero_add, zJW hh]; exact hc j u hj⟩
theorem rdL.fr {S : Nat → Prop} {w w' : World} {v : Value} {xs : List α} (hf : ∀ k, S k → w'.heap[k]? = w.heap[k]?) (h : rdL S w v xs) : rdL S w' v xs := by
  obtain ⟨A, cap, rfl, h1, h2, h3⟩ := h
  refine ⟨A, cap, rfl, h1, h2, fun hn => ?_⟩
  obtain ⟨b, o, rfl, hb, hr⟩ := h3 hn
  refine ⟨b, o, rfl, hb, fun i x hx => ?_⟩
  obtain ⟨cs, hc, hcell⟩ := hr i x hx
  exact ⟨cs, GoT.rd_fr hf hc, fun j u hj => (zL0 (hf b hb) _).trans (hcell j u hj)⟩
theorem rdL.mono {S S' : Nat → Prop} {w : World} {v : Value} {xs : List α} (hf : ∀ k, S k → S' k) (h : rdL S w v xs) : rdL S' w v xs := by
  obtain ⟨A, cap, rfl, h1, h2, h3⟩ := h
  refine ⟨A, cap, rfl, h1, h2, fun hn => ?_⟩
  obtain ⟨b, o, rfl, hb, hr⟩ := h3 hn
  refine ⟨b, o, rfl, hf _ hb, fun i x hx => ?_⟩
  obtain ⟨cs, hc, hcell⟩ := hr i x hx
  exact ⟨cs, GoT.rd_mono hf hc, hcell⟩
theorem ownL.fr {E : TypeId} {S : Nat → Prop} {w w' : World} {v : Value} {xs : List α} (hf : ∀ k, S k → w'.heap[k]? = w.heap[k]?) (h : ownL E S w v xs) : ownL E S w' v xs := by
  obtain ⟨A, cap, rfl, h1, h2, h3⟩ := h
  refine ⟨A, cap, rfl, h1, h2, ?_⟩
  rcases h3 with h3 | ⟨b, arr, rfl, hb, hh, hs, T, hT, hT1, hT2⟩
  · exact .inl h3
  · refine .inr ⟨b, arr, rfl, hb, (hf b hb).trans hh, hs, T, fun i x hx => ?_, hT1, hT2⟩
    obtain ⟨cs, ho, hc⟩ := hT i x hx
    exact ⟨cs, GoT.own_fr (fun k hk => hf k (hT1 i k hk).1) ho, hc⟩
theorem ownL.mono {E : TypeId} {S S' : Nat → Prop} {w : World} {v : Value} {xs : List α} (hf : ∀ k, S k → S' k) (h : ownL E S w v xs) : ownL E S' w v xs := by
  obtain ⟨A, cap, rfl, h1, h2, h3⟩ := h
  refine ⟨A, cap, rfl, h1, h2, ?_⟩
  rcases h3 with h3 | ⟨b, arr, rfl, hb, hh, hs, T, hT, hT1, hT2⟩
  · exact .inl h3
  · exact .inr ⟨b, arr, rfl, hf _ hb, hh, hs, T, hT, fun i k hk => ⟨hf _ (hT1 i k hk).1, (hT1 i k hk).2⟩, hT2⟩
end
instance listGoT (α : Type) [GoT α] : GoT (List α) where
  sz := 1
  pos := by decide
  rd S w cs xs := ∃ v, cs = [v] ∧ rdL S w v xs
  own S w cs xs := ∃ v E, cs = [v] ∧ ownL E S w v xs
  rd_len := by rintro S w cs x ⟨v, rfl, _⟩; rfl
  rd_one := by rintro S w cs x ⟨v, rfl, A, cap, rfl, _⟩ u hu; simp at hu; subst hu; rfl
  own_rd := by rintro S w cs x ⟨v, E, rfl, h⟩; exact ⟨v, rfl, h.rdL⟩
  rd_fr := by rintro S w w' cs x hf ⟨v, rfl, h⟩; exact ⟨v, rfl, h.fr hf⟩
  own_fr := by rintro S w w' cs x hf ⟨v, E, rfl, h⟩; exact ⟨v, E, rfl, h.fr hf⟩
  rd_mono := by rintro S S' w cs x hf ⟨v, rfl, h⟩; exact ⟨v, rfl, h.mono hf⟩
  own_mono := by rintro S S' w cs x hf ⟨v, E, rfl, h⟩; exact ⟨v, E, rfl, h.mono hf⟩
structure Ent where
  S : Nat → Prop
  H : World → Prop
  fr : ∀ {w w' : World}, (∀ k, S k → w'.heap[k]? = w.heap[k]?) → H w → H w'
  lt : ∀ {w : World} {k : Nat}, H w → S k → k < w.heap.size
theorem zHS {w : World} {k : Nat} {o : Obj} (h : w.heap[k]? = some o) : k < w.heap.size := by
  rcases Nat.lt_or_ge k w.heap.size with h' | h'
  · exact h'
  · rw [Array.getElem?_eq_none h'] at h; cases h
def zAg (w0 : World) (B : Nat) : Ent where
  S k := k < B
  H w := B ≤ w0.heap.size ∧ ∀ k, k < B → w.heap[k]? = w0.heap[k]?
  fr hf h := ⟨h.1, fun k hk => (hf k hk).trans (h.2 k hk)⟩
  lt {w k} h hk := by
    have h1 := h.2 k hk
    have h2 : k < w0.heap.size := Nat.lt_of_lt_of_le hk h.1
    rw [Array.getElem?_eq_getElem h2] at h1
    exact zHS h1
def Ent.blk (b : Nat) (E : TypeId) (cs : Array Value) : Ent where
  S k := k = b
  H w := w.heap[b]? = some (.cells cs E (0, 0))
  fr hf h := (hf b rfl).trans h
  lt h hk := by subst hk; exact zHS h
def Ent.own {α : Type} [GoT α] (E : TypeId) (S : Nat → Prop) (v : Value) (xs : List α) : Ent where
  S := S
  H w := ownL E S w v xs ∧ ∀ k, S k → k < w.heap.size
  fr {w w'} hf h := ⟨h.1.fr hf, fun k hk => by
    have h1 := h.2 k hk
    have h2 := hf k hk
    rw [Array.getElem?_eq_getElem h1] at h2
    exact zHS h2⟩
  lt h hk := h.2 _ hk
structure Hp (w0 : World) (Γ : List Ent) (w : World) : Prop where
  same : Same w0 w
  all : ∀ e ∈ Γ, e.H w
  pw : Γ.Pairwise fun a b => ∀ k, a.S k → b.S k → False
theorem zAJ (w : World) : Hp w [zAg w w.heap.size] w :=
  ⟨Same.refl w, by intro e he; simp at he; subst he; exact ⟨Nat.le_refl _, fun _ _ => rfl⟩, by simp⟩
theorem Hp.get {w0 w : World} {Γ : List Ent} (h : Hp w0 Γ w) (i : Nat) {e : Ent} (hi : Γ[i]? = some e) : e.H w := h.all e (List.mem_of_getElem? hi)
theorem Hp.call {w0 w w' : World} {Γ : List Ent} (h : Hp w0 Γ w) (hm : Mod zBO w w') : Hp w0 Γ w' :=
  ⟨h.same.trans hm.toSame, fun e he => e.fr (fun k hk => hm.blk k (e.lt (h.all e he) hk) (fun x => x)) (h.all e he), h.pw⟩
theorem Hp.push {w0 w w' : World} {Γ : List Ent} (h : Hp w0 Γ w) (hm : Mod zBO w w') {e : Ent} (he : e.H w') (hS : ∀ k, e.S k → w.heap.size ≤ k) : Hp w0 (e :: Γ) w' := by
  have h' := h.call hm
  refine ⟨h'.same, ?_, List.pairwise_cons.2 ⟨fun a ha k hk hk' => ?_, h.pw⟩⟩
  · intro a ha
    rcases List.mem_cons.1 ha with rfl | ha
    · exact he
    · exact h'.all a ha
  · have h1 := hS k hk
    have h2 := a.lt (h.all a ha) hk'
    omega
theorem Hp.upd {w0 w w' : World} {Γ : List Ent} (h : Hp w0 Γ w) (i : Nat) {e : Ent} (hi : Γ[i]? = some e) {T : Nat → Prop} (hm : Mod T w w') (hT : ∀ k, k < w.heap.size → T k → e.S k)
    {e' : Ent} (he : e'.H w') (hS : ∀ k, e'.S k → e.S k ∨ w.heap.size ≤ k) : Hp w0 (Γ.set i e') w' := by
  induction Γ generalizing i w0 with
  | nil => cases hi
  | cons a Γ ih =>
    have hp := List.pairwise_cons.1 h.pw
    cases i with
    | zero =>
      simp at hi
      subst hi
      refine ⟨h.same.trans hm.toSame, ?_, List.pairwise_cons.2 ⟨fun b hb k hk hk' => ?_, hp.2⟩⟩
      · intro b hb
        rcases List.mem_cons.1 hb with rfl | hb
        · exact he
        · refine b.fr (fun k hk => ?_) (h.all b (List.mem_cons_of_mem _ hb))
          have hlt := b.lt (h.all b (List.mem_cons_of_mem _ hb)) hk
          exact hm.blk k hlt (fun ht => hp.1 b hb k (hT k hlt ht) hk)
      · rcases hS k hk with h1 | h1
        · exact hp.1 b hb k h1 hk'
        · have := b.lt (h.all b (List.mem_cons_of_mem _ hb)) hk'
          omega
    | succ i =>
      simp only [List.getElem?_cons_succ] at hi
      have hmem := List.mem_of_getElem? hi
      have h0 : Hp w0 Γ w := ⟨h.same, fun b hb => h.all b (List.mem_cons_of_mem _ hb), hp.2⟩
      have h1 := ih h0 i hi
      refine ⟨h1.same, ?_, List.pairwise_cons.2 ⟨fun b hb k hk hk' => ?_, h1.pw⟩⟩
      · intro b hb
        rcases List.mem_cons.1 hb with rfl | hb
        · refine b.fr (fun k hk => ?_) (h.all b (List.mem_cons_self))
          have hlt := b.lt (h.all b (List.mem_cons_self)) hk
          exact hm.blk k hlt (fun ht => hp.1 e hmem k hk (hT k hlt ht))
        · exact h1.all b hb
      · rcases List.mem_or_eq_of_mem_set hb with hb | rfl
        · exact hp.1 b hb k hk hk'
        · rcases hS k hk' with h2 | h2
          · exact hp.1 e hmem k hk h2
          · have := a.lt (h.all a (List.mem_cons_self)) hk
            omega
theorem Hp.drop {w0 w : World} {Γ : List Ent} (h : Hp w0 Γ w) (i : Nat) : Hp w0 (Γ.eraseIdx i) w :=
  ⟨h.same, fun e he => h.all e ((List.eraseIdx_sublist Γ i).subset he), h.pw.sublist (List.eraseIdx_sublist Γ i)⟩
theorem Hp.below {w0 w : World} {Γ : List Ent} (h : Hp w0 Γ w) (i : Nat) (hi : Γ[i]? = some (zAg w0 w0.heap.size)) : Mod zBO w0 w :=
  ⟨h.same, fun k hk _ => (h.get i hi).2 k hk⟩
theorem Hp.rdAt {w0 w : World} {Γ : List Ent} (h : Hp w0 Γ w) (i : Nat) {B : Nat} {w1 : World} (hi : Γ[i]? = some (zAg w1 B)) {α : Type} [GoT α] {v : Value} {xs : List α}
    (hr : rdL (· < B) w1 v xs) : rdL (· < B) w v xs := hr.fr (h.get i hi).2
abbrev Fr := Nat → Value
def upd (F : Fr) (d : Nat) (v : Value) : Fr := fun k => bif Nat.beq k d then v else F k
def zT2 (F : Fr) : Option Nat → Value → Fr
  | some d, v => upd F d v
  | none, _ => F
def ev (F : Fr) : Operand → Value
  | .tmp t => F t
  | .const v => v
  | .global g => .pointer (some ⟨g, 0, none⟩)
  | .func f => .func (.func f) #[] #[]
def zDb (T : Array Value) : Fr := fun k => T.getD k undef
theorem zHm (T : Array Value) (ds : List Deferred) : (⟨T, ds⟩ : Act).eval = ev (zDb T) := by
  funext x; cases x <;> rfl
theorem zQD (F : Fr) (d : Nat) (v : Value) : upd F d v d = v := by simp [upd]
theorem zS4 (F : Fr) {d k : Nat} (v : Value) (h : k ≠ d) : upd F d v k = F k := by
  unfold upd
  cases hb : Nat.beq k d
  · rfl
  · exact absurd (Nat.eq_of_beq_eq_true hb) h
theorem zFs (T : Array Value) (d : Nat) (v : Value) (h : d < T.size) : zDb (T.setIfInBounds d v) = upd (zDb T) d v := by
  funext k
  by_cases hk : k = d
  · subst hk; rw [zQD]; simp [zDb, h]
  · rw [zS4 _ _ hk]; simp [zDb, Array.getElem?_setIfInBounds_ne (Ne.symm hk)]
def QQ (R : Fr → World → Prop) (X : Nat → Fr → World → Prop) (K : Fr → World → Prop) : Exit → Fr → World → Prop
  | .normal => K
  | .ret => R
  | .exit id => X id
  | _ => fun _ _ => False
def QA (N : Nat) (Q : Exit → Fr → World → Prop) : Exit → Act → World → Prop := fun e a w => a.defers = [] ∧ a.tmps.size = N ∧ Q e (zDb a.tmps) w
def CW (P : Program) (N : Nat) (c : Code) (R : Fr → World → Prop) (X : Nat → Fr → World → Prop) (K : Fr → World → Prop) (F : Fr) (w : World) : Prop :=
  ∀ T : Array Value, T.size = N → zDb T = F → c.wp P (QA N (QQ R X K)) ⟨T, []⟩ w
def OW (P : Program) (N : Nat) (ops : Array Oper) (rest : List Oper) (K : Fr → World → Prop) (F : Fr) (w : World) : Prop :=
  ∀ (T : Array Value) (Q : Exit → Act → World → Prop), T.size = N → zDb T = F → (∀ a w, a.defers = [] → a.tmps.size = N → K (zDb a.tmps) w → Q .normal a w) → wpList P ops Q rest ⟨T, []⟩ w
section
variable {P : Program} {N : Nat} {R K : Fr → World → Prop} {X : Nat → Fr → World → Prop} {F : Fr} {w : World}
theorem CW.mono {c : Code} {K' R' : Fr → World → Prop} {X' : Nat → Fr → World → Prop} (h : CW P N c R X K F w) (hR : ∀ F w, R F w → R' F w) (hX : ∀ i F w, X i F w → X' i F w) (hK : ∀ F w, K F w → K' F w) : CW P N c R' X' K' F w := by
  intro T hT hF
  refine wp_mono (h T hT hF) ?_
  rintro e a w ⟨h1, h2, h3⟩
  refine ⟨h1, h2, ?_⟩
  cases e <;> first | exact hK _ _ h3 | exact hR _ _ h3 | exact hX _ _ _ h3 | exact h3
theorem zAF {a b : Code} (h : CW P N a R X (fun F w => CW P N b R X K F w) F w) : CW P N (.seq a b) R X K F w := by
  intro T hT hF
  refine wp_seq (wp_mono (h T hT hF) ?_)
  rintro e a w ⟨h1, h2, h3⟩
  obtain ⟨tm, df⟩ := a
  simp only at h1 h2
  subst h1
  cases e <;> first | exact h3 tm h2 rfl | exact ⟨rfl, h2, h3⟩
theorem zMP {c : Operand} {a b : Code} {t : Bool} (hc : ev F c = .bool t) (ha : t = true → CW P N a R X K F w) (hb : t = false → CW P N b R X K F w) : CW P N (.cond c a b) R X K F w := by
  intro T hT hF
  refine wp_cond_split (t := t) (by rw [zHm, hF]; exact hc) (fun h => ha h T hT hF) (fun h => hb h T hT hF)
theorem zNL {c : Operand} {a b : Code} (hc : ev F c = .bool true) (h : CW P N a R X K F w) : CW P N (.cond c a b) R X K F w :=
  zMP hc (fun _ => h) (fun h => by cases h)
theorem zNn {c : Operand} {a b : Code} (hc : ev F c = .bool false) (h : CW P N b R X K F w) : CW P N (.cond c a b) R X K F w :=
  zMP hc (fun h => by cases h) (fun _ => h)
def XX (id : Nat) (K : Fr → World → Prop) (X : Nat → Fr → World → Prop) : Nat → Fr → World → Prop := fun k => bif Nat.beq k id then K else X k
theorem CW.block {id : Nat} {c : Code} (h : CW P N c R (XX id K X) K F w) : CW P N (.block id c) R X K F w := by
  intro T hT hF
  refine wp_block (wp_mono (h T hT hF) ?_)
  rintro e a w ⟨h1, h2, h3⟩
  cases e with
  | exit i =>
    simp only [Exit.inBlock]
    split
    · rename_i he; subst he; refine ⟨h1, h2, ?_⟩; simpa [QQ, XX] using h3
    · rename_i he
      refine ⟨h1, h2, ?_⟩
      have hb : Nat.beq i id = false := by
        cases hb : Nat.beq i id
        · rfl
        · exact absurd (Nat.eq_of_beq_eq_true hb) he
      simpa [QQ, XX, hb] using h3
  | _ => exact ⟨h1, h2, h3⟩
theorem zAt (h : K F w) : CW P N .skip R X K F w := by
  intro T hT hF; exact wp_skip ⟨rfl, hT, by show K _ _; rw [hF]; exact h⟩
theorem zA0 {id : Nat} (h : X id F w) : CW P N (.exit id) R X K F w := by
  intro T hT hF; exact wp_exit ⟨rfl, hT, by show X id _ _; rw [hF]; exact h⟩
theorem zAx (h : R F w) : CW P N .ret R X K F w := by
  intro T hT hF; exact wp_ret ⟨rfl, hT, by show R _ _; rw [hF]; exact h⟩
theorem zTV {c : Code} (I : Fr → World → Prop) (μ : Fr → World → Nat) (h0 : I F w)
    (round : ∀ F w, I F w → CW P N c R X (fun F' w' => I F' w' ∧ μ F' w' < μ F w) F w) : CW P N (.loop c) R X K F w := by
  intro T hT hF
  subst hF
  refine wp_loop (fun a w => a.defers = [] ∧ a.tmps.size = N ∧ I (zDb a.tmps) w) (fun a w => μ (zDb a.tmps) w) ⟨rfl, hT, h0⟩ ?_
  rintro ⟨tm, df⟩ w ⟨h1, h2, h3⟩
  simp only at h1 h2 h3
  subst h1
  refine wp_mono (round _ _ h3 tm h2 rfl) ?_
  rintro e ⟨tm', df'⟩ w' ⟨g1, g2, g3⟩
  cases e <;> first | exact ⟨⟨g1, g2, g3.1⟩, g3.2⟩ | exact ⟨g1, g2, g3⟩
theorem zP4 {id : Nat} {ops : Array Oper} (h : OW P N ops ops.toList K F w) : CW P N (.region id ops false) R X K F w := by
  intro T hT hF
  exact wp_region_list (h T _ hT hF fun a w h1 h2 h3 => ⟨h1, h2, h3⟩)
end
def XV (P : Program) (F : Fr) (op : Op) (ty : TypeId) (w : World) (v : Value) (w' : World) : Prop :=
  ∀ d pos aft g, (execOp (ev F) ⟨d, op, ty, pos, aft, g⟩).run P w = .ok (.value v) w'
def XU (P : Program) (F : Fr) (op : Op) (ty : TypeId) (w w' : World) : Prop :=
  ∀ d pos aft g, (execOp (ev F) ⟨d, op, ty, pos, aft, g⟩).run P w = .ok .skip w'
def XC (P : Program) (F : Fr) (op : Op) (ty : TypeId) (w : World) (f : FuncId) (args : Array Value) : Prop :=
  ∀ d pos aft g, (execOp (ev F) ⟨d, op, ty, pos, aft, g⟩).run P w = .ok (.enter f args) w
section
variable {P : Program} {N : Nat} {ops : Array Oper} {rest : List Oper} {K : Fr → World → Prop} {F : Fr} {w w' : World} {d : Nat} {op : Op} {ty : TypeId} {pos : String} {aft : Array Edge}
theorem zCL (T : Array Value) (d : Option Nat) : Region.wanted ⟨d, op, ty, pos, aft, none⟩ (yielded ops T) = true := by simp [Region.wanted]
theorem OW.nil (h : K F w) : OW P N ops [] K F w := by
  intro T Q hT hF hQ
  exact wpList_nil (hQ _ _ rfl hT (by rw [hF]; exact h))
theorem zT3 {v : Value} (hd : Nat.blt d N = true) (hx : XV P F op ty w v w') (h : OW P N ops rest K (upd F d v) w') :
    OW P N ops (⟨some d, op, ty, pos, aft, none⟩ :: rest) K F w := by
  intro T Q hT hF hQ
  unfold wpList
  rw [if_pos (zCL T _)]
  refine .inl ?_
  unfold Oper.wp
  rw [zHm, hF, hx (some d) pos aft none, Oper.upon_value]
  have hd' : d < T.size := by rw [hT]; simpa using hd
  exact h (T.setIfInBounds d v) Q (by simp [hT]) (by rw [zFs _ _ _ hd', hF]) hQ
theorem zTW (hx : XU P F op ty w w') (h : OW P N ops rest K F w') :
    OW P N ops (⟨none, op, ty, pos, aft, none⟩ :: rest) K F w := by
  intro T Q hT hF hQ
  unfold wpList
  rw [if_pos (zCL T _)]
  refine .inl ?_
  unfold Oper.wp
  rw [zHm, hF, hx none pos aft none, Oper.upon_skip]
  exact h T Q hT hF hQ
theorem OW.call {f : FuncId} {args : Array Value} {C : Ending → World → Prop} (hd : Nat.blt d N = true) (hx : XC P F op ty w f args) (hc : Calls P f args w C)
    (h : ∀ e w', C e w' → ∃ v, e = .returned v ∧ OW P N ops rest K (upd F d v) w') :
    OW P N ops (⟨some d, op, ty, pos, aft, none⟩ :: rest) K F w := by
  intro T Q hT hF hQ
  unfold wpList
  rw [if_pos (zCL T _)]
  refine .inl ?_
  unfold Oper.wp
  rw [zHm, hF, hx (some d) pos aft none, Oper.upon_enter]
  refine hc.mono ?_
  intro e w' he
  obtain ⟨v, rfl, hk⟩ := h e w' he
  have hd' : d < T.size := by rw [hT]; simpa using hd
  exact hk (T.setIfInBounds d v) Q (by simp [hT]) (by rw [zFs _ _ _ hd', hF]) hQ
theorem zIp {T : Array Value} {j dj : Nat} {b : Bool} (hj : (ops[j]?).bind (·.dst) = some dj) (hF : zDb T dj = .bool b) : yielded ops T j = some b := by
  have h1 : T[dj]? = some (.bool b) := by
    unfold zDb at hF
    rw [Array.getD_eq_getD_getElem?] at hF
    cases h : T[dj]? with
    | none => rw [h] at hF; simp [undef] at hF
    | some x => rw [h] at hF; simp at hF; rw [hF]
  simp [yielded, hj, h1]
theorem zT4 {dst : Option Nat} {j dj : Nat} {b : Bool} (hj : (ops[j]?).bind (·.dst) = some dj) (hF : F dj = .bool b)
    (h : OW P N ops (⟨dst, op, ty, pos, aft, none⟩ :: rest) K F w) : OW P N ops (⟨dst, op, ty, pos, aft, some (j, b)⟩ :: rest) K F w := by
  intro T Q hT hFr hQ
  have h1 := h T Q hT hFr hQ
  have hw : Region.wanted ⟨dst, op, ty, pos, aft, some (j, b)⟩ (yielded ops T) = true := by
    simp only [Region.wanted]
    rw [zIp hj (by rw [hFr]; exact hF)]
    simp
  unfold wpList at h1 ⊢
  rw [if_pos hw]
  rw [if_pos (zCL T _)] at h1
  exact h1
theorem zT8 {dst : Option Nat} {j dj : Nat} {b c : Bool} (hj : (ops[j]?).bind (·.dst) = some dj) (hF : F dj = .bool c) (hbc : c ≠ b) (hd : ∀ d, dst = some d → d < N)
    (h : OW P N ops rest K (zT2 F dst undef) w) : OW P N ops (⟨dst, op, ty, pos, aft, some (j, b)⟩ :: rest) K F w := by
  intro T Q hT hFr hQ
  have hw : ¬ Region.wanted ⟨dst, op, ty, pos, aft, some (j, b)⟩ (yielded ops T) = true := by
    simp only [Region.wanted]
    rw [zIp hj (by rw [hFr]; exact hF)]
    simpa using hbc
  unfold wpList
  rw [if_neg hw]
  cases dst with
  | none => exact h T Q hT hFr hQ
  | some d =>
    have hd' : d < T.size := by rw [hT]; exact hd d rfl
    exact h (T.setIfInBounds d undef) Q (by simp [hT]) (by rw [zFs _ _ _ hd', hFr]; rfl) hQ
end
abbrev w64 (n : Int) : Int := IntKind.i64.wrap n
section
variable {P : Program} {F : Fr} {w w' : World} {ty : TypeId} {x y z : Operand} {t u : TypeId}
theorem zAe : XV P F (.move x) ty w (ev F x) w := fun _ _ _ _ => rfl
theorem zAb : XV P F (.assign x) ty w (ev F x) w := fun _ _ _ _ => rfl
theorem zQE {b : Bool} (hx : ev F x = .bool b) : XV P F (.pick x y z) ty w (bif b then ev F y else ev F z) w := by
  intro d pos aft g
  cases b <;> simp [execOp, hx, asBool]
theorem zOe (op : BinOp) {k j : IntKind} {a b : Int} : (eqGuard op t x y (.int k a) (.int j b)).run P w = .ok () w := by
  unfold eqGuard
  split <;> rfl
theorem zKO {op : BinOp} {k : IntKind} {a b : Int} {v : Value} (hx : ev F x = .int k a) (hy : ev F y = .int k b) (hr : (binOp op t (.int k a) (.int k b)).run P w = .ok v w) :
    XV P F (.binOp op t x y u) ty w v w := by
  intro d pos aft g
  simp only [execOp, hx, hy, Sem.run_bind, zOe, Result.andThen_ok, hr, Sem.run_pure]
theorem zBe {k : IntKind} {a b : Int} (hx : ev F x = .int k a) (hy : ev F y = .int k b) : XV P F (.binOp .add t x y u) ty w (.int k (k.wrap (a + b))) w := zKO hx hy (by simp [binOp, Op.intArith])
theorem zCn {k : IntKind} {a b : Int} (hx : ev F x = .int k a) (hy : ev F y = .int k b) : XV P F (.binOp .sub t x y u) ty w (.int k (k.wrap (a - b))) w := zKO hx hy (by simp [binOp, Op.intArith])
theorem zHP {k : IntKind} {a b : Int} (hx : ev F x = .int k a) (hy : ev F y = .int k b) : XV P F (.binOp .mul t x y u) ty w (.int k (k.wrap (a * b))) w := zKO hx hy (by simp [binOp, Op.intArith])
theorem zL1 {k : IntKind} {a b : Int} (hx : ev F x = .int k a) (hy : ev F y = .int k b) (hb : b ≠ 0) : XV P F (.binOp .quo t x y u) ty w (.int k (k.wrap (a.tdiv b))) w := zKO hx hy (by simp [binOp, Op.intDiv, hb])
theorem zNv {k : IntKind} {a b : Int} (hx : ev F x = .int k a) (hy : ev F y = .int k b) (hb : b ≠ 0) : XV P F (.binOp .rem t x y u) ty w (.int k (a.tmod b)) w := zKO hx hy (by simp [binOp, Op.intDiv, hb])
theorem zBv {k : IntKind} {a b : Int} (hx : ev F x = .int k a) (hy : ev F y = .int k b) : XV P F (.binOp .eql t x y u) ty w (.bool (a == b)) w := zKO hx hy (by simp [binOp, Op.intCmp])
theorem zDk {k : IntKind} {a b : Int} (hx : ev F x = .int k a) (hy : ev F y = .int k b) : XV P F (.binOp .neq t x y u) ty w (.bool (a != b)) w := zKO hx hy (by simp [binOp, Op.intCmp])
theorem zBE {k : IntKind} {a b : Int} (hx : ev F x = .int k a) (hy : ev F y = .int k b) : XV P F (.binOp .lss t x y u) ty w (.bool (decide (a < b))) w := zKO hx hy (by simp [binOp, Op.intCmp])
theorem zKe {k : IntKind} {a b : Int} (hx : ev F x = .int k a) (hy : ev F y = .int k b) : XV P F (.binOp .leq t x y u) ty w (.bool (decide (a ≤ b))) w := zKO hx hy (by simp [binOp, Op.intCmp])
theorem zIq {k : IntKind} {a b : Int} (hx : ev F x = .int k a) (hy : ev F y = .int k b) : XV P F (.binOp .gtr t x y u) ty w (.bool (decide (b < a))) w := zKO hx hy (by simp [binOp, Op.intCmp])
theorem zKf {k : IntKind} {a b : Int} (hx : ev F x = .int k a) (hy : ev F y = .int k b) : XV P F (.binOp .geq t x y u) ty w (.bool (decide (b ≤ a))) w := zKO hx hy (by simp [binOp, Op.intCmp])
theorem zCb {b : Bool} (hx : ev F x = .bool b) : XV P F (.unOp .not t x) ty w (.bool (!b)) w := by
  intro d pos aft g; simp [execOp, hx, Op.unary]
theorem zLB {k j : IntKind} {a : Int} (hs : P.underlying t = some (.int k)) (hd : P.underlying u = some (.int j)) (hx : ev F x = .int k a) : XV P F (.convert t u x) ty w (.int j (j.wrap a)) w := by
  intro d pos aft g; simp [execOp, hx, convert, run_underlying hs, run_underlying hd, Conv.intToInt]
theorem zST {e : TypeId} {A : Option Addr} {n c : Nat} (ht : P.underlying t = some (.slice e)) (hx : ev F x = .slice A n c) :
    XV P F (.call { callee := .builtin .len, args := #[x], argTypes := #[t] }) ty w (.int .i64 n) w := by
  intro d pos aft g; simp [execOp, resolve, invoke, builtin, hx, Builtin.len_, run_underlying ht, goInt]
theorem zKP {k : IntKind} {a b : Int} {ts : Array TypeId} (hx : ev F x = .int k a) (hy : ev F y = .int k b) :
    XV P F (.call { callee := .builtin .min, args := #[x, y], argTypes := ts }) ty w (.int k (min a b)) w := by
  intro d pos aft g; simp [execOp, resolve, invoke, builtin, hx, hy, Builtin.min_, Builtin.min2]; try omega
theorem zKQ {k : IntKind} {a b : Int} {ts : Array TypeId} (hx : ev F x = .int k a) (hy : ev F y = .int k b) :
    XV P F (.call { callee := .builtin .max, args := #[x, y], argTypes := ts }) ty w (.int k (max a b)) w := by
  intro d pos aft g; simp [execOp, resolve, invoke, builtin, hx, hy, Builtin.max_, Builtin.max2]; try omega
theorem zA7 {vs : Array Value} {i : Nat} {v : Value} (hx : ev F x = .tuple vs) (hv : vs[i]? = some v) : XV P F (.extract x i) ty w v w := by
  intro d pos aft g; simp [execOp, hx, Instr.extract, hv]
theorem zSc {f : FuncId} {fn : Func} {c : Code} {as : Array Operand} {ts : Array TypeId} {args : Array Value} (hf : P.funcs[f]? = some fn) (hb : fn.body = some c) (hn : (fn.name == "runtime.NumGoroutine") = false)
    (ha : as.map (ev F) = args) : XC P F (.call { callee := .value (.func f), args := as, argTypes := ts }) ty w f args := by
  intro d pos aft g
  have hn2 : fn.name ≠ "runtime.NumGoroutine" := by simpa using hn
  simp [execOp, resolve, ev, Deferred.ofValue, invoke, callFunc, hf, hb, hn2, ha]
theorem zCM {a : Addr} (hx : ev F x = .pointer (some a)) : XV P F (.nilCheck x) ty w (.pointer (some a)) w := by
  intro d pos aft g; simp [execOp, hx]
end
def TyI (P : Program) (e : TypeId) (sz bytes : Nat) (z : Value) : Prop := (P.info? e).map (fun i => (i.zero, i.size, i.bytes)) = some (some z, sz, bytes)
theorem TyI.open {P : Program} {e : TypeId} {sz bytes : Nat} {z : Value} (h : TyI P e sz bytes z) : ∃ i, P.info? e = some i ∧ i.zero = some z ∧ i.size = sz ∧ i.bytes = bytes := by
  unfold TyI at h
  cases hi : P.info? e with
  | none => rw [hi] at h; cases h
  | some i =>
    rw [hi] at h
    simp only [Option.map_some, Option.some.injEq, Prod.mk.injEq] at h
    exact ⟨i, rfl, h.1, h.2.1, h.2.2⟩
def zCc : TypeDesc → Bool
  | .struct _ | .array _ _ => false
  | _ => true
theorem zLC {P : Program} {t : TypeId} {d : TypeDesc} (h : P.underlying t = some d) (hd : zCc d = true) (w : World) : (isAgg t).run P w = .ok false w := by
  unfold isAgg
  rw [Sem.run_bind, run_underlying h]
  cases d <;> first | rfl | cases hd
theorem zL2 {P : Program} {t : TypeId} {fs : Array Field} (h : P.underlying t = some (.struct fs)) (w : World) : (isAgg t).run P w = .ok true w := by
  unfold isAgg
  rw [Sem.run_bind, run_underlying h]
  rfl
theorem zFY {P : Program} {e : TypeId} {sz bytes : Nat} {z : Value} (h : TyI P e sz bytes z) (w : World) : (sizeOf e).run P w = .ok sz w := by
  obtain ⟨i, hi, _, hs, _⟩ := h.open
  simp [sizeOf, typeInfo, hi, hs]
section
variable {P : Program} {F : Fr} {w w' : World} {ty : TypeId} {x y z : Operand} {t u e : TypeId} {sz by_ : Nat} {zv : Value}
theorem zAd {a : Addr} {v : Value} {d : TypeDesc} (ht : P.underlying t = some d) (hd : zCc d = true) (hx : ev F x = .pointer (some a)) (hc : w.cell? a = some v) : XV P F (.load t x) ty w v w := by
  intro dd pos aft g
  simp [execOp, hx, Instr.loadAt, Instr.sureAddr, loadVar, zLC ht hd, load, Sem.run, hc]
theorem zMY (b o n : Nat) : (⟨b, o, none⟩ : Addr).add n = ⟨b, o + n, none⟩ := by
  unfold Addr.add
  split
  · rename_i h; subst h; rfl
  · rfl
theorem zAW {b o : Nat} {cs : List Value} {fs : Array Field} (ht : P.underlying t = some (.struct fs)) (hi : TyI P t sz by_ zv) (hl : cs.length = sz) (hx : ev F x = .pointer (some ⟨b, o, none⟩))
    (hc : ∀ j u, cs[j]? = some u → w.cell? ⟨b, o + j, none⟩ = some u) : XV P F (.load t x) ty w (.agg cs.toArray) w := by
  intro dd pos aft g
  subst hl
  have h1 := run_loadCells_list (P := P) w ⟨b, o, none⟩ cs (fun j v hj => by rw [zMY]; exact hc j v hj)
  simp [execOp, hx, Instr.loadAt, Instr.sureAddr, loadVar, zL2 ht, zFY hi, h1]
theorem zAc {b i fsz ft : Nat} {fs : Array Field} (o off o' : Nat) (ht : P.underlying t = some (.struct fs)) (hf : (fs[i]?).map (fun f => (f.type, f.offset)) = some (ft, off)) (hi : TyI P ft fsz by_ zv) (hz0 : Nat.beq fsz 0 = false)
    (hx : ev F x = .pointer (some ⟨b, o, none⟩)) (ho : o + off = o') : XV P F (.fieldAddr t x i) ty w (.pointer (some ⟨b, o', none⟩)) w := by
  have hz : fsz ≠ 0 := fun e => by subst e; cases hz0
  subst ho
  cases hff : fs[i]? with
  | none => rw [hff] at hf; cases hf
  | some f =>
    rw [hff] at hf
    simp only [Option.map_some, Option.some.injEq, Prod.mk.injEq] at hf
    obtain ⟨rfl, rfl⟩ := hf
    intro dd pos aft g
    simp [execOp, hx, Instr.fieldAt, Instr.sureAddr, run_underlying ht, hff, fieldPlace, zFY hi, hz, zMY]
theorem zOf {b o : Nat} {v : Value} {arr : Array Value} {E : TypeId} (hi : TyI P t 1 by_ zv) (hx : ev F x = .pointer (some ⟨b, o, none⟩)) (hv : v.oneCell' = true) (hy : ev F y = v)
    (hb : w.heap[b]? = some (.cells arr E (0, 0))) (ho : o < arr.size) : XU P F (.store t x y) ty w (w.setCell ⟨b, o, none⟩ v) := by
  intro dd pos aft g
  have h1 : v.cells = #[v] := by cases v <;> first | rfl | cases hv
  have hc : w.cell? ⟨b, o, none⟩ = some arr[o] := by rw [zJW hb]; exact Array.getElem?_eq_getElem ho
  have hfz : w.frozen? ⟨b, o, none⟩ = false := by simp [World.frozen?, hb]
  have hst : (store ⟨b, o, none⟩ v).run P w = .ok () (w.setCell ⟨b, o, none⟩ v) := by
    unfold store
    cases v <;> simp_all [Sem.run, Value.oneCell']
  simp [execOp, hx, hy, Instr.storeAt, Instr.sureAddr, storeVar, h1, zFY hi, storeCells, zMY, hst]
theorem zPA {b o : Nat} {v : Value} {arr : Array Value} {E : TypeId} {fr : Nat × Nat} (hb : w.heap[b]? = some (.cells arr E fr)) : (w.setCell ⟨b, o, none⟩ v).heap[b]? = some (.cells (arr.setIfInBounds o v) E fr) := by
  simp [World.setCell, Array.getElem?_modify, hb]
theorem zOg {b o : Nat} {cs : List Value} {arr : Array Value} {E : TypeId} (hi : TyI P t sz by_ zv) (hl : cs.length = sz) (h1 : ∀ u ∈ cs, u.oneCell' = true)
    (hx : ev F x = .pointer (some ⟨b, o, none⟩)) (hy : ev F y = .agg cs.toArray)
    (hb : w.heap[b]? = some (.cells arr E (0, 0))) (ho : o + sz ≤ arr.size) :
    XU P F (.store t x y) ty w (w.setRow b (arr.toList.take o ++ cs ++ arr.toList.drop (o + cs.length)).toArray) := by
  intro dd pos aft g
  subst hl
  have h := run_storeCells_at P b o E cs 0 arr w hb (by simpa using ho) h1
  simp only [Nat.add_zero] at h
  simp [execOp, hx, hy, Instr.storeAt, Instr.sureAddr, storeVar, Value.cells, zFY hi, h]
theorem zSd (hi : TyI P e sz by_ zv) : XV P F (.alloc e) ty w (.pointer (some ⟨w.heap.size, 0, none⟩)) (w.alloc (.cells zv.cells e)) := by
  intro dd pos aft g
  obtain ⟨i, h1, h2, _, _⟩ := hi.open
  simp [execOp, Instr.alloc, zeroValue, typeInfo, h1, h2, newVar, newRow, newObj, Sem.run, World.alloc_eq]
theorem zTr {v : Value} (hx : ev F x = v) : XV P F (.box e x) ty w (.pointer (some ⟨w.heap.size, 0, none⟩)) (w.alloc (.cells v.cells e)) := by
  intro dd pos aft g
  simp [execOp, hx, Instr.box, newVar, newRow, newObj, Sem.run, World.alloc_eq]
theorem zMQ {cs : Array Value} : (w.alloc (.cells cs e)).heap[w.heap.size]? = some (.cells cs e (0, 0)) := heap_alloc_new w _
section
variable {α : Type} [GoT α]
end
end
theorem zS5 {i i' j j' n : Nat} (hj : j < n) (hj' : j' < n) (h : i' ≠ i) : i' * n + j' ≠ i * n + j := by
  intro he
  rcases Nat.lt_or_gt_of_ne h with h | h
  · have : (i' + 1) * n ≤ i * n := Nat.mul_le_mul_right n h
    rw [Nat.add_mul] at this; omega
  · have : (i + 1) * n ≤ i' * n := Nat.mul_le_mul_right n h
    rw [Nat.add_mul] at this; omega
section
variable {α : Type} [Flat α] {E : TypeId} {S : Nat → Prop} {w : World} {v : Value} {xs : List α}
def Cells (arr : Array Value) (xs : List α) : Prop := ∀ i x, xs[i]? = some x → ∀ j u, (Flat.enc x)[j]? = some u → arr[i * Flat.sz α + j]? = some u
theorem zMp {A : Option Addr} {cap b : Nat} {arr : Array Value} (h1 : xs.length ≤ cap) (h2 : cap ≤ maxLen) (hb : S b) (hh : w.heap[b]? = some (.cells arr E (0, 0))) (hs : arr.size = cap * Flat.sz α) (hc : Cells arr xs)
    (hA : A = some ⟨b, 0, none⟩) : ownL E S w (.slice A xs.length cap) xs := by
  subst hA
  exact ⟨_, cap, rfl, h1, h2, .inr ⟨b, arr, rfl, hb, hh, hs, fun _ _ => False, fun i x hx => ⟨Flat.enc x, rfl, hc i x hx⟩, fun _ _ h => h.elim, fun _ _ _ h => h.elim⟩⟩
theorem zKR (h : ownL E S w v xs) : (v = .slice none 0 0 ∧ xs = []) ∨ ∃ b arr cap, v = .slice (some ⟨b, 0, none⟩) xs.length cap ∧ xs.length ≤ cap ∧ cap ≤ maxLen ∧ S b ∧ w.heap[b]? = some (.cells arr E (0, 0)) ∧ arr.size = cap * Flat.sz α ∧ Cells arr xs := by
  obtain ⟨A, cap, rfl, h1, h2, h3⟩ := h
  rcases h3 with ⟨rfl, rfl⟩ | ⟨b, arr, rfl, hb, hh, hs, T, hT, _, _⟩
  · left
    have hx : xs = [] := List.eq_nil_of_length_eq_zero (by omega)
    subst hx
    exact ⟨rfl, rfl⟩
  · refine .inr ⟨b, arr, cap, rfl, h1, h2, hb, hh, hs, fun i x hx j u hj => ?_⟩
    obtain ⟨cs, ho, hc⟩ := hT i x hx
    have ho' : cs = Flat.enc x := ho
    subst ho'
    exact hc j u hj
theorem Cells.set {arr : Array Value} (h : Cells arr xs) {i j : Nat} {a a' : α} {u : Value} (ha : xs[i]? = some a) (hsz : i * Flat.sz α + Flat.sz α ≤ arr.size) (hj : j < Flat.sz α) (he : Flat.enc a' = (Flat.enc a).set j u) :
    Cells (arr.setIfInBounds (i * Flat.sz α + j) u) (xs.set i a') := by
  intro i' x hx j' u' hj'
  have hjl : j' < Flat.sz α := by rw [← Flat.len x]; exact (List.getElem?_eq_some_iff.1 hj').1
  rw [List.getElem?_set] at hx
  by_cases hi : i = i'
  · subst hi
    have hlt : i < xs.length := (List.getElem?_eq_some_iff.1 ha).1
    simp [hlt] at hx
    subst hx
    rw [he, List.getElem?_set] at hj'
    by_cases hjj : j = j'
    · subst hjj
      simp [Flat.len, hjl] at hj'
      subst hj'
      rw [Array.getElem?_setIfInBounds_self_of_lt (by omega)]
    · simp [hjj] at hj'
      rw [Array.getElem?_setIfInBounds_ne (by omega)]
      exact h i a ha j' u' hj'
  · simp [hi] at hx
    rw [Array.getElem?_setIfInBounds_ne (Ne.symm (zS5 hj hjl (Ne.symm hi)))]
    exact h i' x hx j' u' hj'
theorem zP5 {b i j : Nat} {arr : Array Value} {a a' : α} {u : Value} (h : ownL E S w v xs) (hv : ∃ A cap, v = .slice A xs.length cap ∧ A = some ⟨b, 0, none⟩) (hh : w.heap[b]? = some (.cells arr E (0, 0))) (ha : xs[i]? = some a)
    (hj : j < Flat.sz α) (he : Flat.enc a' = (Flat.enc a).set j u) : ownL E S (w.setCell ⟨b, i * Flat.sz α + j, none⟩ u) v (xs.set i a') := by
  rcases zKR h with ⟨rfl, rfl⟩ | ⟨b', arr', cap, rfl, h1, h2, hb, hh', hs, hc⟩
  · cases ha
  · obtain ⟨A, cap', e1, e2⟩ := hv
    injection e1 with e3 e4 e5
    rw [e2] at e3
    injection e3 with e3
    injection e3 with e3
    subst e3
    rw [hh'] at hh
    injection hh with hh
    injection hh with hh
    subst hh
    have hlt : i < xs.length := (List.getElem?_eq_some_iff.1 ha).1
    have hsz : i * Flat.sz α + Flat.sz α ≤ arr'.size := by
      rw [hs]
      calc i * Flat.sz α + Flat.sz α = (i + 1) * Flat.sz α := by rw [Nat.add_mul, Nat.one_mul]
        _ ≤ cap * Flat.sz α := Nat.mul_le_mul_right _ (by omega)
    have h3 : xs.length = (xs.set i a').length := by simp
    rw [h3]
    exact zMp (by simpa using h1) h2 hb (zPA hh') (by simpa using hs) (hc.set ha hsz hj he) rfl
theorem Cells.setN {arr : Array Value} (h : Cells arr xs) {i : Nat} {a a' : α} (ha : xs[i]? = some a) (hsz : i * Flat.sz α + Flat.sz α ≤ arr.size) :
    Cells (arr.toList.take (i * Flat.sz α) ++ Flat.enc a' ++ arr.toList.drop (i * Flat.sz α + (Flat.enc a').length)).toArray (xs.set i a') := by
  intro i' x hx j' u' hj'
  have hjl : j' < Flat.sz α := by rw [← Flat.len x]; exact (List.getElem?_eq_some_iff.1 hj').1
  have hl : (Flat.enc a').length = Flat.sz α := Flat.len a'
  have ht : (arr.toList.take (i * Flat.sz α)).length = i * Flat.sz α := by simp; omega
  rw [List.getElem?_toArray]
  rw [List.getElem?_set] at hx
  by_cases hi : i = i'
  · subst hi
    have hlt : i < xs.length := (List.getElem?_eq_some_iff.1 ha).1
    simp [hlt] at hx
    subst hx
    rw [List.append_assoc, List.getElem?_append_right (by omega), ht, Nat.add_sub_cancel_left, List.getElem?_append_left (by omega)]
    exact hj'
  · simp [hi] at hx
    have h0 := h i' x hx j' u' hj'
    rcases Nat.lt_or_gt_of_ne hi with hi | hi
    · have : (i + 1) * Flat.sz α ≤ i' * Flat.sz α := Nat.mul_le_mul_right _ hi
      rw [Nat.add_mul, Nat.one_mul] at this
      rw [List.getElem?_append_right (by rw [List.length_append, ht, hl]; omega), List.length_append, ht, hl, List.getElem?_drop]
      rw [show i * Flat.sz α + Flat.sz α + (i' * Flat.sz α + j' - (i * Flat.sz α + Flat.sz α)) = i' * Flat.sz α + j' from by omega]
      rw [Array.getElem?_toList]; exact h0
    · have : (i' + 1) * Flat.sz α ≤ i * Flat.sz α := Nat.mul_le_mul_right _ hi
      rw [Nat.add_mul, Nat.one_mul] at this
      rw [List.append_assoc, List.getElem?_append_left (by rw [ht]; omega), List.getElem?_take]
      rw [if_pos (by omega), Array.getElem?_toList]; exact h0
theorem zO3 {b i : Nat} {arr : Array Value} {a a' : α} (h : ownL E S w v xs) (hv : ∃ A cap, v = .slice A xs.length cap ∧ A = some ⟨b, 0, none⟩) (hh : w.heap[b]? = some (.cells arr E (0, 0))) (ha : xs[i]? = some a) :
    ownL E S (w.setRow b (arr.toList.take (i * Flat.sz α) ++ Flat.enc a' ++ arr.toList.drop (i * Flat.sz α + (Flat.enc a').length)).toArray) v (xs.set i a') := by
  rcases zKR h with ⟨rfl, rfl⟩ | ⟨b', arr', cap, rfl, h1, h2, hb, hh', hs, hc⟩
  · cases ha
  · obtain ⟨A, cap', e1, e2⟩ := hv
    injection e1 with e3 e4 e5
    rw [e2] at e3
    injection e3 with e3
    injection e3 with e3
    subst e3
    rw [hh'] at hh
    injection hh with hh
    injection hh with hh
    subst hh
    have hlt : i < xs.length := (List.getElem?_eq_some_iff.1 ha).1
    have hsz : i * Flat.sz α + Flat.sz α ≤ arr'.size := by
      rw [hs]
      calc i * Flat.sz α + Flat.sz α = (i + 1) * Flat.sz α := by rw [Nat.add_mul, Nat.one_mul]
        _ ≤ cap * Flat.sz α := Nat.mul_le_mul_right _ (by omega)
    have hl : (Flat.enc a').length = Flat.sz α := Flat.len a'
    have h3 : xs.length = (xs.set i a').length := by simp
    rw [h3]
    refine zMp (by simpa using h1) h2 hb (setRow_heap w b' arr' _ E _ hh') ?_ (hc.setN ha hsz) rfl
    simp only [List.size_toArray, List.length_append, List.length_take, List.length_drop, Array.length_toList, hl]
    omega
theorem Mod.setRow {b : Nat} {cs : Array Value} : Mod (· = b) w (w.setRow b cs) :=
  ⟨⟨rfl, rfl, rfl, by simp⟩, fun k _ hk => setRow_other w b k _ hk⟩
end
section
variable {P : Program} {F : Fr} {w w' : World} {ty : TypeId} {x y z : Operand} {t u e : TypeId} {by_ : Nat} {zv : Value}
theorem zLD (zc : Array Value) (n k : Nat) (h : k < n) : (madeCells zc n)[k]? = some (zc[k % zc.size]!) := by
  simp [madeCells, h]
theorem zS6 {α : Type} [Flat α] {n : Int} {k1 k2 : IntKind} {z0 : α} (ht : P.underlying t = some (.slice e)) (hi : TyI P e (Flat.sz α) by_ zv) (hx : ev F x = .int k1 n) (hy : ev F y = .int k2 n) (hz : zv.cells = (Flat.enc z0).toArray)
    (h0 : 0 ≤ n) (hb : by_ * n.toNat ≤ 281474976710656) (hm : n.toNat ≤ 9223372036854775807) :
    ∃ w', XV P F (.makeSlice t x y) ty w (.slice (some ⟨w.heap.size, 0, none⟩) n.toNat n.toNat) w' ∧ ownL e (· = w.heap.size) w' (.slice (some ⟨w.heap.size, 0, none⟩) n.toNat n.toNat) (List.replicate n.toNat z0) ∧ Mod zBO w w' ∧ w.heap.size < w'.heap.size := by
  obtain ⟨i, h1, h2, h3, h4⟩ := hi.open
  obtain ⟨m, rfl⟩ := Int.eq_ofNat_of_zero_le h0
  rw [Int.toNat_natCast] at hb hm
  have hb' : ((by_ * m : Nat) : Int) ≤ 281474976710656 := by omega
  rw [Int.natCast_mul] at hb'
  have hr := run_make (P := P) w t e i zv ht h1 h2 k1 k2 m m h0 (Int.le_refl _) (by rw [h4]; exact hb') (by omega)
  simp only [Int.toNat_natCast] at hr ⊢
  generalize m = n at *
  rw [h3] at hr
  refine ⟨w.alloc (.cells (madeCells zv.cells (n * Flat.sz α)) e), ?_, ?_, Mod.alloc _ _, by simp⟩
  · intro dd pos aft g
    simp [execOp, hx, hy, hr]
  · have hlen : (List.replicate n z0).length = n := by simp
    have := zMp (E := e) (S := (· = w.heap.size)) (w := w.alloc (.cells (madeCells zv.cells (n * Flat.sz α)) e)) (xs := List.replicate n z0) (A := some ⟨w.heap.size, 0, none⟩) (cap := n) (b := w.heap.size) (by simp) (by simpa [maxLen] using hm) rfl zMQ (by simp [size_madeCells]) ?_ rfl
    · rwa [hlen] at this
    · intro i x hx j u hj
      have hjl : j < Flat.sz α := by rw [← Flat.len x]; exact (List.getElem?_eq_some_iff.1 hj).1
      rw [List.getElem?_replicate] at hx
      split at hx
      · rename_i hlt
        injection hx with hx
        subst hx
        rw [zLD _ _ _ (by
          calc i * Flat.sz α + j < i * Flat.sz α + Flat.sz α := by omega
            _ = (i + 1) * Flat.sz α := by rw [Nat.add_mul, Nat.one_mul]
            _ ≤ n * Flat.sz α := Nat.mul_le_mul_right _ hlt)]
        have hsz : zv.cells.size = Flat.sz α := by rw [hz]; simp [Flat.len]
        rw [hsz, Nat.mul_comm, Nat.mul_add_mod, Nat.mod_eq_of_lt hjl, hz]
        simp [hj]
      · cases hx
theorem zJx {α : Type} [Flat α] : ∀ (xs : List α) (i : Nat) (x : α) (j : Nat), xs[i]? = some x → j < Flat.sz α → (xs.flatMap Flat.enc)[i * Flat.sz α + j]? = (Flat.enc x)[j]?
  | [], i, x, j, h, _ => by cases h
  | y :: ys, 0, x, j, h, hj => by
    simp at h; subst h
    rw [List.flatMap_cons, Nat.zero_mul, Nat.zero_add, List.getElem?_append_left (by rw [Flat.len]; exact hj)]
  | y :: ys, i + 1, x, j, h, hj => by
    rw [List.flatMap_cons, List.getElem?_append_right (by rw [Flat.len, Nat.add_mul]; omega), Flat.len, show (i + 1) * Flat.sz α + j - Flat.sz α = i * Flat.sz α + j from by rw [Nat.add_mul]; omega]
    exact zJx ys i x j (by simpa using h) hj
theorem zJy {α : Type} [Flat α] (xs : List α) : (xs.flatMap Flat.enc).length = xs.length * Flat.sz α := by
  induction xs with
  | nil => simp
  | cons x xs ih => rw [List.flatMap_cons, List.length_append, ih, Flat.len, List.length_cons, Nat.add_mul]; omega
theorem zO4 {α : Type} [Flat α] (xs : List α) : Cells (xs.flatMap Flat.enc).toArray xs := by
  intro i x hx j u hj
  have hjl : j < Flat.sz α := by rw [← Flat.len x]; exact (List.getElem?_eq_some_iff.1 hj).1
  rw [List.getElem?_toArray, zJx xs i x j hx hjl]; exact hj
theorem zO5 {α : Type} [Flat α] {arr : Array Value} {xs : List α} (h : Cells arr xs) (hs : xs.length * Flat.sz α ≤ arr.size) : arr.toList.take (xs.length * Flat.sz α) = xs.flatMap Flat.enc := by
  refine List.ext_getElem? fun k => ?_
  by_cases hk : k < xs.length * Flat.sz α
  · have hp : 0 < Flat.sz α := Flat.pos
    have h1 : k / Flat.sz α < xs.length := Nat.div_lt_of_lt_mul (by rw [Nat.mul_comm]; exact hk)
    have h2 : k % Flat.sz α < Flat.sz α := Nat.mod_lt _ hp
    have h3 : k / Flat.sz α * Flat.sz α + k % Flat.sz α = k := Nat.div_add_mod' k _
    have h4 := List.getElem?_eq_getElem h1
    rw [← h3, zJx xs _ _ _ h4 h2, List.getElem?_take, if_pos (by omega), Array.getElem?_toList]
    have h5 : k % Flat.sz α < (Flat.enc xs[k / Flat.sz α]).length := by rw [Flat.len]; exact h2
    rw [List.getElem?_eq_getElem h5]
    exact h _ _ h4 _ _ (List.getElem?_eq_getElem h5)
  · rw [List.getElem?_eq_none (by simp; omega), List.getElem?_eq_none (by rw [zJy]; omega)]
theorem zNo {α : Type} [Flat α] {arr : Array Value} {xs : List α} (h : arr.toList.take (xs.length * Flat.sz α) = xs.flatMap Flat.enc) : Cells arr xs := by
  intro i x hx j u hj
  have hjl : j < Flat.sz α := by rw [← Flat.len x]; exact (List.getElem?_eq_some_iff.1 hj).1
  have hlt : i < xs.length := (List.getElem?_eq_some_iff.1 hx).1
  have hk : i * Flat.sz α + j < xs.length * Flat.sz α := by
    have : (i + 1) * Flat.sz α ≤ xs.length * Flat.sz α := Nat.mul_le_mul_right _ hlt
    rw [Nat.add_mul] at this; omega
  have h1 := zJx xs i x j hx hjl
  rw [← h, List.getElem?_take, if_pos hk, Array.getElem?_toList] at h1
  rw [h1]; exact hj
theorem zSe {α : Type} [Flat α] {E : TypeId} {S : Nat → Prop} {w : World} {v : Value} {xs : List α} (h : ownL E S w v xs) : w.ownsRow 0 E (Flat.sz α) v xs.length (xs.flatMap Flat.enc) ∧ (∀ b, v.ownBlock = some b → S b) := by
  rcases zKR h with ⟨rfl, rfl⟩ | ⟨b, arr, cap, rfl, h1, h2, hb, hh, hs, hc⟩
  · exact ⟨⟨by simp, .inl ⟨rfl, rfl⟩⟩, by intro b hb; cases hb⟩
  · refine ⟨⟨zJy xs, .inr ⟨b, cap, arr, rfl, Nat.zero_le _, hh, h1, h2, hs, zO5 hc ?_⟩⟩, ?_⟩
    · rw [hs]; exact Nat.mul_le_mul_right _ h1
    · intro b' hb'
      injection hb' with hb'
      subst hb'
      exact hb
theorem zSf {α : Type} [Flat α] {E : TypeId} {S : Nat → Prop} {w : World} {v : Value} {n : Nat} {xs : List α} (hn : xs.length = n) (h : w.ownsRow 0 E (Flat.sz α) v n (xs.flatMap Flat.enc)) (hS : ∀ b, v.ownBlock = some b → S b) : ownL E S w v xs := by
  subst hn
  rcases h.2 with ⟨rfl, h0⟩ | ⟨b, cap, arr, rfl, _, hh, h1, h2, hs, hc⟩
  · have hx : xs = [] := List.eq_nil_of_length_eq_zero h0
    subst hx
    exact ⟨none, 0, rfl, Nat.le_refl _, Nat.zero_le _, .inl ⟨rfl, rfl⟩⟩
  · exact zMp h1 h2 (hS b rfl) hh hs (zNo hc) rfl
theorem zTs {α : Type} [Flat α] {xs : List α} {n : Nat} {ps : Array (Nat × Operand)} {cells : Array Value} (ht : P.underlying t = some (.slice e)) (hi : TyI P e (Flat.sz α) by_ zv) (hn : xs.length = n) (hsm : n * Flat.sz α ≤ 16777216)
    (hfill : Instr.fill (fun i => some (i * Flat.sz α, Flat.sz α)) (madeCells (if n * Flat.sz α = 0 then #[] else zv.cells) (n * Flat.sz α)) (ps.map fun (i, x) => (i, ev F x)).toList = some cells)
    (hcs : cells = (xs.flatMap Flat.enc).toArray) :
    XV P F (.buildSlice t n ps) ty w (.slice (some ⟨w.heap.size, 0, none⟩) n n) (w.alloc (.cells cells e)) ∧ ownL e (· = w.heap.size) (w.alloc (.cells cells e)) (.slice (some ⟨w.heap.size, 0, none⟩) n n) xs := by
  obtain ⟨i, h1, h2, h3, h4⟩ := hi.open
  subst hn
  constructor
  · intro dd pos aft g
    have hsm' : ¬ (xs.length * Flat.sz α > 2 ^ 24) := by omega
    unfold madeCells at hfill
    by_cases h0 : xs.length * Flat.sz α = 0
    · have e0 : ∀ f : Nat → Value, Array.map f (Array.range 0) = #[] := by intro f; simp [Array.range]
      rw [h0, if_pos rfl, e0] at hfill
      have h02 : ¬ (0 > 2 ^ 24) := by omega
      simp only [execOp, Instr.buildSlice, Sem.run_bind, run_underlying ht, Result.andThen_ok, zFY hi, h0, h02, if_false, if_true, Sem.run_pure, e0, hfill]
      simp [newRow, newObj, Sem.run, World.alloc_eq]
    · rw [if_neg h0] at hfill
      simp only [execOp, Instr.buildSlice, Sem.run_bind, run_underlying ht, Result.andThen_ok, zFY hi, hsm', if_false, h0, Sem.run_pure, zeroValue, typeInfo, run_program, h1, h2, hfill]
      simp [newRow, newObj, Sem.run, World.alloc_eq]
  · subst hcs
    refine zMp (Nat.le_refl _) ?_ rfl zMQ (by rw [List.size_toArray, zJy]) (zO4 xs) rfl
    have hp : 0 < Flat.sz α := Flat.pos
    have : xs.length ≤ xs.length * Flat.sz α := Nat.le_mul_of_pos_right _ hp
    simp only [maxLen]; omega
theorem zMK {base size n : Nat} {xs : List Value} {i : TypeInfo} {v : Value} {c : Nat} (ht : P.underlying t = some (.slice e)) (hi : P.info? e = some i) (hown : w.ownsRow base e size v n xs) :
    (Builtin.append_ #[t, t] ty #[v, .slice none 0 c]).run P w = .ok v w := by
  rcases hown.2 with ⟨rfl, rfl⟩ | ⟨g, cap, cur, rfl, _, _, hnc, _⟩
  · simp [Builtin.append_, run_underlying ht, sizeOf, typeInfo, hi, Builtin.lenOf, Builtin.firstCells]
  · simp [Builtin.append_, run_underlying ht, sizeOf, typeInfo, hi, Builtin.lenOf, Builtin.firstCells, hnc, storeCells]
theorem zOh {α : Type} [Flat α] {S S' : Nat → Prop} {v v2 : Value} {xs ys : List α} (ht : P.underlying t = some (.slice e)) (hi : TyI P e (Flat.sz α) by_ zv) (hzv : zv.cells.size = Flat.sz α)
    (hx : ev F x = v) (hy : ev F y = v2) (h : ownL e S w v xs) (h2 : rdL S' w v2 ys) (hb : (xs.length + ys.length) * by_ ≤ 140737488355328) (hm : xs.length + ys.length ≤ 9223372036854775807) :
    ∃ v' w' S'', XV P F (.call { callee := .builtin .append, args := #[x, y], argTypes := #[t, t] }) ty w v' w' ∧ ownL e S'' w' v' (xs ++ ys) ∧ (∀ k, S'' k → (S k ∧ k < w.heap.size) ∨ w.heap.size ≤ k) ∧ (∀ k, S'' k → k < w'.heap.size) ∧ Mod S w w' := by
  obtain ⟨i, h1, h3, h4, h5⟩ := hi.open
  obtain ⟨hrow, hS⟩ := zSe h
  have hrun : ∀ v' w', (Builtin.append_ #[t, t] ty #[v, v2]).run P w = .ok v' w' → XV P F (.call { callee := .builtin .append, args := #[x, y], argTypes := #[t, t] }) ty w v' w' := by
    intro v' w' hr dd pos aft g
    simp [execOp, resolve, invoke, builtin, hx, hy, hr]
  have fin : ∀ v' w', w'.ownsRow 0 e (Flat.sz α) v' (xs.length + ys.length) ((xs ++ ys).flatMap Flat.enc) → w.grownBy w' v.ownBlock → (v'.ownBlock = v.ownBlock ∨ v'.ownBlock = some w.heap.size) →
      ∃ S'' : Nat → Prop, ownL e S'' w' v' (xs ++ ys) ∧ (∀ k, S'' k → (S k ∧ k < w.heap.size) ∨ w.heap.size ≤ k) ∧ (∀ k, S'' k → k < w'.heap.size) ∧ Mod S w w' := by
    intro v' w' ho hg hat
    refine ⟨fun k => v'.ownBlock = some k, zSf (by simp) ho (fun b hb => hb), fun k hk => ?_, fun k hk => (ho.lt k hk).2, ⟨⟨hg.os, hg.tape, hg.output, hg.size⟩, fun k hk hn => hg.block k hk (fun e => hn (hS k e.symm))⟩⟩
    rcases hat with hat | hat
    · rw [hat] at hk; exact .inl ⟨hS k hk, (hrow.lt k hk).2⟩
    · rw [hat] at hk; injection hk with hk; omega
  obtain ⟨A, cap, rfl, hc1, hc2, hc3⟩ := h2
  by_cases hn : ys.length = 0
  · have hy0 : ys = [] := List.eq_nil_of_length_eq_zero hn
    subst hy0
    rcases A with _ | a
    · obtain ⟨S'', g1, g2, g3, g4⟩ := fin v w (by simpa using hrow) (World.grownBy.refl w _) (.inl rfl)
      exact ⟨v, w, S'', hrun _ _ (zMK ht h1 hrow), g1, g2, g3, g4⟩
    · obtain ⟨v', w', hr, ho, hg, _, hat⟩ := run_append_own_at (P := P) w 0 t ty e i zv (Flat.sz α) by_ ht h1 h3 h4 h5 hzv Flat.pos v xs.length _ hrow a 0 cap [] (by simp) (by simp) (by simp) (by simp only [maxLen]; omega) (by simpa using hb) (Nat.zero_le _)
      obtain ⟨S'', g1, g2, g3, g4⟩ := fin v' w' (by simpa using ho) hg hat
      exact ⟨v', w', S'', hrun _ _ hr, g1, g2, g3, g4⟩
  · obtain ⟨b, o, rfl, hb', hcell⟩ := hc3 (by omega)
    obtain ⟨v', w', hr, ho, hg, _, hat⟩ := run_append_own_at (P := P) w 0 t ty e i zv (Flat.sz α) by_ ht h1 h3 h4 h5 hzv Flat.pos v xs.length _ hrow ⟨b, o, none⟩ ys.length cap (ys.flatMap Flat.enc) (zJy ys) (by
      intro j u hj
      have hk : j < ys.length * Flat.sz α := by rw [← zJy ys]; exact (List.getElem?_eq_some_iff.1 hj).1
      have hp : 0 < Flat.sz α := Flat.pos
      have g1 : j / Flat.sz α < ys.length := Nat.div_lt_of_lt_mul (by rw [Nat.mul_comm]; exact hk)
      have g2 : j % Flat.sz α < Flat.sz α := Nat.mod_lt _ hp
      have g3 : j / Flat.sz α * Flat.sz α + j % Flat.sz α = j := Nat.div_add_mod' j _
      have g4 := List.getElem?_eq_getElem g1
      rw [← g3, zJx ys _ _ _ g4 g2] at hj
      obtain ⟨cs, hcs, hcc⟩ := hcell _ _ g4
      have hcs' : cs = Flat.enc _ := hcs
      subst hcs'
      have := hcc _ _ hj
      rw [zMY, ← g3]; exact this) (by
      intro u hu
      obtain ⟨y, _, hy2⟩ := List.mem_flatMap.1 hu
      exact Flat.one y u hy2) (by simp only [maxLen]; omega) hb (Nat.zero_le _)
    obtain ⟨S'', g1, g2, g3, g4⟩ := fin v' w' (by rw [List.flatMap_append]; exact ho) hg hat
    exact ⟨v', w', S'', hrun _ _ hr, g1, g2, g3, g4⟩
end
def bnd {α β : Type} (x : Option α) (f : α → Option β) : Option β := match x with | some a => f a | none => none
def chk {β : Type} (c : Prop) [Decidable c] (k : Option β) : Option β := if c then k else none
def ifB {β : Type} (b : Bool) (t e : Option β) : Option β := match b with | true => t | false => e
def idx {α : Type} (xs : List α) (i : Int) : Option α := if 0 ≤ i then xs[i.toNat]? else none
theorem zAs {α β : Type} {x : Option α} {f : α → Option β} {r : β} (h : bnd x f = some r) : ∃ a, x = some a ∧ f a = some r := by
  cases x with
  | none => cases h
  | some a => exact ⟨a, rfl, h⟩
theorem zEs {β : Type} {c : Prop} [Decidable c] {k : Option β} {r : β} (h : chk c k = some r) : c ∧ k = some r := by
  unfold chk at h
  split at h
  · rename_i hc; exact ⟨hc, h⟩
  · cases h
theorem zAZ {α : Type} {xs : List α} {i : Int} {a : α} (h : idx xs i = some a) : 0 ≤ i ∧ xs[i.toNat]? = some a := by
  unfold idx at h
  split at h
  · rename_i hc; exact ⟨hc, h⟩
  · cases h
inductive Stp (ρ σ : Type) where
  | ret (r : ρ)
  | brk (s : σ)
  | cont (s : σ)
inductive Outc (ρ σ : Type) where
  | ret (r : ρ)
  | nxt (s : σ)
def zHQ {ρ σ : Type} (body : σ → Option (Stp ρ σ)) : Nat → σ → Option (Outc ρ σ)
  | 0, _ => none
  | n + 1, s => match body s with
    | none => none
    | some (.ret r) => some (.ret r)
    | some (.brk s') => some (.nxt s')
    | some (.cont s') => zHQ body n s'
def zOi : Nat := 18446744073709551616
def zAO {ρ σ : Type} (body : σ → Option (Stp ρ σ)) (s : σ) : Option (Outc ρ σ) := zHQ body zOi s
theorem zO6 {ρ σ : Type} {body : σ → Option (Stp ρ σ)} (I : σ → Prop) (m : σ → Nat) (Q : Outc ρ σ → Prop)
    (hstep : ∀ s, I s → ∃ t, body s = some t ∧ (match t with | .ret r => Q (.ret r) | .brk s' => Q (.nxt s') | .cont s' => I s' ∧ m s' < m s)) :
    ∀ n s, I s → m s < n → ∃ o, zHQ body n s = some o ∧ Q o := by
  intro n
  induction n with
  | zero => intro s _ h; omega
  | succ n ih =>
    intro s hI hm
    obtain ⟨t, ht, hq⟩ := hstep s hI
    cases t with
    | ret r => exact ⟨_, by simp [zHQ, ht], hq⟩
    | brk s' => exact ⟨_, by simp [zHQ, ht], hq⟩
    | cont s' =>
      obtain ⟨h1, h2⟩ := hq
      obtain ⟨o, ho, hQ⟩ := ih s' h1 (by omega)
      exact ⟨o, by simp [zHQ, ht, ho], hQ⟩
theorem zO7 {ρ σ : Type} {body : σ → Option (Stp ρ σ)} {s : σ} (I : σ → Prop) (m : σ → Nat) (Q : Outc ρ σ → Prop) (h0 : I s) (hm : m s < 18446744073709551616)
    (hstep : ∀ s, I s → ∃ t, body s = some t ∧ (match t with | .ret r => Q (.ret r) | .brk s' => Q (.nxt s') | .cont s' => I s' ∧ m s' < m s)) : ∃ o, zAO body s = some o ∧ Q o :=
  zO6 I m Q hstep zOi s h0 hm
section
variable {P : Program} {N : Nat} {R K : Fr → World → Prop} {X : Nat → Fr → World → Prop} {F : Fr} {w : World}
theorem zQF {ρ σ : Type} {c : Code} {body : σ → Option (Stp ρ σ)} {s0 : σ} {o : Outc ρ σ} (J : σ → Fr → World → Prop) (kont : Outc ρ σ → Prop) (ho : zAO body s0 = some o) (hk : kont o) (h0 : J s0 F w)
    (round : ∀ s F w t, J s F w → body s = some t → (∀ r, t = .ret r → kont (.ret r)) → (∀ s', t = .brk s' → kont (.nxt s')) → CW P N c R X (fun F' w' => ∃ s', t = .cont s' ∧ J s' F' w') F w) :
    CW P N (.loop c) R X K F w := by
  intro T hT hF
  have key : ∀ n s F w, zHQ body n s = some o → J s F w → ∀ T : Array Value, T.size = N → zDb T = F → Code.rounds P c (QA N (QQ R X K)) n ⟨T, []⟩ w := by
    intro n
    induction n with
    | zero => intro s F w h; cases h
    | succ n ih =>
      intro s F w h hJ T hT hF
      rw [rounds_succ]
      cases hb : body s with
      | none => simp [zHQ, hb] at h
      | some t =>
        have h' := round s F w t hJ hb (fun r hr => by subst hr; simp [zHQ, hb] at h; rw [h]; exact hk) (fun s' hs => by subst hs; simp [zHQ, hb] at h; rw [h]; exact hk) T hT hF
        refine wp_mono h' ?_
        rintro e ⟨tm, df⟩ w' ⟨g1, g2, g3⟩
        cases e with
        | normal =>
          obtain ⟨s', hs, hJ'⟩ := g3
          subst hs
          simp [zHQ, hb] at h
          simp only at g1 g2
          subst g1
          exact ih s' _ _ h hJ' tm g2 rfl
        | _ => exact ⟨g1, g2, g3⟩
  exact wp_loop_rounds zOi (key zOi s0 F w ho h0 T hT hF)
end
def zQG (args : List Value) : Fr := fun k => args.getD k undef
def RR (P : Program) (fn : Func) (C : Ending → World → Prop) : Fr → World → Prop := fun F w => ∀ T, zDb T = F → ∃ v, (results fn T).run P w = .ok v w ∧ C (.returned v) w
theorem zMq (args : List Value) (n : Nat) : zDb (args.toArray ++ Array.replicate n undef) = zQG args := by
  funext k
  unfold zDb zQG
  rw [Array.getD_eq_getD_getElem?, List.getD_eq_getElem?_getD]
  by_cases h : k < args.length
  · rw [Array.getElem?_append_left (by simpa using h)]; simp
  · rw [Array.getElem?_append_right (by simp; omega), List.getElem?_eq_none (by omega), Array.getElem?_replicate]
    split <;> rfl
theorem zAD {P : Program} {f : FuncId} {fn : Func} {c : Code} {args : List Value} {w : World} {C : Ending → World → Prop} {N : Nat} (hf : P.funcs[f]? = some fn) (hb : fn.body = some c) (hN : fn.ntmps = N) (hA0 : Nat.ble args.length N = true)
    (h : CW P N c (RR P fn C) (fun _ _ _ => False) (RR P fn C) (zQG args) w) : Calls P f args.toArray w C := by
  have hA : args.length ≤ N := Nat.le_of_ble_eq_true hA0
  refine calls_of_wp hf hb ?_
  have hs : (args.toArray ++ Array.replicate (fn.ntmps - args.toArray.size) undef).size = N := by simp [hN]; omega
  refine wp_mono (h _ hs (zMq _ _)) ?_
  rintro e a w' ⟨h1, h2, h3⟩
  cases e with
  | normal => exact ⟨h1, h3 _ rfl⟩
  | ret => exact ⟨h1, h3 _ rfl⟩
  | exit id => exact h3.elim
  | _ => exact h3.elim
section
variable {P : Program} {fn : Func} {C : Ending → World → Prop} {F : Fr} {w : World}
theorem RR0 (hr : fn.results = #[]) (h : C (.returned (.tuple #[])) w) : RR P fn C F w := by
  intro T hT; exact ⟨_, results_none hr T P w, h⟩
theorem RR1 {t : Nat} {v : Value} (hr : fn.results = #[.tmp t]) (hv : F t = v) (h : C (.returned v) w) : RR P fn C F w := by
  intro T hT; subst hT; subst hv; exact ⟨_, results_tmp hr T P w, h⟩
theorem RR2 {t u : Nat} {v v2 : Value} (hr : fn.results = #[.tmp t, .tmp u]) (hv : F t = v) (hv2 : F u = v2) (h : C (.returned (.tuple #[v, v2])) w) : RR P fn C F w := by
  intro T hT; subst hT; subst hv; subst hv2; exact ⟨_, results_tmp2 hr T P w, h⟩
theorem RR3 {t u s : Nat} {v v2 v3 : Value} (hr : fn.results = #[.tmp t, .tmp u, .tmp s]) (hv : F t = v) (hv2 : F u = v2) (hv3 : F s = v3) (h : C (.returned (.tuple #[v, v2, v3])) w) : RR P fn C F w := by
  intro T hT; subst hT; subst hv; subst hv2; subst hv3; refine ⟨_, ?_, h⟩; simp [results, hr, zDb]
theorem zCN {b : Nat} {arr : Array Value} {E : TypeId} {fr : Nat × Nat} {t : TypeId} {fs : Array Field} {sz by_ : Nat} {zv : Value} (ht : P.underlying t = some (.struct fs)) (hi : TyI P t sz by_ zv) (hb : w.heap[b]? = some (.cells arr E fr)) (hs : arr.size = sz) :
    (loadVar t ⟨b, 0, none⟩).run P w = .ok (.agg arr) w := by
  subst hs
  have h1 := run_loadCells_list (P := P) w ⟨b, 0, none⟩ arr.toList (fun j v hj => by rw [zMY, Nat.zero_add, zJW hb, ← Array.getElem?_toList]; exact hj)
  simp only [Array.length_toList, Array.toArray_toList] at h1
  simp [loadVar, zL2 ht, zFY hi, h1]
theorem RRc {t b : Nat} {ty : TypeId} {v : Value} (hr : fn.results = #[.cell t ty]) (hv : F t = .pointer (some ⟨b, 0, none⟩)) (hl : (loadVar ty ⟨b, 0, none⟩).run P w = .ok v w) (h : C (.returned v) w) : RR P fn C F w := by
  intro T hT
  subst hT
  have hv' : T[t]?.getD undef = .pointer (some ⟨b, 0, none⟩) := by simpa [zDb] using hv
  refine ⟨v, ?_, h⟩
  simp [results, hr, hv', asAddr, hl]
theorem zP6 {t b u : Nat} {ty : TypeId} {v v2 : Value} (hr : fn.results = #[.cell t ty, .tmp u]) (hv : F t = .pointer (some ⟨b, 0, none⟩)) (hl : (loadVar ty ⟨b, 0, none⟩).run P w = .ok v w) (hv2 : F u = v2) (h : C (.returned (.tuple #[v, v2])) w) : RR P fn C F w := by
  intro T hT
  subst hT
  have hv' : T[t]?.getD undef = .pointer (some ⟨b, 0, none⟩) := by simpa [zDb] using hv
  refine ⟨_, ?_, h⟩
  subst hv2
  simp [results, hr, hv', asAddr, hl, zDb]
end
def OP (P : Program) (N : Nat) (ops : Array Oper) (o : Oper) (K : Fr → World → Prop) (F : Fr) (w : World) : Prop :=
  ∀ (T : Array Value) (Q : Exit → Act → World → Prop) (L : Act → World → Prop), T.size = N → zDb T = F → (∀ a w, a.defers = [] → a.tmps.size = N → K (zDb a.tmps) w → L a w) →
    if Region.wanted o (yielded ops T) then o.wp P ⟨T, []⟩ w L Q else L ((⟨T, []⟩ : Act).put o.dst undef) w
section
variable {P : Program} {N : Nat} {ops : Array Oper} {rest : List Oper} {K : Fr → World → Prop} {F : Fr} {w w' : World} {d : Nat} {op : Op} {ty : TypeId} {pos : String} {aft : Array Edge} {o : Oper}
theorem zAa (h : OP P N ops o (fun F w => OW P N ops rest K F w) F w) : OW P N ops (o :: rest) K F w := by
  intro T Q hT hF hQ
  have h1 := h T Q (wpList P ops Q rest) hT hF (fun a w h1 h2 h3 => by
    obtain ⟨tm, df⟩ := a
    simp only at h1
    subst h1
    exact h3 tm Q h2 rfl hQ)
  unfold wpList
  split
  · rename_i hw; rw [if_pos hw] at h1; exact .inl h1
  · rename_i hw; rw [if_neg hw] at h1; exact h1
theorem zAk {v : Value} (hd : Nat.blt d N = true) (hx : XV P F op ty w v w') (h : K (upd F d v) w') : OP P N ops ⟨some d, op, ty, pos, aft, none⟩ K F w := by
  intro T Q L hT hF hL
  rw [if_pos (zCL T _)]
  unfold Oper.wp
  rw [zHm, hF, hx (some d) pos aft none, Oper.upon_value]
  have hd' : d < T.size := by rw [hT]; simpa using hd
  exact hL _ _ rfl (by simp [Act.put, hT]) (by show K (zDb (T.setIfInBounds d v)) w'; rw [zFs _ _ _ hd', hF]; exact h)
theorem zMR (hx : XU P F op ty w w') (h : K F w') : OP P N ops ⟨none, op, ty, pos, aft, none⟩ K F w := by
  intro T Q L hT hF hL
  rw [if_pos (zCL T _)]
  unfold Oper.wp
  rw [zHm, hF, hx none pos aft none, Oper.upon_skip]
  exact hL _ _ rfl hT (by show K (zDb T) w'; rw [hF]; exact h)
theorem OP.call {f : FuncId} {args : Array Value} {C : Ending → World → Prop} (hd : Nat.blt d N = true) (hx : XC P F op ty w f args) (hc : Calls P f args w C)
    (h : ∀ e w', C e w' → ∃ v, e = .returned v ∧ K (upd F d v) w') : OP P N ops ⟨some d, op, ty, pos, aft, none⟩ K F w := by
  intro T Q L hT hF hL
  rw [if_pos (zCL T _)]
  unfold Oper.wp
  rw [zHm, hF, hx (some d) pos aft none, Oper.upon_enter]
  refine hc.mono ?_
  intro e w' he
  obtain ⟨v, rfl, hk⟩ := h e w' he
  have hd' : d < T.size := by rw [hT]; simpa using hd
  exact hL _ _ rfl (by simp [Act.put, hT]) (by show K (zDb (T.setIfInBounds d v)) w'; rw [zFs _ _ _ hd', hF]; exact hk)
theorem zS7 {dst : Option Nat} {j dj : Nat} {b : Bool} (hj : (ops[j]?).bind (·.dst) = some dj) (hF : F dj = .bool b)
    (h : OP P N ops ⟨dst, op, ty, pos, aft, none⟩ K F w) : OP P N ops ⟨dst, op, ty, pos, aft, some (j, b)⟩ K F w := by
  intro T Q L hT hFr hL
  have h1 := h T Q L hT hFr hL
  have hw : Region.wanted ⟨dst, op, ty, pos, aft, some (j, b)⟩ (yielded ops T) = true := by
    simp only [Region.wanted]
    rw [zIp hj (by rw [hFr]; exact hF)]
    simp
  rw [if_pos hw]
  rw [if_pos (zCL T _)] at h1
  exact h1
theorem zTt {d j dj : Nat} {b c : Bool} (hj : (ops[j]?).bind (·.dst) = some dj) (hF : F dj = .bool c) (hbc : (c == b) = false) (hd : Nat.blt d N = true)
    (h : K (upd F d undef) w) : OP P N ops ⟨some d, op, ty, pos, aft, some (j, b)⟩ K F w := by
  intro T Q L hT hFr hL
  have hw : ¬ Region.wanted ⟨some d, op, ty, pos, aft, some (j, b)⟩ (yielded ops T) = true := by
    simp only [Region.wanted]
    rw [zIp hj (by rw [hFr]; exact hF)]
    simpa using hbc
  rw [if_neg hw]
  have hd' : d < T.size := by rw [hT]; simpa using hd
  exact hL _ _ rfl (by simp [Act.put, hT]) (by show K (zDb (T.setIfInBounds d undef)) w; rw [zFs _ _ _ hd', hFr]; exact h)
theorem OP.mono {K' : Fr → World → Prop} (h : OP P N ops o K F w) (hk : ∀ F w, K F w → K' F w) : OP P N ops o K' F w :=
  fun T Q L hT hF hL => h T Q L hT hF fun a w h1 h2 h3 => hL a w h1 h2 (hk _ _ h3)
def DW (P : Program) (N : Nat) (ops : Array Oper) (fuel : Nat) (listed : Array Bool) (K : Fr → World → Prop) (F : Fr) (w : World) : Prop :=
  ∀ (T : Array Value) (Q : Exit → Act → World → Prop), T.size = N → zDb T = F → (∀ c a w, ¬ Q (.panic c) a w) → (∀ a w, a.defers = [] → a.tmps.size = N → K (zDb a.tmps) w → Q .normal a w) → wpAny P .any ops Q fuel listed ⟨T, []⟩ w
theorem zBW {R : Fr → World → Prop} {X : Nat → Fr → World → Prop} {id : Nat} {l : List Oper} (hm : P.follows .mixedOrders = true) (h : DW P N l.toArray l.length (Array.replicate l.length false) K F { w with drawn := w.drawn + 1 }) : CW P N (.region id l.toArray true) R X K F w := by
  intro T hT hF
  refine wp_region_any hm ?_
  have := h T (QA N (QQ R X K)) hT hF (fun c a w h => h.2.2) (fun a w h1 h2 h3 => ⟨h1, h2, h3⟩)
  simpa using this
theorem zBu {fuel : Nat} {listed : Array Bool} (hr : Region.ready .any ops listed = []) (h : K F w) : DW P N ops fuel listed K F w := by
  intro T Q hT hF _ hQ
  exact wpAny_done hr (hQ _ _ rfl hT (by rw [hF]; exact h)) _
theorem DW.take {fuel : Nat} {listed : Array Bool} (i : Nat) {v : Value} (ho : ops[i]? = some ⟨some d, op, ty, pos, aft, none⟩) (hs : Region.noSelect ops = true) (hf : Region.free .any ops listed i = true)
    (hr : (Region.ready .any ops listed).contains i = true) (hd : Nat.blt d N = true) (hx : ∀ w, XV P F op ty w v w) (h : DW P N ops fuel (listed.setIfInBounds i true) K (upd F d v) w) : DW P N ops (fuel + 1) listed K F w := by
  intro T Q hT hF hp hQ
  have hd' : d < T.size := by rw [hT]; simpa using hd
  refine wpAny_take (v := v) ho hs hf hr (fun c a w h => absurd h (hp _ _ _)) ?_ ?_
  · refine .inl ⟨zCL T _, fun w => ?_⟩
    rw [zHm, hF]
    exact hx w _ _ _ _
  · exact h (T.setIfInBounds d v) Q (by simp [hT]) (by rw [zFs _ _ _ hd', hF]) hp hQ
theorem zJX {fuel : Nat} {listed : Array Bool} (i : Nat) (ho : ops[i]? = some o) (hr : Region.ready .any ops listed = [i]) (h : OP P N ops o (fun F w => DW P N ops fuel (listed.setIfInBounds i true) K F w) F w) :
    DW P N ops (fuel + 1) listed K F w := by
  intro T Q hT hF hp hQ
  refine wpAny_all hr (by simp) ?_
  intro j hj
  simp at hj
  subst hj
  have h1 := h T Q (wpAny P .any ops Q fuel (listed.setIfInBounds j true)) hT hF (fun a w h1 h2 h3 => by
    obtain ⟨tm, df⟩ := a
    simp only at h1
    subst h1
    exact h3 tm Q h2 rfl hp hQ)
  unfold wpOp
  rw [ho]
  simp only
  split
  · rename_i hw; rw [if_pos hw] at h1; exact .inl h1
  · rename_i hw; rw [if_neg hw] at h1; exact h1
end
section
variable {P : Program} {ops : Array Oper} {C : World → Prop}
def zLE (P : Program) (ops : Array Oper) (C : World → Prop) (fin : Array Bool) (L : Act → Prop) : Nat → Array Bool → Act → Prop
  | 0, listed, a => listed = fin ∧ L a
  | f + 1, listed, a => Region.ready .any ops listed ≠ [] ∧ ∀ i ∈ Region.ready .any ops listed, qOp P ops C i (zLE P ops C fin L f (listed.setIfInBounds i true)) a
theorem zMZ {fin : Array Bool} {L : Act → Prop} {Q : Exit → Act → World → Prop} {g : Nat} (hL : ∀ a w, C w → L a → wpAny P .any ops Q g fin a w) : ∀ (f : Nat) (listed : Array Bool) (a : Act) (w : World), C w →
    zLE P ops C fin L f listed a → wpAny P .any ops Q (f + g) listed a w
  | 0, listed, a, w, hw, h => by obtain ⟨rfl, h2⟩ := h; rw [Nat.zero_add]; exact hL a w hw h2
  | f + 1, listed, a, w, hw, h => by
    rw [show f + 1 + g = (f + g) + 1 from by omega]
    exact ⟨fun h0 => absurd h0 h.1, fun i hi => wpOp_of_qOp hw (fun a' w' hw' h' => zMZ hL f _ a' w' hw' h') (h.2 i hi)⟩
theorem zQH {l : Array Bool} {i : Nat} (h : l.getD i true = false) : (l.setIfInBounds i true).setIfInBounds i false = l := by
  have hi : i < l.size := by
    rcases Nat.lt_or_ge i l.size with h' | h'
    · exact h'
    · simp [Array.getElem?_eq_none h'] at h
  apply Array.ext_getElem?
  intro k
  by_cases hk : i = k
  · subst hk; simp [hi] at h ⊢; exact h
  · rw [Array.getElem?_setIfInBounds_ne hk, Array.getElem?_setIfInBounds_ne hk]
theorem zNM {fin : Array Bool} {L : Act → Prop} {i : Nat} {oi : Oper} {v : Value} (hi : ops[i]? = some oi) (hsel : ∀ (j : Nat) (o : Oper) cs b, ops[j]? = some o → o.op ≠ .select cs b) (hone : Region.ready .any ops (fin.setIfInBounds i false) = [i]) :
    ∀ (f : Nat) (listed : Array Bool) (a : Act),
      (∀ j oj, ops[j]? = some oj → j ≠ i → listed.getD j true = false → (∀ e ∈ oj.after, Region.binds .any e = true → e.on ≠ i) → oi.apart ops oj = true) →
      i ∈ Region.ready .any ops listed → YieldsIn P ops C oi v a →
      zLE P ops C fin L f (listed.setIfInBounds i true) (a.put oi.dst v) → zLE P ops C fin L (f + 1) listed a := by
  intro f
  induction f with
  | zero =>
    intro listed a _ hr hy H
    refine ⟨fun h => (by rw [h] at hr; cases hr), fun j hj => ?_⟩
    obtain ⟨he, hL⟩ := H
    have h0 : listed = fin.setIfInBounds i false := by rw [← he, zQH (mem_ready.1 hr).1]
    have hj' := hj
    rw [h0, hone] at hj'
    simp at hj'
    subst hj'
    exact hy.qOp hi ⟨he, hL⟩
  | succ f ih =>
    intro listed a hfree hr hy H
    refine ⟨fun h => (by rw [h] at hr; cases hr), fun j hj => ?_⟩
    by_cases hji : j = i
    · subst hji; exact hy.qOp hi H
    · have h1 := H.2 j (ready_mono hj hji)
      obtain ⟨hjun, oj, hoj, hall⟩ := mem_ready.1 hj
      have hnot : ∀ e ∈ oj.after, Region.binds .any e = true → e.on ≠ i := fun e he hb heq => by
        have g1 := hall e he hb
        have g0 := (mem_ready.1 hr).1
        rw [heq] at g1
        rcases Nat.lt_or_ge i listed.size with h' | h'
        · simp [h'] at g0 g1; rw [g0] at g1; cases g1
        · simp [Array.getElem?_eq_none h'] at g1
      have h2 := qOp_put hoj (hfree j oj hoj hji hjun hnot) (fun cs b => hsel i oi cs b hi) (fun cs b => hsel j oj cs b hoj) hy h1
      refine qOp_mono (fun a' h3 => ih (listed.setIfInBounds j true) a' (fun k ok hk hki hun hno => ?_) (ready_mono hr (Ne.symm hji)) h3.1 ?_) h2
      · refine hfree k ok hk hki ?_ hno
        by_cases hjk : j = k
        · subst hjk; exact hjun
        · rw [getD_set_ne true hjk] at hun; exact hun
      · rw [Array.setIfInBounds_comm _ _ hji]
        exact h3.2
end
def QP (P : Program) (N : Nat) (ops : Array Oper) (C : World → Prop) (o : Oper) (K : Fr → Prop) (F : Fr) : Prop :=
  ∀ (T : Array Value) (L : Act → Prop), T.size = N → zDb T = F → (∀ a, a.defers = [] → a.tmps.size = N → K (zDb a.tmps) → L a) →
    if Region.wanted o (yielded ops T) then o.quiet P ⟨T, []⟩ C L else L ((⟨T, []⟩ : Act).put o.dst undef)
def QW (P : Program) (N : Nat) (ops : Array Oper) (C : World → Prop) (K : Fr → Prop) : List Nat → Fr → Prop
  | [], F => K F
  | i :: is, F => ∃ o, ops[i]? = some o ∧ QP P N ops C o (QW P N ops C K is) F
def zQI (ops : Array Oper) (fin : Array Bool) : Array Bool → List Nat → Bool
  | listed, [] => listed == fin
  | listed, i :: is => (Region.ready .any ops listed).contains i && (Region.free .any ops listed i && (Region.ready .any ops (fin.setIfInBounds i false) == [i] && zQI ops fin (listed.setIfInBounds i true) is))
section
variable {P : Program} {N : Nat} {ops : Array Oper} {C : World → Prop} {K : Fr → Prop} {F : Fr} {d : Nat} {op : Op} {ty : TypeId} {pos : String} {aft : Array Edge} {o : Oper}
theorem QW.nil (h : K F) : QW P N ops C K [] F := h
theorem zAi {i : Nat} {is : List Nat} (ho : ops[i]? = some o) (h : QP P N ops C o (QW P N ops C K is) F) : QW P N ops C K (i :: is) F := ⟨o, ho, h⟩
theorem zAN {v : Value} (hd : Nat.blt d N = true) (hx : ∀ w, C w → XV P F op ty w v w) (h : K (upd F d v)) : QP P N ops C ⟨some d, op, ty, pos, aft, none⟩ K F := by
  intro T L hT hF hL
  rw [if_pos (zCL T _)]
  refine ⟨v, fun w hw => ?_, ?_⟩
  · unfold Oper.quietAt
    rw [zHm, hF, hx w hw (some d) pos aft none]
    exact ⟨rfl, rfl⟩
  · have hd' : d < T.size := by rw [hT]; simpa using hd
    exact hL _ rfl (by simp [Act.put, hT]) (by show K (zDb (T.setIfInBounds d v)); rw [zFs _ _ _ hd', hF]; exact h)
theorem QP.call {f : FuncId} {args : Array Value} {v : Value} (hd : Nat.blt d N = true) (hx : ∀ w, C w → XC P F op ty w f args) (hc : ∀ w, C w → Calls P f args w fun e w' => e = .returned v ∧ C w')
    (h : K (upd F d v)) : QP P N ops C ⟨some d, op, ty, pos, aft, none⟩ K F := by
  intro T L hT hF hL
  rw [if_pos (zCL T _)]
  refine ⟨v, fun w hw => ?_, ?_⟩
  · unfold Oper.quietAt
    rw [zHm, hF, hx w hw (some d) pos aft none]
    exact ⟨rfl, hc w hw⟩
  · have hd' : d < T.size := by rw [hT]; simpa using hd
    exact hL _ rfl (by simp [Act.put, hT]) (by show K (zDb (T.setIfInBounds d v)); rw [zFs _ _ _ hd', hF]; exact h)
theorem zS8 {dst : Option Nat} {j dj : Nat} {b : Bool} (hj : (ops[j]?).bind (·.dst) = some dj) (hF : F dj = .bool b)
    (h : QP P N ops C ⟨dst, op, ty, pos, aft, none⟩ K F) : QP P N ops C ⟨dst, op, ty, pos, aft, some (j, b)⟩ K F := by
  intro T L hT hFr hL
  have h1 := h T L hT hFr hL
  have hw : Region.wanted ⟨dst, op, ty, pos, aft, some (j, b)⟩ (yielded ops T) = true := by
    simp only [Region.wanted]
    rw [zIp hj (by rw [hFr]; exact hF)]
    simp
  rw [if_pos hw]
  rw [if_pos (zCL T _)] at h1
  exact h1
theorem zTu {j dj : Nat} {b c : Bool} (hj : (ops[j]?).bind (·.dst) = some dj) (hF : F dj = .bool c) (hbc : (c == b) = false) (hd : Nat.blt d N = true)
    (h : K (upd F d undef)) : QP P N ops C ⟨some d, op, ty, pos, aft, some (j, b)⟩ K F := by
  intro T L hT hFr hL
  have hw : ¬ Region.wanted ⟨some d, op, ty, pos, aft, some (j, b)⟩ (yielded ops T) = true := by
    simp only [Region.wanted]
    rw [zIp hj (by rw [hFr]; exact hF)]
    simpa using hbc
  rw [if_neg hw]
  have hd' : d < T.size := by rw [hT]; simpa using hd
  exact hL _ rfl (by simp [Act.put, hT]) (by show K (zDb (T.setIfInBounds d undef)); rw [zFs _ _ _ hd', hFr]; exact h)
theorem zL3 (hs : Region.noSelect ops = true) {fin : Array Bool} : ∀ (is : List Nat) (listed : Array Bool) (T : Array Value) (F : Fr), T.size = N → zDb T = F → zQI ops fin listed is = true → QW P N ops C K is F →
    zLE P ops C fin (fun a => a.defers = [] ∧ a.tmps.size = N ∧ K (zDb a.tmps)) is.length listed ⟨T, []⟩
  | [], listed, T, F, hT, hF, hB, h => by
    refine ⟨by simpa [zQI] using hB, rfl, hT, ?_⟩
    subst hF; exact h
  | i :: is, listed, T, F, hT, hF, hB, h => by
    obtain ⟨o, ho, hq⟩ := h
    simp only [zQI, Bool.and_eq_true] at hB
    obtain ⟨h1, h2, h3, h4⟩ := hB
    have h5 := hq T (fun a => zLE P ops C fin (fun a => a.defers = [] ∧ a.tmps.size = N ∧ K (zDb a.tmps)) is.length (listed.setIfInBounds i true) a) hT hF (fun a g1 g2 g3 => by
      obtain ⟨tm, df⟩ := a
      simp only at g1
      subst g1
      exact zL3 hs is _ tm _ g2 rfl h4 g3)
    have h6 : qOp P ops C i (zLE P ops C fin (fun a => a.defers = [] ∧ a.tmps.size = N ∧ K (zDb a.tmps)) is.length (listed.setIfInBounds i true)) ⟨T, []⟩ := by
      unfold qOp; simp only [ho]; exact h5
    obtain ⟨v, hy, hK⟩ := yieldsIn_of_qOp ho h6
    exact zNM ho (Region.noSelect_spec hs) (by simpa using h3) is.length listed _ (Region.free_spec ho h2) (by simpa using h1) hy hK
theorem DW.pre {fuel : Nat} {listed fin : Array Bool} {K : Fr → World → Prop} {w : World} (is : List Nat) (hC : C w) (hs : Region.noSelect ops = true) (hB : zQI ops fin listed is = true)
    (h : QW P N ops C (fun F => ∀ w, C w → DW P N ops fuel fin K F w) is F) : DW P N ops (is.length + fuel) listed K F w := by
  intro T Q hT hF hp hQ
  refine zMZ (C := C) ?_ is.length listed _ w hC (zL3 hs is listed T F hT hF hB h)
  rintro ⟨tm, df⟩ w' hw' ⟨g1, g2, g3⟩
  simp only at g1
  subst g1
  exact g3 w' hw' tm Q g2 rfl hp hQ
end
def zBh {ρ σ β : Type} (o : Outc ρ σ) (kr : ρ → Option β) (kn : σ → Option β) : Option β := match o with | .ret r => kr r | .nxt s => kn s
section
variable {P : Program} {N : Nat} {R K : Fr → World → Prop} {X : Nat → Fr → World → Prop} {F : Fr} {w : World}
theorem zAl {id : Nat} {l : List Oper} (h : OW P N l.toArray l K F w) : CW P N (.region id l.toArray false) R X K F w := zP4 (by simpa using h)
theorem zAn {β : Type} {c : Operand} {a b : Code} {t : Bool} {A B : Option β} {r : β} (hc : ev F c = .bool t) (hm : ifB t A B = some r) (ha : t = true → A = some r → CW P N a R X K F w) (hb : t = false → B = some r → CW P N b R X K F w) : CW P N (.cond c a b) R X K F w := by
  cases t with
  | true => exact zMP hc (fun h => ha h hm) (fun h => by cases h)
  | false => exact zMP hc (fun h => by cases h) (fun h => hb h hm)
theorem zTv {c : Operand} {a b : Code} {t : Bool} (hc : ev F c = .bool t) (ht : t = true) (h : CW P N a R X K F w) : CW P N (.cond c a b) R X K F w := by subst ht; exact zNL hc h
theorem zOj {c : Operand} {a b : Code} {t : Bool} (hc : ev F c = .bool t) (ht : t = false) (h : CW P N b R X K F w) : CW P N (.cond c a b) R X K F w := by subst ht; exact zNn hc h
theorem zAH {β : Type} {t : Bool} {A B : Option β} {r : β} {G : Prop} (hm : ifB t A B = some r) (ha : t = true → A = some r → G) (hb : t = false → B = some r → G) : G := by
  cases t with
  | true => exact ha rfl hm
  | false => exact hb rfl hm
theorem zAM {σ : Type} {a b : Code} (J : σ → Fr → World → Prop) (kont : σ → Prop) (h1 : CW P N a R X (fun F w => ∃ s, kont s ∧ J s F w) F w) (h2 : ∀ s F w, J s F w → kont s → CW P N b R X K F w) : CW P N (.seq a b) R X K F w :=
  zAF (CW.mono h1 (fun _ _ h => h) (fun _ _ _ h => h) (fun F w ⟨s, hk, hJ⟩ => h2 s F w hJ hk))
def XJ (id : Nat) (K : Fr → World → Prop) (X : Nat → Fr → World → Prop) : Nat → Fr → World → Prop := fun k => bif Nat.beq k id then K else X k
theorem zBG {σ : Type} {id : Nat} {c : Code} (J : σ → Fr → World → Prop) (kont : σ → Prop) (h1 : CW P N c R (XJ id (fun F w => ∃ s, kont s ∧ J s F w) X) (fun F w => ∃ s, kont s ∧ J s F w) F w) (h2 : ∀ s F w, J s F w → kont s → K F w) : CW P N (.block id c) R X K F w := by
  refine CW.block (CW.mono h1 (fun _ _ h => h) (fun i F w h => ?_) (fun F w ⟨s, hk, hJ⟩ => h2 s F w hJ hk))
  unfold XJ at h
  unfold XX
  cases hb : Nat.beq i id with
  | true => rw [hb] at h; obtain ⟨s, hk, hJ⟩ := h; exact h2 s F w hJ hk
  | false => rw [hb] at h; exact h
theorem zAU {ρ σ : Type} {id : Nat} {c : Code} {body : σ → Option (Stp ρ σ)} {s0 : σ} {o : Outc ρ σ} (J : σ → Fr → World → Prop) (kont : Outc ρ σ → Prop) (ho : zAO body s0 = some o) (hk : kont o) (h0 : J s0 F w)
    (after : ∀ s F w, J s F w → kont (.nxt s) → K F w)
    (round : ∀ s F w t, J s F w → body s = some t → (∀ r, t = .ret r → kont (.ret r)) → CW P N c R (XJ id (fun F' w' => ∃ s', t = .brk s' ∧ J s' F' w') X) (fun F' w' => ∃ s', t = .cont s' ∧ J s' F' w') F w) :
    CW P N (.block id (.loop c)) R X K F w := by
  refine CW.block (zQF J kont ho hk h0 ?_)
  intro s F w t hJ hb hr hn
  refine CW.mono (round s F w t hJ hb hr) (fun _ _ h => h) (fun i F w h => ?_) (fun _ _ h => h)
  unfold XJ at h
  unfold XX
  cases hi : Nat.beq i id with
  | true => rw [hi] at h; obtain ⟨s', hs, hJ'⟩ := h; exact after s' F w hJ' (hn s' hs)
  | false => rw [hi] at h; exact h
theorem zBk {id : Nat} {K : Fr → World → Prop} (h : K F w) : XJ id K X id F w := by unfold XJ; simpa using h
theorem zS9 {id : Nat} {K : Fr → World → Prop} (h : K F w) : XX id K X id F w := by unfold XX; simpa using h
end
def zAL (P : Program) (f : FuncId) : Prop := ∃ fn c, P.funcs[f]? = some fn ∧ fn.body = some c ∧ (fn.name == "runtime.NumGoroutine") = false
def EvL (F : Fr) : List Operand → List Value → Prop
  | [], [] => True
  | a :: as, v :: vs => ev F a = v ∧ EvL F as vs
  | _, _ => False
theorem EvL.map {F : Fr} : ∀ {as : List Operand} {vs : List Value}, EvL F as vs → as.map (ev F) = vs
  | [], [], _ => rfl
  | a :: as, v :: vs, h => by rw [List.map_cons, h.1, EvL.map h.2]
  | [], _ :: _, h => h.elim
  | _ :: _, [], h => h.elim
theorem zAq {P : Program} {F : Fr} {w : World} {ty : TypeId} {f : FuncId} {as : List Operand} {ts : Array TypeId} {vs : List Value} (hf : zAL P f) (ha : EvL F as vs) :
    XC P F (.call { callee := .value (.func f), args := as.toArray, argTypes := ts }) ty w f vs.toArray := by
  obtain ⟨fn, c, h1, h2, h3⟩ := hf
  exact zSc h1 h2 h3 (by rw [List.map_toArray, ha.map])
theorem zPB {P : Program} {F : Fr} {w : World} {ty : TypeId} {f : FuncId} {x : Operand} {as : List Operand} {ts : Array TypeId} {vs cap : List Value} (hf : zAL P f) (hx : ev F x = .func (.func f) #[] cap.toArray) (ha : EvL F as vs) :
    XC P F (.call { callee := .value x, args := as.toArray, argTypes := ts }) ty w f (vs ++ cap).toArray := by
  obtain ⟨fn, c, h1, h2, h3⟩ := hf
  intro d pos aft g
  have hn2 : fn.name ≠ "runtime.NumGoroutine" := by simpa using h3
  have := ha.map
  simp [execOp, resolve, hx, Deferred.ofValue, invoke, callFunc, h1, h2, hn2, this]
theorem zSg {P : Program} {F : Fr} {w : World} {ty : TypeId} {x y z : Operand} {b : Bool} (hx : ev F x = .bool b) (hb : b = true) : XV P F (.pick x y z) ty w (ev F y) w := by subst hb; exact zQE hx
theorem zSh {P : Program} {F : Fr} {w : World} {ty : TypeId} {x y z : Operand} {b : Bool} (hx : ev F x = .bool b) (hb : b = false) : XV P F (.pick x y z) ty w (ev F z) w := by subst hb; exact zQE hx
section
variable {P : Program} {N : Nat} {ops : Array Oper} {K : Fr → World → Prop} {F : Fr} {w : World} {d : Nat} {op : Op} {ty : TypeId} {pos : String} {aft : Array Edge}
theorem zAj {dst : Option Nat} {j dj : Nat} {b c : Bool} (hj : (ops[j]?).bind (·.dst) = some dj) (hF : F dj = .bool c) (hc : c = b)
    (h : OP P N ops ⟨dst, op, ty, pos, aft, none⟩ K F w) : OP P N ops ⟨dst, op, ty, pos, aft, some (j, b)⟩ K F w := by subst hc; exact zS7 hj hF h
theorem zAh {d j dj : Nat} {b c : Bool} (hj : (ops[j]?).bind (·.dst) = some dj) (hF : F dj = .bool c) (hc : c = !b) (hd : Nat.blt d N = true)
    (h : K (upd F d undef) w) : OP P N ops ⟨some d, op, ty, pos, aft, some (j, b)⟩ K F w := zTt hj hF (by subst hc; cases b <;> rfl) hd h
theorem zAB {C : World → Prop} {K : Fr → Prop} {dst : Option Nat} {j dj : Nat} {b c : Bool} (hj : (ops[j]?).bind (·.dst) = some dj) (hF : F dj = .bool c) (hc : c = b)
    (h : QP P N ops C ⟨dst, op, ty, pos, aft, none⟩ K F) : QP P N ops C ⟨dst, op, ty, pos, aft, some (j, b)⟩ K F := by subst hc; exact zS8 hj hF h
theorem zAK {C : World → Prop} {K : Fr → Prop} {d j dj : Nat} {b c : Bool} (hj : (ops[j]?).bind (·.dst) = some dj) (hF : F dj = .bool c) (hc : c = !b) (hd : Nat.blt d N = true)
    (h : K (upd F d undef)) : QP P N ops C ⟨some d, op, ty, pos, aft, some (j, b)⟩ K F := zTu hj hF (by subst hc; cases b <;> rfl) hd h
end
structure Fresh (w w' : World) (Γ : List Ent) : Prop where
  mod : Mod zBO w w'
  all : ∀ e ∈ Γ, e.H w' ∧ ∀ k, e.S k → w.heap.size ≤ k
  pw : Γ.Pairwise fun a b => ∀ k, a.S k → b.S k → False
theorem Fresh.nil {w w' : World} (h : Mod zBO w w') : Fresh w w' [] := ⟨h, by simp, by simp⟩
theorem Hp.pushAll {w0 w w' : World} {Γ Γr : List Ent} (h : Hp w0 Γ w) (hf : Fresh w w' Γr) : Hp w0 (Γr ++ Γ) w' := by
  have h' := h.call hf.mod
  refine ⟨h'.same, fun e he => ?_, List.pairwise_append.2 ⟨hf.pw, h.pw, fun a ha b hb k hk hk' => ?_⟩⟩
  · rcases List.mem_append.1 he with he | he
    · exact (hf.all e he).1
    · exact h'.all e he
  · have h1 := (hf.all a ha).2 k hk
    have h2 := b.lt (h.all b hb) hk'
    omega
theorem Hp.disj {w0 w : World} {Γ : List Ent} (h : Hp w0 Γ w) {i j : Nat} (hij : i ≠ j) {a b : Ent} (hi : Γ[i]? = some a) (hj : Γ[j]? = some b) : ∀ k, a.S k → b.S k → False := by
  obtain ⟨hi1, hi2⟩ := List.getElem?_eq_some_iff.1 hi
  obtain ⟨hj1, hj2⟩ := List.getElem?_eq_some_iff.1 hj
  subst hi2; subst hj2
  have hp := List.pairwise_iff_getElem.1 h.pw
  rcases Nat.lt_or_gt_of_ne hij with hlt | hlt
  · exact hp i j hi1 hj1 hlt
  · intro k hk hk'; exact hp j i hj1 hi1 hlt k hk' hk
theorem zM0 {Γ : List Ent} : ∀ {is : List Nat} {l : List Ent}, is.mapM (fun i => Γ[i]?) = some l → ∀ b ∈ l, ∃ j ∈ is, Γ[j]? = some b
  | [], l, h, b, hb => by simp at h; subst h; cases hb
  | i :: is, l, h, b, hb => by
    simp only [List.mapM_cons] at h
    cases hi : Γ[i]? with
    | none => rw [hi] at h; cases h
    | some c =>
      rw [hi] at h
      cases ht : is.mapM (fun i => Γ[i]?) with
      | none => rw [ht] at h; cases h
      | some l' =>
        rw [ht] at h
        injection h with h
        subst h
        rcases List.mem_cons.1 hb with rfl | hb
        · exact ⟨i, List.mem_cons_self, hi⟩
        · obtain ⟨j, h1, h2⟩ := zM0 ht b hb
          exact ⟨j, List.mem_cons_of_mem _ h1, h2⟩
theorem zPC {w0 w : World} {Γ : List Ent} (h : Hp w0 Γ w) : ∀ {is : List Nat} {l : List Ent}, is.Nodup → is.mapM (fun i => Γ[i]?) = some l → l.Pairwise fun a b => ∀ k, a.S k → b.S k → False
  | [], l, _, h => by simp at h; subst h; exact List.Pairwise.nil
  | i :: is, l, hn, hm => by
    simp only [List.mapM_cons] at hm
    cases hi : Γ[i]? with
    | none => rw [hi] at hm; cases hm
    | some c =>
      rw [hi] at hm
      cases ht : is.mapM (fun i => Γ[i]?) with
      | none => rw [ht] at hm; cases hm
      | some l' =>
        rw [ht] at hm
        injection hm with hm
        subst hm
        have hn' := List.nodup_cons.1 hn
        refine List.pairwise_cons.2 ⟨fun b hb => ?_, zPC h hn'.2 ht⟩
        obtain ⟨j, hj1, hj2⟩ := zM0 ht b hb
        refine h.disj (fun e => ?_) hi hj2
        subst e
        exact hn'.1 hj1
theorem Hp.sel {w0 w : World} {Γ Γ' : List Ent} (h : Hp w0 Γ w) (is : List Nat) (hn : is.Nodup) (hΓ : is.mapM (fun i => Γ[i]?) = some Γ') : Hp w0 Γ' w :=
  ⟨h.same, fun e he => by obtain ⟨j, _, hj⟩ := zM0 hΓ e he; exact h.get j hj, zPC h hn hΓ⟩
theorem Hp.fresh {w0 w : World} {Γ Γr : List Ent} (h : Hp w0 Γ w) (s : Nat) (hs : Γ[s]? = some (zAg w0 w0.heap.size)) (is : List Nat) (hn : is.Nodup) (hns : s ∉ is) (hΓ : is.mapM (fun i => Γ[i]?) = some Γr) : Fresh w0 w Γr := by
  have h1 := h.sel is hn hΓ
  have h2 := h.sel (s :: is) (List.nodup_cons.2 ⟨hns, hn⟩) (Γ' := zAg w0 w0.heap.size :: Γr) (by simp [List.mapM_cons, hs, hΓ])
  refine ⟨h.below s hs, fun e he => ⟨h1.all e he, fun k hk => ?_⟩, h1.pw⟩
  have h3 := (List.pairwise_cons.1 h2.pw).1 e he k
  rcases Nat.lt_or_ge k w0.heap.size with hlt | hge
  · exact (h3 hlt hk).elim
  · exact hge
section
variable {α : Type} [GoT α] {w0 w w' w1 : World} {Γ : List Ent} {v : Value} {xs : List α}
theorem Hp.rdS {B : Nat} (h : Hp w0 Γ w) (i : Nat) (hi : Γ[i]? = some (zAg w1 B)) (hr : rdL (· < B) w1 v xs) : rdL (· < w.heap.size) w v xs :=
  (h.rdAt i hi hr).mono fun _ hk => (zAg w1 B).lt (h.get i hi) hk
theorem Hp.rdO {E : TypeId} {S : Nat → Prop} (h : Hp w0 Γ w) (i : Nat) (hi : Γ[i]? = some (Ent.own E S v xs)) : rdL (· < w.heap.size) w v xs :=
  ((h.get i hi).1.rdL).mono fun k hk => (h.get i hi).2 k hk
theorem zPD {S : Nat → Prop} : rdL S w (.slice none 0 0) ([] : List α) := ⟨none, 0, rfl, Nat.le_refl _, Nat.zero_le _, fun h => absurd h (by simp)⟩
theorem zOk {E : TypeId} : ownL E zBO w (.slice none 0 0) ([] : List α) := ⟨none, 0, rfl, Nat.le_refl _, Nat.zero_le _, .inl ⟨rfl, rfl⟩⟩
theorem Hp.pushNil (α : Type) [GoT α] (E : TypeId) (h : Hp w0 Γ w) : Hp w0 (Ent.own E zBO (.slice none 0 0) ([] : List α) :: Γ) w :=
  h.push (Mod.refl _ _) ⟨zOk, fun _ h => h.elim⟩ (fun _ h => h.elim)
theorem Mod.cell {a : Addr} {u : Value} (h : Mod zBO w w') (hc : w.cell? a = some u) : w'.cell? a = some u := by
  have hlt : a.block < w.heap.size := by
    rcases Nat.lt_or_ge a.block w.heap.size with h' | h'
    · exact h'
    · simp [World.cell?, Array.getElem?_eq_none h'] at hc
  rw [← hc]
  have := h.blk a.block hlt (fun x => x)
  simp [World.cell?, this]
theorem Mod.cells {b q : Nat} {cs : List Value} (h : Mod zBO w w') (hc : ∀ j u, cs[j]? = some u → w.cell? ⟨b, q + j, none⟩ = some u) : ∀ j u, cs[j]? = some u → w'.cell? ⟨b, q + j, none⟩ = some u := fun j u hj => h.cell (hc j u hj)
theorem Hp.cellB {b : Nat} {E : TypeId} {cs : Array Value} (h : Hp w0 Γ w) (i : Nat) (hi : Γ[i]? = some (Ent.blk b E cs)) {o : Nat} {u : Value} (hu : cs[o]? = some u) : w.cell? ⟨b, o, none⟩ = some u := by
  rw [zJW (h.get i hi)]; exact hu
theorem Hp.cellsB {b : Nat} {E : TypeId} {cs : Array Value} (h : Hp w0 Γ w) (i : Nat) (hi : Γ[i]? = some (Ent.blk b E cs)) {o : Nat} {l : List Value} (hu : ∀ j u, l[j]? = some u → cs[o + j]? = some u) : ∀ j u, l[j]? = some u → w.cell? ⟨b, o + j, none⟩ = some u := fun j u hj => by
  rw [zJW (h.get i hi)]; exact hu j u hj
end
section
variable {P : Program} {N : Nat} {ops : Array Oper} {K : Fr → World → Prop} {F : Fr} {w0 w : World} {Γ : List Ent} {d : Nat} {ty t e : TypeId} {pos : String} {aft : Array Edge} {x y : Operand} {sz by_ : Nat} {zv : Value}
theorem zBb {cs : Array Value} (hL : Hp w0 Γ w) (hi : TyI P e sz by_ zv) (hz : zv.cells = cs) (hd : Nat.blt d N = true) (h : ∀ w' b, Hp w0 (Ent.blk b e cs :: Γ) w' → K (upd F d (.pointer (some ⟨b, 0, none⟩))) w') :
    OP P N ops ⟨some d, .alloc e, ty, pos, aft, none⟩ K F w := by
  subst hz
  exact zAk hd (zSd hi) (h _ _ (hL.push (Mod.alloc _ _) zMQ (fun k hk => by have : k = w.heap.size := hk; omega)))
theorem zC3 {v : Value} {cs : Array Value} (hL : Hp w0 Γ w) (hx : ev F x = v) (hz : v.cells = cs) (hd : Nat.blt d N = true) (h : ∀ w' b, Hp w0 (Ent.blk b e cs :: Γ) w' → K (upd F d (.pointer (some ⟨b, 0, none⟩))) w') :
    OP P N ops ⟨some d, .box e x, ty, pos, aft, none⟩ K F w := by
  subst hz
  exact zAk hd (zTr hx) (h _ _ (hL.push (Mod.alloc _ _) zMQ (fun k hk => by have : k = w.heap.size := hk; omega)))
theorem zEt {b o : Nat} {v : Value} {cs cs' : Array Value} {E : TypeId} (hL : Hp w0 Γ w) (i : Nat) (hi : Γ[i]? = some (Ent.blk b E cs)) (ht : TyI P t 1 by_ zv) (hx : ev F x = .pointer (some ⟨b, o, none⟩)) (hv : v.oneCell' = true) (hy : ev F y = v)
    (ho : Nat.blt o cs.size = true) (hcs : cs.setIfInBounds o v = cs') (h : ∀ w', Hp w0 (Γ.set i (Ent.blk b E cs')) w' → K F w') : OP P N ops ⟨none, .store t x y, ty, pos, aft, none⟩ K F w := by
  subst hcs
  have hb : w.heap[b]? = some (.cells cs E (0, 0)) := hL.get i hi
  exact zMR (zOf ht hx hv hy hb (by simpa using ho)) (h _ (hL.upd i hi (Mod.setCell w ⟨b, o, none⟩ v) (fun k _ hk => hk) (zPA hb) (fun k hk => .inl hk)))
theorem zA9 {b o : Nat} {l : List Value} {cs cs' : Array Value} {E : TypeId} (hL : Hp w0 Γ w) (i : Nat) (hi : Γ[i]? = some (Ent.blk b E cs)) (ht : TyI P t sz by_ zv) (hx : ev F x = .pointer (some ⟨b, o, none⟩)) (hl : l.length = sz) (h1 : ∀ u ∈ l, u.oneCell' = true) (hy : ev F y = .agg l.toArray)
    (ho : o + sz ≤ cs.size) (hcs : (cs.toList.take o ++ l ++ cs.toList.drop (o + l.length)).toArray = cs') (h : ∀ w', Hp w0 (Γ.set i (Ent.blk b E cs')) w' → K F w') : OP P N ops ⟨none, .store t x y, ty, pos, aft, none⟩ K F w := by
  subst hcs
  have hb : w.heap[b]? = some (.cells cs E (0, 0)) := hL.get i hi
  exact zMR (zOg ht hl h1 hx hy hb ho) (h _ (hL.upd i hi Mod.setRow (fun k _ hk => hk) (setRow_heap w b cs _ E _ hb) (fun k hk => .inl hk)))
theorem zBS {α : Type} [Flat α] (xs : List α) {n : Nat} {ps : Array (Nat × Operand)} {cells : Array Value} (hL : Hp w0 Γ w) (ht : P.underlying t = some (.slice e)) (hi : TyI P e (Flat.sz α) by_ zv) (hn : xs.length = n) (hsm : n * Flat.sz α ≤ 16777216)
    (hfill : Instr.fill (fun i => some (i * Flat.sz α, Flat.sz α)) (madeCells (if n * Flat.sz α = 0 then #[] else zv.cells) (n * Flat.sz α)) (ps.map fun (i, x) => (i, ev F x)).toList = some cells)
    (hcs : cells = (xs.flatMap Flat.enc).toArray) (hd : Nat.blt d N = true) (h : ∀ w' v S, Hp w0 (Ent.own e S v xs :: Γ) w' → K (upd F d v) w') : OP P N ops ⟨some d, .buildSlice t n ps, ty, pos, aft, none⟩ K F w := by
  obtain ⟨h1, h2⟩ := zTs (P := P) (F := F) (w := w) (ty := ty) ht hi hn hsm hfill hcs
  exact zAk hd h1 (h _ _ (· = w.heap.size) (hL.push (Mod.alloc _ _) ⟨h2, fun k hk => by have : k = w.heap.size := hk; simp; omega⟩ (fun k hk => by have : k = w.heap.size := hk; omega)))
theorem zKS {α : Type} [Flat α] {n : Int} {k1 k2 : IntKind} (z0 : α) (hL : Hp w0 Γ w) (ht : P.underlying t = some (.slice e)) (hi : TyI P e (Flat.sz α) by_ zv) (hx : ev F x = .int k1 n) (hy : ev F y = .int k2 n) (hz : zv.cells = (Flat.enc z0).toArray)
    (hn : 0 ≤ n ∧ n < 1099511627776) (hb : by_ ≤ 256) (hd : Nat.blt d N = true) (h : ∀ w' v S, Hp w0 (Ent.own e S v (List.replicate n.toNat z0) :: Γ) w' → K (upd F d v) w') : OP P N ops ⟨some d, .makeSlice t x y, ty, pos, aft, none⟩ K F w := by
  have hbb : by_ * n.toNat ≤ 256 * 1099511627776 := Nat.mul_le_mul hb (by omega)
  obtain ⟨w', h1, h2, h3, h4⟩ := zS6 (P := P) (F := F) (w := w) (ty := ty) (z0 := z0) ht hi hx hy hz hn.1 (by omega) (by omega)
  exact zAk hd h1 (h _ _ (· = w.heap.size) (hL.push h3 ⟨h2, fun k hk => by have : k = w.heap.size := hk; omega⟩ (fun k hk => by have : k = w.heap.size := hk; omega)))
theorem zCA {α : Type} [Flat α] {S S' : Nat → Prop} {v v2 : Value} {xs ys : List α} (hL : Hp w0 Γ w) (i : Nat) (hi : Γ[i]? = some (Ent.own e S v xs)) (ht : P.underlying t = some (.slice e)) (hti : TyI P e (Flat.sz α) by_ zv) (hzv : zv.cells.size = Flat.sz α)
    (hx : ev F x = v) (hy : ev F y = v2) (h2 : rdL S' w v2 ys) (hn : xs.length + ys.length < 1099511627776) (hb : by_ ≤ 64) (hd : Nat.blt d N = true)
    (h : ∀ w' v' S'', Hp w0 (Γ.set i (Ent.own e S'' v' (xs ++ ys))) w' → K (upd F d v') w') : OP P N ops ⟨some d, .call { callee := .builtin .append, args := #[x, y], argTypes := #[t, t] }, ty, pos, aft, none⟩ K F w := by
  have hown := hL.get i hi
  have hbb : (xs.length + ys.length) * by_ ≤ 1099511627776 * 64 := Nat.mul_le_mul (by omega) hb
  obtain ⟨v', w', S'', h3, h4, h5, h6, h7⟩ := zOh (P := P) (F := F) (ty := ty) ht hti hzv hx hy hown.1 h2 (by omega) (by omega)
  exact zAk hd h3 (h w' v' S'' (hL.upd i hi h7 (fun k _ hk => hk) ⟨h4, h6⟩ (fun k hk => (h5 k hk).imp (fun g => g.1) id)))
theorem zQJ {α : Type} [Flat α] {S : Nat → Prop} {v u : Value} {xs : List α} {k : Nat} {a a' : α} {j b o : Nat} {arr : Array Value} {E : TypeId} (hL : Hp w0 Γ w) (i : Nat) (hi : Γ[i]? = some (Ent.own E S v xs)) (ht : TyI P t 1 by_ zv)
    (hx : ev F x = .pointer (some ⟨b, o, none⟩)) (ho : o = k * Flat.sz α + j) (hu : u.oneCell' = true) (hy : ev F y = u) (hv : ∃ A cap, v = .slice A xs.length cap ∧ A = some ⟨b, 0, none⟩) (hh : w.heap[b]? = some (.cells arr E (0, 0))) (hsz : k * Flat.sz α + Flat.sz α ≤ arr.size) (hS : S b) (ha : xs[k]? = some a)
    (hj : Nat.blt j (Flat.sz α) = true) (he : Flat.enc a' = (Flat.enc a).set j u) (h : ∀ w', Hp w0 (Γ.set i (Ent.own E S v (xs.set k a'))) w' → K F w') : OP P N ops ⟨none, .store t x y, ty, pos, aft, none⟩ K F w := by
  subst ho
  have hown := hL.get i hi
  have hj' : j < Flat.sz α := by simpa using hj
  refine zMR (zOf ht hx hu hy hh (by omega)) (h _ (hL.upd i hi (Mod.setCell w _ u) (fun k' _ hk => by have : k' = b := hk; rw [this]; exact hS) ⟨zP5 hown.1 hv hh ha hj' he, fun k' hk => ?_⟩ (fun k' hk => .inl hk)))
  have := hown.2 k' hk
  simpa [World.setCell] using this
theorem zQK {α : Type} [Flat α] {S : Nat → Prop} {v : Value} {xs : List α} {k : Nat} {a : α} (a' : α) {b : Nat} {arr : Array Value} {E : TypeId} {l : List Value} (hL : Hp w0 Γ w) (i : Nat) (hi : Γ[i]? = some (Ent.own E S v xs)) (ht : TyI P t (Flat.sz α) by_ zv)
    (hx : ev F x = .pointer (some ⟨b, k * Flat.sz α, none⟩)) (hl : Flat.enc a' = l) (hy : ev F y = .agg l.toArray) (hv : ∃ A cap, v = .slice A xs.length cap ∧ A = some ⟨b, 0, none⟩) (hh : w.heap[b]? = some (.cells arr E (0, 0))) (hsz : k * Flat.sz α + Flat.sz α ≤ arr.size) (hS : S b) (ha : xs[k]? = some a)
    (h : ∀ w', Hp w0 (Γ.set i (Ent.own E S v (xs.set k a'))) w' → K F w') : OP P N ops ⟨none, .store t x y, ty, pos, aft, none⟩ K F w := by
  subst hl
  have hown := hL.get i hi
  refine zMR (zOg ht (Flat.len a') (Flat.one a') hx hy hh hsz) (h _ (hL.upd i hi Mod.setRow (fun k' _ hk => by have : k' = b := hk; rw [this]; exact hS) ⟨zO3 hown.1 hv hh ha, fun k' hk => ?_⟩ (fun k' hk => .inl hk)))
  have := hown.2 k' hk
  simpa using this
end
def IxAddr (v : Value) (sz : Nat) (i : Int) (b q : Nat) : Prop := ∃ o n cap, v = .slice (some ⟨b, o, none⟩) n cap ∧ 0 ≤ i ∧ i < (n : Int) ∧ q = o + i.toNat * sz
section
variable {P : Program} {N : Nat} {ops : Array Oper} {K : Fr → World → Prop} {F : Fr} {w0 w : World} {Γ : List Ent} {d : Nat} {ty t e : TypeId} {pos : String} {aft : Array Edge} {x y : Operand} {sz by_ : Nat} {zv : Value}
theorem zA1 {v : Value} {k : IntKind} {i : Int} {b q : Nat} (ht : P.underlying t = some (.slice e)) (hi : TyI P e sz by_ zv) (hx : ev F x = v) (hy : ev F y = .int k i) (h : IxAddr v sz i b q) :
    XV P F (.indexAddr t x y) ty w (.pointer (some ⟨b, q, none⟩)) w := by
  obtain ⟨o, n, cap, rfl, h0, h1, rfl⟩ := h
  intro dd pos aft g
  simp [execOp, hx, hy, Instr.indexAt, asIntOf, run_underlying ht, h0, h1, zFY hi, zMY]
theorem zAC {α : Type} [GoT α] {S : Nat → Prop} {v : Value} {xs : List α} {i : Int} {a : α} (h : rdL S w v xs) (h0 : 0 ≤ i) (ha : xs[i.toNat]? = some a) : ∃ b q, IxAddr v (GoT.sz α) i b q := by
  obtain ⟨A, cap, rfl, h1, h2, h3⟩ := h
  have hlt : i.toNat < xs.length := (List.getElem?_eq_some_iff.1 ha).1
  obtain ⟨b, o, rfl, hb, hr⟩ := h3 (by omega)
  exact ⟨b, _, o, xs.length, cap, rfl, h0, by omega, rfl⟩
theorem zAv {α : Type} [Flat α] {S : Nat → Prop} {v : Value} {xs : List α} {i : Int} {a : α} {b q : Nat} (h : rdL S w v xs) (hx : IxAddr v (Flat.sz α) i b q) (ha : xs[i.toNat]? = some a) : ∀ j u, (Flat.enc a)[j]? = some u → w.cell? ⟨b, q + j, none⟩ = some u := by
  obtain ⟨A, cap, rfl, h1, h2, h3⟩ := h
  have hlt : i.toNat < xs.length := (List.getElem?_eq_some_iff.1 ha).1
  obtain ⟨b', o', rfl, hb, hr⟩ := h3 (by omega)
  obtain ⟨o, n, cap', he, h0, h4, rfl⟩ := hx
  injection he with he _ _
  injection he with he
  injection he with he1 he2
  subst he1 he2
  obtain ⟨cs, hc, hcell⟩ := hr _ a ha
  have hc' : cs = Flat.enc a := hc
  subst hc'
  intro j u hj
  rw [Nat.add_assoc]
  exact hcell j u hj
theorem zBV {α : Type} [Flat α] {S : Nat → Prop} {v u : Value} {xs : List α} {k : Int} {a : α} (a' : α) {j b q o : Nat} {E : TypeId} (hL : Hp w0 Γ w) (i : Nat) (hi : Γ[i]? = some (Ent.own E S v xs)) (ht : TyI P t 1 by_ zv)
    (hix : IxAddr v (Flat.sz α) k b q) (ha : xs[k.toNat]? = some a) (hx : ev F x = .pointer (some ⟨b, o, none⟩)) (ho : o = q + j) (hu : u.oneCell' = true) (hy : ev F y = u)
    (hj : Nat.blt j (Flat.sz α) = true) (he : Flat.enc a' = (Flat.enc a).set j u) (h : ∀ w', Hp w0 (Γ.set i (Ent.own E S v (xs.set k.toNat a'))) w' → K F w') : OP P N ops ⟨none, .store t x y, ty, pos, aft, none⟩ K F w := by
  obtain ⟨o', n, cap, rfl, h0, h1, rfl⟩ := hix
  have hown := hL.get i hi
  rcases zKR hown.1 with ⟨e1, _⟩ | ⟨b', arr, cap', e1, g1, g2, hb, hh, hs, hc⟩
  · cases e1
  · injection e1 with e2 e3 e4
    injection e2 with e2
    injection e2 with e5 e6
    subst e5 e6 e3 e4
    have hlt : k.toNat < xs.length := (List.getElem?_eq_some_iff.1 ha).1
    have hsz : k.toNat * Flat.sz α + Flat.sz α ≤ arr.size := by
      rw [hs]
      calc k.toNat * Flat.sz α + Flat.sz α = (k.toNat + 1) * Flat.sz α := by rw [Nat.add_mul, Nat.one_mul]
        _ ≤ cap * Flat.sz α := Nat.mul_le_mul_right _ (by omega)
    exact zQJ hL i hi ht hx (by rw [ho]; omega) hu hy ⟨_, _, rfl, rfl⟩ hh hsz hb ha hj he h
theorem zLf {α : Type} [Flat α] {S : Nat → Prop} {v : Value} {xs : List α} {k : Int} {a : α} (a' : α) {b q : Nat} {E : TypeId} {l : List Value} (hL : Hp w0 Γ w) (i : Nat) (hi : Γ[i]? = some (Ent.own E S v xs)) (ht : TyI P t (Flat.sz α) by_ zv)
    (hix : IxAddr v (Flat.sz α) k b q) (ha : xs[k.toNat]? = some a) (hx : ev F x = .pointer (some ⟨b, q, none⟩)) (hl : Flat.enc a' = l) (hy : ev F y = .agg l.toArray)
    (h : ∀ w', Hp w0 (Γ.set i (Ent.own E S v (xs.set k.toNat a'))) w' → K F w') : OP P N ops ⟨none, .store t x y, ty, pos, aft, none⟩ K F w := by
  obtain ⟨o', n, cap, rfl, h0, h1, rfl⟩ := hix
  have hown := hL.get i hi
  rcases zKR hown.1 with ⟨e1, _⟩ | ⟨b', arr, cap', e1, g1, g2, hb, hh, hs, hc⟩
  · cases e1
  · injection e1 with e2 e3 e4
    injection e2 with e2
    injection e2 with e5 e6
    subst e5 e6 e3 e4
    have hlt : k.toNat < xs.length := (List.getElem?_eq_some_iff.1 ha).1
    have hsz : k.toNat * Flat.sz α + Flat.sz α ≤ arr.size := by
      rw [hs]
      calc k.toNat * Flat.sz α + Flat.sz α = (k.toNat + 1) * Flat.sz α := by rw [Nat.add_mul, Nat.one_mul]
        _ ≤ cap * Flat.sz α := Nat.mul_le_mul_right _ (by omega)
    rw [Nat.zero_add] at hx
    exact zQK a' hL i hi ht hx hl hy ⟨_, _, rfl, rfl⟩ hh hsz hb ha h
end
section
variable {P : Program} {F : Fr} {w : World} {ty : TypeId} {x y z : Operand} {t e : TypeId}
theorem zAo {v : Value} (h : ev F x = v) : XV P F (.move x) ty w v w := by subst h; exact zAe
theorem zTw {v : Value} (h : ev F x = v) : XV P F (.assign x) ty w v w := by subst h; exact zAb
theorem zAz {b : Bool} {v : Value} (hx : ev F x = .bool b) (hb : b = true) (hv : ev F y = v) : XV P F (.pick x y z) ty w v w := by subst hv; exact zSg hx hb
theorem zAA {b : Bool} {v : Value} (hx : ev F x = .bool b) (hb : b = false) (hv : ev F z = v) : XV P F (.pick x y z) ty w v w := by subst hv; exact zSh hx hb
theorem zA3 {α : Type} [GoT α] {S : Nat → Prop} {v : Value} {xs : List α} (ht : P.underlying t = some (.slice e)) (hx : ev F x = v) (h : rdL S w v xs) :
    XV P F (.call { callee := .builtin .len, args := #[x], argTypes := #[t] }) ty w (.int .i64 xs.length) w := by
  obtain ⟨A, cap, rfl, _⟩ := h
  exact zST ht hx
end
structure Finish where
  Boat : Int
  Code : Int
  Time : Int
  deriving DecidableEq
structure Rating where
  Boat : Int
  Value : Int
  deriving DecidableEq
structure CurvePoint where
  Wind : Int
  Pace : Int
  deriving DecidableEq
structure Penalty where
  Race : Int
  Boat : Int
  Kind : Int
  Value : Int
  deriving DecidableEq
structure Redress where
  Race : Int
  Boat : Int
  Kind : Int
  Points : Int
  deriving DecidableEq
structure ProgressRules where
  Gain : Int
  Step : Int
  Low : Int
  High : Int
  deriving DecidableEq
structure Statement where
  Speaker : Int
  Fact : Int
  Says : Int
  deriving DecidableEq
structure Race where
  Finishes : List Finish
  deriving DecidableEq
structure Series where
  Boats : Int
  Scheme : Int
  Races : List Race
  deriving DecidableEq
structure Table where
  Boats : Int
  Points : List (List Int)
  Codes : List (List Int)
  deriving DecidableEq
structure Src where
  code : List UInt8
  at_ : Int
  seed : Int
  deriving DecidableEq
theorem zJK (l : List Int) : ∀ u ∈ l.map (Value.int .i64), u.oneCell' = true := by
  intro u hu
  obtain ⟨n, _, rfl⟩ := List.mem_map.1 hu
  rfl
instance : Flat Finish := ⟨3, by decide, fun x => [.int .i64 x.Boat, .int .i64 x.Code, .int .i64 x.Time], fun _ => rfl, fun x => zJK [x.Boat, x.Code, x.Time]⟩
instance : Flat Rating := ⟨2, by decide, fun x => [.int .i64 x.Boat, .int .i64 x.Value], fun _ => rfl, fun x => zJK [x.Boat, x.Value]⟩
instance : Flat CurvePoint := ⟨2, by decide, fun x => [.int .i64 x.Wind, .int .i64 x.Pace], fun _ => rfl, fun x => zJK [x.Wind, x.Pace]⟩
instance : Flat Penalty := ⟨4, by decide, fun x => [.int .i64 x.Race, .int .i64 x.Boat, .int .i64 x.Kind, .int .i64 x.Value], fun _ => rfl, fun x => zJK [x.Race, x.Boat, x.Kind, x.Value]⟩
instance : Flat Redress := ⟨4, by decide, fun x => [.int .i64 x.Race, .int .i64 x.Boat, .int .i64 x.Kind, .int .i64 x.Points], fun _ => rfl, fun x => zJK [x.Race, x.Boat, x.Kind, x.Points]⟩
instance : Flat ProgressRules := ⟨4, by decide, fun x => [.int .i64 x.Gain, .int .i64 x.Step, .int .i64 x.Low, .int .i64 x.High], fun _ => rfl, fun x => zJK [x.Gain, x.Step, x.Low, x.High]⟩
instance : Flat Statement := ⟨3, by decide, fun x => [.int .i64 x.Speaker, .int .i64 x.Fact, .int .i64 x.Says], fun _ => rfl, fun x => zJK [x.Speaker, x.Fact, x.Says]⟩
instance : GoT Race where
  sz := 1
  pos := by decide
  rd S w cs r := GoT.rd S w cs r.Finishes
  own S w cs r := GoT.own S w cs r.Finishes
  rd_len h := GoT.rd_len (α := List Finish) h
  rd_one h := GoT.rd_one (α := List Finish) h
  own_rd h := GoT.own_rd (α := List Finish) h
  rd_fr hf h := GoT.rd_fr (α := List Finish) hf h
  own_fr hf h := GoT.own_fr (α := List Finish) hf h
  rd_mono hf h := GoT.rd_mono (α := List Finish) hf h
  own_mono hf h := GoT.own_mono (α := List Finish) hf h
section
variable {P : Program} {N : Nat} {ops : Array Oper} {K : Fr → World → Prop} {F : Fr} {w : World} {d : Nat} {op : Op} {ty t u : TypeId} {pos : String} {aft : Array Edge} {x y : Operand}
theorem zKr {T : Array Value} {j dj : Nat} (hj : (ops[j]?).bind (·.dst) = some dj) (hF : zDb T dj = undef) : yielded ops T j = none := by
  unfold zDb at hF
  rw [Array.getD_eq_getD_getElem?] at hF
  cases h : T[dj]? with
  | none => simp [yielded, hj, h]
  | some v => rw [h] at hF; simp at hF; subst hF; simp [yielded, hj, h, undef]
theorem zHT {j dj : Nat} {b : Bool} (hj : (ops[j]?).bind (·.dst) = some dj) (hF : F dj = undef) (hd : Nat.blt d N = true)
    (h : K (upd F d undef) w) : OP P N ops ⟨some d, op, ty, pos, aft, some (j, b)⟩ K F w := by
  intro T Q L hT hFr hL
  have hw : ¬ Region.wanted ⟨some d, op, ty, pos, aft, some (j, b)⟩ (yielded ops T) = true := by
    simp only [Region.wanted]
    rw [zKr hj (by rw [hFr]; exact hF)]
    simp
  rw [if_neg hw]
  have hd' : d < T.size := by rw [hT]; simpa using hd
  exact hL _ _ rfl (by simp [Act.put, hT]) (by show K (zDb (T.setIfInBounds d undef)) w; rw [zFs _ _ _ hd', hFr]; exact h)
theorem zB6 {C : World → Prop} {K : Fr → Prop} {j dj : Nat} {b : Bool} (hj : (ops[j]?).bind (·.dst) = some dj) (hF : F dj = undef) (hd : Nat.blt d N = true)
    (h : K (upd F d undef)) : QP P N ops C ⟨some d, op, ty, pos, aft, some (j, b)⟩ K F := by
  intro T L hT hFr hL
  have hw : ¬ Region.wanted ⟨some d, op, ty, pos, aft, some (j, b)⟩ (yielded ops T) = true := by
    simp only [Region.wanted]
    rw [zKr hj (by rw [hFr]; exact hF)]
    simp
  rw [if_neg hw]
  have hd' : d < T.size := by rw [hT]; simpa using hd
  exact hL _ rfl (by simp [Act.put, hT]) (by show K (zDb (T.setIfInBounds d undef)); rw [zFs _ _ _ hd', hFr]; exact h)
end
class OkD (α : Type) where
  ok : α → Prop
def zIr (n : Int) : Prop := -9223372036854775808 ≤ n ∧ n ≤ 9223372036854775807
instance : OkD Int := ⟨zIr⟩
instance : OkD Bool := ⟨fun _ => True⟩
instance : OkD UInt8 := ⟨fun _ => True⟩
instance : OkD ByteArray := ⟨fun s => s.size ≤ maxLen⟩
instance (α : Type) [OkD α] : OkD (List α) := ⟨fun xs => xs.length ≤ maxLen ∧ ∀ x ∈ xs, OkD.ok x⟩
instance : OkD Finish := ⟨fun x => zIr x.Boat ∧ zIr x.Code ∧ zIr x.Time⟩
instance : OkD Rating := ⟨fun x => zIr x.Boat ∧ zIr x.Value⟩
instance : OkD CurvePoint := ⟨fun x => zIr x.Wind ∧ zIr x.Pace⟩
instance : OkD Penalty := ⟨fun x => zIr x.Race ∧ zIr x.Boat ∧ zIr x.Kind ∧ zIr x.Value⟩
instance : OkD Redress := ⟨fun x => zIr x.Race ∧ zIr x.Boat ∧ zIr x.Kind ∧ zIr x.Points⟩
instance : OkD ProgressRules := ⟨fun x => zIr x.Gain ∧ zIr x.Step ∧ zIr x.Low ∧ zIr x.High⟩
instance : OkD Race := ⟨fun x => OkD.ok x.Finishes⟩
instance : OkD Series := ⟨fun x => zIr x.Boats ∧ zIr x.Scheme ∧ OkD.ok x.Races⟩
instance : OkD Table := ⟨fun x => zIr x.Boats ∧ OkD.ok x.Points ∧ OkD.ok x.Codes⟩
def OpT (P : Program) (t : TypeId) (α : Type) [GoT α] [OkD α] : Prop :=
  ∀ {H : Type} {enc : TypeId × Value → H} {w : World} {base : Nat} {spare : Nat → Bool} {held : Bool} {fuel : Nat} {cs : List Value} {x : DataW H × List MemPlace},
    DataW.trod enc P w base spare held fuel t cs = some x → ∃ a : α, GoT.rd (· < w.heap.size) w cs a ∧ OkD.ok a
theorem zTx {P : Program} {t : TypeId} (ht : P.underlying t = some (.int .u8)) : OpT P t UInt8 := by
  intro H enc w base spare held fuel cs x h
  obtain ⟨n, rfl, _, hw⟩ := DataW.trod_int ht h
  simp [Lit.wf, IntKind.min, IntKind.max, IntKind.signed, IntKind.bits] at hw
  refine ⟨UInt8.ofNat n.toNat, ?_, trivial⟩
  show [Value.int .u8 n] = [Value.int .u8 ((UInt8.ofNat n.toNat).toNat : Int)]
  have h1 : (UInt8.ofNat n.toNat).toNat = n.toNat := by simp; omega
  rw [h1]
  have : ((n.toNat : Nat) : Int) = n := by omega
  rw [this]
theorem zSi {P : Program} {t e : TypeId} {α : Type} [GoT α] [OkD α] (ht : P.underlying t = some (.slice e)) (hc : P.cellsOf e = GoT.sz α) (he : OpT P e α) : OpT P t (List α) := by
  intro H enc w base spare held fuel cs x h
  rcases Go.Deep.open_slice ht h with ⟨rfl, _⟩ | ⟨a, len, cap, m, n, D, Pl, rfl, hb, hl, hm, hmm, _, hel⟩
  · exact ⟨[], ⟨_, rfl, none, 0, rfl, Nat.le_refl _, Nat.zero_le _, fun h => absurd h (by simp)⟩, Nat.zero_le _, fun x hx => by cases hx⟩
  · have hml : len ≤ m := by rw [hmm]; split <;> omega
    have hex : ∀ i, i < len → ∃ y : α, OkD.ok y ∧ ∃ cs', GoT.rd (· < w.heap.size) w cs' y ∧ ∀ j u, cs'[j]? = some u → w.cell? ((a.add (i * P.cellsOf e)).add j) = some u := by
      intro i hi
      obtain ⟨cs', hc1, hc2⟩ := hel i (by omega)
      obtain ⟨y, hy1, hy2⟩ := he hc2
      obtain ⟨_, hcl, hat⟩ := World.cells?_some hc1
      refine ⟨y, hy2, cs', hy1, fun j u hj => ?_⟩
      have hjl : j < P.cellsOf e := by rw [← hcl]; exact (List.getElem?_eq_some_iff.1 hj).1
      rw [hat j hjl]; exact hj
    -- the list
    have hlist : ∀ k, k ≤ len → ∃ ys : List α, ys.length = k ∧ (∀ y ∈ ys, OkD.ok y) ∧ ∀ i y, ys[i]? = some y → ∃ cs', GoT.rd (· < w.heap.size) w cs' y ∧ ∀ j u, cs'[j]? = some u → w.cell? ((a.add (i * P.cellsOf e)).add j) = some u := by
      intro k
      induction k with
      | zero => intro _; exact ⟨[], rfl, by simp, by simp⟩
      | succ k ih =>
        intro hk
        obtain ⟨ys, h1, h2, h3⟩ := ih (by omega)
        obtain ⟨y, hy1, hy2⟩ := hex k (by omega)
        refine ⟨ys ++ [y], by simp [h1], ?_, ?_⟩
        · intro z hz
          rcases List.mem_append.1 hz with hz | hz
          · exact h2 z hz
          · simp at hz; subst hz; exact hy1
        · intro i z hz
          rcases Nat.lt_or_ge i ys.length with hi | hi
          · rw [List.getElem?_append_left hi] at hz; exact h3 i z hz
          · rw [List.getElem?_append_right hi] at hz
            have : i - ys.length = 0 := by
              rcases Nat.eq_zero_or_pos (i - ys.length) with h0 | h0
              · exact h0
              · rw [List.getElem?_eq_none (by simp; omega)] at hz; cases hz
            rw [this] at hz
            simp at hz
            subst hz
            have : i = k := by omega
            subst this
            exact hy2
    obtain ⟨ys, h1, h2, h3⟩ := hlist len (Nat.le_refl _)
    refine ⟨ys, ⟨_, rfl, some a, cap, by rw [h1], by rw [h1]; exact hl, hm, fun hpos => ?_⟩, by rw [h1]; omega, h2⟩
    -- the address is a plain one: a cell is there
    have hy0 := List.getElem?_eq_getElem hpos
    obtain ⟨cs0, hr0, hc0⟩ := h3 0 _ hy0
    have hl0 := GoT.rd_len hr0
    have hp0 : 0 < cs0.length := by rw [hl0]; exact GoT.pos
    have hcell0 := hc0 0 _ (List.getElem?_eq_getElem hp0)
    have e0 : (a.add (0 * P.cellsOf e)).add 0 = a := by simp [Addr.add]
    rw [e0] at hcell0
    obtain ⟨b, o, sp⟩ := a
    have hsp : sp = none := World.cell?_spot hcell0
    subst hsp
    have hlt : b < w.heap.size := by
      rcases Nat.lt_or_ge b w.heap.size with h' | h'
      · exact h'
      · simp [World.cell?, Array.getElem?_eq_none h'] at hcell0
    refine ⟨b, o, rfl, hlt, fun i y hy => ?_⟩
    obtain ⟨cs', hr, hcc⟩ := h3 i y hy
    refine ⟨cs', hr, fun j u hj => ?_⟩
    have := hcc j u hj
    rw [zMY, zMY, hc, Nat.add_assoc] at this
    exact this
section
variable {P : Program} {t : TypeId} {fs : Array Field}
end
section
variable {H : Type} {enc : TypeId × Value → H} {P : Program} {w : World} {base b0 : Nat} {spare : Nat → Bool} {held : Bool} {t : TypeId} {v : Value} {d : DataW H} {p : List MemPlace} {r : Reach}
theorem zQL {e : TypeId} {α : Type} [GoT α] [OkD α] (ht : P.underlying t = some (.slice e)) (ho : OpT P t (List α)) (hv : Value.okWide P w r b0 t v) (h : DataW.Trod enc P w base spare held t v d p) :
    ∃ xs : List α, rdL (· < w.heap.size) w v xs ∧ OkD.ok xs := by
  obtain ⟨a, len, cap, rfl⟩ := okWide_slice ht hv
  obtain ⟨fuel, hf⟩ := h
  obtain ⟨xs, ⟨v', hv', hr⟩, hok⟩ := ho hf
  simp [Value.cells] at hv'
  subst hv'
  exact ⟨xs, hr, hok⟩
end
theorem zLv {H : Type} {enc : TypeId × Value → H} {P : Program} (hl : laidOutB P = true) {W W' : World} (hb : Below W.heap.size W W') : ∀ {ts : List TypeId} {vs : List Value} {ds : List (DataW H)} {p : List MemPlace},
    (∀ t ∈ ts, P.readableRec t = true ∧ t < P.types.size) → (∀ x ∈ p, x.block < W.heap.size) → DataW.TrodAll enc P W 0 (fun _ => true) true ts vs ds p → DataW.TrodAll enc P W' 0 (fun b => decide (b < W.heap.size)) true ts vs ds p
  | [], vs, ds, p, _, _, h => by obtain ⟨rfl, rfl, rfl⟩ := trodAll_nil h; exact trodAll_mk0
  | t :: ts, vs, ds, p, hr, hlt, h => by
    obtain ⟨v, vs', d, ds', p1, q1, rfl, rfl, rfl, h1, h2⟩ := trodAll_cons h
    exact trodAll_cons_mk (Below.trod hl (hr t (by simp)).1 (hr t (by simp)).2 h1 hb (fun x hx => hlt x (by simp [hx]))) (zLv hl hb (fun t ht => hr t (by simp [ht])) (fun x hx => hlt x (by simp [hx])) h2)
def zSU (P : Program) (ts : List TypeId) : Bool := ts.all fun t => P.readableRec t && Nat.blt t P.types.size
theorem zO8 {P : Program} {ts : List TypeId} (h : zSU P ts = true) : ∀ t ∈ ts, P.readableRec t = true ∧ t < P.types.size := by
  intro t ht
  have := List.all_eq_true.1 h t ht
  simp only [Bool.and_eq_true] at this
  exact ⟨this.1, by simpa using this.2⟩
theorem zQM {H : Type} {enc : TypeId × Value → H} {P : Program} {f : Func} {s : ChangeSpec} {W W' : World} {args : Array Value} {ds : List (DataW H)} {p : List MemPlace} {tb : TypeId}
    (hW : DataW.Whole enc P f.params.toList s.vars false W args.toList ds [] (p ++ [])) (hA : DataW.TrodAll enc P W 0 (fun _ => true) true f.params.toList args.toList ds p) (hv : s.vars = []) (hrt : f.resultTypes = #[tb]) (htb : P.underlying tb = some .bool)
    (hs : s.fn H (ds ++ []) = { results := [.lit (.bool true)], args := ds }) (hl : laidOutB P = true) (hr : zSU P f.params.toList = true) (hm : Mod zBO W W') :
    s.post enc P f false true false false W args (.bool true) W' := by
  have hb := hm.below
  refine ⟨_, _, _, [], p, [], hW, ?_, ?_, ?_, hb.frame _, fun h => by cases h⟩
  · rw [hs, hrt]
    exact trodAll_mk1 (shut_bool htb _)
  · rw [hs]
    exact zLv hl hb (zO8 hr) (fun x hx => hW.lt x (by simp [hx])) hA
  · rw [hv, hs]; rfl
end Go.Proofs.YtmmkkcmliofknaaGreatDoor
