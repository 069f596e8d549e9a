/- More of my proof rules: arguments that a call changes in place, regions whose loads float beside effects, structs built at once. -/
import Derived.Test.YtmmkkcmliofknaaGreatDoorBase
import Derived.OrdersHeld
namespace Go.Proofs.YtmmkkcmliofknaaGreatDoor
open Go Go.RowKit Go.ChangeShapes Go.WideShapes
set_option linter.unusedVariables false
set_option linter.unusedSimpArgs false
set_option linter.unusedSectionVars false
def zAS (w0 : World) (T : Nat → Prop) : Ent where
  S k := k < w0.heap.size ∧ ¬ T k
  H w := ∀ k, k < w0.heap.size → ¬ T k → w.heap[k]? = w0.heap[k]?
  fr hf h := fun k hk ht => (hf k ⟨hk, ht⟩).trans (h k hk ht)
  lt {w k} h hk := by
    have h1 := h k hk.1 hk.2
    rw [Array.getElem?_eq_getElem hk.1] at h1
    exact zHS h1
theorem zDc {w : World} {e : Ent} (he : e.H w) : Hp w [e, zAS w e.S] w :=
  ⟨Same.refl w, by
    intro a ha
    simp only [List.mem_cons, List.not_mem_nil, or_false] at ha
    rcases ha with rfl | rfl
    · exact he
    · exact fun _ _ _ => rfl, List.pairwise_cons.2 ⟨fun a ha k hk hk' => by
      simp only [List.mem_cons, List.not_mem_nil, or_false] at ha
      subst ha
      exact hk'.2 hk, List.pairwise_cons.2 ⟨fun _ h => by simp at h, List.Pairwise.nil⟩⟩⟩
structure Mut (w w' : World) (T : Nat → Prop) (Γ : List Ent) : Prop where
  mod : Mod T w w'
  all : ∀ e ∈ Γ, e.H w' ∧ ∀ k, e.S k → T k ∨ w.heap.size ≤ k
  pw : Γ.Pairwise fun a b => ∀ k, a.S k → b.S k → False
theorem Hp.mutOut {w0 w : World} {Γ Γr : List Ent} {T : Nat → Prop} (h : Hp w0 Γ w) (s : Nat) (hs : Γ[s]? = some (zAS w0 T)) (is : List Nat) (hn : is.Nodup) (hns : s ∉ is) (hΓ : is.mapM (fun i => Γ[i]?) = some Γr) : Mut w0 w T Γr := by
  have h1 := h.sel is hn hΓ
  have h2 := h.sel (s :: is) (List.nodup_cons.2 ⟨hns, hn⟩) (Γ' := zAS w0 T :: Γr) (by simp [List.mapM_cons, hs, hΓ])
  refine ⟨⟨h.same, fun k hk ht => h.get s hs k hk ht⟩, fun e he => ⟨h1.all e he, fun k hk => ?_⟩, h1.pw⟩
  have h3 := (List.pairwise_cons.1 h2.pw).1 e he k
  rcases Nat.lt_or_ge k w0.heap.size with hlt | hge
  · exact .inl (Classical.byContradiction fun ht => h3 ⟨hlt, ht⟩ hk)
  · exact .inr hge
theorem Hp.mut {w0 w w' : World} {Γ Γr : List Ent} (h : Hp w0 Γ w) (i : Nat) {e e' : Ent} (hi : Γ[i]? = some e) (hm : Mut w w' e.S (e' :: Γr)) : Hp w0 (Γr ++ Γ.set i e') w' := by
  have h1 := h.upd i hi hm.mod (fun k _ hk => hk) (hm.all e' List.mem_cons_self).1 (hm.all e' List.mem_cons_self).2
  have hp := List.pairwise_cons.1 hm.pw
  refine ⟨h1.same, fun a ha => ?_, List.pairwise_append.2 ⟨hp.2, h1.pw, fun a ha b hb k hk hk' => ?_⟩⟩
  · rcases List.mem_append.1 ha with ha | ha
    · exact (hm.all a (List.mem_cons_of_mem _ ha)).1
    · exact h1.all a ha
  · obtain ⟨j, hj⟩ := List.getElem?_of_mem hb
    by_cases hij : i = j
    · subst hij
      rw [List.getElem?_set_self (List.getElem?_eq_some_iff.1 hi).1] at hj
      injection hj with hj
      subst hj
      exact hp.1 a ha k hk' hk
    · rw [List.getElem?_set_ne hij] at hj
      rcases (hm.all a (List.mem_cons_of_mem _ ha)).2 k hk with hT | hge
      · exact h.disj hij hi hj k hT hk'
      · have := b.lt (h.get j hj) hk'
        omega
section
variable {α : Type} [GoT α] {w0 w w' w1 : World} {Γ : List Ent} {v : Value} {xs : List α}
theorem Hp.rdZ {T : Nat → Prop} (h : Hp w0 Γ w) (i : Nat) (hi : Γ[i]? = some (zAS w1 T)) (hr : rdL (fun k => k < w1.heap.size ∧ ¬ T k) w1 v xs) : rdL (· < w.heap.size) w v xs :=
  (hr.fr fun k hk => h.get i hi k hk.1 hk.2).mono fun _ hk => (zAS w1 T).lt (h.get i hi) hk
theorem Hp.exE {e e' : Ent} (h : Hp w0 Γ w) (i j : Nat) (hij : i ≠ j) (hi : Γ[i]? = some e) (hj : Γ[j]? = some e') (hr : rdL e.S w v xs) : rdL (fun k => k < w.heap.size ∧ ¬ e'.S k) w v xs :=
  hr.mono fun k hk => ⟨e.lt (h.get i hi) hk, fun hk' => h.disj hij hi hj k hk hk'⟩
theorem Hp.exS {B : Nat} {e' : Ent} (h : Hp w0 Γ w) (i j : Nat) (hij : i ≠ j) (hi : Γ[i]? = some (zAg w1 B)) (hj : Γ[j]? = some e') (hr : rdL (· < B) w1 v xs) : rdL (fun k => k < w.heap.size ∧ ¬ e'.S k) w v xs :=
  h.exE i j hij hi hj (h.rdAt i hi hr)
theorem Hp.exZ {T : Nat → Prop} {e' : Ent} (h : Hp w0 Γ w) (i j : Nat) (hij : i ≠ j) (hi : Γ[i]? = some (zAS w1 T)) (hj : Γ[j]? = some e') (hr : rdL (fun k => k < w1.heap.size ∧ ¬ T k) w1 v xs) : rdL (fun k => k < w.heap.size ∧ ¬ e'.S k) w v xs :=
  h.exE i j hij hi hj (hr.fr fun k hk => h.get i hi k hk.1 hk.2)
theorem Hp.exO {E : TypeId} {S : Nat → Prop} {e' : Ent} (h : Hp w0 Γ w) (i j : Nat) (hij : i ≠ j) (hi : Γ[i]? = some (Ent.own E S v xs)) (hj : Γ[j]? = some e') : rdL (fun k => k < w.heap.size ∧ ¬ e'.S k) w v xs :=
  h.exE i j hij hi hj (h.get i hi).1.rdL
end
def DH (P : Program) (N : Nat) (ops : Array Oper) (S : World → Prop) (fuel : Nat) (listed : Array Bool) (K : Fr → World → Prop) (F : Fr) (w : World) : Prop :=
  ∀ (T : Array Value) (Q : Exit → Act → World → Prop), T.size = N → zDb T = F → (∀ c a w, ¬ Q (.panic c) a w) → (∀ a w, a.defers = [] → a.tmps.size = N → K (zDb a.tmps) w → Q .normal a w) → wpAnyH P .any ops Q S fuel listed ⟨T, []⟩ w
section
variable {P : Program} {N : Nat} {ops : Array Oper} {K : Fr → World → Prop} {F : Fr} {w w' : World} {S : World → Prop} {d : Nat} {op : Op} {ty : TypeId} {pos : String} {aft : Array Edge} {o : Oper}
theorem zDG {R : Fr → World → Prop} {X : Nat → Fr → World → Prop} {id : Nat} {l : List Oper} (S : World → Prop) (hm : P.follows .mixedOrders = true) (h : DH P N l.toArray S l.length (Array.replicate l.length false) K F { w with drawn := w.drawn + 1 }) : CW P N (.region id l.toArray true) R X K F w := by
  intro T hT hF
  refine wp_region_held (S := S) hm ?_
  have := h T (QA N (QQ R X K)) hT hF (fun c a w h => h.2.2) (fun a w h1 h2 h3 => ⟨h1, h2, h3⟩)
  simpa using this
theorem zDB {fuel : Nat} {listed : Array Bool} (hr : Region.ready .any ops listed = []) (h : K F w) : DH P N ops S fuel listed K F w := by
  intro T Q hT hF _ hQ
  exact wpAnyH_done hr (hQ _ _ rfl hT (by rw [hF]; exact h)) _
def YH (P : Program) (N : Nat) (ops : Array Oper) (S : World → Prop) (o : Oper) (v : Value) (F : Fr) : Prop := ∀ T : Array Value, T.size = N → zDb T = F → YieldsIf P ops S o v ⟨T, []⟩
theorem zAp {v : Value} {dst : Option Nat} (hx : ∀ w, S w → XV P F op ty w v w) : YH P N ops S ⟨dst, op, ty, pos, aft, none⟩ v F := by
  intro T hT hF
  refine .inl ⟨zCL T _, fun w hS => ?_⟩
  rw [zHm, hF]
  exact hx w hS _ _ _ _
theorem zPE {v : Value} {dst : Option Nat} {j dj : Nat} {b c : Bool} (hj : (ops[j]?).bind (·.dst) = some dj) (hF : F dj = .bool c) (hc : c = b) (h : YH P N ops S ⟨dst, op, ty, pos, aft, none⟩ v F) : YH P N ops S ⟨dst, op, ty, pos, aft, some (j, b)⟩ v F := by
  subst hc
  intro T hT hFr
  have hw : Region.wanted ⟨dst, op, ty, pos, aft, some (j, c)⟩ (yielded ops T) = true := by
    simp only [Region.wanted]
    rw [zIp hj (by rw [hFr]; exact hF)]
    simp
  rcases h T hT hFr with ⟨_, h2⟩ | ⟨h1, _⟩
  · exact .inl ⟨hw, h2⟩
  · rw [zCL T] at h1; cases h1
theorem zQO {dst : Option Nat} {j dj : Nat} {b c : Bool} (hj : (ops[j]?).bind (·.dst) = some dj) (hF : F dj = .bool c) (hc : c = !b) : YH P N ops S ⟨dst, op, ty, pos, aft, some (j, b)⟩ undef F := by
  intro T hT hFr
  refine .inr ⟨?_, rfl⟩
  simp only [Region.wanted]
  rw [zIp hj (by rw [hFr]; exact hF)]
  subst hc; cases b <;> rfl
theorem zT5 {dst : Option Nat} {j dj : Nat} {b : Bool} (hj : (ops[j]?).bind (·.dst) = some dj) (hF : F dj = undef) : YH P N ops S ⟨dst, op, ty, pos, aft, some (j, b)⟩ undef F := by
  intro T hT hFr
  refine .inr ⟨?_, rfl⟩
  simp only [Region.wanted]
  rw [zKr hj (by rw [hFr]; exact hF)]
  simp
theorem DH.take {fuel : Nat} {listed : Array Bool} (i : Nat) {v : Value} (ho : ops[i]? = some o) (hs : Region.noSelect ops = true) (hf : Region.free .any ops listed i = true)
    (hr : (Region.ready .any ops listed).contains i = true) (hd : o.dst = some d) (hN : Nat.blt d N = true) (hS : S w) (hy : YH P N ops S o v F) (h : DH P N ops S fuel (listed.setIfInBounds i true) K (upd F d v) w) : DH P N ops S (fuel + 1) listed K F w := by
  intro T Q hT hF hp hQ
  have hd' : d < T.size := by rw [hT]; simpa using hN
  refine wpAnyH_take ho hs hf hr (fun c a w h => absurd h (hp _ _ _)) (hy T hT hF) hS ?_
  rw [hd]
  exact h (T.setIfInBounds d v) Q (by simp [hT]) (by rw [zFs _ _ _ hd', hF]) hp hQ
theorem DH.all {fuel : Nat} {listed : Array Bool} {rs : List Nat} (hr : Region.ready .any ops listed = rs) (hne : rs ≠ [])
    (h : ∀ i ∈ rs, ∃ o, ops[i]? = some o ∧ OP P N ops o (fun F w => S w ∧ DH P N ops S fuel (listed.setIfInBounds i true) K F w) F w) : DH P N ops S (fuel + 1) listed K F w := by
  intro T Q hT hF hp hQ
  refine wpAnyH_all hr hne fun i hi => ?_
  obtain ⟨o, ho, h1⟩ := h i hi
  have h2 := h1 T Q (fun a' w' => S w' ∧ wpAnyH P .any ops Q S fuel (listed.setIfInBounds i true) a' w') hT hF (fun a w h1 h2 h3 => ⟨h3.1, by
    obtain ⟨t, df⟩ := a
    simp only at h1
    subst h1
    exact h3.2 t Q h2 rfl hp hQ⟩)
  unfold wpOp
  rw [ho]
  simp only
  split
  · rename_i hw; rw [if_pos hw] at h2; exact .inl h2
  · rename_i hw; rw [if_neg hw] at h2; exact h2
theorem zAT {fuel : Nat} {listed : Array Bool} (i : Nat) (ho : ops[i]? = some o) (hr : Region.ready .any ops listed = [i]) (h : OP P N ops o (fun F w => S w ∧ DH P N ops S fuel (listed.setIfInBounds i true) K F w) F w) :
    DH P N ops S (fuel + 1) listed K F w :=
  DH.all hr (by simp) fun j hj => by simp at hj; subst hj; exact ⟨o, ho, h⟩
end
theorem zAY {α : Type} [GoT α] {S : Nat → Prop} {w : World} {v : Value} {xs : List α} (h : rdL S w v xs) : v.cells = #[v] := by
  obtain ⟨A, cap, rfl, _⟩ := h; rfl
def zOl (P : Program) (t : TypeId) : Option (List (Nat × Nat) × Array Value) :=
  match P.info? t, P.underlying t with
  | some it, some (.struct fields) =>
    match it.zero, fields.toList.mapM (fun f => (P.info? f.type).map fun i => (f.offset, i.size)) with
    | some z, some places => some (places, z.cells)
    | _, _ => none
  | _, _ => none
def BuildI (P : Program) (t : TypeId) (places : List (Nat × Nat)) (z : Array Value) : Prop := zOl P t = some (places, z)
theorem BuildI.built {P : Program} {t : TypeId} {places : List (Nat × Nat)} {z : Array Value} (h : BuildI P t places z) (parts : List (Nat × Value)) : P.built t parts = Instr.fill (places.toArray[·]?) z parts := by
  unfold BuildI zOl at h
  unfold Program.built
  cases h1 : P.info? t with
  | none => simp [h1] at h
  | some it =>
    cases h2 : P.underlying t with
    | none => simp [h1, h2] at h
    | some u =>
      cases u with
      | struct fields =>
        simp only [h1, h2] at h ⊢
        cases h3 : it.zero with
        | none => simp [h3] at h
        | some zz =>
          cases h4 : fields.toList.mapM (fun f => (P.info? f.type).map fun i => (f.offset, i.size)) with
          | none => simp [h3, h4] at h
          | some pl =>
            simp only [h3, h4, Option.some.injEq, Prod.mk.injEq] at h ⊢
            obtain ⟨rfl, rfl⟩ := h
            rfl
      | _ => simp [h1, h2] at h
def EvP (F : Fr) : List (Nat × Operand) → List (Nat × Value) → Prop
  | [], [] => True
  | (i, x) :: l, (j, v) :: m => (i = j ∧ ev F x = v) ∧ EvP F l m
  | _, _ => False
theorem EvP.map {F : Fr} : ∀ {l : List (Nat × Operand)} {m : List (Nat × Value)}, EvP F l m → l.map (fun p => (p.1, ev F p.2)) = m
  | [], [], _ => rfl
  | (i, x) :: l, (j, v) :: m, h => by
    obtain ⟨⟨rfl, rfl⟩, h2⟩ := h
    simp [EvP.map h2]
  | [], _ :: _, h => h.elim
  | _ :: _, [], h => h.elim
theorem zCB {P : Program} {F : Fr} {w : World} {ty t : TypeId} {places : List (Nat × Nat)} {z cells : Array Value} {parts : List (Nat × Operand)} {ps : List (Nat × Value)} (hb : BuildI P t places z) (hp : EvP F parts ps)
    (hf : Instr.fill (places.toArray[·]?) z ps = some cells) : XV P F (.build t parts.toArray) ty w (.agg cells) w := by
  intro d pos aft g
  have h := run_build w t (parts.toArray.map fun p => (p.1, ev F p.2)) cells (by rw [hb.built]; simpa [hp.map] using hf)
  simp only [execOp, Sem.run_bind, h, Result.andThen_ok, Sem.run_pure]
end Go.Proofs.YtmmkkcmliofknaaGreatDoor
