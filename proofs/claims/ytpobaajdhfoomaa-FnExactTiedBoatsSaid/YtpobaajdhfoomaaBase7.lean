/- My proof rules for a range over a function: rounds walked inside a fence, the marks that stay behind. -/
import Derived.Test.YtpobaajdhfoomaaBase6
import Derived.RangeFuncRecord
import Derived.RangeFuncIn
import Derived.RangeFuncLeaves
import Derived.RangeFuncCalls
import Derived.OrdersIn
import Derived.TacticsIn
import Derived.LoopNIn
namespace Go.Proofs.Ytpobaajdhfoomaa
open Go Go.RowKit Go.ChangeShapes Go.WideShapes
set_option linter.unusedVariables false
set_option linter.unusedSimpArgs false
set_option linter.unusedSectionVars false
def wR (r : Option Nat) : Fence := { Fence.wide with round := r }
def addD (ds : List Deferred) (a : Act) : Act := { tmps := a.tmps, defers := a.defers ++ ds }
theorem addD_put (ds : List Deferred) (a : Act) (d : Option Nat) (v : Value) : addD ds (a.put d v) = (addD ds a).put d v := by cases d <;> rfl
theorem addD_eval (ds : List Deferred) (a : Act) : (addD ds a).eval = a.eval := (eval_eq a.tmps (a.defers ++ ds)).trans (eval_eq a.tmps a.defers).symm
def plainOp : Op → Bool
  | .defer _ => false
  | _ => true
def nodefer (ops : List Oper) : Bool := ops.all fun o => plainOp o.op
theorem nodefer_get {ops : List Oper} (h : nodefer ops = true) {o : Oper} (ho : o ∈ ops) : ∀ c, o.op ≠ .defer c := by
  intro c hc
  have := List.all_eq_true.1 h o ho
  rw [hc] at this
  cases this
theorem calls_in {P : Program} {r : Option Nat} {n : Nat} {f : FuncId} {args : Array Value} {w : World} {R : Ending → World → Prop} (h : Calls P f args w R) : CallsIn (wR r) n P f args w R :=
  ⟨trivial, ((callsIn_wide (n := n)).2 h).2⟩
section
variable {P : Program} {r : Option Nat} {n : Nat} {ops : Array Oper} {next next' : Act → World → Prop} {Q Q' : Exit → Act → World → Prop} {ds : List Deferred}
theorem upon_in {o : Oper} {a : Act} (hn : ∀ a w, next a w → next' (addD ds a) w) (hQ : ∀ e a w, Q e a w → Q' e (addD ds a) w) (res : Result Next) (h : o.upon P a next Q res) : o.uponIn (wR r) n P (addD ds a) next' Q' res := by
  unfold Oper.upon at h
  split at h
  · show next' ((addD ds a).put o.dst _) _
    rw [← addD_put]; exact hn _ _ h
  · show next' ((addD ds a).put o.dst undef) _
    rw [← addD_put]; exact hn _ _ h
  · rename_i d w'
    have h1 := hn _ _ h
    rw [addD_put] at h1
    exact h1
  · rename_i f args w'
    refine ⟨(fun h => by cases h), (calls_in h).mono ?_⟩
    rintro e w'' he
    cases e with
    | returned v => show next' ((addD ds a).put o.dst v) w''; rw [← addD_put]; exact hn _ _ he
    | panicked chain => exact hQ _ _ _ he
    | outgrown => obtain ⟨a0, w0, h0⟩ := he; exact ⟨_, _, hQ _ _ _ h0⟩
  · rename_i row args w'
    refine ⟨(fun h => by cases h), fun c cs _ => ?_⟩
    obtain ⟨v, w'', hr, hs⟩ := h c cs
    exact ⟨v, w'', by show next' ((addD ds a).put o.dst v) w''; rw [← addD_put]; exact hn _ _ hr, stepsIn_wide.2 hs⟩
  · exact hQ _ _ _ h
  · exact h.elim
theorem oper_in {o : Oper} {a : Act} {w : World} (hd : ∀ c, o.op ≠ .defer c) (hn : ∀ a w, next a w → next' (addD ds a) w) (hQ : ∀ e a w, Q e a w → Q' e (addD ds a) w) (h : o.wp P a w next Q) : o.wpIn (wR r) n P (addD ds a) w next' Q' := by
  refine ⟨fun _ _ => trivial, ?_⟩
  rw [Oper.semAt_eq _ _ _ hd, addD_eval]
  exact upon_in hn hQ _ h
theorem op_in {i : Nat} {a : Act} {w : World} (hd : ∀ o, ops[i]? = some o → ∀ c, o.op ≠ .defer c) (hnl : ¬ LetsOut Q) (hn : ∀ a w, next a w → next' (addD ds a) w) (hQ : ∀ e a w, Q e a w → Q' e (addD ds a) w) (h : wpOp P ops Q i next a w) : wpOpIn (wR r) n P ops Q' i next' (addD ds a) w := by
  unfold wpOp at h
  unfold wpOpIn
  cases ho : ops[i]? with
  | none => rw [ho] at h; exact hn _ _ h
  | some o =>
    rw [ho] at h
    simp only at h ⊢
    by_cases hw : Region.wanted o (yielded ops a.tmps) = true
    · rw [if_pos hw] at h
      rw [if_pos (show Region.wanted o (yielded ops (addD ds a).tmps) = true from hw)]
      rcases h with h | h
      · exact oper_in (hd o ho) hn hQ h
      · exact absurd h.2 hnl
    · rw [if_neg hw] at h
      rw [if_neg (show ¬ Region.wanted o (yielded ops (addD ds a).tmps) = true from hw)]
      exact ⟨fun _ _ => trivial, by rw [← addD_put]; exact hn _ _ h⟩
theorem list_in (hnl : ¬ LetsOut Q) (hQ : ∀ e a w, Q e a w → Q' e (addD ds a) w) : ∀ (rest : List Oper) (a : Act) (w : World), nodefer rest = true → wpList P ops Q rest a w → wpListIn (wR r) n P ops Q' rest (addD ds a) w
  | [], a, w, _, h => hQ _ _ _ h
  | o :: rest, a, w, hd, h => by
    have hd2 : nodefer rest = true := by
      have := List.all_eq_true.1 hd
      exact List.all_eq_true.2 fun x hx => this x (List.mem_cons_of_mem _ hx)
    unfold wpList at h
    unfold wpListIn
    by_cases hw : Region.wanted o (yielded ops a.tmps) = true
    · rw [if_pos hw] at h
      rw [if_pos (show Region.wanted o (yielded ops (addD ds a).tmps) = true from hw)]
      rcases h with h | h
      · exact oper_in (nodefer_get hd List.mem_cons_self) (fun a w h => list_in hnl hQ rest a w hd2 h) hQ h
      · exact absurd h.2 hnl
    · rw [if_neg hw] at h
      rw [if_neg (show ¬ Region.wanted o (yielded ops (addD ds a).tmps) = true from hw)]
      exact ⟨fun _ _ => trivial, by rw [← addD_put]; exact list_in hnl hQ rest _ w hd2 h⟩
theorem any_in {md : Region.Mode} (hd : ∀ (i : Nat) (o : Oper), ops[i]? = some o → ∀ c, o.op ≠ .defer c) (hnl : ¬ LetsOut Q) (hQ : ∀ e a w, Q e a w → Q' e (addD ds a) w) : ∀ (fuel : Nat) (listed : Array Bool) (a : Act) (w : World), wpAny P md ops Q fuel listed a w → wpAnyIn (wR r) n P md ops Q' fuel listed (addD ds a) w
  | 0, listed, a, w, h => ⟨h.1, hQ _ _ _ h.2⟩
  | fuel + 1, listed, a, w, h => ⟨fun e => hQ _ _ _ (h.1 e), fun i hi => op_in (hd i) hnl (fun a w h => any_in hd hnl hQ fuel _ a w h) hQ (h.2 i hi)⟩
end
def CF (r : Option Nat) (ds : List Deferred) (P : Program) (N : Nat) (c : Code) (R : Fr → World → Prop) (X : Nat → Fr → World → Prop) (K : Fr → World → Prop) (F : Fr) (w : World) : Prop :=
  ∀ T : Array Value, T.size = N → frOf T = F → c.wpIn (wR r) 3 P (fun e a w => a.defers = ds ∧ a.tmps.size = N ∧ QQ R X K e (frOf a.tmps) w) ⟨T, ds⟩ w
section
variable {r : Option Nat} {ds : List Deferred} {P : Program} {N : Nat} {R K : Fr → World → Prop} {X : Nat → Fr → World → Prop} {F : Fr} {w : World}
theorem CF.mono {c : Code} {K' R' : Fr → World → Prop} {X' : Nat → Fr → World → Prop} (h : CF r ds P N c R X K F w) (hR : ∀ F w, R F w → R' F w) (hX : ∀ i F w, X i F w → X' i F w) (hK : ∀ F w, K F w → K' F w) : CF r ds P N c R' X' K' F w := by
  intro T hT hF
  refine wpIn_mono (h T hT hF) ?_
  rintro e a w ⟨h1, h2, h3⟩
  refine ⟨h1, h2, ?_⟩
  cases e <;> first | exact hK _ _ h3 | exact hR _ _ h3 | exact hX _ _ _ h3 | exact h3
theorem CF.seq {a b : Code} (h : CF r ds P N a R X (fun F w => CF r ds P N b R X K F w) F w) : CF r ds P N (.seq a b) R X K F w := by
  intro T hT hF
  refine wpIn_seq (wpIn_mono (h T hT hF) ?_)
  rintro e ⟨tm, df⟩ w ⟨h1, h2, h3⟩
  simp only at h1 h2
  subst h1
  cases e <;> first | exact h3 tm h2 rfl | exact ⟨rfl, h2, h3⟩
theorem CF.cond {c : Operand} {a b : Code} {t : Bool} (hc : ev F c = .bool t) (ha : t = true → CF r ds P N a R X K F w) (hb : t = false → CF r ds P N b R X K F w) : CF r ds P N (.cond c a b) R X K F w := by
  intro T hT hF
  exact wpIn_cond_split (t := t) (by rw [eval_eq, hF]; exact hc) (fun h => ha h T hT hF) (fun h => hb h T hT hF)
theorem CF.condM {β : Type} {c : Operand} {a b : Code} {t : Bool} {A B : Option β} {q : β} (hc : ev F c = .bool t) (hm : ifB t A B = some q) (ha : t = true → A = some q → CF r ds P N a R X K F w) (hb : t = false → B = some q → CF r ds P N b R X K F w) : CF r ds P N (.cond c a b) R X K F w := by
  cases t with
  | true => exact CF.cond hc (fun h => ha h hm) (fun h => by cases h)
  | false => exact CF.cond hc (fun h => by cases h) (fun h => hb h hm)
theorem CF.condF {c : Operand} {a b : Code} {t : Bool} (hc : ev F c = .bool t) (ht : t = false) (h : CF r ds P N b R X K F w) : CF r ds P N (.cond c a b) R X K F w := by subst ht; exact CF.cond hc (fun h => by cases h) (fun _ => h)
theorem CF.block {id : Nat} {c : Code} (h : CF r ds P N c R (XX id K X) K F w) : CF r ds P N (.block id c) R X K F w := by
  intro T hT hF
  refine wpIn_block (wpIn_mono (h T hT hF) ?_)
  rintro e a w ⟨h1, h2, h3⟩
  cases e with
  | exit i =>
    simp only [Exit.inBlock]
    split
    · rename_i he; subst he; refine ⟨h1, h2, ?_⟩; simpa [QQ, XX] using h3
    · rename_i he
      refine ⟨h1, h2, ?_⟩
      have hb : Nat.beq i id = false := by
        cases hb : Nat.beq i id
        · rfl
        · exact absurd (Nat.eq_of_beq_eq_true hb) he
      simpa [QQ, XX, hb] using h3
  | _ => exact ⟨h1, h2, h3⟩
theorem CF.skip (h : K F w) : CF r ds P N .skip R X K F w := by
  intro T hT hF; exact wpIn_skip ⟨rfl, hT, by show K _ _; rw [hF]; exact h⟩
theorem CF.exit {id : Nat} (h : X id F w) : CF r ds P N (.exit id) R X K F w := by
  intro T hT hF; exact wpIn_exit ⟨rfl, hT, by show X id _ _; rw [hF]; exact h⟩
theorem CF.ret (h : R F w) : CF r ds P N .ret R X K F w := by
  intro T hT hF; exact wpIn_ret ⟨rfl, hT, by show R _ _; rw [hF]; exact h⟩
theorem CF.loop {c : Code} (I : Fr → World → Prop) (μ : Fr → World → Nat) (h0 : I F w)
    (round : ∀ F w, I F w → CF r ds P N c R X (fun F' w' => I F' w' ∧ μ F' w' < μ F w) F w) : CF r ds P N (.loop c) R X K F w := by
  intro T hT hF
  subst hF
  refine wpIn_loop (fun a w => a.defers = ds ∧ a.tmps.size = N ∧ I (frOf a.tmps) w) (fun a w => μ (frOf a.tmps) w) ⟨rfl, hT, h0⟩ ?_
  rintro ⟨tm, df⟩ w ⟨h1, h2, h3⟩
  simp only at h1 h2 h3
  subst h1
  refine wpIn_mono (round _ _ h3 tm h2 rfl) ?_
  rintro e ⟨tm', df'⟩ w' ⟨g1, g2, g3⟩
  cases e <;> first | exact ⟨⟨g1, g2, g3.1⟩, g3.2⟩ | exact ⟨g1, g2, g3⟩
theorem CF.seqJ {σ : Type} {a b : Code} (J : σ → Fr → World → Prop) (kont : σ → Prop) (h1 : CF r ds P N a R X (fun F w => ∃ s, kont s ∧ J s F w) F w) (h2 : ∀ s F w, J s F w → kont s → CF r ds P N b R X K F w) : CF r ds P N (.seq a b) R X K F w :=
  CF.seq (CF.mono h1 (fun _ _ h => h) (fun _ _ _ h => h) (fun F w ⟨s, hk, hJ⟩ => h2 s F w hJ hk))
theorem CF.blockJ {σ : Type} {id : Nat} {c : Code} (J : σ → Fr → World → Prop) (kont : σ → Prop) (h1 : CF r ds P N c R (XJ id (fun F w => ∃ s, kont s ∧ J s F w) X) (fun F w => ∃ s, kont s ∧ J s F w) F w) (h2 : ∀ s F w, J s F w → kont s → K F w) : CF r ds P N (.block id c) R X K F w := by
  refine CF.block (CF.mono h1 (fun _ _ h => h) (fun i F w h => ?_) (fun F w ⟨s, hk, hJ⟩ => h2 s F w hJ hk))
  unfold XJ at h
  unfold XX
  cases hb : Nat.beq i id with
  | true => rw [hb] at h; obtain ⟨s, hk, hJ⟩ := h; exact h2 s F w hJ hk
  | false => rw [hb] at h; exact h
theorem CF.post (K : Fr → World → Prop) : ∀ e a w, (a.defers = [] ∧ a.tmps.size = N ∧ QQ (fun _ _ => False) (fun _ _ _ => False) K e (frOf a.tmps) w) → ((addD ds a).defers = ds ∧ (addD ds a).tmps.size = N ∧ QQ R X K e (frOf (addD ds a).tmps) w) := by
  rintro e ⟨tm, df⟩ w ⟨h1, h2, h3⟩
  simp only at h1
  subst h1
  cases e <;> first | exact ⟨rfl, h2, h3⟩ | exact h3.elim
theorem CF.regionL {id : Nat} {l : List Oper} (h : OW P N l.toArray l K F w) (hd : nodefer l = true := by rfl) : CF r ds P N (.region id l.toArray false) R X K F w := by
  intro T hT hF
  refine wpIn_region_lit ?_
  have h1 := h T (fun e a w => a.defers = [] ∧ a.tmps.size = N ∧ QQ (fun _ _ => False) (fun _ _ _ => False) K e (frOf a.tmps) w) hT hF (fun a w h1 h2 h3 => ⟨h1, h2, h3⟩)
  exact list_in (ds := ds) (fun ⟨a, w, h⟩ => h.2.2) (CF.post K) l ⟨T, []⟩ w hd h1
theorem nodefer_arr {l : List Oper} (hd : nodefer l = true) : ∀ (i : Nat) (o : Oper), l.toArray[i]? = some o → ∀ c, o.op ≠ .defer c := by
  intro i o ho
  exact nodefer_get hd (List.mem_of_getElem? (by simpa using ho))
theorem CF.draw {id : Nat} {l : List Oper} (hm : P.follows .mixedOrders = true) (h : DW P N l.toArray l.length (Array.replicate l.length false) K F { w with drawn := w.drawn + 1 }) (hd : nodefer l = true := by rfl) : CF r ds P N (.region id l.toArray true) R X K F w := by
  intro T hT hF
  refine wpIn_region_any hm ?_
  have h1 := h T (fun e a w => a.defers = [] ∧ a.tmps.size = N ∧ QQ (fun _ _ => False) (fun _ _ _ => False) K e (frOf a.tmps) w) hT hF (fun c a w h => h.2.2) (fun a w h1 h2 h3 => ⟨h1, h2, h3⟩)
  have h2 := any_in (r := r) (n := 3) (ds := ds) (Q' := fun e a w => a.defers = ds ∧ a.tmps.size = N ∧ QQ R X K e (frOf a.tmps) w) (nodefer_arr hd) (fun ⟨a, w, h⟩ => h.2.2) (CF.post (R := R) (X := X) K) _ _ _ _ h1
  simpa [addD] using h2
theorem CF.drawH {id : Nat} {l : List Oper} (S : World → Prop) (hm : P.follows .mixedOrders = true) (h : DH P N l.toArray S l.length (Array.replicate l.length false) K F { w with drawn := w.drawn + 1 }) (hd : nodefer l = true := by rfl) : CF r ds P N (.region id l.toArray true) R X K F w := by
  intro T hT hF
  refine wpIn_region_any hm ?_
  have h1 := wpAny_of_held _ _ _ _ (h T (fun e a w => a.defers = [] ∧ a.tmps.size = N ∧ QQ (fun _ _ => False) (fun _ _ _ => False) K e (frOf a.tmps) w) hT hF (fun c a w h => h.2.2) (fun a w h1 h2 h3 => ⟨h1, h2, h3⟩))
  have h2 := any_in (r := r) (n := 3) (ds := ds) (Q' := fun e a w => a.defers = ds ∧ a.tmps.size = N ∧ QQ R X K e (frOf a.tmps) w) (nodefer_arr hd) (fun ⟨a, w, h⟩ => h.2.2) (CF.post (R := R) (X := X) K) _ _ _ _ h1
  simpa [addD] using h2
end
def Ent.raw (b : Nat) (o : Obj) : Ent where
  S k := k = b
  H w := w.heap[b]? = some o
  fr hf h := (hf b rfl).trans h
  lt h hk := by subst hk; exact lt_of_some h
theorem Mod.put (w : World) (b : Nat) (o : Obj) : Mod (· = b) w (w.putObj b o) := ⟨⟨rfl, rfl, rfl, by simp⟩, fun k _ h => World.putObj_heap_other h⟩
theorem Hp.put {w0 w : World} {Γ : List Ent} {b : Nat} {o : Obj} (h : Hp w0 Γ w) (i : Nat) (hi : Γ[i]? = some (Ent.raw b o)) (o' : Obj) : Hp w0 (Γ.set i (Ent.raw b o')) (w.putObj b o') :=
  h.upd i hi (Mod.put w b o') (fun k _ hk => hk) (World.putObj_heap_same (lt_of_some (h.get i hi))) (fun k hk => .inl hk)
def SQ (N : Nat) (R K : List Deferred → Fr → World → Prop) : Exit → Act → World → Prop
  | .normal, a, w => a.tmps.size = N ∧ K a.defers (frOf a.tmps) w
  | .ret, a, w => a.tmps.size = N ∧ R a.defers (frOf a.tmps) w
  | _, _, _ => False
def SW (P : Program) (N : Nat) (c : Code) (R K : List Deferred → Fr → World → Prop) (ds : List Deferred) (F : Fr) (w : World) : Prop :=
  ∀ T : Array Value, T.size = N → frOf T = F → c.wpIn (wR none) 3 P (SQ N R K) ⟨T, ds⟩ w
def RM (P : Program) (fn : Func) (C : Ending → World → Prop) : List Deferred → Fr → World → Prop := fun ds F w => ∀ T, frOf T = F → LeavesInM Fence.wide 3 P fn T C ds .returning w
section
variable {P : Program} {N : Nat} {R K : List Deferred → Fr → World → Prop} {ds : List Deferred} {F : Fr} {w : World}
theorem SW.seq {a b : Code} (h : SW P N a R (fun ds F w => SW P N b R K ds F w) ds F w) : SW P N (.seq a b) R K ds F w := by
  intro T hT hF
  refine wpIn_seq (wpIn_mono (h T hT hF) ?_)
  rintro e ⟨tm, df⟩ w hq
  cases e <;> first | exact hq.2 tm hq.1 rfl | exact hq
theorem SW.block {id : Nat} {c : Code} (h : SW P N c R K ds F w) : SW P N (.block id c) R K ds F w := by
  intro T hT hF
  refine wpIn_block (wpIn_mono (h T hT hF) ?_)
  rintro e a w hq
  cases e <;> first | exact hq | exact hq.elim
theorem RM.nil {fn : Func} {C : Ending → World → Prop} (h : RR P fn C F w) : RM P fn C [] F w := fun T hT => h T hT
end
section
variable {P : Program} {N : Nat} {R K : List Deferred → Fr → World → Prop} {F : Fr} {w0 w : World} {Γ : List Ent} {α : Type} [GoT α]
end
def OF (P : Program) (N : Nat) (ops : Array Oper) (rest : List Oper) (K : Fr → World → Prop) (F : Fr) (w : World) : Prop :=
  ∀ (T : Array Value) (Q : Exit → Act → World → Prop), T.size = N → frOf T = F → (∀ a w, a.defers = [] → a.tmps.size = N → K (frOf a.tmps) w → Q .normal a w) → wpListIn (wR none) 3 P ops Q rest ⟨T, []⟩ w
theorem addD_nil (a : Act) : addD [] a = a := by obtain ⟨t, d⟩ := a; simp [addD]
section
variable {P : Program} {N : Nat} {ops : Array Oper} {rest : List Oper} {K : Fr → World → Prop} {F : Fr} {w : World} {o : Oper}
theorem OF.nil (h : K F w) : OF P N ops [] K F w := by
  intro T Q hT hF hQ
  exact hQ _ _ rfl hT (by show K (frOf T) w; rw [hF]; exact h)
theorem OF.cons (hd : plainOp o.op = true) (h : OP P N ops o (fun F w => OF P N ops rest K F w) F w) : OF P N ops (o :: rest) K F w := by
  intro T Q hT hF hQ
  have h1 := h T Q (wpListIn (wR none) 3 P ops Q rest) hT hF (fun a w h1 h2 h3 => by
    obtain ⟨tm, df⟩ := a
    simp only at h1
    subst h1
    exact h3 tm Q h2 rfl hQ)
  unfold wpListIn
  split
  · rename_i hw
    rw [if_pos hw] at h1
    have h2 := oper_in (r := none) (n := 3) (ds := []) (next' := wpListIn (wR none) 3 P ops Q rest) (Q' := Q) (fun c hc => by rw [hc] at hd; cases hd) (fun a w h => by rw [addD_nil]; exact h) (fun e a w h => by rw [addD_nil]; exact h) h1
    rw [addD_nil] at h2
    exact h2
  · rename_i hw
    rw [if_neg hw] at h1
    exact ⟨fun _ _ => trivial, h1⟩
end
end Go.Proofs.Ytpobaajdhfoomaa
