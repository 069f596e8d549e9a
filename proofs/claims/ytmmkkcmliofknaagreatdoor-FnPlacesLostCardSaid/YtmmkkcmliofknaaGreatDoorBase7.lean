/- My proof rules for a range over a function: rounds walked inside a fence, the marks that stay behind. -/
import Derived.Test.YtmmkkcmliofknaaGreatDoorBase6
import Derived.RangeFuncRecord
import Derived.RangeFuncIn
import Derived.RangeFuncLeaves
import Derived.RangeFuncCalls
import Derived.OrdersIn
import Derived.TacticsIn
import Derived.LoopNIn
namespace Go.Proofs.YtmmkkcmliofknaaGreatDoor
open Go Go.RowKit Go.ChangeShapes Go.WideShapes
set_option linter.unusedVariables false
set_option linter.unusedSimpArgs false
set_option linter.unusedSectionVars false
def wR (r : Option Nat) : Fence := { Fence.wide with round := r }
def zIX (ds : List Deferred) (a : Act) : Act := { tmps := a.tmps, defers := a.defers ++ ds }
theorem zJM (ds : List Deferred) (a : Act) (d : Option Nat) (v : Value) : zIX ds (a.put d v) = (zIX ds a).put d v := by cases d <;> rfl
theorem zP7 (ds : List Deferred) (a : Act) : (zIX ds a).eval = a.eval := (zHm a.tmps (a.defers ++ ds)).trans (zHm a.tmps a.defers).symm
def zPH : Op → Bool
  | .defer _ => false
  | _ => true
def zKs (ops : List Oper) : Bool := ops.all fun o => zPH o.op
theorem zME {ops : List Oper} (h : zKs ops = true) {o : Oper} (ho : o ∈ ops) : ∀ c, o.op ≠ .defer c := by
  intro c hc
  have := List.all_eq_true.1 h o ho
  rw [hc] at this
  cases this
theorem zPc {P : Program} {r : Option Nat} {n m : Nat} {c : Code} {Q : Exit → Act → World → Prop} {a : Act} {w : World} (h : c.wpIn (wR r) n P Q a w) : c.wpIn (wR r) m P Q a w :=
  fun b k cs h1 h2 _ => h b k cs h1 h2 (fun d hd => by cases hd)
theorem zQT {P : Program} {r : Option Nat} {n : Nat} {f : FuncId} {args : Array Value} {w : World} {R : Ending → World → Prop} (h : Calls P f args w R) : CallsIn (wR r) n P f args w R :=
  ⟨trivial, ((callsIn_wide (n := n)).2 h).2⟩
section
variable {P : Program} {r : Option Nat} {n : Nat} {ops : Array Oper} {next next' : Act → World → Prop} {Q Q' : Exit → Act → World → Prop} {ds : List Deferred}
theorem zSn {o : Oper} {a : Act} (hn : ∀ a w, next a w → next' (zIX ds a) w) (hQ : ∀ e a w, Q e a w → Q' e (zIX ds a) w) (res : Result Next) (h : o.upon P a next Q res) : o.uponIn (wR r) n P (zIX ds a) next' Q' res := by
  unfold Oper.upon at h
  split at h
  · show next' ((zIX ds a).put o.dst _) _
    rw [← zJM]; exact hn _ _ h
  · show next' ((zIX ds a).put o.dst undef) _
    rw [← zJM]; exact hn _ _ h
  · rename_i d w'
    have h1 := hn _ _ h
    rw [zJM] at h1
    exact h1
  · rename_i f args w'
    refine ⟨(fun h => by cases h), (zQT h).mono ?_⟩
    rintro e w'' he
    cases e with
    | returned v => show next' ((zIX ds a).put o.dst v) w''; rw [← zJM]; exact hn _ _ he
    | panicked chain => exact hQ _ _ _ he
    | outgrown => obtain ⟨a0, w0, h0⟩ := he; exact ⟨_, _, hQ _ _ _ h0⟩
  · rename_i row args w'
    refine ⟨(fun h => by cases h), fun c cs _ => ?_⟩
    obtain ⟨v, w'', hr, hs⟩ := h c cs
    exact ⟨v, w'', by show next' ((zIX ds a).put o.dst v) w''; rw [← zJM]; exact hn _ _ hr, stepsIn_wide.2 hs⟩
  · exact hQ _ _ _ h
  · exact h.elim
theorem zNO {o : Oper} {a : Act} {w : World} (hd : ∀ c, o.op ≠ .defer c) (hn : ∀ a w, next a w → next' (zIX ds a) w) (hQ : ∀ e a w, Q e a w → Q' e (zIX ds a) w) (h : o.wp P a w next Q) : o.wpIn (wR r) n P (zIX ds a) w next' Q' := by
  refine ⟨fun _ _ => trivial, ?_⟩
  rw [Oper.semAt_eq _ _ _ hd, zP7]
  exact zSn hn hQ _ h
theorem zTz {i : Nat} {a : Act} {w : World} (hd : ∀ o, ops[i]? = some o → ∀ c, o.op ≠ .defer c) (hnl : ¬ LetsOut Q) (hn : ∀ a w, next a w → next' (zIX ds a) w) (hQ : ∀ e a w, Q e a w → Q' e (zIX ds a) w) (h : wpOp P ops Q i next a w) : wpOpIn (wR r) n P ops Q' i next' (zIX ds a) w := by
  unfold wpOp at h
  unfold wpOpIn
  cases ho : ops[i]? with
  | none => rw [ho] at h; exact hn _ _ h
  | some o =>
    rw [ho] at h
    simp only at h ⊢
    by_cases hw : Region.wanted o (yielded ops a.tmps) = true
    · rw [if_pos hw] at h
      rw [if_pos (show Region.wanted o (yielded ops (zIX ds a).tmps) = true from hw)]
      rcases h with h | h
      · exact zNO (hd o ho) hn hQ h
      · exact absurd h.2 hnl
    · rw [if_neg hw] at h
      rw [if_neg (show ¬ Region.wanted o (yielded ops (zIX ds a).tmps) = true from hw)]
      exact ⟨fun _ _ => trivial, by rw [← zJM]; exact hn _ _ h⟩
theorem zNP (hnl : ¬ LetsOut Q) (hQ : ∀ e a w, Q e a w → Q' e (zIX ds a) w) : ∀ (rest : List Oper) (a : Act) (w : World), zKs rest = true → wpList P ops Q rest a w → wpListIn (wR r) n P ops Q' rest (zIX ds a) w
  | [], a, w, _, h => hQ _ _ _ h
  | o :: rest, a, w, hd, h => by
    have hd2 : zKs rest = true := by
      have := List.all_eq_true.1 hd
      exact List.all_eq_true.2 fun x hx => this x (List.mem_cons_of_mem _ hx)
    unfold wpList at h
    unfold wpListIn
    by_cases hw : Region.wanted o (yielded ops a.tmps) = true
    · rw [if_pos hw] at h
      rw [if_pos (show Region.wanted o (yielded ops (zIX ds a).tmps) = true from hw)]
      rcases h with h | h
      · exact zNO (zME hd List.mem_cons_self) (fun a w h => zNP hnl hQ rest a w hd2 h) hQ h
      · exact absurd h.2 hnl
    · rw [if_neg hw] at h
      rw [if_neg (show ¬ Region.wanted o (yielded ops (zIX ds a).tmps) = true from hw)]
      exact ⟨fun _ _ => trivial, by rw [← zJM]; exact zNP hnl hQ rest _ w hd2 h⟩
theorem zPd {md : Region.Mode} (hd : ∀ (i : Nat) (o : Oper), ops[i]? = some o → ∀ c, o.op ≠ .defer c) (hnl : ¬ LetsOut Q) (hQ : ∀ e a w, Q e a w → Q' e (zIX ds a) w) : ∀ (fuel : Nat) (listed : Array Bool) (a : Act) (w : World), wpAny P md ops Q fuel listed a w → wpAnyIn (wR r) n P md ops Q' fuel listed (zIX ds a) w
  | 0, listed, a, w, h => ⟨h.1, hQ _ _ _ h.2⟩
  | fuel + 1, listed, a, w, h => ⟨fun e => hQ _ _ _ (h.1 e), fun i hi => zTz (hd i) hnl (fun a w h => zPd hd hnl hQ fuel _ a w h) hQ (h.2 i hi)⟩
end
def CF (r : Option Nat) (ds : List Deferred) (P : Program) (N : Nat) (c : Code) (R : Fr → World → Prop) (X : Nat → Fr → World → Prop) (K : Fr → World → Prop) (F : Fr) (w : World) : Prop :=
  ∀ T : Array Value, T.size = N → zDb T = F → c.wpIn (wR r) 3 P (fun e a w => a.defers = ds ∧ a.tmps.size = N ∧ QQ R X K e (zDb a.tmps) w) ⟨T, ds⟩ w
section
variable {r : Option Nat} {ds : List Deferred} {P : Program} {N : Nat} {R K : Fr → World → Prop} {X : Nat → Fr → World → Prop} {F : Fr} {w : World}
theorem CF.mono {c : Code} {K' R' : Fr → World → Prop} {X' : Nat → Fr → World → Prop} (h : CF r ds P N c R X K F w) (hR : ∀ F w, R F w → R' F w) (hX : ∀ i F w, X i F w → X' i F w) (hK : ∀ F w, K F w → K' F w) : CF r ds P N c R' X' K' F w := by
  intro T hT hF
  refine wpIn_mono (h T hT hF) ?_
  rintro e a w ⟨h1, h2, h3⟩
  refine ⟨h1, h2, ?_⟩
  cases e <;> first | exact hK _ _ h3 | exact hR _ _ h3 | exact hX _ _ _ h3 | exact h3
theorem zJ8 {a b : Code} (h : CF r ds P N a R X (fun F w => CF r ds P N b R X K F w) F w) : CF r ds P N (.seq a b) R X K F w := by
  intro T hT hF
  refine wpIn_seq (wpIn_mono (h T hT hF) ?_)
  rintro e ⟨tm, df⟩ w ⟨h1, h2, h3⟩
  simp only at h1 h2
  subst h1
  cases e <;> first | exact h3 tm h2 rfl | exact ⟨rfl, h2, h3⟩
theorem zMS {c : Operand} {a b : Code} {t : Bool} (hc : ev F c = .bool t) (ha : t = true → CF r ds P N a R X K F w) (hb : t = false → CF r ds P N b R X K F w) : CF r ds P N (.cond c a b) R X K F w := by
  intro T hT hF
  exact wpIn_cond_split (t := t) (by rw [zHm, hF]; exact hc) (fun h => ha h T hT hF) (fun h => hb h T hT hF)
theorem zQU {β : Type} {c : Operand} {a b : Code} {t : Bool} {A B : Option β} {q : β} (hc : ev F c = .bool t) (hm : ifB t A B = some q) (ha : t = true → A = some q → CF r ds P N a R X K F w) (hb : t = false → B = some q → CF r ds P N b R X K F w) : CF r ds P N (.cond c a b) R X K F w := by
  cases t with
  | true => exact zMS hc (fun h => ha h hm) (fun h => by cases h)
  | false => exact zMS hc (fun h => by cases h) (fun h => hb h hm)
theorem zOm {c : Operand} {a b : Code} {t : Bool} (hc : ev F c = .bool t) (ht : t = true) (h : CF r ds P N a R X K F w) : CF r ds P N (.cond c a b) R X K F w := by subst ht; exact zMS hc (fun _ => h) (fun h => by cases h)
theorem zOn {c : Operand} {a b : Code} {t : Bool} (hc : ev F c = .bool t) (ht : t = false) (h : CF r ds P N b R X K F w) : CF r ds P N (.cond c a b) R X K F w := by subst ht; exact zMS hc (fun h => by cases h) (fun _ => h)
theorem CF.block {id : Nat} {c : Code} (h : CF r ds P N c R (XX id K X) K F w) : CF r ds P N (.block id c) R X K F w := by
  intro T hT hF
  refine wpIn_block (wpIn_mono (h T hT hF) ?_)
  rintro e a w ⟨h1, h2, h3⟩
  cases e with
  | exit i =>
    simp only [Exit.inBlock]
    split
    · rename_i he; subst he; refine ⟨h1, h2, ?_⟩; simpa [QQ, XX] using h3
    · rename_i he
      refine ⟨h1, h2, ?_⟩
      have hb : Nat.beq i id = false := by
        cases hb : Nat.beq i id
        · rfl
        · exact absurd (Nat.eq_of_beq_eq_true hb) he
      simpa [QQ, XX, hb] using h3
  | _ => exact ⟨h1, h2, h3⟩
theorem zNQ (h : K F w) : CF r ds P N .skip R X K F w := by
  intro T hT hF; exact wpIn_skip ⟨rfl, hT, by show K _ _; rw [hF]; exact h⟩
theorem zSo {id : Nat} (h : X id F w) : CF r ds P N (.exit id) R X K F w := by
  intro T hT hF; exact wpIn_exit ⟨rfl, hT, by show X id _ _; rw [hF]; exact h⟩
theorem zPe (h : R F w) : CF r ds P N .ret R X K F w := by
  intro T hT hF; exact wpIn_ret ⟨rfl, hT, by show R _ _; rw [hF]; exact h⟩
theorem zSp {c : Code} (I : Fr → World → Prop) (μ : Fr → World → Nat) (h0 : I F w)
    (round : ∀ F w, I F w → CF r ds P N c R X (fun F' w' => I F' w' ∧ μ F' w' < μ F w) F w) : CF r ds P N (.loop c) R X K F w := by
  intro T hT hF
  subst hF
  refine wpIn_loop (fun a w => a.defers = ds ∧ a.tmps.size = N ∧ I (zDb a.tmps) w) (fun a w => μ (zDb a.tmps) w) ⟨rfl, hT, h0⟩ ?_
  rintro ⟨tm, df⟩ w ⟨h1, h2, h3⟩
  simp only at h1 h2 h3
  subst h1
  refine wpIn_mono (round _ _ h3 tm h2 rfl) ?_
  rintro e ⟨tm', df'⟩ w' ⟨g1, g2, g3⟩
  cases e <;> first | exact ⟨⟨g1, g2, g3.1⟩, g3.2⟩ | exact ⟨g1, g2, g3⟩
theorem zTX {σ : Type} {a b : Code} (J : σ → Fr → World → Prop) (kont : σ → Prop) (h1 : CF r ds P N a R X (fun F w => ∃ s, kont s ∧ J s F w) F w) (h2 : ∀ s F w, J s F w → kont s → CF r ds P N b R X K F w) : CF r ds P N (.seq a b) R X K F w :=
  zJ8 (CF.mono h1 (fun _ _ h => h) (fun _ _ _ h => h) (fun F w ⟨s, hk, hJ⟩ => h2 s F w hJ hk))
theorem zTq {σ : Type} {id : Nat} {c : Code} (J : σ → Fr → World → Prop) (kont : σ → Prop) (h1 : CF r ds P N c R (XJ id (fun F w => ∃ s, kont s ∧ J s F w) X) (fun F w => ∃ s, kont s ∧ J s F w) F w) (h2 : ∀ s F w, J s F w → kont s → K F w) : CF r ds P N (.block id c) R X K F w := by
  refine CF.block (CF.mono h1 (fun _ _ h => h) (fun i F w h => ?_) (fun F w ⟨s, hk, hJ⟩ => h2 s F w hJ hk))
  unfold XJ at h
  unfold XX
  cases hb : Nat.beq i id with
  | true => rw [hb] at h; obtain ⟨s, hk, hJ⟩ := h; exact h2 s F w hJ hk
  | false => rw [hb] at h; exact h
theorem CF.post (K : Fr → World → Prop) : ∀ e a w, (a.defers = [] ∧ a.tmps.size = N ∧ QQ (fun _ _ => False) (fun _ _ _ => False) K e (zDb a.tmps) w) → ((zIX ds a).defers = ds ∧ (zIX ds a).tmps.size = N ∧ QQ R X K e (zDb (zIX ds a).tmps) w) := by
  rintro e ⟨tm, df⟩ w ⟨h1, h2, h3⟩
  simp only at h1
  subst h1
  cases e <;> first | exact ⟨rfl, h2, h3⟩ | exact h3.elim
theorem zJt {id : Nat} {l : List Oper} (h : OW P N l.toArray l K F w) (hd : zKs l = true := by rfl) : CF r ds P N (.region id l.toArray false) R X K F w := by
  intro T hT hF
  refine wpIn_region_lit ?_
  have h1 := h T (fun e a w => a.defers = [] ∧ a.tmps.size = N ∧ QQ (fun _ _ => False) (fun _ _ _ => False) K e (zDb a.tmps) w) hT hF (fun a w h1 h2 h3 => ⟨h1, h2, h3⟩)
  exact zNP (ds := ds) (fun ⟨a, w, h⟩ => h.2.2) (CF.post K) l ⟨T, []⟩ w hd h1
theorem zMF {l : List Oper} (hd : zKs l = true) : ∀ (i : Nat) (o : Oper), l.toArray[i]? = some o → ∀ c, o.op ≠ .defer c := by
  intro i o ho
  exact zME hd (List.mem_of_getElem? (by simpa using ho))
theorem zSq {id : Nat} {l : List Oper} (hm : P.follows .mixedOrders = true) (h : DW P N l.toArray l.length (Array.replicate l.length false) K F { w with drawn := w.drawn + 1 }) (hd : zKs l = true := by rfl) : CF r ds P N (.region id l.toArray true) R X K F w := by
  intro T hT hF
  refine wpIn_region_any hm ?_
  have h1 := h T (fun e a w => a.defers = [] ∧ a.tmps.size = N ∧ QQ (fun _ _ => False) (fun _ _ _ => False) K e (zDb a.tmps) w) hT hF (fun c a w h => h.2.2) (fun a w h1 h2 h3 => ⟨h1, h2, h3⟩)
  have h2 := zPd (r := r) (n := 3) (ds := ds) (Q' := fun e a w => a.defers = ds ∧ a.tmps.size = N ∧ QQ R X K e (zDb a.tmps) w) (zMF hd) (fun ⟨a, w, h⟩ => h.2.2) (CF.post (R := R) (X := X) K) _ _ _ _ h1
  simpa [zIX] using h2
theorem zQV {id : Nat} {l : List Oper} (S : World → Prop) (hm : P.follows .mixedOrders = true) (h : DH P N l.toArray S l.length (Array.replicate l.length false) K F { w with drawn := w.drawn + 1 }) (hd : zKs l = true := by rfl) : CF r ds P N (.region id l.toArray true) R X K F w := by
  intro T hT hF
  refine wpIn_region_any hm ?_
  have h1 := wpAny_of_held _ _ _ _ (h T (fun e a w => a.defers = [] ∧ a.tmps.size = N ∧ QQ (fun _ _ => False) (fun _ _ _ => False) K e (zDb a.tmps) w) hT hF (fun c a w h => h.2.2) (fun a w h1 h2 h3 => ⟨h1, h2, h3⟩))
  have h2 := zPd (r := r) (n := 3) (ds := ds) (Q' := fun e a w => a.defers = ds ∧ a.tmps.size = N ∧ QQ R X K e (zDb a.tmps) w) (zMF hd) (fun ⟨a, w, h⟩ => h.2.2) (CF.post (R := R) (X := X) K) _ _ _ _ h1
  simpa [zIX] using h2
end
def zET (b : Nat) (o : Obj) : Ent where
  S k := k = b
  H w := w.heap[b]? = some o
  fr hf h := (hf b rfl).trans h
  lt h hk := by subst hk; exact zHS h
theorem Mod.put (w : World) (b : Nat) (o : Obj) : Mod (· = b) w (w.putObj b o) := ⟨⟨rfl, rfl, rfl, by simp⟩, fun k _ h => World.putObj_heap_other h⟩
theorem Hp.put {w0 w : World} {Γ : List Ent} {b : Nat} {o : Obj} (h : Hp w0 Γ w) (i : Nat) (hi : Γ[i]? = some (zET b o)) (o' : Obj) : Hp w0 (Γ.set i (zET b o')) (w.putObj b o') :=
  h.upd i hi (Mod.put w b o') (fun k _ hk => hk) (World.putObj_heap_same (zHS (h.get i hi))) (fun k hk => .inl hk)
theorem Hp.pushRaw {w0 w : World} {Γ : List Ent} (h : Hp w0 Γ w) (o : Obj) : Hp w0 (zET w.heap.size o :: Γ) (w.alloc o) :=
  h.push (Mod.alloc w o) (World.alloc_heap_new w o) (fun k hk => by cases hk; exact Nat.le_refl _)
def zQW (D : Nat) : Deferred := { target := .collected D, args := #[] }
def SQ (N : Nat) (R K : List Deferred → Fr → World → Prop) : Exit → Act → World → Prop
  | .normal, a, w => a.tmps.size = N ∧ K a.defers (zDb a.tmps) w
  | .ret, a, w => a.tmps.size = N ∧ R a.defers (zDb a.tmps) w
  | _, _, _ => False
def SW (P : Program) (N : Nat) (c : Code) (R K : List Deferred → Fr → World → Prop) (ds : List Deferred) (F : Fr) (w : World) : Prop :=
  ∀ T : Array Value, T.size = N → zDb T = F → c.wpIn (wR none) 3 P (SQ N R K) ⟨T, ds⟩ w
def RM (P : Program) (fn : Func) (C : Ending → World → Prop) : List Deferred → Fr → World → Prop := fun ds F w => ∀ T, zDb T = F → LeavesInM Fence.wide 3 P fn T C ds .returning w
section
variable {P : Program} {N : Nat} {R K : List Deferred → Fr → World → Prop} {ds : List Deferred} {F : Fr} {w : World}
theorem zSr {c : Code} (h : CF none ds P N c (R ds) (fun _ _ _ => False) (K ds) F w) : SW P N c R K ds F w := by
  intro T hT hF
  refine wpIn_mono (h T hT hF) ?_
  rintro e ⟨tm, df⟩ w ⟨h1, h2, h3⟩
  simp only at h1
  subst h1
  cases e <;> first | exact ⟨h2, h3⟩ | exact h3.elim
theorem zSs {c : Code} (h : CW P N c (R []) (fun _ _ _ => False) (K []) F w) : SW P N c R K [] F w := by
  intro T hT hF
  refine wpIn_mono ((wpIn_wide (n := 3)).2 (h T hT hF)) ?_
  rintro e ⟨tm, df⟩ w ⟨h1, h2, h3⟩
  simp only at h1
  subst h1
  cases e <;> first | exact ⟨h2, h3⟩ | exact h3.elim
theorem zQX {a b : Code} (h : SW P N a R (fun ds F w => SW P N b R K ds F w) ds F w) : SW P N (.seq a b) R K ds F w := by
  intro T hT hF
  refine wpIn_seq (wpIn_mono (h T hT hF) ?_)
  rintro e ⟨tm, df⟩ w hq
  cases e <;> first | exact hq.2 tm hq.1 rfl | exact hq
theorem zL4 {a b : Code} (h : CW P N a (R []) (fun _ _ _ => False) (fun F w => SW P N b R K [] F w) F w) : SW P N (.seq a b) R K [] F w := zQX (zSs h)
theorem SW.block {id : Nat} {c : Code} (h : SW P N c R K ds F w) : SW P N (.block id c) R K ds F w := by
  intro T hT hF
  refine wpIn_block (wpIn_mono (h T hT hF) ?_)
  rintro e a w hq
  cases e <;> first | exact hq | exact hq.elim
theorem RM.nil {fn : Func} {C : Ending → World → Prop} (h : RR P fn C F w) : RM P fn C [] F w := fun T hT => h T hT
theorem zPI {fn : Func} {C : Ending → World → Prop} {w0 : World} {Γ : List Ent} {D : Nat} (hL : Hp w0 Γ w) (i : Nat) (hi : Γ[i]? = some (zET D (.deferred (some [])))) (h : ∀ w', Hp w0 (Γ.eraseIdx i) w' → RR P fn C F w') : RM P fn C [zQW D] F w := fun T hT => by
  refine ⟨(fun h => by cases h), .inl ⟨D, w.putObj D (.deferred none), rfl, run_takeDeferred (hL.get i hi), ?_⟩⟩
  have h1 := (hL.put i hi (.deferred none)).drop i
  rw [List.eraseIdx_set_eq] at h1
  exact h _ h1 T hT
theorem zQY {f : FuncId} {fn : Func} {c : Code} {args : List Value} {C : Ending → World → Prop} (hf : P.funcs[f]? = some fn) (hb : fn.body = some c) (hN : fn.ntmps = N) (hA0 : Nat.ble args.length N = true)
    (h : SW P N c (RM P fn C) (RM P fn C) [] (zQG args) w) : Calls P f args.toArray w C := by
  have hA : args.length ≤ N := Nat.le_of_ble_eq_true hA0
  refine (callsIn_wide (n := 3)).1 (callsIn_of_wp_marks hf hb trivial ?_)
  have hs : (args.toArray ++ Array.replicate (fn.ntmps - args.toArray.size) undef).size = N := by simp [hN]; omega
  refine wpIn_mono (h _ hs (zMq _ _)) ?_
  rintro e a w' hq
  cases e with
  | normal => exact hq.2 _ rfl
  | ret => exact hq.2 _ rfl
  | _ => exact hq.elim
end
def zSW (P : Program) (g : FuncId) (E : TypeId) (b : Nat) (v : Value) {α : Type} [GoT α] (xs : List (List α)) : Prop :=
  ∀ (l : Nat) (Y : Nat → World → Prop) (Z : World → Prop) (W : World),
    (∀ k W, Y k W → W.heap[b]? = some (.cells #[v] E (0, 0)) ∧ rdL (· < W.heap.size) W v xs) →
    (∀ (i : Nat) W u (hi : i < xs.length), Y (i + 1) W → (∀ b' q', IxAddr v 1 (i : Int) b' q' → W.cell? ⟨b', q', none⟩ = some u) → ∃ fn tmps assign body, (Instr.yield l #[.int .i64 i, u]).run P W = .ok (.round l fn tmps assign body) W ∧
      RoundIn (wR none) 3 P l fn tmps assign body W fun e W' => (e = .returned (.bool true) ∧ Y i W') ∨ (e = .returned (.bool false) ∧ Z W')) →
    Y xs.length W → CallsIn (wR none) 2 P g #[.func (.yield l) #[] #[], .pointer (some ⟨b, 0, none⟩)] W fun e W' => (∃ v, e = .returned v) ∧ (Y 0 W' ∨ Z W')
theorem zQZ {W : World} {b' q' l : Nat} {u : Value} {r : Loop} (h : W.cell? ⟨b', q', none⟩ = some u) (hl : W.heap[l]? = some (.loop r)) (o : Obj) : (W.putObj l o).cell? ⟨b', q', none⟩ = some u := by
  have hne : b' ≠ l := by
    intro e
    subst e
    simp [World.cell?, hl] at h
  rw [← h]
  exact zL0 (World.putObj_heap_other hne) q'
section
variable {P : Program} {N : Nat} {R K : List Deferred → Fr → World → Prop} {F : Fr} {w0 w : World} {Γ : List Ent} {α : Type} [GoT α]
theorem zP8 {n m : Nat} {l : Nat} {f : FuncId} {tmps : Array Value} {assign body : Code} {R : Ending → World → Prop} (h : RoundIn (wR none) n P l f tmps assign body w R) : RoundIn (wR none) m P l f tmps assign body w R :=
  ⟨trivial, fun c cs _ => h.2 c cs (fun d hd => by cases hd)⟩
theorem zP9 {g : FuncId} {t p1 p2 : Nat} {assign body : Code} {E : TypeId} {bx : Nat} {v : Value} {xs : List (List α)} {ρ : Type} {bodyM : Int → Option (Stp ρ Int)} {o : Outc ρ Int} (kont : Outc ρ Int → Prop) (fA : Fr → Value → Value → Fr)
    (hC : zAL P g) (hg : F t = .func (.func g) #[] #[.pointer (some ⟨bx, 0, none⟩)]) (hp1 : Nat.blt p1 N = true) (hp2 : Nat.blt p2 N = true)
    (hit : zSW P g E bx v xs) (hL : Hp w0 Γ w)
    (hrd : ∀ Γ0 W, Hp w0 (Γ0 ++ Γ) W → W.heap[bx]? = some (.cells #[v] E (0, 0)) ∧ rdL (· < W.heap.size) W v xs)
    (ho : zAO bodyM ((xs.length : Int) - 1) = some o) (hk : kont o) (hbrk : ∀ t, bodyM (-1) = some t → t = .brk (-1))
    (hassign : ∀ (l : Nat) (x y : Value) (W : World) (K : Fr → World → Prop), K (fA F x y) W → CF (some l) [] P N assign (fun _ _ => False) (fun _ _ _ => False) K (upd (upd F p1 x) p2 y) W)
    (round : ∀ (l D : Nat) (lo : Obj) (i : Nat) (u : Value) (W : World) (t : Stp ρ Int) (hi : i < xs.length), Hp w0 (zET l lo :: zET D (.deferred (some [])) :: Γ) W → (∀ b' q', IxAddr v 1 (i : Int) b' q' → W.cell? ⟨b', q', none⟩ = some u) →
      bodyM (i : Int) = some t → (∀ q, t = .ret q → kont (.ret q)) →
      CF (some l) [] P N body (fun F' W' => ∃ Γ', Hp w0 (zET l lo :: zET D (.deferred (some [])) :: Γ') W' ∧ ∀ W2, Hp w0 (zET D (.deferred (some [])) :: Γ') W2 → R [zQW D] F W2) (fun _ _ _ => False)
        (fun F' W' => t = .cont ((i : Int) - 1) ∧ Hp w0 (zET l lo :: zET D (.deferred (some [])) :: Γ) W') (fA F (.int .i64 i) u) W)
    (after : ∀ D W, Hp w0 (zET D (.deferred (some [])) :: Γ) W → kont (.nxt (-1)) → K [zQW D] F W) :
    SW P N (.rangeFunc (.tmp t) #[p1, p2] assign body) R K [] F w := by
  intro T hT hF
  obtain ⟨gn, gc, hgf, hgb, hgn⟩ := hC
  have hp1' : p1 < T.size := by rw [hT]; simpa using hp1
  have hp2' : p2 < T.size := by rw [hT]; simpa using hp2
  refine wpIn_rangeFunc ?_
  intro fn _
  obtain ⟨rec, hrec⟩ : ∃ rec : LoopState → Option Code → Loop, rec = fun st pe => { state := st, pending := pe, fn, tmps := T, params := #[p1, p2], assign, body, defers := w.heap.size } := ⟨_, rfl⟩
  have hL1 : Hp w0 (zET (w.heap.size + 1) (.loop (rec .ready none)) :: zET w.heap.size (.deferred (some [])) :: Γ) ((w.alloc (.deferred (some []))).alloc (.loop (rec .ready none))) := by
    have := (hL.pushRaw (.deferred (some []))).pushRaw (.loop (rec .ready none))
    rwa [World.size_alloc] at this
  have hev : (⟨T, []⟩ : Act).eval (.tmp t) = .func (.func g) #[] #[.pointer (some ⟨bx, 0, none⟩)] := by rw [zHm, hF]; exact hg
  refine ⟨w.heap.size + 1, [zQW w.heap.size], (w.alloc (.deferred (some []))).alloc (.loop (rec .ready none)), { target := .fn (.func g) #[.pointer (some ⟨bx, 0, none⟩)], args := #[.func (.yield (w.heap.size + 1)) #[] #[]] }, (w.alloc (.deferred (some []))).alloc (.loop (rec .ready none)), g,
    #[.func (.yield (w.heap.size + 1)) #[] #[], .pointer (some ⟨bx, 0, none⟩)], (w.alloc (.deferred (some []))).alloc (.loop (rec .ready none)), ?_, ?_, fun _ _ => trivial, ?_, (fun h => by cases h), ?_⟩
  · rw [hrec]; exact run_enterLoop_outer _ _ _ _ _
  · simp only [resolve, hev]
    simp [go_sem]
  · have hgn2 : gn.name ≠ "runtime.NumGoroutine" := by simpa using hgn
    simp [invoke, callFunc, hgf, hgb, hgn2]
  · refine (hit (w.heap.size + 1)
      (fun k W => Hp w0 (zET (w.heap.size + 1) (.loop (rec .ready none)) :: zET w.heap.size (.deferred (some [])) :: Γ) W ∧ ∃ fuel, zHQ bodyM fuel ((k : Int) - 1) = some o)
      (fun W => ∃ Γ', Hp w0 (zET (w.heap.size + 1) (.loop (rec .done (some .ret))) :: zET w.heap.size (.deferred (some [])) :: Γ') W ∧ ∀ W2, Hp w0 (zET w.heap.size (.deferred (some [])) :: Γ') W2 → R [zQW w.heap.size] F W2)
      _ (fun k W h => hrd [_, _] W h.1) ?_ ⟨hL1, zOi, ho⟩).mono ?_
    · -- one round
      rintro i W u hi ⟨hW, fuel, hfu⟩ hu
      have hl := hW.get 0 rfl
      have hy := run_yield (P := P) (args := #[.int .i64 i, u]) hl (by rw [hrec]; rfl)
      refine ⟨_, _, _, _, hy, ?_⟩
      rw [hrec]
      refine roundIn_of_wpIn trivial ?_
      have hT' : ((T.setIfInBounds p1 (.int .i64 (i : Int))).setIfInBounds p2 u).size = N := by simp [hT]
      have hF' : zDb ((T.setIfInBounds p1 (.int .i64 (i : Int))).setIfInBounds p2 u) = upd (upd F p1 (.int .i64 i)) p2 u := by
        rw [zFs _ _ _ (by simpa using hp2'), zFs _ _ _ hp1', hF]
      cases fuel with
      | zero => cases hfu
      | succ fuel =>
        have hfu' : zHQ bodyM (fuel + 1) (i : Int) = some o := by simpa using hfu
        cases hb : bodyM (i : Int) with
        | none => simp [zHQ, hb] at hfu'
        | some t =>
          have h1 := hassign (w.heap.size + 1) (.int .i64 i) u W (fun F1 W1 => F1 = fA F (.int .i64 i) u ∧ W1 = W) ⟨rfl, rfl⟩ _ hT' hF'
          have ez : (#[p1, p2].zip #[.int .i64 (i : Int), u]).foldl (fun tmps (t, a) => tmps.setIfInBounds t a) T = (T.setIfInBounds p1 (.int .i64 (i : Int))).setIfInBounds p2 u := by
            first | rfl | (rw [← Array.foldl_toList, Array.toList_zip]; rfl)
          rw [← ez] at h1
          refine zPc (wpIn_mono h1 ?_)
          rintro e ⟨tm, df⟩ W1 ⟨g1, g2, g3⟩
          simp only at g1 g2
          subst g1
          cases e with
          | normal =>
            obtain ⟨g3, rfl⟩ := g3
            rw [hrec] at hl
            have hbg := run_beginRound (P := P) hl rfl
            refine ⟨_, hbg, ?_⟩
            have hW2 := hW.put 0 rfl (.loop { rec .ready none with state := .busy })
            rw [hrec] at hW2
            have h2 := round (w.heap.size + 1) w.heap.size (.loop (rec .busy none)) i u _ t hi (by rw [hrec]; exact hW2) (fun b' q' hix => zQZ (hu b' q' hix) hl _) hb (fun q hq => by subst hq; simp [zHQ, hb] at hfu'; rw [hfu']; exact hk) tm g2 g3
            rw [hrec] at h2
            refine zPc (wpIn_mono h2 ?_)
            rintro e ⟨tm2, df2⟩ W3 ⟨k1, k2, k3⟩
            cases e with
            | normal =>
              obtain ⟨rfl, hW3⟩ := k3
              refine ⟨_, _, run_endRound none (hW3.get 0 rfl), .inl ⟨rfl, ?_, fuel, ?_⟩⟩
              · exact hW3.put 0 rfl _
              · simp [zHQ, hb] at hfu'; exact hfu'
            | ret =>
              obtain ⟨Γ', hW3, hR⟩ := k3
              refine ⟨_, _, run_endRound (some .ret) (hW3.get 0 rfl), .inr ⟨rfl, Γ', ?_, hR⟩⟩
              exact hW3.put 0 rfl _
            | _ => exact k3.elim
          | _ => exact g3.elim
    · -- behind the iterator
      rintro e W2 ⟨⟨v', rfl⟩, (⟨hW2, fuel, hfu⟩ | ⟨Γ', hW2, hR⟩)⟩
      · have hl := hW2.get 0 rfl
        rw [hrec] at hl
        refine ⟨none, _, run_endLoop hl (by simp), ?_⟩
        have hW3 := (hW2.put 0 rfl (.loop { rec .ready none with state := .exhausted })).drop 0
        rw [hrec] at hW3
        have hkb : kont (.nxt (-1)) := by
          cases fuel with
          | zero => cases hfu
          | succ fuel =>
            cases hb : bodyM (-1) with
            | none => simp [zHQ, hb] at hfu
            | some t =>
              obtain rfl := hbrk t hb
              simp [zHQ, hb] at hfu
              rw [hfu]; exact hk
        have := after w.heap.size _ hW3 hkb
        exact ⟨hT, by rw [hF]; exact this⟩
      · have hl := hW2.get 0 rfl
        rw [hrec] at hl
        refine ⟨some .ret, _, run_endLoop hl (by simp), wpIn_ret ?_⟩
        have hW3 := (hW2.put 0 rfl (.loop { rec .done (some .ret) with state := .exhausted })).drop 0
        rw [hrec] at hW3
        exact ⟨hT, by rw [hF]; exact hR _ hW3⟩
end
theorem zSt {β : Type} {b : Bool} {A B : Option β} {q : β} (hb : b = true) (hm : ifB b A B = some q) : A = some q := by subst hb; exact hm
theorem Hp.drops {w0 w : World} {Γ0 Γ : List Ent} (h : Hp w0 (Γ0 ++ Γ) w) : Hp w0 Γ w := ⟨h.same, fun e he => h.all e (List.mem_append_right _ he), (List.pairwise_append.1 h.pw).2.1⟩
theorem zGD {w : World} {b : Nat} {v : Value} {E : TypeId} (h : w.heap[b]? = some (.cells #[v] E (0, 0))) : w.cell? ⟨b, 0, none⟩ = some v := by rw [zJW h]; rfl
theorem zQ0 {n : Int} (h : -9223372036854775808 ≤ n ∧ n < 9223372036854775808) : w64 n = n := by
  rw [w64, IntKind.wrap_i64]; omega
theorem zGz {P : Program} {w : World} {a : Addr} {t : TypeId} {v : Value} {d : TypeDesc} (ht : P.underlying t = some d) (hd : zCc d = true) (hc : w.cell? a = some v) : (loadVar t a).run P w = .ok v w := by
  simp [loadVar, zLC ht hd, load, Sem.run, hc]
theorem zQ1 {P : Program} {N n : Nat} {w : World} {f : FuncId} {fn : Func} {c : Code} {args : List Value} {C : Ending → World → Prop} (hf : P.funcs[f]? = some fn) (hb : fn.body = some c) (hN : fn.ntmps = N) (hA0 : Nat.ble args.length N = true)
    (h : CF none [] P N c (RR P fn C) (fun _ _ _ => False) (RR P fn C) (zQG args) w) : CallsIn (wR none) n P f args.toArray w C := by
  have hA : args.length ≤ N := Nat.le_of_ble_eq_true hA0
  refine callsIn_of_wp hf hb trivial ?_
  have hs : (args.toArray ++ Array.replicate (fn.ntmps - args.toArray.size) undef).size = N := by simp [hN]; omega
  refine zPc (wpIn_mono (h _ hs (zMq _ _)) ?_)
  rintro e a w' ⟨h1, h2, h3⟩
  cases e with
  | normal => exact ⟨h1, h3 _ rfl⟩
  | ret => exact ⟨h1, h3 _ rfl⟩
  | exit id => exact h3.elim
  | _ => exact h3.elim
def OF (P : Program) (N : Nat) (ops : Array Oper) (rest : List Oper) (K : Fr → World → Prop) (F : Fr) (w : World) : Prop :=
  ∀ (T : Array Value) (Q : Exit → Act → World → Prop), T.size = N → zDb T = F → (∀ a w, a.defers = [] → a.tmps.size = N → K (zDb a.tmps) w → Q .normal a w) → wpListIn (wR none) 3 P ops Q rest ⟨T, []⟩ w
theorem zM3 (a : Act) : zIX [] a = a := by obtain ⟨t, d⟩ := a; simp [zIX]
section
variable {P : Program} {N : Nat} {ops : Array Oper} {rest : List Oper} {K : Fr → World → Prop} {F : Fr} {w : World} {o : Oper}
theorem OF.nil (h : K F w) : OF P N ops [] K F w := by
  intro T Q hT hF hQ
  exact hQ _ _ rfl hT (by show K (zDb T) w; rw [hF]; exact h)
theorem zJY (hd : zPH o.op = true) (h : OP P N ops o (fun F w => OF P N ops rest K F w) F w) : OF P N ops (o :: rest) K F w := by
  intro T Q hT hF hQ
  have h1 := h T Q (wpListIn (wR none) 3 P ops Q rest) hT hF (fun a w h1 h2 h3 => by
    obtain ⟨tm, df⟩ := a
    simp only at h1
    subst h1
    exact h3 tm Q h2 rfl hQ)
  unfold wpListIn
  split
  · rename_i hw
    rw [if_pos hw] at h1
    have h2 := zNO (r := none) (n := 3) (ds := []) (next' := wpListIn (wR none) 3 P ops Q rest) (Q' := Q) (fun c hc => by rw [hc] at hd; cases hd) (fun a w h => by rw [zM3]; exact h) (fun e a w h => by rw [zM3]; exact h) h1
    rw [zM3] at h2
    exact h2
  · rename_i hw
    rw [if_neg hw] at h1
    exact ⟨fun _ _ => trivial, h1⟩
theorem OF.yield {t p q d l fn : Nat} {ts : Array TypeId} {ty : TypeId} {pos : String} {aft : Array Edge} {x y : Value} {tmps : Array Value} {assign body : Code} (hd : Nat.blt d N = true) (ht : F t = .func (.yield l) #[] #[]) (hx : F p = x) (hy : F q = y)
    (hr : (Instr.yield l #[x, y]).run P w = .ok (.round l fn tmps assign body) w)
    (hR : RoundIn (wR none) 3 P l fn tmps assign body w fun e w' => ∃ v, e = .returned v ∧ OF P N ops rest K (upd F d v) w') :
    OF P N ops (⟨some d, .call { callee := .value (.tmp t), args := #[.tmp p, .tmp q], argTypes := ts }, ty, pos, aft, none⟩ :: rest) K F w := by
  intro T Q hT hF hQ
  have hd' : d < T.size := by rw [hT]; simpa using hd
  unfold wpListIn
  rw [if_pos (zCL T _)]
  refine ⟨fun _ _ => trivial, ?_⟩
  rw [Oper.semAt_eq _ _ _ (fun c hc => by cases hc), zHm, hF]
  have he : (execOp (ev F) ⟨some d, .call { callee := .value (.tmp t), args := #[.tmp p, .tmp q], argTypes := ts }, ty, pos, aft, none⟩).run P w = .ok (.round l fn tmps assign body) w := by
    simp [execOp, resolve, ev, ht, hx, hy, Deferred.ofValue, invoke, hr]
  rw [he, Oper.uponIn_round]
  refine ⟨(fun h => by cases h), (zP8 hR).mono ?_⟩
  rintro e w' ⟨v, rfl, hk⟩
  exact hk (T.setIfInBounds d v) Q (by simp [hT]) (by rw [zFs _ _ _ hd', hF]) hQ
theorem zPf {R : Fr → World → Prop} {X : Nat → Fr → World → Prop} {id : Nat} {l : List Oper} (h : OF P N l.toArray l K F w) : CF none [] P N (.region id l.toArray false) R X K F w := by
  intro T hT hF
  exact wpIn_region_lit (h T _ hT hF fun a w h1 h2 h3 => ⟨h1, h2, h3⟩)
end
end Go.Proofs.YtmmkkcmliofknaaGreatDoor
