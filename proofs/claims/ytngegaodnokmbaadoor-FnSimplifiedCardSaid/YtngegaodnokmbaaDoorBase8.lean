/- Shorter words for the links of big claims, and Go's sort as a change of a slice of the call's own. -/
import Derived.Test.YtngegaodnokmbaaDoorBase7
import Derived.Sort.Grow
namespace Go.Proofs.YtngegaodnokmbaaDoor
open Go Go.RowKit Go.ChangeShapes Go.WideShapes
set_option linter.unusedVariables false
set_option linter.unusedSimpArgs false
def bmk : Nat → Nat → List Bool
  | 0, _ => []
  | n + 1, m => Nat.beq (m % 2) 1 :: bmk n (m / 2)
abbrev bma (n m : Nat) : Array Bool := ⟨bmk n m⟩
section
variable {P : Program} {N : Nat} {R K : Fr → World → Prop} {X : Nat → Fr → World → Prop} {F : Fr} {w w' : World} {ops : Array Oper} {rest : List Oper} {d : Nat} {op : Op} {ty : TypeId} {pos : String} {aft : Array Edge}
theorem OV (v : Value) (hd : Nat.blt d N = true) (hx : XV P F op ty w v w') (h : OW P N ops rest K (upd F d v) w') : OW P N ops (⟨some d, op, ty, pos, aft, none⟩ :: rest) K F w := OW.cons (OP.val (v := v) hd hx h)
theorem CSR {id : Nat} {l : List Oper} {b : Code} (h : OW P N l.toArray l (fun F w => CW P N b R X K F w) F w) : CW P N (.seq (.region id l.toArray false) b) R X K F w := CW.seq (CW.regionL h)
theorem ONR {id : Nat} {l : List Oper} {b : Code} (h : OW P N l.toArray l (fun F w => CW P N b R X K F w) F w) : OW P N ops [] (fun F w => CW P N (.seq (.region id l.toArray false) b) R X K F w) F w := OW.nil (CSR h)
theorem ONS {a b : Code} (h : CW P N a R X (fun F w => CW P N b R X K F w) F w) : OW P N ops [] (fun F w => CW P N (.seq a b) R X K F w) F w := OW.nil (CW.seq h)
end
theorem rdL.rdL {α : Type} [GoT α] {S : Nat → Prop} {w : World} {v : Value} {xs : List α} (h : rdL S w v xs) : rdL S w v xs := h
section
variable {α : Type} [GoT α] {w0 w w1 : World} {Γ : List Ent} {E : TypeId} {S : Nat → Prop} {v v' : Value} {xs : List α}
end
section
variable {α : Type} [GoT α] {w0 w w1 : World} {Γ : List Ent} {E : TypeId} {S : Nat → Prop} {v : Value} {xs : List α} {C : Prop}
end
theorem run_eqSliceNil {P : Program} (w : World) (d : Nat) (t e : TypeId) (a : Option Addr) (l c : Nat) (h : P.underlying t = some (.slice e)) : (Op.equalIn (d + 1) t (.slice a l c) (.slice none 0 0)).run P w = .ok a.isNone w := by
  cases a <;> simp [Op.equalIn, run_underlying h]
theorem rdL_isNone {α : Type} [GoT α] {S : Nat → Prop} {w : World} {v : Value} {xs : List α} {A : Option Addr} {c : Nat} (h : rdL S w v xs) (e : v = .slice A xs.length c) (hb : A.isNone = true) : xs = [] := by
  obtain ⟨A', c', e', _, _, h3⟩ := h
  rw [e] at e'
  injection e' with e1 _ _
  subst e1
  rcases Nat.eq_zero_or_pos xs.length with h0 | h0
  · exact List.eq_nil_of_length_eq_zero h0
  · obtain ⟨b, o, hA, _⟩ := h3 h0
    subst hA
    cases hb
end Go.Proofs.YtngegaodnokmbaaDoor
