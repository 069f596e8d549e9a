/- Shorter words for the links of big claims, and Go's sort as a change of a slice of the call's own. -/
import Derived.Test.YtpobaajdhfoomaaBase7
import Derived.Sort.Grow
namespace Go.Proofs.Ytpobaajdhfoomaa
open Go Go.RowKit Go.ChangeShapes Go.WideShapes
set_option linter.unusedVariables false
set_option linter.unusedSimpArgs false
def bmk : Nat → Nat → List Bool
  | 0, _ => []
  | n + 1, m => Nat.beq (m % 2) 1 :: bmk n (m / 2)
abbrev bma (n m : Nat) : Array Bool := ⟨bmk n m⟩
section
variable {P : Program} {N : Nat} {R K : Fr → World → Prop} {X : Nat → Fr → World → Prop} {F : Fr} {w w' : World} {ops : Array Oper} {rest : List Oper} {d : Nat} {op : Op} {ty : TypeId} {pos : String} {aft : Array Edge}
theorem OV (v : Value) (hd : Nat.blt d N = true) (hx : XV P F op ty w v w') (h : OW P N ops rest K (upd F d v) w') : OW P N ops (⟨some d, op, ty, pos, aft, none⟩ :: rest) K F w := OW.cons (OP.val (v := v) hd hx h)
theorem CSR {id : Nat} {l : List Oper} {b : Code} (h : OW P N l.toArray l (fun F w => CW P N b R X K F w) F w) : CW P N (.seq (.region id l.toArray false) b) R X K F w := CW.seq (CW.regionL h)
theorem ONR {id : Nat} {l : List Oper} {b : Code} (h : OW P N l.toArray l (fun F w => CW P N b R X K F w) F w) : OW P N ops [] (fun F w => CW P N (.seq (.region id l.toArray false) b) R X K F w) F w := OW.nil (CSR h)
theorem ONS {a b : Code} (h : CW P N a R X (fun F w => CW P N b R X K F w) F w) : OW P N ops [] (fun F w => CW P N (.seq a b) R X K F w) F w := OW.nil (CW.seq h)
end
theorem rdL.rdL {α : Type} [GoT α] {S : Nat → Prop} {w : World} {v : Value} {xs : List α} (h : rdL S w v xs) : rdL S w v xs := h
section
variable {α : Type} [GoT α] {w0 w w1 : World} {Γ : List Ent} {E : TypeId} {S : Nat → Prop} {v v' : Value} {xs : List α}
end
section
variable {α : Type} [GoT α] {w0 w w1 : World} {Γ : List Ent} {E : TypeId} {S : Nat → Prop} {v : Value} {xs : List α} {C : Prop}
end
end Go.Proofs.Ytpobaajdhfoomaa
