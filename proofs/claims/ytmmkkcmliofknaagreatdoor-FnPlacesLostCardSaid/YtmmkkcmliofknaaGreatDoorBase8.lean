/- Shorter words for the links of big claims, and Go's sort as a change of a slice of the call's own. -/
import Derived.Test.YtmmkkcmliofknaaGreatDoorBase7
import Derived.Sort.Grow
namespace Go.Proofs.YtmmkkcmliofknaaGreatDoor
open Go Go.RowKit Go.ChangeShapes Go.WideShapes
set_option linter.unusedVariables false
set_option linter.unusedSimpArgs false
def bmk : Nat → Nat → List Bool
  | 0, _ => []
  | n + 1, m => Nat.beq (m % 2) 1 :: bmk n (m / 2)
abbrev bma (n m : Nat) : Array Bool := ⟨bmk n m⟩
section
variable {P : Program} {N : Nat} {R K : Fr → World → Prop} {X : Nat → Fr → World → Prop} {F : Fr} {w w' : World} {ops : Array Oper} {rest : List Oper} {d : Nat} {op : Op} {ty : TypeId} {pos : String} {aft : Array Edge}
theorem OV (v : Value) (hd : Nat.blt d N = true) (hx : XV P F op ty w v w') (h : OW P N ops rest K (upd F d v) w') : OW P N ops (⟨some d, op, ty, pos, aft, none⟩ :: rest) K F w := zAa (zAk (v := v) hd hx h)
theorem QV {C : World → Prop} {K : Fr → Prop} {i : Nat} {is : List Nat} (v : Value) (ho : ops[i]? = some ⟨some d, op, ty, pos, aft, none⟩) (hd : Nat.blt d N = true) (hx : ∀ w, C w → XV P F op ty w v w) (h : QW P N ops C K is (upd F d v)) : QW P N ops C K (i :: is) F := zAi ho (zAN hd hx h)
theorem CSR {id : Nat} {l : List Oper} {b : Code} (h : OW P N l.toArray l (fun F w => CW P N b R X K F w) F w) : CW P N (.seq (.region id l.toArray false) b) R X K F w := zAF (zAl h)
theorem ONR {id : Nat} {l : List Oper} {b : Code} (h : OW P N l.toArray l (fun F w => CW P N b R X K F w) F w) : OW P N ops [] (fun F w => CW P N (.seq (.region id l.toArray false) b) R X K F w) F w := OW.nil (CSR h)
theorem ONS {a b : Code} (h : CW P N a R X (fun F w => CW P N b R X K F w) F w) : OW P N ops [] (fun F w => CW P N (.seq a b) R X K F w) F w := OW.nil (zAF h)
end
section
variable {P : Program} {N : Nat} {ops : Array Oper} {S : World → Prop} {K : Fr → World → Prop} {F : Fr} {w : World} {o : Oper} {d : Nat}
theorem zAw {fuel : Nat} {listed : Array Bool} (i : Nat) {v : Value} (ho : ops[i]? = some o) (hk : (Region.noSelect ops && Region.free .any ops listed i && (Region.ready .any ops listed).contains i) = true)
    (hd : o.dst = some d) (hN : Nat.blt d N = true) (hS : S w) (hy : YH P N ops S o v F) (h : DH P N ops S fuel (listed.setIfInBounds i true) K (upd F d v) w) : DH P N ops S (fuel + 1) listed K F w := by
  simp only [Bool.and_eq_true] at hk
  exact DH.take i ho hk.1.1 hk.1.2 hk.2 hd hN hS hy h
theorem fc {α : Type} {p : α → Prop} {a : α} {l : List α} (h : p a ∧ ∀ x ∈ l, p x) : ∀ x ∈ a :: l, p x := List.forall_mem_cons.2 h
theorem fz {α : Type} {p : α → Prop} : ∀ x ∈ ([] : List α), p x := fun _ h => by cases h
theorem nle {a b : Nat} (h : Nat.ble a b = true) : a ≤ b := Nat.le_of_ble_eq_true h
theorem oi {α : Type} {a b : α} (h : some a = some b) : a = b := Option.some.inj h
theorem Hp.sl {w0 w : World} {Γ Γ' : List Ent} (h : Hp w0 Γ w) (is : List Nat) (hΓ : is.mapM (fun i => Γ[i]?) = some Γ') (hn : is.Nodup := by decide) : Hp w0 Γ' w := h.sel is hn hΓ
abbrev IV (n : Int) : Value := .int .i64 n
abbrev PV (b o : Nat) : Value := .pointer (some ⟨b, o, none⟩)
end
theorem rdL.rdL {α : Type} [GoT α] {S : Nat → Prop} {w : World} {v : Value} {xs : List α} (h : rdL S w v xs) : rdL S w v xs := h
section
variable {α : Type} [GoT α] {w0 w w1 : World} {Γ : List Ent} {E : TypeId} {S : Nat → Prop} {v v' : Value} {xs : List α}
end
section
variable {α : Type} [GoT α] {w0 w w1 : World} {Γ : List Ent} {E : TypeId} {S : Nat → Prop} {v : Value} {xs : List α} {C : Prop}
end
end Go.Proofs.YtmmkkcmliofknaaGreatDoor
