/- Words for texts: strings put together and held against each other, bytes to a string, arrays of the call's own, the table that numbers are written by. -/
import Derived.Test.YtpobaajdhfoomaaBase8
import Derived.Lib.ItoaNum
import Derived.Lib.LaidTab
import Derived.Stop.LaidErr
import Derived.Laws.Strings
import Derived.Laws.Concat
import Derived.Laws.BytesString
import Derived.Sort.Grow
import Derived.Deep.Draws
namespace Go.Proofs.Ytpobaajdhfoomaa
open Go Go.RowKit Go.ChangeShapes Go.WideShapes
set_option linter.unusedVariables false
set_option linter.unusedSimpArgs false
section
variable {P : Program} {F : Fr} {w w' : World} {ty : TypeId} {x y z : Operand} {t u e : TypeId} {sz by_ : Nat} {zv : Value}
end
section
variable {w0 w w1 : World} {Γ : List Ent} {α : Type} [Flat α]
end
theorem Hp.tab {P : Program} {w0 w w1 : World} {Γ : List Ent} {B : Nat} {name : String} {k : IntKind} {zs : List Int} (h : Hp w0 Γ w) (i : Nat) (hi : Γ[i]? = some (Ent.snap w1 B)) (hB : B = w1.heap.size) (ht : Lib.TabIs P w1 name k zs) : Lib.TabIs P w name k zs := by
  have hs := h.get i hi
  subst hB
  unfold Lib.TabIs World.var? at *
  cases hg : P.globalNamed name with
  | none => rw [hg] at ht; cases ht
  | some g =>
    rw [hg] at ht
    simp only [Option.bind_some] at ht ⊢
    have hlt : g < w1.heap.size := by
      cases hh : w1.heap[g]? with
      | none => rw [hh] at ht; cases ht
      | some o => exact lt_of_some hh
    rw [hs.2 g hlt]
    exact ht
end Go.Proofs.Ytpobaajdhfoomaa
