/- Words for texts that are read: parts of a string, Split, Cut, ParseInt and its error; what the library's variables hold. -/
import Derived.Test.YtpobaajdhfoomaaBase10
import Derived.Laws.Strings2
import Derived.Laws.Slices
import Derived.Stop.IfaceNil
import Derived.Lib.Split
import Derived.Lib.SplitLaws
import Derived.Lib.IndexMore
import Derived.Lib.ParseIntB
import Derived.Lib.AtoiErrMem
import Derived.Handed
import Derived.LaidLaws
namespace Go.Proofs.Ytpobaajdhfoomaa
open Go Go.RowKit Go.ChangeShapes Go.WideShapes
set_option linter.unusedVariables false
set_option linter.unusedSimpArgs false
section
variable {P : Program} {F : Fr} {w : World} {ty : TypeId} {x y lo hi : Operand} {t u : TypeId}
end
structure TabsR (P : Program) (gm gs gr : Nat) (w : World) : Prop where
  tab : Lib.TabIs P w "internal/strconv.uint64pow10" .u64 Lib.pow10Tab
  mx : ∃ m, w.cell? ⟨gm, 0, none⟩ = some (.int .i64 m)
  es : ∃ v, w.cell? ⟨gs, 0, none⟩ = some v ∧ (v = .nilIface ∨ ∃ te pe, v = .iface te pe)
  er : ∃ v, w.cell? ⟨gr, 0, none⟩ = some v ∧ (v = .nilIface ∨ ∃ te pe, v = .iface te pe)
end Go.Proofs.Ytpobaajdhfoomaa
