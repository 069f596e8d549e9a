/- Words for texts that are read: parts of a string, Split, Cut, ParseInt and its error; what the library's variables hold. -/
import Derived.Test.YtmmkkcmliofknaaGreatDoorBase10
import Derived.Laws.Strings2
import Derived.Laws.Slices
import Derived.Stop.IfaceNil
import Derived.Lib.Split
import Derived.Lib.SplitLaws
import Derived.Lib.IndexMore
import Derived.Lib.ParseIntB
import Derived.Lib.AtoiErrMem
import Derived.Handed
import Derived.LaidLaws
namespace Go.Proofs.YtmmkkcmliofknaaGreatDoor
open Go Go.RowKit Go.ChangeShapes Go.WideShapes
set_option linter.unusedVariables false
set_option linter.unusedSimpArgs false
abbrev zT9 (s : ByteArray) (l h : Int) : ByteArray := s.extract l.toNat h.toNat
section
variable {P : Program} {F : Fr} {w : World} {ty : TypeId} {x y lo hi : Operand} {t u : TypeId}
end
structure TabsR (P : Program) (gm gs gr : Nat) (w : World) : Prop where
  tab : Lib.TabIs P w "internal/strconv.uint64pow10" .u64 Lib.pow10Tab
  mx : ∃ m, w.cell? ⟨gm, 0, none⟩ = some (.int .i64 m)
  es : ∃ v, w.cell? ⟨gs, 0, none⟩ = some v ∧ (v = .nilIface ∨ ∃ te pe, v = .iface te pe)
  er : ∃ v, w.cell? ⟨gr, 0, none⟩ = some v ∧ (v = .nilIface ∨ ∃ te pe, v = .iface te pe)
def zQC (s sep : ByteArray) : Option (List ByteArray) := chk (s.size < 4294967281 ∧ 1 ≤ sep.size) (some (Lib.splitB sep 0 (Lib.countB s sep) s))
def zSb (s sep : ByteArray) : Option (ByteArray × ByteArray × Bool) := chk (s.size < 4294967281) (some (bts (Lib.cut s.data.toList sep.data.toList).1, bts (Lib.cut s.data.toList sep.data.toList).2.1, (Lib.cut s.data.toList sep.data.toList).2.2))
def zO9 (s : ByteArray) (base bits : Int) : Option (Int × Bool) := chk (base = 10 ∧ bits = 64 ∧ s.size ≤ 4294967296) (some (match Lib.parseIntB 64 s.data.toList with | .ok v => (v, false) | .syntax => (0, true) | .range => (Lib.intSat 64 s.data.toList, true)))
end Go.Proofs.YtmmkkcmliofknaaGreatDoor
