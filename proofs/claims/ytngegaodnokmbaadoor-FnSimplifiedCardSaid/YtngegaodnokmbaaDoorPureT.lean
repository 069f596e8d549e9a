/- Pure laws: places, points and tables. -/
import Derived.Test.YtngegaodnokmbaaDoorPureQ
namespace Go.Proofs.YtngegaodnokmbaaDoor
open Go
set_option linter.unusedVariables false
set_option linter.unusedSimpArgs false
def fill {α : Type} (L : List α) (z : α) (i : Nat) : List α := L.take i ++ List.replicate (L.length - i) z
def pP (t : Int) (g : Finish) : Bool := g.Code == 0 && decide (g.Time < t)
def pl (xs : List Finish) (t : Int) : Int := 1 + ((xs.countP (pP t) : Nat) : Int)
end Go.Proofs.YtngegaodnokmbaaDoor
