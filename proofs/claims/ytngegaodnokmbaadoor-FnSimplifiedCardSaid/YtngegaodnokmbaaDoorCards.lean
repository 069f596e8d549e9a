/-
  DERIVED. GIVEN WITH THE SEED: THE CARDS: each row of YtngegaodnokmbaaDoorRows.lean that lists a variable, with what it lists TIED to the program's text (the seventh form; the later family's looks); each row that meets fmt, with fmt's text TOLD by the authors' own Lean function (tested against real Go, not proved from fmt's source: count such statements apart). THE CARD IS WHAT COUNTS. Prove the row's statement (the work); the ties are given (YtngegaodnokmbaaDoorTie.lean); close each card by the builder's one call (the guide's Derived/Test/ToyasCard.lean, 'card_holds'). Laid BY PROGRAM, IN A SANDBOX (cutbox-door.mjs). By AI agents, Wed Nov 11 2026. No macro, syntax, notation, axiom, sorry.
-/
import Derived.Test.YtngegaodnokmbaaDoorRows
import GoSem.ClaimSeven
namespace Go.Proofs.YtngegaodnokmbaaDoor
namespace Rows

/-- THE TIED CARD OF 'laws.FnSimplified'. -/
def fnSimplifiedCard : Claim7 := { stood := { row := fnSimplifiedRow, standIns := [], harness := (true, "d43b9cbf51682fcaa67e9114f67aa0441f30f5c81eace5d20968fbe99e793b5e"), looks := true }, kinds := [], alts := [], laidByText := true, laidKinds := [.data, .data, .data, .data, .sentinel, .sentinel, .pinned], laidTests := true, laidLooks := .later }
def FnSimplifiedCardSaid : Prop := Claim7.holds Tryd.pinned (.plain (OpenSpec.ofChange fnSimplifiedSpec)) fnSimplifiedCard

/-- THE SECOND FORM's CARD OF 'laws.FnSimplified'. -/
def fnSimplifiedUptoCard : Claim7 := { stood := { row := fnSimplifiedUptoRow, standIns := [], harness := (true, "d43b9cbf51682fcaa67e9114f67aa0441f30f5c81eace5d20968fbe99e793b5e"), looks := true }, kinds := [], alts := [], laidByText := true, laidKinds := [.data, .data, .data, .data, .sentinel, .sentinel, .pinned], laidTests := true, laidLooks := .later }
def FnSimplifiedUptoCardSaid : Prop := Claim7.holds Tryd.pinned (.plain (OpenSpec.upto fnSimplifiedSpec)) fnSimplifiedUptoCard
end Rows
end Go.Proofs.YtngegaodnokmbaaDoor
