/-
  DERIVED. GIVEN WITH THE SEED: THE CARDS: each row of YthkcfjlmblfipaaDoorRows.lean that lists a variable, with what it lists TIED to the program's text (the seventh form; the later family's looks); each row that meets fmt, with fmt's text TOLD by the authors' own Lean function (tested against real Go, not proved from fmt's source: count such statements apart). THE CARD IS WHAT COUNTS. Prove the row's statement (the work); the ties are given (YthkcfjlmblfipaaDoorTie.lean); close each card by the builder's one call (the guide's Derived/Test/ToyasCard.lean, 'card_holds'). Laid BY PROGRAM, IN A SANDBOX (cutbox-door.mjs). By AI agents, Wed Nov 11 2026. No macro, syntax, notation, axiom, sorry.
-/
import Derived.Test.YthkcfjlmblfipaaDoorRows
import GoSem.ClaimSeven
namespace Go.Proofs.YthkcfjlmblfipaaDoor
namespace Rows

/-- THE TIED CARD OF 'laws.FnExactReadRace'. -/
def fnExactReadRaceCard : Claim7 := { stood := { row := fnExactReadRaceRow, standIns := [], harness := (true, "7978b29fd44f3ba1da59eb4f34531cdd600c2e2db44d575ecb14bdd7b82f48bd"), looks := true }, kinds := [], alts := [], laidByText := true, laidKinds := [.data, .data, .data, .data, .sentinel, .sentinel, .pinned], laidTests := true, laidLooks := .later }
def FnExactReadRaceCardSaid : Prop := Claim7.holds Tryd.pinned (.plain (OpenSpec.ofChange fnExactReadRaceSpec)) fnExactReadRaceCard

/-- THE TIED CARD OF 'laws.FnExactReadCurve'. -/
def fnExactReadCurveCard : Claim7 := { stood := { row := fnExactReadCurveRow, standIns := [], harness := (true, "7978b29fd44f3ba1da59eb4f34531cdd600c2e2db44d575ecb14bdd7b82f48bd"), looks := true }, kinds := [], alts := [], laidByText := true, laidKinds := [.data, .data, .data, .data, .sentinel, .sentinel, .pinned], laidTests := true, laidLooks := .later }
def FnExactReadCurveCardSaid : Prop := Claim7.holds Tryd.pinned (.plain (OpenSpec.ofChange fnExactReadCurveSpec)) fnExactReadCurveCard

/-- THE TIED CARD OF 'laws.FnRaceText'. -/
def fnRaceTextCard : Claim7 := { stood := { row := fnRaceTextRow, standIns := [], harness := (true, "7978b29fd44f3ba1da59eb4f34531cdd600c2e2db44d575ecb14bdd7b82f48bd"), looks := true }, kinds := [], alts := [], laidByText := true, laidKinds := [.data, .data, .data, .data, .sentinel, .sentinel, .pinned], laidTests := true, laidLooks := .later }
def FnRaceTextCardSaid : Prop := Claim7.holds Tryd.pinned (.plain (OpenSpec.ofChange fnRaceTextSpec)) fnRaceTextCard

/-- THE SECOND FORM's CARD OF 'laws.FnExactReadRace'. -/
def fnExactReadRaceUptoCard : Claim7 := { stood := { row := fnExactReadRaceUptoRow, standIns := [], harness := (true, "7978b29fd44f3ba1da59eb4f34531cdd600c2e2db44d575ecb14bdd7b82f48bd"), looks := true }, kinds := [], alts := [], laidByText := true, laidKinds := [.data, .data, .data, .data, .sentinel, .sentinel, .pinned], laidTests := true, laidLooks := .later }
def FnExactReadRaceUptoCardSaid : Prop := Claim7.holds Tryd.pinned (.plain (OpenSpec.upto fnExactReadRaceSpec)) fnExactReadRaceUptoCard

/-- THE SECOND FORM's CARD OF 'laws.FnExactReadCurve'. -/
def fnExactReadCurveUptoCard : Claim7 := { stood := { row := fnExactReadCurveUptoRow, standIns := [], harness := (true, "7978b29fd44f3ba1da59eb4f34531cdd600c2e2db44d575ecb14bdd7b82f48bd"), looks := true }, kinds := [], alts := [], laidByText := true, laidKinds := [.data, .data, .data, .data, .sentinel, .sentinel, .pinned], laidTests := true, laidLooks := .later }
def FnExactReadCurveUptoCardSaid : Prop := Claim7.holds Tryd.pinned (.plain (OpenSpec.upto fnExactReadCurveSpec)) fnExactReadCurveUptoCard

/-- THE SECOND FORM's CARD OF 'laws.FnRaceText'. -/
def fnRaceTextUptoCard : Claim7 := { stood := { row := fnRaceTextUptoRow, standIns := [], harness := (true, "7978b29fd44f3ba1da59eb4f34531cdd600c2e2db44d575ecb14bdd7b82f48bd"), looks := true }, kinds := [], alts := [], laidByText := true, laidKinds := [.data, .data, .data, .data, .sentinel, .sentinel, .pinned], laidTests := true, laidLooks := .later }
def FnRaceTextUptoCardSaid : Prop := Claim7.holds Tryd.pinned (.plain (OpenSpec.upto fnRaceTextSpec)) fnRaceTextUptoCard
end Rows
end Go.Proofs.YthkcfjlmblfipaaDoor
