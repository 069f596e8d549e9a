/-
  DERIVED. GIVEN WITH THE SEED: THE CARDS: each row of YtmngaoalphpjiaaDoorRows.lean that lists a variable, with what it lists TIED to the program's text (the seventh form; the later family's looks); each row that meets fmt, with fmt's text TOLD by the authors' own Lean function (tested against real Go, not proved from fmt's source: count such statements apart). THE CARD IS WHAT COUNTS. Prove the row's statement (the work); the ties are given (YtmngaoalphpjiaaDoorTie.lean); close each card by the builder's one call (the guide's Derived/Test/ToyasCard.lean, 'card_holds'). Laid BY PROGRAM, IN A SANDBOX (cutbox-door.mjs). By AI agents, Wed Nov 11 2026. No macro, syntax, notation, axiom, sorry.
-/
import Derived.Test.YtmngaoalphpjiaaDoorRows
import GoSem.ClaimSeven
namespace Go.Proofs.YtmngaoalphpjiaaDoor
namespace Rows

/-- THE TIED CARD OF 'laws.FnExactRedressText'. -/
def fnExactRedressTextCard : Claim7 := { stood := { row := fnExactRedressTextRow, standIns := [], harness := (true, "653aae90f426d4d0ef08343526f13d8548f32150489d84038012a68aca9cfe9f"), looks := false }, kinds := [], alts := [], laidByText := true, laidKinds := [.data, .data, .data], laidTests := true, laidLooks := .later }
def FnExactRedressTextCardSaid : Prop := Claim7.holds Tryd.pinned (.plain (OpenSpec.ofChange fnExactRedressTextSpec)) fnExactRedressTextCard

/-- THE TIED CARD OF 'laws.FnExactCurveText'. -/
def fnExactCurveTextCard : Claim7 := { stood := { row := fnExactCurveTextRow, standIns := [], harness := (true, "653aae90f426d4d0ef08343526f13d8548f32150489d84038012a68aca9cfe9f"), looks := false }, kinds := [], alts := [], laidByText := true, laidKinds := [.data, .data, .data], laidTests := true, laidLooks := .later }
def FnExactCurveTextCardSaid : Prop := Claim7.holds Tryd.pinned (.plain (OpenSpec.ofChange fnExactCurveTextSpec)) fnExactCurveTextCard

/-- THE TIED CARD OF 'laws.FnExactRaceText'. -/
def fnExactRaceTextCard : Claim7 := { stood := { row := fnExactRaceTextRow, standIns := [], harness := (true, "653aae90f426d4d0ef08343526f13d8548f32150489d84038012a68aca9cfe9f"), looks := false }, kinds := [], alts := [], laidByText := true, laidKinds := [.data, .data, .data], laidTests := true, laidLooks := .later }
def FnExactRaceTextCardSaid : Prop := Claim7.holds Tryd.pinned (.plain (OpenSpec.ofChange fnExactRaceTextSpec)) fnExactRaceTextCard

/-- THE TIED CARD OF 'laws.FnExactStandingText'. -/
def fnExactStandingTextCard : Claim7 := { stood := { row := fnExactStandingTextRow, standIns := [], harness := (true, "653aae90f426d4d0ef08343526f13d8548f32150489d84038012a68aca9cfe9f"), looks := false }, kinds := [], alts := [], laidByText := true, laidKinds := [.data, .data, .data], laidTests := true, laidLooks := .later }
def FnExactStandingTextCardSaid : Prop := Claim7.holds Tryd.pinned (.plain (OpenSpec.ofChange fnExactStandingTextSpec)) fnExactStandingTextCard

/-- THE SECOND FORM's CARD OF 'laws.FnExactRedressText'. -/
def fnExactRedressTextUptoCard : Claim7 := { stood := { row := fnExactRedressTextUptoRow, standIns := [], harness := (true, "653aae90f426d4d0ef08343526f13d8548f32150489d84038012a68aca9cfe9f"), looks := false }, kinds := [], alts := [], laidByText := true, laidKinds := [.data, .data, .data], laidTests := true, laidLooks := .later }
def FnExactRedressTextUptoCardSaid : Prop := Claim7.holds Tryd.pinned (.plain (OpenSpec.upto fnExactRedressTextSpec)) fnExactRedressTextUptoCard

/-- THE SECOND FORM's CARD OF 'laws.FnExactCurveText'. -/
def fnExactCurveTextUptoCard : Claim7 := { stood := { row := fnExactCurveTextUptoRow, standIns := [], harness := (true, "653aae90f426d4d0ef08343526f13d8548f32150489d84038012a68aca9cfe9f"), looks := false }, kinds := [], alts := [], laidByText := true, laidKinds := [.data, .data, .data], laidTests := true, laidLooks := .later }
def FnExactCurveTextUptoCardSaid : Prop := Claim7.holds Tryd.pinned (.plain (OpenSpec.upto fnExactCurveTextSpec)) fnExactCurveTextUptoCard

/-- THE SECOND FORM's CARD OF 'laws.FnExactRaceText'. -/
def fnExactRaceTextUptoCard : Claim7 := { stood := { row := fnExactRaceTextUptoRow, standIns := [], harness := (true, "653aae90f426d4d0ef08343526f13d8548f32150489d84038012a68aca9cfe9f"), looks := false }, kinds := [], alts := [], laidByText := true, laidKinds := [.data, .data, .data], laidTests := true, laidLooks := .later }
def FnExactRaceTextUptoCardSaid : Prop := Claim7.holds Tryd.pinned (.plain (OpenSpec.upto fnExactRaceTextSpec)) fnExactRaceTextUptoCard

/-- THE SECOND FORM's CARD OF 'laws.FnExactStandingText'. -/
def fnExactStandingTextUptoCard : Claim7 := { stood := { row := fnExactStandingTextUptoRow, standIns := [], harness := (true, "653aae90f426d4d0ef08343526f13d8548f32150489d84038012a68aca9cfe9f"), looks := false }, kinds := [], alts := [], laidByText := true, laidKinds := [.data, .data, .data], laidTests := true, laidLooks := .later }
def FnExactStandingTextUptoCardSaid : Prop := Claim7.holds Tryd.pinned (.plain (OpenSpec.upto fnExactStandingTextSpec)) fnExactStandingTextUptoCard
end Rows
end Go.Proofs.YtmngaoalphpjiaaDoor
