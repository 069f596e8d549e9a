/-
  DERIVED. GIVEN WITH THE SEED: THE CARDS: each row of YtmmkkcmliofknaaGreatDoorRows.lean that lists a variable, with what it lists TIED to the program's text (the seventh form; the later family's looks); each row that meets fmt, with fmt's text TOLD by the authors' own Lean function (tested against real Go, not proved from fmt's source: count such statements apart). THE CARD IS WHAT COUNTS. Prove the row's statement (the work); the ties are given (YtmmkkcmliofknaaGreatDoorTie.lean); close each card by the builder's one call (the guide's Derived/Test/ToyasCard.lean, 'card_holds'). Laid BY PROGRAM, IN A SANDBOX (cutbox-door.mjs). By AI agents, Wed Nov 11 2026. No macro, syntax, notation, axiom, sorry.
-/
import Derived.Test.YtmmkkcmliofknaaGreatDoorRows
import GoSem.ClaimSeven
namespace Go.Proofs.YtmmkkcmliofknaaGreatDoor
namespace Rows

/-- THE TIED CARD OF 'laws.FnStanding'. -/
def fnStandingCard : Claim7 := { stood := { row := fnStandingRow, standIns := [], harness := (true, "9a7be8a598fe64f6322e0ec89465e1086810123ca399223b137af2da6bf776ba"), looks := false }, kinds := [], alts := [], laidByText := true, laidKinds := [.data, .data, .data], laidTests := true, laidLooks := .later }
def FnStandingCardSaid : Prop := Claim7.holds Tryz.pinned (.plain (OpenSpec.ofChange fnStandingSpec)) fnStandingCard

/-- THE TIED CARD OF 'laws.FnPlacesLost'. -/
def fnPlacesLostCard : Claim7 := { stood := { row := fnPlacesLostRow, standIns := [], harness := (true, "9a7be8a598fe64f6322e0ec89465e1086810123ca399223b137af2da6bf776ba"), looks := false }, kinds := [], alts := [], laidByText := true, laidKinds := [.data, .data, .data], laidTests := true, laidLooks := .later }
def FnPlacesLostCardSaid : Prop := Claim7.holds Tryz.pinned (.plain (OpenSpec.ofChange fnPlacesLostSpec)) fnPlacesLostCard

/-- THE SECOND FORM's CARD OF 'laws.FnStanding'. -/
def fnStandingUptoCard : Claim7 := { stood := { row := fnStandingUptoRow, standIns := [], harness := (true, "9a7be8a598fe64f6322e0ec89465e1086810123ca399223b137af2da6bf776ba"), looks := false }, kinds := [], alts := [], laidByText := true, laidKinds := [.data, .data, .data], laidTests := true, laidLooks := .later }
def FnStandingUptoCardSaid : Prop := Claim7.holds Tryz.pinned (.plain (OpenSpec.upto fnStandingSpec)) fnStandingUptoCard

/-- THE SECOND FORM's CARD OF 'laws.FnPlacesLost'. -/
def fnPlacesLostUptoCard : Claim7 := { stood := { row := fnPlacesLostUptoRow, standIns := [], harness := (true, "9a7be8a598fe64f6322e0ec89465e1086810123ca399223b137af2da6bf776ba"), looks := false }, kinds := [], alts := [], laidByText := true, laidKinds := [.data, .data, .data], laidTests := true, laidLooks := .later }
def FnPlacesLostUptoCardSaid : Prop := Claim7.holds Tryz.pinned (.plain (OpenSpec.upto fnPlacesLostSpec)) fnPlacesLostUptoCard
end Rows
end Go.Proofs.YtmmkkcmliofknaaGreatDoor
