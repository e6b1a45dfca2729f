/-
  DERIVED. GIVEN WITH THE SEED: THE CARDS: each row of YtolbafckppafkaaGreatDoorRows.lean that lists a variable, with what it lists TIED to the program's text (the seventh form; the later family's looks); each row that meets fmt, with fmt's text TOLD by the authors' own Lean function (tested against real Go, not proved from fmt's source: count such statements apart). THE CARD IS WHAT COUNTS. Prove the row's statement (the work); the ties are given (YtolbafckppafkaaGreatDoorTie.lean); close each card by the builder's one call (the guide's Derived/Test/ToyasCard.lean, 'card_holds'). Laid BY PROGRAM, IN A SANDBOX (cutbox-door.mjs). By AI agents, Wed Nov 11 2026. No macro, syntax, notation, axiom, sorry.
-/
import Derived.Test.YtolbafckppafkaaGreatDoorRows
import GoSem.ClaimSeven
namespace Go.Proofs.YtolbafckppafkaaGreatDoor
namespace Rows

/-- THE TIED CARD OF 'slackwaterlaw13.TideNames'. -/
def tideNamesCard : Claim7 := { stood := { row := tideNamesRow, standIns := [], harness := (true, "32f48446708f04588132c835db9cbcc9b8e7dbb27472ea2d70e48632ec1b05ed"), looks := true }, kinds := [], alts := [], laidByText := true, laidKinds := [.data, .data, .data, .data, .sentinel, .sentinel, .pinned], laidTests := true, laidLooks := .later }
def TideNamesCardSaid : Prop := Claim7.holds Tryz.pinned (.plain (OpenSpec.ofChange tideNamesSpec)) tideNamesCard

/-- THE TIED CARD OF 'slackwaterlaw04.GaussKnown'. -/
def gaussKnownCard : Claim7 := { stood := { row := gaussKnownRow, standIns := [], harness := (true, "32f48446708f04588132c835db9cbcc9b8e7dbb27472ea2d70e48632ec1b05ed"), looks := true }, kinds := [], alts := [], laidByText := true, laidKinds := [.data, .data, .data, .data, .sentinel, .sentinel, .pinned], laidTests := true, laidLooks := .later }
def GaussKnownCardSaid : Prop := Claim7.holds Tryz.pinned (.plain (OpenSpec.ofChange gaussKnownSpec)) gaussKnownCard

/-- THE TIED CARD OF 'slackwaterlaw04.GaussBack'. -/
def gaussBackCard : Claim7 := { stood := { row := gaussBackRow, standIns := [], harness := (true, "32f48446708f04588132c835db9cbcc9b8e7dbb27472ea2d70e48632ec1b05ed"), looks := true }, kinds := [], alts := [], laidByText := true, laidKinds := [.data, .data, .data, .data, .sentinel, .sentinel, .pinned], laidTests := true, laidLooks := .later }
def GaussBackCardSaid : Prop := Claim7.holds Tryz.pinned (.plain (OpenSpec.ofChange gaussBackSpec)) gaussBackCard

/-- THE TIED CARD OF 'slackwaterlaw13.TideKnown'. -/
def tideKnownCard : Claim7 := { stood := { row := tideKnownRow, standIns := [], harness := (true, "32f48446708f04588132c835db9cbcc9b8e7dbb27472ea2d70e48632ec1b05ed"), looks := true }, kinds := [], alts := [], laidByText := true, laidKinds := [.data, .data, .data, .data, .sentinel, .sentinel, .pinned], laidTests := true, laidLooks := .later }
def TideKnownCardSaid : Prop := Claim7.holds Tryz.pinned (.plain (OpenSpec.ofChange tideKnownSpec)) tideKnownCard

/-- THE TIED CARD OF 'slackwaterlaw13.TideBack'. -/
def tideBackCard : Claim7 := { stood := { row := tideBackRow, standIns := [], harness := (true, "32f48446708f04588132c835db9cbcc9b8e7dbb27472ea2d70e48632ec1b05ed"), looks := true }, kinds := [], alts := [], laidByText := true, laidKinds := [.data, .data, .data, .data, .sentinel, .sentinel, .pinned], laidTests := true, laidLooks := .later }
def TideBackCardSaid : Prop := Claim7.holds Tryz.pinned (.plain (OpenSpec.ofChange tideBackSpec)) tideBackCard

/-- THE SECOND FORM's CARD OF 'slackwaterlaw13.TideNames'. -/
def tideNamesUptoCard : Claim7 := { stood := { row := tideNamesUptoRow, standIns := [], harness := (true, "32f48446708f04588132c835db9cbcc9b8e7dbb27472ea2d70e48632ec1b05ed"), looks := true }, kinds := [], alts := [], laidByText := true, laidKinds := [.data, .data, .data, .data, .sentinel, .sentinel, .pinned], laidTests := true, laidLooks := .later }
def TideNamesUptoCardSaid : Prop := Claim7.holds Tryz.pinned (.plain (OpenSpec.upto tideNamesSpec)) tideNamesUptoCard

/-- THE SECOND FORM's CARD OF 'slackwaterlaw04.GaussKnown'. -/
def gaussKnownUptoCard : Claim7 := { stood := { row := gaussKnownUptoRow, standIns := [], harness := (true, "32f48446708f04588132c835db9cbcc9b8e7dbb27472ea2d70e48632ec1b05ed"), looks := true }, kinds := [], alts := [], laidByText := true, laidKinds := [.data, .data, .data, .data, .sentinel, .sentinel, .pinned], laidTests := true, laidLooks := .later }
def GaussKnownUptoCardSaid : Prop := Claim7.holds Tryz.pinned (.plain (OpenSpec.upto gaussKnownSpec)) gaussKnownUptoCard

/-- THE SECOND FORM's CARD OF 'slackwaterlaw04.GaussBack'. -/
def gaussBackUptoCard : Claim7 := { stood := { row := gaussBackUptoRow, standIns := [], harness := (true, "32f48446708f04588132c835db9cbcc9b8e7dbb27472ea2d70e48632ec1b05ed"), looks := true }, kinds := [], alts := [], laidByText := true, laidKinds := [.data, .data, .data, .data, .sentinel, .sentinel, .pinned], laidTests := true, laidLooks := .later }
def GaussBackUptoCardSaid : Prop := Claim7.holds Tryz.pinned (.plain (OpenSpec.upto gaussBackSpec)) gaussBackUptoCard

/-- THE SECOND FORM's CARD OF 'slackwaterlaw13.TideKnown'. -/
def tideKnownUptoCard : Claim7 := { stood := { row := tideKnownUptoRow, standIns := [], harness := (true, "32f48446708f04588132c835db9cbcc9b8e7dbb27472ea2d70e48632ec1b05ed"), looks := true }, kinds := [], alts := [], laidByText := true, laidKinds := [.data, .data, .data, .data, .sentinel, .sentinel, .pinned], laidTests := true, laidLooks := .later }
def TideKnownUptoCardSaid : Prop := Claim7.holds Tryz.pinned (.plain (OpenSpec.upto tideKnownSpec)) tideKnownUptoCard

/-- THE SECOND FORM's CARD OF 'slackwaterlaw13.TideBack'. -/
def tideBackUptoCard : Claim7 := { stood := { row := tideBackUptoRow, standIns := [], harness := (true, "32f48446708f04588132c835db9cbcc9b8e7dbb27472ea2d70e48632ec1b05ed"), looks := true }, kinds := [], alts := [], laidByText := true, laidKinds := [.data, .data, .data, .data, .sentinel, .sentinel, .pinned], laidTests := true, laidLooks := .later }
def TideBackUptoCardSaid : Prop := Claim7.holds Tryz.pinned (.plain (OpenSpec.upto tideBackSpec)) tideBackUptoCard
end Rows
end Go.Proofs.YtolbafckppafkaaGreatDoor
