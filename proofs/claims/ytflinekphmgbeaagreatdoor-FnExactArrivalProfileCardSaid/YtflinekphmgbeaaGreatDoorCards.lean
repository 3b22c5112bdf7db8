/-
  DERIVED. GIVEN WITH THE SEED: THE CARDS: each row of YtflinekphmgbeaaGreatDoorRows.lean that lists a variable, with what it lists TIED to the program's text (the seventh form; the later family's looks); each row that meets fmt, with fmt's text TOLD by the authors' own Lean function (tested against real Go, not proved from fmt's source: count such statements apart). THE CARD IS WHAT COUNTS. Prove the row's statement (the work); the ties are given (YtflinekphmgbeaaGreatDoorTie.lean); close each card by the builder's one call (the guide's Derived/Test/ToyasCard.lean, 'card_holds'). Laid BY PROGRAM, IN A SANDBOX (cutbox-door.mjs). By AI agents, Wed Nov 11 2026. No macro, syntax, notation, axiom, sorry.
-/
import Derived.Test.YtflinekphmgbeaaGreatDoorRows
import GoSem.ClaimSeven
namespace Go.Proofs.YtflinekphmgbeaaGreatDoor
namespace Rows

/-- THE TIED CARD OF 'laws.FnExactPathArrival'. -/
def fnExactPathArrivalCard : Claim7 := { stood := { row := fnExactPathArrivalRow, standIns := [], harness := (true, "60b5b58a08630658c2b4f4c30794e330c8a5eed9c7c951ec78707a40d62d511b"), looks := false }, kinds := [], alts := [], laidByText := true, laidKinds := [.data, .pinned], laidTests := true, laidLooks := .later }
def FnExactPathArrivalCardSaid : Prop := Claim7.holds Tryz.pinned (.plain (OpenSpec.ofChange fnExactPathArrivalSpec)) fnExactPathArrivalCard

/-- THE TIED CARD OF 'laws.FnExactRetimePath'. -/
def fnExactRetimePathCard : Claim7 := { stood := { row := fnExactRetimePathRow, standIns := [], harness := (true, "60b5b58a08630658c2b4f4c30794e330c8a5eed9c7c951ec78707a40d62d511b"), looks := false }, kinds := [], alts := [], laidByText := true, laidKinds := [.data, .pinned], laidTests := true, laidLooks := .later }
def FnExactRetimePathCardSaid : Prop := Claim7.holds Tryz.pinned (.plain (OpenSpec.ofChange fnExactRetimePathSpec)) fnExactRetimePathCard

/-- THE TIED CARD OF 'laws.FnExactPathPessimism'. -/
def fnExactPathPessimismCard : Claim7 := { stood := { row := fnExactPathPessimismRow, standIns := [], harness := (true, "60b5b58a08630658c2b4f4c30794e330c8a5eed9c7c951ec78707a40d62d511b"), looks := false }, kinds := [], alts := [], laidByText := true, laidKinds := [.data, .pinned], laidTests := true, laidLooks := .later }
def FnExactPathPessimismCardSaid : Prop := Claim7.holds Tryz.pinned (.plain (OpenSpec.ofChange fnExactPathPessimismSpec)) fnExactPathPessimismCard

/-- THE TIED CARD OF 'laws.FnExactPathNodes'. -/
def fnExactPathNodesCard : Claim7 := { stood := { row := fnExactPathNodesRow, standIns := [], harness := (true, "60b5b58a08630658c2b4f4c30794e330c8a5eed9c7c951ec78707a40d62d511b"), looks := false }, kinds := [], alts := [], laidByText := true, laidKinds := [.data, .pinned], laidTests := true, laidLooks := .later }
def FnExactPathNodesCardSaid : Prop := Claim7.holds Tryz.pinned (.plain (OpenSpec.ofChange fnExactPathNodesSpec)) fnExactPathNodesCard

/-- THE TIED CARD OF 'laws.FnExactPathPlaces'. -/
def fnExactPathPlacesCard : Claim7 := { stood := { row := fnExactPathPlacesRow, standIns := [], harness := (true, "60b5b58a08630658c2b4f4c30794e330c8a5eed9c7c951ec78707a40d62d511b"), looks := false }, kinds := [], alts := [], laidByText := true, laidKinds := [.data, .pinned], laidTests := true, laidLooks := .later }
def FnExactPathPlacesCardSaid : Prop := Claim7.holds Tryz.pinned (.plain (OpenSpec.ofChange fnExactPathPlacesSpec)) fnExactPathPlacesCard

/-- THE TIED CARD OF 'laws.FnExactArrivalProfile'. -/
def fnExactArrivalProfileCard : Claim7 := { stood := { row := fnExactArrivalProfileRow, standIns := [], harness := (true, "60b5b58a08630658c2b4f4c30794e330c8a5eed9c7c951ec78707a40d62d511b"), looks := false }, kinds := [], alts := [], laidByText := true, laidKinds := [.data, .pinned], laidTests := true, laidLooks := .later }
def FnExactArrivalProfileCardSaid : Prop := Claim7.holds Tryz.pinned (.plain (OpenSpec.ofChange fnExactArrivalProfileSpec)) fnExactArrivalProfileCard

/-- THE SECOND FORM's CARD OF 'laws.FnExactPathArrival'. -/
def fnExactPathArrivalUptoCard : Claim7 := { stood := { row := fnExactPathArrivalUptoRow, standIns := [], harness := (true, "60b5b58a08630658c2b4f4c30794e330c8a5eed9c7c951ec78707a40d62d511b"), looks := false }, kinds := [], alts := [], laidByText := true, laidKinds := [.data, .pinned], laidTests := true, laidLooks := .later }
def FnExactPathArrivalUptoCardSaid : Prop := Claim7.holds Tryz.pinned (.plain (OpenSpec.upto fnExactPathArrivalSpec)) fnExactPathArrivalUptoCard

/-- THE SECOND FORM's CARD OF 'laws.FnExactRetimePath'. -/
def fnExactRetimePathUptoCard : Claim7 := { stood := { row := fnExactRetimePathUptoRow, standIns := [], harness := (true, "60b5b58a08630658c2b4f4c30794e330c8a5eed9c7c951ec78707a40d62d511b"), looks := false }, kinds := [], alts := [], laidByText := true, laidKinds := [.data, .pinned], laidTests := true, laidLooks := .later }
def FnExactRetimePathUptoCardSaid : Prop := Claim7.holds Tryz.pinned (.plain (OpenSpec.upto fnExactRetimePathSpec)) fnExactRetimePathUptoCard

/-- THE SECOND FORM's CARD OF 'laws.FnExactPathPessimism'. -/
def fnExactPathPessimismUptoCard : Claim7 := { stood := { row := fnExactPathPessimismUptoRow, standIns := [], harness := (true, "60b5b58a08630658c2b4f4c30794e330c8a5eed9c7c951ec78707a40d62d511b"), looks := false }, kinds := [], alts := [], laidByText := true, laidKinds := [.data, .pinned], laidTests := true, laidLooks := .later }
def FnExactPathPessimismUptoCardSaid : Prop := Claim7.holds Tryz.pinned (.plain (OpenSpec.upto fnExactPathPessimismSpec)) fnExactPathPessimismUptoCard

/-- THE SECOND FORM's CARD OF 'laws.FnExactPathNodes'. -/
def fnExactPathNodesUptoCard : Claim7 := { stood := { row := fnExactPathNodesUptoRow, standIns := [], harness := (true, "60b5b58a08630658c2b4f4c30794e330c8a5eed9c7c951ec78707a40d62d511b"), looks := false }, kinds := [], alts := [], laidByText := true, laidKinds := [.data, .pinned], laidTests := true, laidLooks := .later }
def FnExactPathNodesUptoCardSaid : Prop := Claim7.holds Tryz.pinned (.plain (OpenSpec.upto fnExactPathNodesSpec)) fnExactPathNodesUptoCard

/-- THE SECOND FORM's CARD OF 'laws.FnExactPathPlaces'. -/
def fnExactPathPlacesUptoCard : Claim7 := { stood := { row := fnExactPathPlacesUptoRow, standIns := [], harness := (true, "60b5b58a08630658c2b4f4c30794e330c8a5eed9c7c951ec78707a40d62d511b"), looks := false }, kinds := [], alts := [], laidByText := true, laidKinds := [.data, .pinned], laidTests := true, laidLooks := .later }
def FnExactPathPlacesUptoCardSaid : Prop := Claim7.holds Tryz.pinned (.plain (OpenSpec.upto fnExactPathPlacesSpec)) fnExactPathPlacesUptoCard

/-- THE SECOND FORM's CARD OF 'laws.FnExactArrivalProfile'. -/
def fnExactArrivalProfileUptoCard : Claim7 := { stood := { row := fnExactArrivalProfileUptoRow, standIns := [], harness := (true, "60b5b58a08630658c2b4f4c30794e330c8a5eed9c7c951ec78707a40d62d511b"), looks := false }, kinds := [], alts := [], laidByText := true, laidKinds := [.data, .pinned], laidTests := true, laidLooks := .later }
def FnExactArrivalProfileUptoCardSaid : Prop := Claim7.holds Tryz.pinned (.plain (OpenSpec.upto fnExactArrivalProfileSpec)) fnExactArrivalProfileUptoCard
end Rows
end Go.Proofs.YtflinekphmgbeaaGreatDoor
