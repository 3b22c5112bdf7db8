/-
  DERIVED. GIVEN WITH THE SEED: THE CARDS: each row of YtbmbbkjleheokaaGreatDoorRows.lean that lists a variable, with what it lists TIED to the program's text (the seventh form; the later family's looks); each row that meets fmt, with fmt's text TOLD by the authors' own Lean function (tested against real Go, not proved from fmt's source: count such statements apart). THE CARD IS WHAT COUNTS. Prove the row's statement (the work); the ties are given (YtbmbbkjleheokaaGreatDoorTie.lean); close each card by the builder's one call (the guide's Derived/Test/ToyasCard.lean, 'card_holds'). Laid BY PROGRAM, IN A SANDBOX (cutbox-door.mjs). By AI agents, Wed Nov 11 2026. No macro, syntax, notation, axiom, sorry.
-/
import Derived.Test.YtbmbbkjleheokaaGreatDoorRows
import GoSem.ClaimSeven
namespace Go.Proofs.YtbmbbkjleheokaaGreatDoor
namespace Rows

/-- THE TIED CARD OF 'laws.FnLatchSystems'. -/
def fnLatchSystemsCard : Claim7 := { stood := { row := fnLatchSystemsRow, standIns := [], harness := (true, "3930ccb3b115761aeb5244a1e54ad2a3d672ec572ddba045e4390c27d4f60107"), looks := false }, kinds := [], alts := [], laidByText := true, laidKinds := [.data, .pinned], laidTests := true, laidLooks := .later }
def FnLatchSystemsCardSaid : Prop := Claim7.holds Tryz.pinned (.plain (OpenSpec.ofChange fnLatchSystemsSpec)) fnLatchSystemsCard

/-- THE TIED CARD OF 'laws.FnExtras'. -/
def fnExtrasCard : Claim7 := { stood := { row := fnExtrasRow, standIns := [], harness := (true, "3930ccb3b115761aeb5244a1e54ad2a3d672ec572ddba045e4390c27d4f60107"), looks := false }, kinds := [], alts := [], laidByText := true, laidKinds := [.data, .pinned], laidTests := true, laidLooks := .later }
def FnExtrasCardSaid : Prop := Claim7.holds Tryz.pinned (.plain (OpenSpec.ofChange fnExtrasSpec)) fnExtrasCard

/-- THE TIED CARD OF 'laws.FnPathSums'. -/
def fnPathSumsCard : Claim7 := { stood := { row := fnPathSumsRow, standIns := [], harness := (true, "3930ccb3b115761aeb5244a1e54ad2a3d672ec572ddba045e4390c27d4f60107"), looks := false }, kinds := [], alts := [], laidByText := true, laidKinds := [.data, .pinned], laidTests := true, laidLooks := .later }
def FnPathSumsCardSaid : Prop := Claim7.holds Tryz.pinned (.plain (OpenSpec.ofChange fnPathSumsSpec)) fnPathSumsCard

/-- THE TIED CARD OF 'laws.FnPathBounds'. -/
def fnPathBoundsCard : Claim7 := { stood := { row := fnPathBoundsRow, standIns := [], harness := (true, "3930ccb3b115761aeb5244a1e54ad2a3d672ec572ddba045e4390c27d4f60107"), looks := false }, kinds := [], alts := [], laidByText := true, laidKinds := [.data, .pinned], laidTests := true, laidLooks := .later }
def FnPathBoundsCardSaid : Prop := Claim7.holds Tryz.pinned (.plain (OpenSpec.ofChange fnPathBoundsSpec)) fnPathBoundsCard

/-- THE TIED CARD OF 'laws.FnCredit'. -/
def fnCreditCard : Claim7 := { stood := { row := fnCreditRow, standIns := [], harness := (true, "3930ccb3b115761aeb5244a1e54ad2a3d672ec572ddba045e4390c27d4f60107"), looks := false }, kinds := [], alts := [], laidByText := true, laidKinds := [.data, .pinned], laidTests := true, laidLooks := .later }
def FnCreditCardSaid : Prop := Claim7.holds Tryz.pinned (.plain (OpenSpec.ofChange fnCreditSpec)) fnCreditCard

/-- THE TIED CARD OF 'laws.FnRetime'. -/
def fnRetimeCard : Claim7 := { stood := { row := fnRetimeRow, standIns := [], harness := (true, "3930ccb3b115761aeb5244a1e54ad2a3d672ec572ddba045e4390c27d4f60107"), looks := false }, kinds := [], alts := [], laidByText := true, laidKinds := [.data, .pinned], laidTests := true, laidLooks := .later }
def FnRetimeCardSaid : Prop := Claim7.holds Tryz.pinned (.plain (OpenSpec.ofChange fnRetimeSpec)) fnRetimeCard

/-- THE SECOND FORM's CARD OF 'laws.FnLatchSystems'. -/
def fnLatchSystemsUptoCard : Claim7 := { stood := { row := fnLatchSystemsUptoRow, standIns := [], harness := (true, "3930ccb3b115761aeb5244a1e54ad2a3d672ec572ddba045e4390c27d4f60107"), looks := false }, kinds := [], alts := [], laidByText := true, laidKinds := [.data, .pinned], laidTests := true, laidLooks := .later }
def FnLatchSystemsUptoCardSaid : Prop := Claim7.holds Tryz.pinned (.plain (OpenSpec.upto fnLatchSystemsSpec)) fnLatchSystemsUptoCard

/-- THE SECOND FORM's CARD OF 'laws.FnExtras'. -/
def fnExtrasUptoCard : Claim7 := { stood := { row := fnExtrasUptoRow, standIns := [], harness := (true, "3930ccb3b115761aeb5244a1e54ad2a3d672ec572ddba045e4390c27d4f60107"), looks := false }, kinds := [], alts := [], laidByText := true, laidKinds := [.data, .pinned], laidTests := true, laidLooks := .later }
def FnExtrasUptoCardSaid : Prop := Claim7.holds Tryz.pinned (.plain (OpenSpec.upto fnExtrasSpec)) fnExtrasUptoCard

/-- THE SECOND FORM's CARD OF 'laws.FnPathSums'. -/
def fnPathSumsUptoCard : Claim7 := { stood := { row := fnPathSumsUptoRow, standIns := [], harness := (true, "3930ccb3b115761aeb5244a1e54ad2a3d672ec572ddba045e4390c27d4f60107"), looks := false }, kinds := [], alts := [], laidByText := true, laidKinds := [.data, .pinned], laidTests := true, laidLooks := .later }
def FnPathSumsUptoCardSaid : Prop := Claim7.holds Tryz.pinned (.plain (OpenSpec.upto fnPathSumsSpec)) fnPathSumsUptoCard

/-- THE SECOND FORM's CARD OF 'laws.FnPathBounds'. -/
def fnPathBoundsUptoCard : Claim7 := { stood := { row := fnPathBoundsUptoRow, standIns := [], harness := (true, "3930ccb3b115761aeb5244a1e54ad2a3d672ec572ddba045e4390c27d4f60107"), looks := false }, kinds := [], alts := [], laidByText := true, laidKinds := [.data, .pinned], laidTests := true, laidLooks := .later }
def FnPathBoundsUptoCardSaid : Prop := Claim7.holds Tryz.pinned (.plain (OpenSpec.upto fnPathBoundsSpec)) fnPathBoundsUptoCard

/-- THE SECOND FORM's CARD OF 'laws.FnCredit'. -/
def fnCreditUptoCard : Claim7 := { stood := { row := fnCreditUptoRow, standIns := [], harness := (true, "3930ccb3b115761aeb5244a1e54ad2a3d672ec572ddba045e4390c27d4f60107"), looks := false }, kinds := [], alts := [], laidByText := true, laidKinds := [.data, .pinned], laidTests := true, laidLooks := .later }
def FnCreditUptoCardSaid : Prop := Claim7.holds Tryz.pinned (.plain (OpenSpec.upto fnCreditSpec)) fnCreditUptoCard

/-- THE SECOND FORM's CARD OF 'laws.FnRetime'. -/
def fnRetimeUptoCard : Claim7 := { stood := { row := fnRetimeUptoRow, standIns := [], harness := (true, "3930ccb3b115761aeb5244a1e54ad2a3d672ec572ddba045e4390c27d4f60107"), looks := false }, kinds := [], alts := [], laidByText := true, laidKinds := [.data, .pinned], laidTests := true, laidLooks := .later }
def FnRetimeUptoCardSaid : Prop := Claim7.holds Tryz.pinned (.plain (OpenSpec.upto fnRetimeSpec)) fnRetimeUptoCard
end Rows
end Go.Proofs.YtbmbbkjleheokaaGreatDoor
