/-
  DERIVED. GIVEN WITH THE SEED: THE CARDS: each row of YtfkmekkhnmifiaaGreatDoorRows.lean that lists a variable, with what it lists TIED to the program's text (the seventh form; the later family's looks); each row that meets fmt, with fmt's text TOLD by the authors' own Lean function (tested against real Go, not proved from fmt's source: count such statements apart). THE CARD IS WHAT COUNTS. Prove the row's statement (the work); the ties are given (YtfkmekkhnmifiaaGreatDoorTie.lean); close each card by the builder's one call (the guide's Derived/Test/ToyasCard.lean, 'card_holds'). Laid BY PROGRAM, IN A SANDBOX (cutbox-door.mjs). By AI agents, Wed Nov 11 2026. No macro, syntax, notation, axiom, sorry.
-/
import Derived.Test.YtfkmekkhnmifiaaGreatDoorRows
import GoSem.ClaimSeven
namespace Go.Proofs.YtfkmekkhnmifiaaGreatDoor
namespace Rows

/-- THE TIED CARD OF 'laws.FnLatchSystems'. -/
def fnLatchSystemsCard : Claim7 := { stood := { row := fnLatchSystemsRow, standIns := [], harness := (true, "4cc723499ea8f8937e6d7485894a85b5ac2957e55887174cf0d5ee176c97f8ab"), looks := false }, kinds := [], alts := [], laidByText := true, laidKinds := [.data, .pinned], laidTests := true, laidLooks := .later }
def FnLatchSystemsCardSaid : Prop := Claim7.holds Tryz.pinned (.plain (OpenSpec.ofChange fnLatchSystemsSpec)) fnLatchSystemsCard

/-- THE TIED CARD OF 'laws.FnSettledLists'. -/
def fnSettledListsCard : Claim7 := { stood := { row := fnSettledListsRow, standIns := [], harness := (true, "4cc723499ea8f8937e6d7485894a85b5ac2957e55887174cf0d5ee176c97f8ab"), looks := false }, kinds := [], alts := [], laidByText := true, laidKinds := [.data, .pinned], laidTests := true, laidLooks := .later }
def FnSettledListsCardSaid : Prop := Claim7.holds Tryz.pinned (.plain (OpenSpec.ofChange fnSettledListsSpec)) fnSettledListsCard

/-- THE TIED CARD OF 'laws.FnCoupled'. -/
def fnCoupledCard : Claim7 := { stood := { row := fnCoupledRow, standIns := [], harness := (true, "4cc723499ea8f8937e6d7485894a85b5ac2957e55887174cf0d5ee176c97f8ab"), looks := false }, kinds := [], alts := [], laidByText := true, laidKinds := [.data, .pinned], laidTests := true, laidLooks := .later }
def FnCoupledCardSaid : Prop := Claim7.holds Tryz.pinned (.plain (OpenSpec.ofChange fnCoupledSpec)) fnCoupledCard

/-- THE SECOND FORM's CARD OF 'laws.FnLatchSystems'. -/
def fnLatchSystemsUptoCard : Claim7 := { stood := { row := fnLatchSystemsUptoRow, standIns := [], harness := (true, "4cc723499ea8f8937e6d7485894a85b5ac2957e55887174cf0d5ee176c97f8ab"), looks := false }, kinds := [], alts := [], laidByText := true, laidKinds := [.data, .pinned], laidTests := true, laidLooks := .later }
def FnLatchSystemsUptoCardSaid : Prop := Claim7.holds Tryz.pinned (.plain (OpenSpec.upto fnLatchSystemsSpec)) fnLatchSystemsUptoCard

/-- THE SECOND FORM's CARD OF 'laws.FnSettledLists'. -/
def fnSettledListsUptoCard : Claim7 := { stood := { row := fnSettledListsUptoRow, standIns := [], harness := (true, "4cc723499ea8f8937e6d7485894a85b5ac2957e55887174cf0d5ee176c97f8ab"), looks := false }, kinds := [], alts := [], laidByText := true, laidKinds := [.data, .pinned], laidTests := true, laidLooks := .later }
def FnSettledListsUptoCardSaid : Prop := Claim7.holds Tryz.pinned (.plain (OpenSpec.upto fnSettledListsSpec)) fnSettledListsUptoCard

/-- THE SECOND FORM's CARD OF 'laws.FnCoupled'. -/
def fnCoupledUptoCard : Claim7 := { stood := { row := fnCoupledUptoRow, standIns := [], harness := (true, "4cc723499ea8f8937e6d7485894a85b5ac2957e55887174cf0d5ee176c97f8ab"), looks := false }, kinds := [], alts := [], laidByText := true, laidKinds := [.data, .pinned], laidTests := true, laidLooks := .later }
def FnCoupledUptoCardSaid : Prop := Claim7.holds Tryz.pinned (.plain (OpenSpec.upto fnCoupledSpec)) fnCoupledUptoCard
end Rows
end Go.Proofs.YtfkmekkhnmifiaaGreatDoor
