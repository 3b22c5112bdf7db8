/-
  DERIVED. GIVEN WITH THE SEED: THE CARDS: each row of YtmemiabhkcdgcaaGreatDoorRows.lean that lists a variable, with what it lists TIED to the program's text (the seventh form; the later family's looks); each row that meets fmt, with fmt's text TOLD by the authors' own Lean function (tested against real Go, not proved from fmt's source: count such statements apart). THE CARD IS WHAT COUNTS. Prove the row's statement (the work); the ties are given (YtmemiabhkcdgcaaGreatDoorTie.lean); close each card by the builder's one call (the guide's Derived/Test/ToyasCard.lean, 'card_holds'). Laid BY PROGRAM, IN A SANDBOX (cutbox-door.mjs). By AI agents, Wed Nov 11 2026. No macro, syntax, notation, axiom, sorry.
-/
import Derived.Test.YtmemiabhkcdgcaaGreatDoorRows
import GoSem.ClaimSeven
namespace Go.Proofs.YtmemiabhkcdgcaaGreatDoor
namespace Rows

/-- THE TIED CARD OF 'laws.FnTags'. -/
def fnTagsCard : Claim7 := { stood := { row := fnTagsRow, standIns := [], harness := (true, "1329b9f34752655c778e9a58c7f33931ff3cebfb83ca6ad1d5c4c6581b6a87f7"), looks := false }, kinds := [], alts := [], laidByText := true, laidKinds := [.data, .pinned], laidTests := true, laidLooks := .later }
def FnTagsCardSaid : Prop := Claim7.holds Tryz.pinned (.plain (OpenSpec.ofChange fnTagsSpec)) fnTagsCard

/-- THE TIED CARD OF 'laws.FnExactTagsAt'. -/
def fnExactTagsAtCard : Claim7 := { stood := { row := fnExactTagsAtRow, standIns := [], harness := (true, "1329b9f34752655c778e9a58c7f33931ff3cebfb83ca6ad1d5c4c6581b6a87f7"), looks := false }, kinds := [], alts := [], laidByText := true, laidKinds := [.data, .pinned], laidTests := true, laidLooks := .later }
def FnExactTagsAtCardSaid : Prop := Claim7.holds Tryz.pinned (.plain (OpenSpec.ofChange fnExactTagsAtSpec)) fnExactTagsAtCard

/-- THE TIED CARD OF 'laws.FnExactLiveTags'. -/
def fnExactLiveTagsCard : Claim7 := { stood := { row := fnExactLiveTagsRow, standIns := [], harness := (true, "1329b9f34752655c778e9a58c7f33931ff3cebfb83ca6ad1d5c4c6581b6a87f7"), looks := false }, kinds := [], alts := [], laidByText := true, laidKinds := [.data, .pinned], laidTests := true, laidLooks := .later }
def FnExactLiveTagsCardSaid : Prop := Claim7.holds Tryz.pinned (.plain (OpenSpec.ofChange fnExactLiveTagsSpec)) fnExactLiveTagsCard

/-- THE SECOND FORM's CARD OF 'laws.FnTags'. -/
def fnTagsUptoCard : Claim7 := { stood := { row := fnTagsUptoRow, standIns := [], harness := (true, "1329b9f34752655c778e9a58c7f33931ff3cebfb83ca6ad1d5c4c6581b6a87f7"), looks := false }, kinds := [], alts := [], laidByText := true, laidKinds := [.data, .pinned], laidTests := true, laidLooks := .later }
def FnTagsUptoCardSaid : Prop := Claim7.holds Tryz.pinned (.plain (OpenSpec.upto fnTagsSpec)) fnTagsUptoCard

/-- THE SECOND FORM's CARD OF 'laws.FnExactTagsAt'. -/
def fnExactTagsAtUptoCard : Claim7 := { stood := { row := fnExactTagsAtUptoRow, standIns := [], harness := (true, "1329b9f34752655c778e9a58c7f33931ff3cebfb83ca6ad1d5c4c6581b6a87f7"), looks := false }, kinds := [], alts := [], laidByText := true, laidKinds := [.data, .pinned], laidTests := true, laidLooks := .later }
def FnExactTagsAtUptoCardSaid : Prop := Claim7.holds Tryz.pinned (.plain (OpenSpec.upto fnExactTagsAtSpec)) fnExactTagsAtUptoCard

/-- THE SECOND FORM's CARD OF 'laws.FnExactLiveTags'. -/
def fnExactLiveTagsUptoCard : Claim7 := { stood := { row := fnExactLiveTagsUptoRow, standIns := [], harness := (true, "1329b9f34752655c778e9a58c7f33931ff3cebfb83ca6ad1d5c4c6581b6a87f7"), looks := false }, kinds := [], alts := [], laidByText := true, laidKinds := [.data, .pinned], laidTests := true, laidLooks := .later }
def FnExactLiveTagsUptoCardSaid : Prop := Claim7.holds Tryz.pinned (.plain (OpenSpec.upto fnExactLiveTagsSpec)) fnExactLiveTagsUptoCard
end Rows
end Go.Proofs.YtmemiabhkcdgcaaGreatDoor
