/-
  DERIVED. GIVEN WITH THE SEED: THE CARDS: each row of YtmkldekhhkijdaaGreatDoorRows.lean that lists a variable, with what it lists TIED to the program's text (the seventh form; the later family's looks); each row that meets fmt, with fmt's text TOLD by the authors' own Lean function (tested against real Go, not proved from fmt's source: count such statements apart). THE CARD IS WHAT COUNTS. Prove the row's statement (the work); the ties are given (YtmkldekhhkijdaaGreatDoorTie.lean); close each card by the builder's one call (the guide's Derived/Test/ToyasCard.lean, 'card_holds'). Laid BY PROGRAM, IN A SANDBOX (cutbox-door.mjs). By AI agents, Wed Nov 11 2026. No macro, syntax, notation, axiom, sorry.
-/
import Derived.Test.YtmkldekhhkijdaaGreatDoorRows
import GoSem.ClaimSeven
namespace Go.Proofs.YtmkldekhhkijdaaGreatDoor
namespace Rows

/-- THE TIED CARD OF 'laws.FnExactExceptionText'. -/
def fnExactExceptionTextCard : Claim7 := { stood := { row := fnExactExceptionTextRow, standIns := [], harness := (true, "3dc255eb1a9a456d2f91d406d5eb29a0d4712a2e461557c129bd5653314ab2e1"), looks := true }, kinds := [], alts := [], laidByText := true, laidKinds := [.data, .data, .data, .data, .widerDeep, .pinned], laidTests := true, laidLooks := .later }
def FnExactExceptionTextCardSaid : Prop := Claim7.holds Tryz.pinned (.plain (OpenSpec.ofChange fnExactExceptionTextSpec)) fnExactExceptionTextCard

/-- THE TIED CARD OF 'laws.FnExceptionText'. -/
def fnExceptionTextCard : Claim7 := { stood := { row := fnExceptionTextRow, standIns := [], harness := (true, "3dc255eb1a9a456d2f91d406d5eb29a0d4712a2e461557c129bd5653314ab2e1"), looks := true }, kinds := [], alts := [], laidByText := true, laidKinds := [.data, .data, .data, .data, .sentinel, .sentinel, .widerDeep, .pinned], laidTests := true, laidLooks := .later }
def FnExceptionTextCardSaid : Prop := Claim7.holds Tryz.pinned (.plain (OpenSpec.ofChange fnExceptionTextSpec)) fnExceptionTextCard

/-- THE TIED CARD OF 'laws.FnExactReadException'. -/
def fnExactReadExceptionCard : Claim7 := { stood := { row := fnExactReadExceptionRow, standIns := [], harness := (true, "3dc255eb1a9a456d2f91d406d5eb29a0d4712a2e461557c129bd5653314ab2e1"), looks := true }, kinds := [], alts := [], laidByText := true, laidKinds := [.data, .data, .data, .data, .sentinel, .sentinel, .widerDeep, .pinned], laidTests := true, laidLooks := .later }
def FnExactReadExceptionCardSaid : Prop := Claim7.holds Tryz.pinned (.plain (OpenSpec.ofChange fnExactReadExceptionSpec)) fnExactReadExceptionCard

/-- THE SECOND FORM's CARD OF 'laws.FnExactExceptionText'. -/
def fnExactExceptionTextUptoCard : Claim7 := { stood := { row := fnExactExceptionTextUptoRow, standIns := [], harness := (true, "3dc255eb1a9a456d2f91d406d5eb29a0d4712a2e461557c129bd5653314ab2e1"), looks := true }, kinds := [], alts := [], laidByText := true, laidKinds := [.data, .data, .data, .data, .widerDeep, .pinned], laidTests := true, laidLooks := .later }
def FnExactExceptionTextUptoCardSaid : Prop := Claim7.holds Tryz.pinned (.plain (OpenSpec.upto fnExactExceptionTextSpec)) fnExactExceptionTextUptoCard

/-- THE SECOND FORM's CARD OF 'laws.FnExceptionText'. -/
def fnExceptionTextUptoCard : Claim7 := { stood := { row := fnExceptionTextUptoRow, standIns := [], harness := (true, "3dc255eb1a9a456d2f91d406d5eb29a0d4712a2e461557c129bd5653314ab2e1"), looks := true }, kinds := [], alts := [], laidByText := true, laidKinds := [.data, .data, .data, .data, .sentinel, .sentinel, .widerDeep, .pinned], laidTests := true, laidLooks := .later }
def FnExceptionTextUptoCardSaid : Prop := Claim7.holds Tryz.pinned (.plain (OpenSpec.upto fnExceptionTextSpec)) fnExceptionTextUptoCard

/-- THE SECOND FORM's CARD OF 'laws.FnExactReadException'. -/
def fnExactReadExceptionUptoCard : Claim7 := { stood := { row := fnExactReadExceptionUptoRow, standIns := [], harness := (true, "3dc255eb1a9a456d2f91d406d5eb29a0d4712a2e461557c129bd5653314ab2e1"), looks := true }, kinds := [], alts := [], laidByText := true, laidKinds := [.data, .data, .data, .data, .sentinel, .sentinel, .widerDeep, .pinned], laidTests := true, laidLooks := .later }
def FnExactReadExceptionUptoCardSaid : Prop := Claim7.holds Tryz.pinned (.plain (OpenSpec.upto fnExactReadExceptionSpec)) fnExactReadExceptionUptoCard
end Rows
end Go.Proofs.YtmkldekhhkijdaaGreatDoor
