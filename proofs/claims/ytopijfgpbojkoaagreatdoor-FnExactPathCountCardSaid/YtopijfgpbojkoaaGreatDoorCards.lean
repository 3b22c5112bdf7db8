/-
  DERIVED. GIVEN WITH THE SEED: THE CARDS: each row of YtopijfgpbojkoaaGreatDoorRows.lean that lists a variable, with what it lists TIED to the program's text (the seventh form; the later family's looks); each row that meets fmt, with fmt's text TOLD by the authors' own Lean function (tested against real Go, not proved from fmt's source: count such statements apart). THE CARD IS WHAT COUNTS. Prove the row's statement (the work); the ties are given (YtopijfgpbojkoaaGreatDoorTie.lean); close each card by the builder's one call (the guide's Derived/Test/ToyasCard.lean, 'card_holds'). Laid BY PROGRAM, IN A SANDBOX (cutbox-door.mjs). By AI agents, Wed Nov 11 2026. No macro, syntax, notation, axiom, sorry.
-/
import Derived.Test.YtopijfgpbojkoaaGreatDoorRows
import GoSem.ClaimSeven
namespace Go.Proofs.YtopijfgpbojkoaaGreatDoor
namespace Rows

/-- THE TIED CARD OF 'laws.FnExactJobCode'. -/
def fnExactJobCodeCard : Claim7 := { stood := { row := fnExactJobCodeRow, standIns := [], harness := (true, "40d1125d641e5c6625ac5682a7fda04b2065eecaf48c05877d93b090944e0ade"), looks := false }, kinds := [], alts := [], laidByText := true, laidKinds := [.data, .pinned], laidTests := true, laidLooks := .later }
def FnExactJobCodeCardSaid : Prop := Claim7.holds Tryz.pinned (.plain (OpenSpec.ofChange fnExactJobCodeSpec)) fnExactJobCodeCard

/-- THE TIED CARD OF 'laws.FnExactIsJobPath'. -/
def fnExactIsJobPathCard : Claim7 := { stood := { row := fnExactIsJobPathRow, standIns := [], harness := (true, "40d1125d641e5c6625ac5682a7fda04b2065eecaf48c05877d93b090944e0ade"), looks := false }, kinds := [], alts := [], laidByText := true, laidKinds := [.data, .pinned], laidTests := true, laidLooks := .later }
def FnExactIsJobPathCardSaid : Prop := Claim7.holds Tryz.pinned (.plain (OpenSpec.ofChange fnExactIsJobPathSpec)) fnExactIsJobPathCard

/-- THE TIED CARD OF 'laws.FnExactPathCount'. -/
def fnExactPathCountCard : Claim7 := { stood := { row := fnExactPathCountRow, standIns := [], harness := (true, "40d1125d641e5c6625ac5682a7fda04b2065eecaf48c05877d93b090944e0ade"), looks := false }, kinds := [], alts := [], laidByText := true, laidKinds := [.data, .pinned], laidTests := true, laidLooks := .later }
def FnExactPathCountCardSaid : Prop := Claim7.holds Tryz.pinned (.plain (OpenSpec.ofChange fnExactPathCountSpec)) fnExactPathCountCard

/-- THE TIED CARD OF 'laws.FnExactEndOfPath'. -/
def fnExactEndOfPathCard : Claim7 := { stood := { row := fnExactEndOfPathRow, standIns := [], harness := (true, "40d1125d641e5c6625ac5682a7fda04b2065eecaf48c05877d93b090944e0ade"), looks := false }, kinds := [], alts := [], laidByText := true, laidKinds := [.data, .pinned], laidTests := true, laidLooks := .later }
def FnExactEndOfPathCardSaid : Prop := Claim7.holds Tryz.pinned (.plain (OpenSpec.ofChange fnExactEndOfPathSpec)) fnExactEndOfPathCard

/-- THE SECOND FORM's CARD OF 'laws.FnExactJobCode'. -/
def fnExactJobCodeUptoCard : Claim7 := { stood := { row := fnExactJobCodeUptoRow, standIns := [], harness := (true, "40d1125d641e5c6625ac5682a7fda04b2065eecaf48c05877d93b090944e0ade"), looks := false }, kinds := [], alts := [], laidByText := true, laidKinds := [.data, .pinned], laidTests := true, laidLooks := .later }
def FnExactJobCodeUptoCardSaid : Prop := Claim7.holds Tryz.pinned (.plain (OpenSpec.upto fnExactJobCodeSpec)) fnExactJobCodeUptoCard

/-- THE SECOND FORM's CARD OF 'laws.FnExactIsJobPath'. -/
def fnExactIsJobPathUptoCard : Claim7 := { stood := { row := fnExactIsJobPathUptoRow, standIns := [], harness := (true, "40d1125d641e5c6625ac5682a7fda04b2065eecaf48c05877d93b090944e0ade"), looks := false }, kinds := [], alts := [], laidByText := true, laidKinds := [.data, .pinned], laidTests := true, laidLooks := .later }
def FnExactIsJobPathUptoCardSaid : Prop := Claim7.holds Tryz.pinned (.plain (OpenSpec.upto fnExactIsJobPathSpec)) fnExactIsJobPathUptoCard

/-- THE SECOND FORM's CARD OF 'laws.FnExactPathCount'. -/
def fnExactPathCountUptoCard : Claim7 := { stood := { row := fnExactPathCountUptoRow, standIns := [], harness := (true, "40d1125d641e5c6625ac5682a7fda04b2065eecaf48c05877d93b090944e0ade"), looks := false }, kinds := [], alts := [], laidByText := true, laidKinds := [.data, .pinned], laidTests := true, laidLooks := .later }
def FnExactPathCountUptoCardSaid : Prop := Claim7.holds Tryz.pinned (.plain (OpenSpec.upto fnExactPathCountSpec)) fnExactPathCountUptoCard

/-- THE SECOND FORM's CARD OF 'laws.FnExactEndOfPath'. -/
def fnExactEndOfPathUptoCard : Claim7 := { stood := { row := fnExactEndOfPathUptoRow, standIns := [], harness := (true, "40d1125d641e5c6625ac5682a7fda04b2065eecaf48c05877d93b090944e0ade"), looks := false }, kinds := [], alts := [], laidByText := true, laidKinds := [.data, .pinned], laidTests := true, laidLooks := .later }
def FnExactEndOfPathUptoCardSaid : Prop := Claim7.holds Tryz.pinned (.plain (OpenSpec.upto fnExactEndOfPathSpec)) fnExactEndOfPathUptoCard
end Rows
end Go.Proofs.YtopijfgpbojkoaaGreatDoor
