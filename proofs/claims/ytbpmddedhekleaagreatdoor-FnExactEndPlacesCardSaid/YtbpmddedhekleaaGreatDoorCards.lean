/-
  DERIVED. GIVEN WITH THE SEED: THE CARDS: each row of YtbpmddedhekleaaGreatDoorRows.lean that lists a variable, with what it lists TIED to the program's text (the seventh form; the later family's looks); each row that meets fmt, with fmt's text TOLD by the authors' own Lean function (tested against real Go, not proved from fmt's source: count such statements apart). THE CARD IS WHAT COUNTS. Prove the row's statement (the work); the ties are given (YtbpmddedhekleaaGreatDoorTie.lean); close each card by the builder's one call (the guide's Derived/Test/ToyasCard.lean, 'card_holds'). Laid BY PROGRAM, IN A SANDBOX (cutbox-door.mjs). By AI agents, Wed Nov 11 2026. No macro, syntax, notation, axiom, sorry.
-/
import Derived.Test.YtbpmddedhekleaaGreatDoorRows
import GoSem.ClaimSeven
namespace Go.Proofs.YtbpmddedhekleaaGreatDoor
namespace Rows

/-- THE TIED CARD OF 'laws.FnExactIsMonotoneBlock'. -/
def fnExactIsMonotoneBlockCard : Claim7 := { stood := { row := fnExactIsMonotoneBlockRow, standIns := [], harness := (true, "38bb976071d4db402500c3a42743c6b3f6f7aaaea1bd34dc1d754ed4e695ce73"), looks := false }, kinds := [], alts := [], laidByText := true, laidKinds := [.data, .pinned], laidTests := true, laidLooks := .later }
def FnExactIsMonotoneBlockCardSaid : Prop := Claim7.holds Tryz.pinned (.plain (OpenSpec.ofChange fnExactIsMonotoneBlockSpec)) fnExactIsMonotoneBlockCard

/-- THE TIED CARD OF 'laws.FnExactIsCouplings'. -/
def fnExactIsCouplingsCard : Claim7 := { stood := { row := fnExactIsCouplingsRow, standIns := [], harness := (true, "38bb976071d4db402500c3a42743c6b3f6f7aaaea1bd34dc1d754ed4e695ce73"), looks := false }, kinds := [], alts := [], laidByText := true, laidKinds := [.data, .pinned], laidTests := true, laidLooks := .later }
def FnExactIsCouplingsCardSaid : Prop := Claim7.holds Tryz.pinned (.plain (OpenSpec.ofChange fnExactIsCouplingsSpec)) fnExactIsCouplingsCard

/-- THE TIED CARD OF 'laws.FnExactIsDataPath'. -/
def fnExactIsDataPathCard : Claim7 := { stood := { row := fnExactIsDataPathRow, standIns := [], harness := (true, "38bb976071d4db402500c3a42743c6b3f6f7aaaea1bd34dc1d754ed4e695ce73"), looks := false }, kinds := [], alts := [], laidByText := true, laidKinds := [.data, .pinned], laidTests := true, laidLooks := .later }
def FnExactIsDataPathCardSaid : Prop := Claim7.holds Tryz.pinned (.plain (OpenSpec.ofChange fnExactIsDataPathSpec)) fnExactIsDataPathCard

/-- THE TIED CARD OF 'laws.FnExactStartPlaces'. -/
def fnExactStartPlacesCard : Claim7 := { stood := { row := fnExactStartPlacesRow, standIns := [], harness := (true, "38bb976071d4db402500c3a42743c6b3f6f7aaaea1bd34dc1d754ed4e695ce73"), looks := false }, kinds := [], alts := [], laidByText := true, laidKinds := [.data, .pinned], laidTests := true, laidLooks := .later }
def FnExactStartPlacesCardSaid : Prop := Claim7.holds Tryz.pinned (.plain (OpenSpec.ofChange fnExactStartPlacesSpec)) fnExactStartPlacesCard

/-- THE TIED CARD OF 'laws.FnExactEndPlaces'. -/
def fnExactEndPlacesCard : Claim7 := { stood := { row := fnExactEndPlacesRow, standIns := [], harness := (true, "38bb976071d4db402500c3a42743c6b3f6f7aaaea1bd34dc1d754ed4e695ce73"), looks := false }, kinds := [], alts := [], laidByText := true, laidKinds := [.data, .pinned], laidTests := true, laidLooks := .later }
def FnExactEndPlacesCardSaid : Prop := Claim7.holds Tryz.pinned (.plain (OpenSpec.ofChange fnExactEndPlacesSpec)) fnExactEndPlacesCard

/-- THE SECOND FORM's CARD OF 'laws.FnExactIsMonotoneBlock'. -/
def fnExactIsMonotoneBlockUptoCard : Claim7 := { stood := { row := fnExactIsMonotoneBlockUptoRow, standIns := [], harness := (true, "38bb976071d4db402500c3a42743c6b3f6f7aaaea1bd34dc1d754ed4e695ce73"), looks := false }, kinds := [], alts := [], laidByText := true, laidKinds := [.data, .pinned], laidTests := true, laidLooks := .later }
def FnExactIsMonotoneBlockUptoCardSaid : Prop := Claim7.holds Tryz.pinned (.plain (OpenSpec.upto fnExactIsMonotoneBlockSpec)) fnExactIsMonotoneBlockUptoCard

/-- THE SECOND FORM's CARD OF 'laws.FnExactIsCouplings'. -/
def fnExactIsCouplingsUptoCard : Claim7 := { stood := { row := fnExactIsCouplingsUptoRow, standIns := [], harness := (true, "38bb976071d4db402500c3a42743c6b3f6f7aaaea1bd34dc1d754ed4e695ce73"), looks := false }, kinds := [], alts := [], laidByText := true, laidKinds := [.data, .pinned], laidTests := true, laidLooks := .later }
def FnExactIsCouplingsUptoCardSaid : Prop := Claim7.holds Tryz.pinned (.plain (OpenSpec.upto fnExactIsCouplingsSpec)) fnExactIsCouplingsUptoCard

/-- THE SECOND FORM's CARD OF 'laws.FnExactIsDataPath'. -/
def fnExactIsDataPathUptoCard : Claim7 := { stood := { row := fnExactIsDataPathUptoRow, standIns := [], harness := (true, "38bb976071d4db402500c3a42743c6b3f6f7aaaea1bd34dc1d754ed4e695ce73"), looks := false }, kinds := [], alts := [], laidByText := true, laidKinds := [.data, .pinned], laidTests := true, laidLooks := .later }
def FnExactIsDataPathUptoCardSaid : Prop := Claim7.holds Tryz.pinned (.plain (OpenSpec.upto fnExactIsDataPathSpec)) fnExactIsDataPathUptoCard

/-- THE SECOND FORM's CARD OF 'laws.FnExactStartPlaces'. -/
def fnExactStartPlacesUptoCard : Claim7 := { stood := { row := fnExactStartPlacesUptoRow, standIns := [], harness := (true, "38bb976071d4db402500c3a42743c6b3f6f7aaaea1bd34dc1d754ed4e695ce73"), looks := false }, kinds := [], alts := [], laidByText := true, laidKinds := [.data, .pinned], laidTests := true, laidLooks := .later }
def FnExactStartPlacesUptoCardSaid : Prop := Claim7.holds Tryz.pinned (.plain (OpenSpec.upto fnExactStartPlacesSpec)) fnExactStartPlacesUptoCard

/-- THE SECOND FORM's CARD OF 'laws.FnExactEndPlaces'. -/
def fnExactEndPlacesUptoCard : Claim7 := { stood := { row := fnExactEndPlacesUptoRow, standIns := [], harness := (true, "38bb976071d4db402500c3a42743c6b3f6f7aaaea1bd34dc1d754ed4e695ce73"), looks := false }, kinds := [], alts := [], laidByText := true, laidKinds := [.data, .pinned], laidTests := true, laidLooks := .later }
def FnExactEndPlacesUptoCardSaid : Prop := Claim7.holds Tryz.pinned (.plain (OpenSpec.upto fnExactEndPlacesSpec)) fnExactEndPlacesUptoCard
end Rows
end Go.Proofs.YtbpmddedhekleaaGreatDoor
