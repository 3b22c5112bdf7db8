/-
  DERIVED. GIVEN WITH THE SEED: THE CARDS: each row of YteofoidaapgdkaaGreatDoorRows.lean that lists a variable, with what it lists TIED to the program's text (the seventh form; the later family's looks); each row that meets fmt, with fmt's text TOLD by the authors' own Lean function (tested against real Go, not proved from fmt's source: count such statements apart). THE CARD IS WHAT COUNTS. Prove the row's statement (the work); the ties are given (YteofoidaapgdkaaGreatDoorTie.lean); close each card by the builder's one call (the guide's Derived/Test/ToyasCard.lean, 'card_holds'). Laid BY PROGRAM, IN A SANDBOX (cutbox-door.mjs). By AI agents, Wed Nov 11 2026. No macro, syntax, notation, axiom, sorry.
-/
import Derived.Test.YteofoidaapgdkaaGreatDoorRows
import GoSem.ClaimSeven
namespace Go.Proofs.YteofoidaapgdkaaGreatDoor
namespace Rows

/-- THE TIED CARD OF 'laws.FnExactActiveCouplings'. -/
def fnExactActiveCouplingsCard : Claim7 := { stood := { row := fnExactActiveCouplingsRow, standIns := [], harness := (true, "f106dceb14c82f323192426f410fcf41e62a360cb4e472762b1219f1fe4f146b"), looks := false }, kinds := [], alts := [], laidByText := true, laidKinds := [.data, .pinned], laidTests := true, laidLooks := .later }
def FnExactActiveCouplingsCardSaid : Prop := Claim7.holds Tryz.pinned (.plain (OpenSpec.ofChange fnExactActiveCouplingsSpec)) fnExactActiveCouplingsCard

/-- THE TIED CARD OF 'laws.FnExactIsSettled'. -/
def fnExactIsSettledCard : Claim7 := { stood := { row := fnExactIsSettledRow, standIns := [], harness := (true, "f106dceb14c82f323192426f410fcf41e62a360cb4e472762b1219f1fe4f146b"), looks := false }, kinds := [], alts := [], laidByText := true, laidKinds := [.data, .pinned], laidTests := true, laidLooks := .later }
def FnExactIsSettledCardSaid : Prop := Claim7.holds Tryz.pinned (.plain (OpenSpec.ofChange fnExactIsSettledSpec)) fnExactIsSettledCard

/-- THE TIED CARD OF 'laws.FnExactTimingWithExtras'. -/
def fnExactTimingWithExtrasCard : Claim7 := { stood := { row := fnExactTimingWithExtrasRow, standIns := [], harness := (true, "f106dceb14c82f323192426f410fcf41e62a360cb4e472762b1219f1fe4f146b"), looks := false }, kinds := [], alts := [], laidByText := true, laidKinds := [.data, .pinned], laidTests := true, laidLooks := .later }
def FnExactTimingWithExtrasCardSaid : Prop := Claim7.holds Tryz.pinned (.plain (OpenSpec.ofChange fnExactTimingWithExtrasSpec)) fnExactTimingWithExtrasCard

/-- THE TIED CARD OF 'laws.FnExactLatchSystemOf'. -/
def fnExactLatchSystemOfCard : Claim7 := { stood := { row := fnExactLatchSystemOfRow, standIns := [], harness := (true, "f106dceb14c82f323192426f410fcf41e62a360cb4e472762b1219f1fe4f146b"), looks := false }, kinds := [], alts := [], laidByText := true, laidKinds := [.data, .pinned], laidTests := true, laidLooks := .later }
def FnExactLatchSystemOfCardSaid : Prop := Claim7.holds Tryz.pinned (.plain (OpenSpec.ofChange fnExactLatchSystemOfSpec)) fnExactLatchSystemOfCard

/-- THE SECOND FORM's CARD OF 'laws.FnExactActiveCouplings'. -/
def fnExactActiveCouplingsUptoCard : Claim7 := { stood := { row := fnExactActiveCouplingsUptoRow, standIns := [], harness := (true, "f106dceb14c82f323192426f410fcf41e62a360cb4e472762b1219f1fe4f146b"), looks := false }, kinds := [], alts := [], laidByText := true, laidKinds := [.data, .pinned], laidTests := true, laidLooks := .later }
def FnExactActiveCouplingsUptoCardSaid : Prop := Claim7.holds Tryz.pinned (.plain (OpenSpec.upto fnExactActiveCouplingsSpec)) fnExactActiveCouplingsUptoCard

/-- THE SECOND FORM's CARD OF 'laws.FnExactIsSettled'. -/
def fnExactIsSettledUptoCard : Claim7 := { stood := { row := fnExactIsSettledUptoRow, standIns := [], harness := (true, "f106dceb14c82f323192426f410fcf41e62a360cb4e472762b1219f1fe4f146b"), looks := false }, kinds := [], alts := [], laidByText := true, laidKinds := [.data, .pinned], laidTests := true, laidLooks := .later }
def FnExactIsSettledUptoCardSaid : Prop := Claim7.holds Tryz.pinned (.plain (OpenSpec.upto fnExactIsSettledSpec)) fnExactIsSettledUptoCard

/-- THE SECOND FORM's CARD OF 'laws.FnExactTimingWithExtras'. -/
def fnExactTimingWithExtrasUptoCard : Claim7 := { stood := { row := fnExactTimingWithExtrasUptoRow, standIns := [], harness := (true, "f106dceb14c82f323192426f410fcf41e62a360cb4e472762b1219f1fe4f146b"), looks := false }, kinds := [], alts := [], laidByText := true, laidKinds := [.data, .pinned], laidTests := true, laidLooks := .later }
def FnExactTimingWithExtrasUptoCardSaid : Prop := Claim7.holds Tryz.pinned (.plain (OpenSpec.upto fnExactTimingWithExtrasSpec)) fnExactTimingWithExtrasUptoCard

/-- THE SECOND FORM's CARD OF 'laws.FnExactLatchSystemOf'. -/
def fnExactLatchSystemOfUptoCard : Claim7 := { stood := { row := fnExactLatchSystemOfUptoRow, standIns := [], harness := (true, "f106dceb14c82f323192426f410fcf41e62a360cb4e472762b1219f1fe4f146b"), looks := false }, kinds := [], alts := [], laidByText := true, laidKinds := [.data, .pinned], laidTests := true, laidLooks := .later }
def FnExactLatchSystemOfUptoCardSaid : Prop := Claim7.holds Tryz.pinned (.plain (OpenSpec.upto fnExactLatchSystemOfSpec)) fnExactLatchSystemOfUptoCard
end Rows
end Go.Proofs.YteofoidaapgdkaaGreatDoor
