/-
  DERIVED. GIVEN WITH THE SEED: THE CARDS: each row of YtbajldmfbhaaoaaGreatDoorRows.lean that lists a variable, with what it lists TIED to the program's text (the seventh form; the later family's looks); each row that meets fmt, with fmt's text TOLD by the authors' own Lean function (tested against real Go, not proved from fmt's source: count such statements apart). THE CARD IS WHAT COUNTS. Prove the row's statement (the work); the ties are given (YtbajldmfbhaaoaaGreatDoorTie.lean); close each card by the builder's one call (the guide's Derived/Test/ToyasCard.lean, 'card_holds'). Laid BY PROGRAM, IN A SANDBOX (cutbox-door.mjs). By AI agents, Wed Nov 11 2026. No macro, syntax, notation, axiom, sorry.
-/
import Derived.Test.YtbajldmfbhaaoaaGreatDoorRows
import GoSem.ClaimSeven
namespace Go.Proofs.YtbajldmfbhaaoaaGreatDoor
namespace Rows

/-- THE TIED CARD OF 'laws.FnExactCoupledTiming'. -/
def fnExactCoupledTimingCard : Claim7 := { stood := { row := fnExactCoupledTimingRow, standIns := [], harness := (true, "99da2e745480b12dc5465538c2f0be6fe83948c1a7732d618a514760c371811a"), looks := false }, kinds := [], alts := [], laidByText := true, laidKinds := [.data, .pinned], laidTests := true, laidLooks := .later }
def FnExactCoupledTimingCardSaid : Prop := Claim7.holds Tryz.pinned (.plain (OpenSpec.ofChange fnExactCoupledTimingSpec)) fnExactCoupledTimingCard

/-- THE TIED CARD OF 'laws.FnExactIsMonotoneBlock'. -/
def fnExactIsMonotoneBlockCard : Claim7 := { stood := { row := fnExactIsMonotoneBlockRow, standIns := [], harness := (true, "99da2e745480b12dc5465538c2f0be6fe83948c1a7732d618a514760c371811a"), looks := false }, kinds := [], alts := [], laidByText := true, laidKinds := [.data, .pinned], laidTests := true, laidLooks := .later }
def FnExactIsMonotoneBlockCardSaid : Prop := Claim7.holds Tryz.pinned (.plain (OpenSpec.ofChange fnExactIsMonotoneBlockSpec)) fnExactIsMonotoneBlockCard

/-- THE SECOND FORM's CARD OF 'laws.FnExactCoupledTiming'. -/
def fnExactCoupledTimingUptoCard : Claim7 := { stood := { row := fnExactCoupledTimingUptoRow, standIns := [], harness := (true, "99da2e745480b12dc5465538c2f0be6fe83948c1a7732d618a514760c371811a"), looks := false }, kinds := [], alts := [], laidByText := true, laidKinds := [.data, .pinned], laidTests := true, laidLooks := .later }
def FnExactCoupledTimingUptoCardSaid : Prop := Claim7.holds Tryz.pinned (.plain (OpenSpec.upto fnExactCoupledTimingSpec)) fnExactCoupledTimingUptoCard

/-- THE SECOND FORM's CARD OF 'laws.FnExactIsMonotoneBlock'. -/
def fnExactIsMonotoneBlockUptoCard : Claim7 := { stood := { row := fnExactIsMonotoneBlockUptoRow, standIns := [], harness := (true, "99da2e745480b12dc5465538c2f0be6fe83948c1a7732d618a514760c371811a"), looks := false }, kinds := [], alts := [], laidByText := true, laidKinds := [.data, .pinned], laidTests := true, laidLooks := .later }
def FnExactIsMonotoneBlockUptoCardSaid : Prop := Claim7.holds Tryz.pinned (.plain (OpenSpec.upto fnExactIsMonotoneBlockSpec)) fnExactIsMonotoneBlockUptoCard
end Rows
end Go.Proofs.YtbajldmfbhaaoaaGreatDoor
