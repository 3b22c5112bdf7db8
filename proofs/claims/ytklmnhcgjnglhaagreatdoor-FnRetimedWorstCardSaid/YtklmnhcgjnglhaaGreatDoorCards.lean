/-
  DERIVED. GIVEN WITH THE SEED: THE CARDS: each row of YtklmnhcgjnglhaaGreatDoorRows.lean that lists a variable, with what it lists TIED to the program's text (the seventh form; the later family's looks); each row that meets fmt, with fmt's text TOLD by the authors' own Lean function (tested against real Go, not proved from fmt's source: count such statements apart). THE CARD IS WHAT COUNTS. Prove the row's statement (the work); the ties are given (YtklmnhcgjnglhaaGreatDoorTie.lean); close each card by the builder's one call (the guide's Derived/Test/ToyasCard.lean, 'card_holds'). Laid BY PROGRAM, IN A SANDBOX (cutbox-door.mjs). By AI agents, Wed Nov 11 2026. No macro, syntax, notation, axiom, sorry.
-/
import Derived.Test.YtklmnhcgjnglhaaGreatDoorRows
import GoSem.ClaimSeven
namespace Go.Proofs.YtklmnhcgjnglhaaGreatDoor
namespace Rows

/-- THE TIED CARD OF 'laws.FnWorstPaths'. -/
def fnWorstPathsCard : Claim7 := { stood := { row := fnWorstPathsRow, standIns := [], harness := (true, "8e153a43415dca2fdf98e6dca50d539c54ce1f961f7883b1d79efcd1188168c3"), looks := false }, kinds := [], alts := [], laidByText := true, laidKinds := [.data, .pinned], laidTests := true, laidLooks := .later }
def FnWorstPathsCardSaid : Prop := Claim7.holds Tryz.pinned (.plain (OpenSpec.ofChange fnWorstPathsSpec)) fnWorstPathsCard

/-- THE TIED CARD OF 'laws.FnRetimedWorst'. -/
def fnRetimedWorstCard : Claim7 := { stood := { row := fnRetimedWorstRow, standIns := [], harness := (true, "8e153a43415dca2fdf98e6dca50d539c54ce1f961f7883b1d79efcd1188168c3"), looks := false }, kinds := [], alts := [], laidByText := true, laidKinds := [.data, .pinned], laidTests := true, laidLooks := .later }
def FnRetimedWorstCardSaid : Prop := Claim7.holds Tryz.pinned (.plain (OpenSpec.ofChange fnRetimedWorstSpec)) fnRetimedWorstCard

/-- THE SECOND FORM's CARD OF 'laws.FnWorstPaths'. -/
def fnWorstPathsUptoCard : Claim7 := { stood := { row := fnWorstPathsUptoRow, standIns := [], harness := (true, "8e153a43415dca2fdf98e6dca50d539c54ce1f961f7883b1d79efcd1188168c3"), looks := false }, kinds := [], alts := [], laidByText := true, laidKinds := [.data, .pinned], laidTests := true, laidLooks := .later }
def FnWorstPathsUptoCardSaid : Prop := Claim7.holds Tryz.pinned (.plain (OpenSpec.upto fnWorstPathsSpec)) fnWorstPathsUptoCard

/-- THE SECOND FORM's CARD OF 'laws.FnRetimedWorst'. -/
def fnRetimedWorstUptoCard : Claim7 := { stood := { row := fnRetimedWorstUptoRow, standIns := [], harness := (true, "8e153a43415dca2fdf98e6dca50d539c54ce1f961f7883b1d79efcd1188168c3"), looks := false }, kinds := [], alts := [], laidByText := true, laidKinds := [.data, .pinned], laidTests := true, laidLooks := .later }
def FnRetimedWorstUptoCardSaid : Prop := Claim7.holds Tryz.pinned (.plain (OpenSpec.upto fnRetimedWorstSpec)) fnRetimedWorstUptoCard
end Rows
end Go.Proofs.YtklmnhcgjnglhaaGreatDoor
