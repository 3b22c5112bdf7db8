/-
  DERIVED. GIVEN WITH THE SEED: THE CARDS: each row of YtpiadipmfbjlbaaGreatDoorRows.lean that lists a variable, with what it lists TIED to the program's text (the seventh form; the later family's looks); each row that meets fmt, with fmt's text TOLD by the authors' own Lean function (tested against real Go, not proved from fmt's source: count such statements apart). THE CARD IS WHAT COUNTS. Prove the row's statement (the work); the ties are given (YtpiadipmfbjlbaaGreatDoorTie.lean); close each card by the builder's one call (the guide's Derived/Test/ToyasCard.lean, 'card_holds'). Laid BY PROGRAM, IN A SANDBOX (cutbox-door.mjs). By AI agents, Wed Nov 11 2026. No macro, syntax, notation, axiom, sorry.
-/
import Derived.Test.YtpiadipmfbjlbaaGreatDoorRows
import GoSem.ClaimSeven
namespace Go.Proofs.YtpiadipmfbjlbaaGreatDoor
namespace Rows

/-- THE TIED CARD OF 'laws.FnExactRetimedWorst'. -/
def fnExactRetimedWorstCard : Claim7 := { stood := { row := fnExactRetimedWorstRow, standIns := [], harness := (true, "78b8c9631a87ff6ec4d4fe96ecee0b34fb0cd94936c090e93380139f71475279"), looks := false }, kinds := [], alts := [], laidByText := true, laidKinds := [.data, .pinned], laidTests := true, laidLooks := .later }
def FnExactRetimedWorstCardSaid : Prop := Claim7.holds Tryz.pinned (.plain (OpenSpec.ofChange fnExactRetimedWorstSpec)) fnExactRetimedWorstCard

/-- THE TIED CARD OF 'laws.FnExactKWorst'. -/
def fnExactKWorstCard : Claim7 := { stood := { row := fnExactKWorstRow, standIns := [], harness := (true, "78b8c9631a87ff6ec4d4fe96ecee0b34fb0cd94936c090e93380139f71475279"), looks := false }, kinds := [], alts := [], laidByText := true, laidKinds := [.data, .pinned], laidTests := true, laidLooks := .later }
def FnExactKWorstCardSaid : Prop := Claim7.holds Tryz.pinned (.plain (OpenSpec.ofChange fnExactKWorstSpec)) fnExactKWorstCard

/-- THE TIED CARD OF 'laws.FnExactRetimeGain'. -/
def fnExactRetimeGainCard : Claim7 := { stood := { row := fnExactRetimeGainRow, standIns := [], harness := (true, "78b8c9631a87ff6ec4d4fe96ecee0b34fb0cd94936c090e93380139f71475279"), looks := false }, kinds := [], alts := [], laidByText := true, laidKinds := [.data, .pinned], laidTests := true, laidLooks := .later }
def FnExactRetimeGainCardSaid : Prop := Claim7.holds Tryz.pinned (.plain (OpenSpec.ofChange fnExactRetimeGainSpec)) fnExactRetimeGainCard

/-- THE SECOND FORM's CARD OF 'laws.FnExactRetimedWorst'. -/
def fnExactRetimedWorstUptoCard : Claim7 := { stood := { row := fnExactRetimedWorstUptoRow, standIns := [], harness := (true, "78b8c9631a87ff6ec4d4fe96ecee0b34fb0cd94936c090e93380139f71475279"), looks := false }, kinds := [], alts := [], laidByText := true, laidKinds := [.data, .pinned], laidTests := true, laidLooks := .later }
def FnExactRetimedWorstUptoCardSaid : Prop := Claim7.holds Tryz.pinned (.plain (OpenSpec.upto fnExactRetimedWorstSpec)) fnExactRetimedWorstUptoCard

/-- THE SECOND FORM's CARD OF 'laws.FnExactKWorst'. -/
def fnExactKWorstUptoCard : Claim7 := { stood := { row := fnExactKWorstUptoRow, standIns := [], harness := (true, "78b8c9631a87ff6ec4d4fe96ecee0b34fb0cd94936c090e93380139f71475279"), looks := false }, kinds := [], alts := [], laidByText := true, laidKinds := [.data, .pinned], laidTests := true, laidLooks := .later }
def FnExactKWorstUptoCardSaid : Prop := Claim7.holds Tryz.pinned (.plain (OpenSpec.upto fnExactKWorstSpec)) fnExactKWorstUptoCard

/-- THE SECOND FORM's CARD OF 'laws.FnExactRetimeGain'. -/
def fnExactRetimeGainUptoCard : Claim7 := { stood := { row := fnExactRetimeGainUptoRow, standIns := [], harness := (true, "78b8c9631a87ff6ec4d4fe96ecee0b34fb0cd94936c090e93380139f71475279"), looks := false }, kinds := [], alts := [], laidByText := true, laidKinds := [.data, .pinned], laidTests := true, laidLooks := .later }
def FnExactRetimeGainUptoCardSaid : Prop := Claim7.holds Tryz.pinned (.plain (OpenSpec.upto fnExactRetimeGainSpec)) fnExactRetimeGainUptoCard
end Rows
end Go.Proofs.YtpiadipmfbjlbaaGreatDoor
