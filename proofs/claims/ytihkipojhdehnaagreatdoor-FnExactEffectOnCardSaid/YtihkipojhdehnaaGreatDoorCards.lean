/-
  DERIVED. GIVEN WITH THE SEED: THE CARDS: each row of YtihkipojhdehnaaGreatDoorRows.lean that lists a variable, with what it lists TIED to the program's text (the seventh form; the later family's looks); each row that meets fmt, with fmt's text TOLD by the authors' own Lean function (tested against real Go, not proved from fmt's source: count such statements apart). THE CARD IS WHAT COUNTS. Prove the row's statement (the work); the ties are given (YtihkipojhdehnaaGreatDoorTie.lean); close each card by the builder's one call (the guide's Derived/Test/ToyasCard.lean, 'card_holds'). Laid BY PROGRAM, IN A SANDBOX (cutbox-door.mjs). By AI agents, Wed Nov 11 2026. No macro, syntax, notation, axiom, sorry.
-/
import Derived.Test.YtihkipojhdehnaaGreatDoorRows
import GoSem.ClaimSeven
namespace Go.Proofs.YtihkipojhdehnaaGreatDoor
namespace Rows

/-- THE TIED CARD OF 'laws.FnExactEffectOfTag'. -/
def fnExactEffectOfTagCard : Claim7 := { stood := { row := fnExactEffectOfTagRow, standIns := [], harness := (true, "dcdcb1f466a722c9512d965ef6c679ce08310a47dcaef303b2c74fb2133b3734"), looks := false }, kinds := [], alts := [], laidByText := true, laidKinds := [.data, .pinned], laidTests := true, laidLooks := .later }
def FnExactEffectOfTagCardSaid : Prop := Claim7.holds Tryz.pinned (.plain (OpenSpec.ofChange fnExactEffectOfTagSpec)) fnExactEffectOfTagCard

/-- THE TIED CARD OF 'laws.FnExactStepTag'. -/
def fnExactStepTagCard : Claim7 := { stood := { row := fnExactStepTagRow, standIns := [], harness := (true, "dcdcb1f466a722c9512d965ef6c679ce08310a47dcaef303b2c74fb2133b3734"), looks := false }, kinds := [], alts := [], laidByText := true, laidKinds := [.data, .pinned], laidTests := true, laidLooks := .later }
def FnExactStepTagCardSaid : Prop := Claim7.holds Tryz.pinned (.plain (OpenSpec.ofChange fnExactStepTagSpec)) fnExactStepTagCard

/-- THE TIED CARD OF 'laws.FnExactStartTag'. -/
def fnExactStartTagCard : Claim7 := { stood := { row := fnExactStartTagRow, standIns := [], harness := (true, "dcdcb1f466a722c9512d965ef6c679ce08310a47dcaef303b2c74fb2133b3734"), looks := false }, kinds := [], alts := [], laidByText := true, laidKinds := [.data, .pinned], laidTests := true, laidLooks := .later }
def FnExactStartTagCardSaid : Prop := Claim7.holds Tryz.pinned (.plain (OpenSpec.ofChange fnExactStartTagSpec)) fnExactStartTagCard

/-- THE TIED CARD OF 'laws.FnExactEffectOn'. -/
def fnExactEffectOnCard : Claim7 := { stood := { row := fnExactEffectOnRow, standIns := [], harness := (true, "dcdcb1f466a722c9512d965ef6c679ce08310a47dcaef303b2c74fb2133b3734"), looks := false }, kinds := [], alts := [], laidByText := true, laidKinds := [.data, .pinned], laidTests := true, laidLooks := .later }
def FnExactEffectOnCardSaid : Prop := Claim7.holds Tryz.pinned (.plain (OpenSpec.ofChange fnExactEffectOnSpec)) fnExactEffectOnCard

/-- THE TIED CARD OF 'laws.FnExactTagOf'. -/
def fnExactTagOfCard : Claim7 := { stood := { row := fnExactTagOfRow, standIns := [], harness := (true, "dcdcb1f466a722c9512d965ef6c679ce08310a47dcaef303b2c74fb2133b3734"), looks := false }, kinds := [], alts := [], laidByText := true, laidKinds := [.data, .pinned], laidTests := true, laidLooks := .later }
def FnExactTagOfCardSaid : Prop := Claim7.holds Tryz.pinned (.plain (OpenSpec.ofChange fnExactTagOfSpec)) fnExactTagOfCard

/-- THE TIED CARD OF 'laws.FnExactTagsAt'. -/
def fnExactTagsAtCard : Claim7 := { stood := { row := fnExactTagsAtRow, standIns := [], harness := (true, "dcdcb1f466a722c9512d965ef6c679ce08310a47dcaef303b2c74fb2133b3734"), looks := false }, kinds := [], alts := [], laidByText := true, laidKinds := [.data, .pinned], laidTests := true, laidLooks := .later }
def FnExactTagsAtCardSaid : Prop := Claim7.holds Tryz.pinned (.plain (OpenSpec.ofChange fnExactTagsAtSpec)) fnExactTagsAtCard

/-- THE SECOND FORM's CARD OF 'laws.FnExactEffectOfTag'. -/
def fnExactEffectOfTagUptoCard : Claim7 := { stood := { row := fnExactEffectOfTagUptoRow, standIns := [], harness := (true, "dcdcb1f466a722c9512d965ef6c679ce08310a47dcaef303b2c74fb2133b3734"), looks := false }, kinds := [], alts := [], laidByText := true, laidKinds := [.data, .pinned], laidTests := true, laidLooks := .later }
def FnExactEffectOfTagUptoCardSaid : Prop := Claim7.holds Tryz.pinned (.plain (OpenSpec.upto fnExactEffectOfTagSpec)) fnExactEffectOfTagUptoCard

/-- THE SECOND FORM's CARD OF 'laws.FnExactStepTag'. -/
def fnExactStepTagUptoCard : Claim7 := { stood := { row := fnExactStepTagUptoRow, standIns := [], harness := (true, "dcdcb1f466a722c9512d965ef6c679ce08310a47dcaef303b2c74fb2133b3734"), looks := false }, kinds := [], alts := [], laidByText := true, laidKinds := [.data, .pinned], laidTests := true, laidLooks := .later }
def FnExactStepTagUptoCardSaid : Prop := Claim7.holds Tryz.pinned (.plain (OpenSpec.upto fnExactStepTagSpec)) fnExactStepTagUptoCard

/-- THE SECOND FORM's CARD OF 'laws.FnExactStartTag'. -/
def fnExactStartTagUptoCard : Claim7 := { stood := { row := fnExactStartTagUptoRow, standIns := [], harness := (true, "dcdcb1f466a722c9512d965ef6c679ce08310a47dcaef303b2c74fb2133b3734"), looks := false }, kinds := [], alts := [], laidByText := true, laidKinds := [.data, .pinned], laidTests := true, laidLooks := .later }
def FnExactStartTagUptoCardSaid : Prop := Claim7.holds Tryz.pinned (.plain (OpenSpec.upto fnExactStartTagSpec)) fnExactStartTagUptoCard

/-- THE SECOND FORM's CARD OF 'laws.FnExactEffectOn'. -/
def fnExactEffectOnUptoCard : Claim7 := { stood := { row := fnExactEffectOnUptoRow, standIns := [], harness := (true, "dcdcb1f466a722c9512d965ef6c679ce08310a47dcaef303b2c74fb2133b3734"), looks := false }, kinds := [], alts := [], laidByText := true, laidKinds := [.data, .pinned], laidTests := true, laidLooks := .later }
def FnExactEffectOnUptoCardSaid : Prop := Claim7.holds Tryz.pinned (.plain (OpenSpec.upto fnExactEffectOnSpec)) fnExactEffectOnUptoCard

/-- THE SECOND FORM's CARD OF 'laws.FnExactTagOf'. -/
def fnExactTagOfUptoCard : Claim7 := { stood := { row := fnExactTagOfUptoRow, standIns := [], harness := (true, "dcdcb1f466a722c9512d965ef6c679ce08310a47dcaef303b2c74fb2133b3734"), looks := false }, kinds := [], alts := [], laidByText := true, laidKinds := [.data, .pinned], laidTests := true, laidLooks := .later }
def FnExactTagOfUptoCardSaid : Prop := Claim7.holds Tryz.pinned (.plain (OpenSpec.upto fnExactTagOfSpec)) fnExactTagOfUptoCard

/-- THE SECOND FORM's CARD OF 'laws.FnExactTagsAt'. -/
def fnExactTagsAtUptoCard : Claim7 := { stood := { row := fnExactTagsAtUptoRow, standIns := [], harness := (true, "dcdcb1f466a722c9512d965ef6c679ce08310a47dcaef303b2c74fb2133b3734"), looks := false }, kinds := [], alts := [], laidByText := true, laidKinds := [.data, .pinned], laidTests := true, laidLooks := .later }
def FnExactTagsAtUptoCardSaid : Prop := Claim7.holds Tryz.pinned (.plain (OpenSpec.upto fnExactTagsAtSpec)) fnExactTagsAtUptoCard
end Rows
end Go.Proofs.YtihkipojhdehnaaGreatDoor
