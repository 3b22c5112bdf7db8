/-
  DERIVED. GIVEN WITH THE SEED: THE CARDS: each row of YthcphhbmdpepkaaGreatDoorRows.lean that lists a variable, with what it lists TIED to the program's text (the seventh form; the later family's looks); each row that meets fmt, with fmt's text TOLD by the authors' own Lean function (tested against real Go, not proved from fmt's source: count such statements apart). THE CARD IS WHAT COUNTS. Prove the row's statement (the work); the ties are given (YthcphhbmdpepkaaGreatDoorTie.lean); close each card by the builder's one call (the guide's Derived/Test/ToyasCard.lean, 'card_holds'). Laid BY PROGRAM, IN A SANDBOX (cutbox-door.mjs). By AI agents, Wed Nov 11 2026. No macro, syntax, notation, axiom, sorry.
-/
import Derived.Test.YthcphhbmdpepkaaGreatDoorRows
import GoSem.ClaimSeven
namespace Go.Proofs.YthcphhbmdpepkaaGreatDoor
namespace Rows

/-- THE TIED CARD OF 'laws.FnExactIsException'. -/
def fnExactIsExceptionCard : Claim7 := { stood := { row := fnExactIsExceptionRow, standIns := [], harness := (true, "f9decd3b936936955a915587fb4773c6e1a8f7611a93f81548b22b0ce3c75ae4"), looks := false }, kinds := [], alts := [], laidByText := true, laidKinds := [.data, .pinned], laidTests := true, laidLooks := .later }
def FnExactIsExceptionCardSaid : Prop := Claim7.holds Tryz.pinned (.plain (OpenSpec.ofChange fnExactIsExceptionSpec)) fnExactIsExceptionCard

/-- THE TIED CARD OF 'laws.FnExactIsDataAcyclic'. -/
def fnExactIsDataAcyclicCard : Claim7 := { stood := { row := fnExactIsDataAcyclicRow, standIns := [], harness := (true, "f9decd3b936936955a915587fb4773c6e1a8f7611a93f81548b22b0ce3c75ae4"), looks := false }, kinds := [], alts := [], laidByText := true, laidKinds := [.data, .pinned], laidTests := true, laidLooks := .later }
def FnExactIsDataAcyclicCardSaid : Prop := Claim7.holds Tryz.pinned (.plain (OpenSpec.ofChange fnExactIsDataAcyclicSpec)) fnExactIsDataAcyclicCard

/-- THE TIED CARD OF 'laws.FnExactPathsTo'. -/
def fnExactPathsToCard : Claim7 := { stood := { row := fnExactPathsToRow, standIns := [], harness := (true, "f9decd3b936936955a915587fb4773c6e1a8f7611a93f81548b22b0ce3c75ae4"), looks := false }, kinds := [], alts := [], laidByText := true, laidKinds := [.data, .pinned], laidTests := true, laidLooks := .later }
def FnExactPathsToCardSaid : Prop := Claim7.holds Tryz.pinned (.plain (OpenSpec.ofChange fnExactPathsToSpec)) fnExactPathsToCard

/-- THE TIED CARD OF 'laws.FnExactDataSuccessors'. -/
def fnExactDataSuccessorsCard : Claim7 := { stood := { row := fnExactDataSuccessorsRow, standIns := [], harness := (true, "f9decd3b936936955a915587fb4773c6e1a8f7611a93f81548b22b0ce3c75ae4"), looks := false }, kinds := [], alts := [], laidByText := true, laidKinds := [.data, .pinned], laidTests := true, laidLooks := .later }
def FnExactDataSuccessorsCardSaid : Prop := Claim7.holds Tryz.pinned (.plain (OpenSpec.ofChange fnExactDataSuccessorsSpec)) fnExactDataSuccessorsCard

/-- THE TIED CARD OF 'laws.FnExactMatchesPath'. -/
def fnExactMatchesPathCard : Claim7 := { stood := { row := fnExactMatchesPathRow, standIns := [], harness := (true, "f9decd3b936936955a915587fb4773c6e1a8f7611a93f81548b22b0ce3c75ae4"), looks := false }, kinds := [], alts := [], laidByText := true, laidKinds := [.data, .pinned], laidTests := true, laidLooks := .later }
def FnExactMatchesPathCardSaid : Prop := Claim7.holds Tryz.pinned (.plain (OpenSpec.ofChange fnExactMatchesPathSpec)) fnExactMatchesPathCard

/-- THE SECOND FORM's CARD OF 'laws.FnExactIsException'. -/
def fnExactIsExceptionUptoCard : Claim7 := { stood := { row := fnExactIsExceptionUptoRow, standIns := [], harness := (true, "f9decd3b936936955a915587fb4773c6e1a8f7611a93f81548b22b0ce3c75ae4"), looks := false }, kinds := [], alts := [], laidByText := true, laidKinds := [.data, .pinned], laidTests := true, laidLooks := .later }
def FnExactIsExceptionUptoCardSaid : Prop := Claim7.holds Tryz.pinned (.plain (OpenSpec.upto fnExactIsExceptionSpec)) fnExactIsExceptionUptoCard

/-- THE SECOND FORM's CARD OF 'laws.FnExactIsDataAcyclic'. -/
def fnExactIsDataAcyclicUptoCard : Claim7 := { stood := { row := fnExactIsDataAcyclicUptoRow, standIns := [], harness := (true, "f9decd3b936936955a915587fb4773c6e1a8f7611a93f81548b22b0ce3c75ae4"), looks := false }, kinds := [], alts := [], laidByText := true, laidKinds := [.data, .pinned], laidTests := true, laidLooks := .later }
def FnExactIsDataAcyclicUptoCardSaid : Prop := Claim7.holds Tryz.pinned (.plain (OpenSpec.upto fnExactIsDataAcyclicSpec)) fnExactIsDataAcyclicUptoCard

/-- THE SECOND FORM's CARD OF 'laws.FnExactPathsTo'. -/
def fnExactPathsToUptoCard : Claim7 := { stood := { row := fnExactPathsToUptoRow, standIns := [], harness := (true, "f9decd3b936936955a915587fb4773c6e1a8f7611a93f81548b22b0ce3c75ae4"), looks := false }, kinds := [], alts := [], laidByText := true, laidKinds := [.data, .pinned], laidTests := true, laidLooks := .later }
def FnExactPathsToUptoCardSaid : Prop := Claim7.holds Tryz.pinned (.plain (OpenSpec.upto fnExactPathsToSpec)) fnExactPathsToUptoCard

/-- THE SECOND FORM's CARD OF 'laws.FnExactDataSuccessors'. -/
def fnExactDataSuccessorsUptoCard : Claim7 := { stood := { row := fnExactDataSuccessorsUptoRow, standIns := [], harness := (true, "f9decd3b936936955a915587fb4773c6e1a8f7611a93f81548b22b0ce3c75ae4"), looks := false }, kinds := [], alts := [], laidByText := true, laidKinds := [.data, .pinned], laidTests := true, laidLooks := .later }
def FnExactDataSuccessorsUptoCardSaid : Prop := Claim7.holds Tryz.pinned (.plain (OpenSpec.upto fnExactDataSuccessorsSpec)) fnExactDataSuccessorsUptoCard

/-- THE SECOND FORM's CARD OF 'laws.FnExactMatchesPath'. -/
def fnExactMatchesPathUptoCard : Claim7 := { stood := { row := fnExactMatchesPathUptoRow, standIns := [], harness := (true, "f9decd3b936936955a915587fb4773c6e1a8f7611a93f81548b22b0ce3c75ae4"), looks := false }, kinds := [], alts := [], laidByText := true, laidKinds := [.data, .pinned], laidTests := true, laidLooks := .later }
def FnExactMatchesPathUptoCardSaid : Prop := Claim7.holds Tryz.pinned (.plain (OpenSpec.upto fnExactMatchesPathSpec)) fnExactMatchesPathUptoCard
end Rows
end Go.Proofs.YthcphhbmdpepkaaGreatDoor
