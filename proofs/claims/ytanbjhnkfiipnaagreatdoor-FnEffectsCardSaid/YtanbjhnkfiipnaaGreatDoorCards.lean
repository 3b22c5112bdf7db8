/-
  DERIVED. GIVEN WITH THE SEED: THE CARDS: each row of YtanbjhnkfiipnaaGreatDoorRows.lean that lists a variable, with what it lists TIED to the program's text (the seventh form; the later family's looks); each row that meets fmt, with fmt's text TOLD by the authors' own Lean function (tested against real Go, not proved from fmt's source: count such statements apart). THE CARD IS WHAT COUNTS. Prove the row's statement (the work); the ties are given (YtanbjhnkfiipnaaGreatDoorTie.lean); close each card by the builder's one call (the guide's Derived/Test/ToyasCard.lean, 'card_holds'). Laid BY PROGRAM, IN A SANDBOX (cutbox-door.mjs). By AI agents, Wed Nov 11 2026. No macro, syntax, notation, axiom, sorry.
-/
import Derived.Test.YtanbjhnkfiipnaaGreatDoorRows
import GoSem.ClaimSeven
namespace Go.Proofs.YtanbjhnkfiipnaaGreatDoor
namespace Rows

/-- THE TIED CARD OF 'laws.FnDataPaths'. -/
def fnDataPathsCard : Claim7 := { stood := { row := fnDataPathsRow, standIns := [], harness := (true, "acbcd9d22a873af1f904a788e0cfd1999896e389a7930ff759ce1c4d71a6dc35"), looks := false }, kinds := [], alts := [], laidByText := true, laidKinds := [.data, .pinned], laidTests := true, laidLooks := .later }
def FnDataPathsCardSaid : Prop := Claim7.holds Tryz.pinned (.plain (OpenSpec.ofChange fnDataPathsSpec)) fnDataPathsCard

/-- THE TIED CARD OF 'laws.FnTagSteps'. -/
def fnTagStepsCard : Claim7 := { stood := { row := fnTagStepsRow, standIns := [], harness := (true, "acbcd9d22a873af1f904a788e0cfd1999896e389a7930ff759ce1c4d71a6dc35"), looks := false }, kinds := [], alts := [], laidByText := true, laidKinds := [.data, .pinned], laidTests := true, laidLooks := .later }
def FnTagStepsCardSaid : Prop := Claim7.holds Tryz.pinned (.plain (OpenSpec.ofChange fnTagStepsSpec)) fnTagStepsCard

/-- THE TIED CARD OF 'laws.FnPathCounts'. -/
def fnPathCountsCard : Claim7 := { stood := { row := fnPathCountsRow, standIns := [], harness := (true, "acbcd9d22a873af1f904a788e0cfd1999896e389a7930ff759ce1c4d71a6dc35"), looks := false }, kinds := [], alts := [], laidByText := true, laidKinds := [.data, .pinned], laidTests := true, laidLooks := .later }
def FnPathCountsCardSaid : Prop := Claim7.holds Tryz.pinned (.plain (OpenSpec.ofChange fnPathCountsSpec)) fnPathCountsCard

/-- THE TIED CARD OF 'laws.FnEffects'. -/
def fnEffectsCard : Claim7 := { stood := { row := fnEffectsRow, standIns := [], harness := (true, "acbcd9d22a873af1f904a788e0cfd1999896e389a7930ff759ce1c4d71a6dc35"), looks := false }, kinds := [], alts := [], laidByText := true, laidKinds := [.data, .pinned], laidTests := true, laidLooks := .later }
def FnEffectsCardSaid : Prop := Claim7.holds Tryz.pinned (.plain (OpenSpec.ofChange fnEffectsSpec)) fnEffectsCard

/-- THE SECOND FORM's CARD OF 'laws.FnDataPaths'. -/
def fnDataPathsUptoCard : Claim7 := { stood := { row := fnDataPathsUptoRow, standIns := [], harness := (true, "acbcd9d22a873af1f904a788e0cfd1999896e389a7930ff759ce1c4d71a6dc35"), looks := false }, kinds := [], alts := [], laidByText := true, laidKinds := [.data, .pinned], laidTests := true, laidLooks := .later }
def FnDataPathsUptoCardSaid : Prop := Claim7.holds Tryz.pinned (.plain (OpenSpec.upto fnDataPathsSpec)) fnDataPathsUptoCard

/-- THE SECOND FORM's CARD OF 'laws.FnTagSteps'. -/
def fnTagStepsUptoCard : Claim7 := { stood := { row := fnTagStepsUptoRow, standIns := [], harness := (true, "acbcd9d22a873af1f904a788e0cfd1999896e389a7930ff759ce1c4d71a6dc35"), looks := false }, kinds := [], alts := [], laidByText := true, laidKinds := [.data, .pinned], laidTests := true, laidLooks := .later }
def FnTagStepsUptoCardSaid : Prop := Claim7.holds Tryz.pinned (.plain (OpenSpec.upto fnTagStepsSpec)) fnTagStepsUptoCard

/-- THE SECOND FORM's CARD OF 'laws.FnPathCounts'. -/
def fnPathCountsUptoCard : Claim7 := { stood := { row := fnPathCountsUptoRow, standIns := [], harness := (true, "acbcd9d22a873af1f904a788e0cfd1999896e389a7930ff759ce1c4d71a6dc35"), looks := false }, kinds := [], alts := [], laidByText := true, laidKinds := [.data, .pinned], laidTests := true, laidLooks := .later }
def FnPathCountsUptoCardSaid : Prop := Claim7.holds Tryz.pinned (.plain (OpenSpec.upto fnPathCountsSpec)) fnPathCountsUptoCard

/-- THE SECOND FORM's CARD OF 'laws.FnEffects'. -/
def fnEffectsUptoCard : Claim7 := { stood := { row := fnEffectsUptoRow, standIns := [], harness := (true, "acbcd9d22a873af1f904a788e0cfd1999896e389a7930ff759ce1c4d71a6dc35"), looks := false }, kinds := [], alts := [], laidByText := true, laidKinds := [.data, .pinned], laidTests := true, laidLooks := .later }
def FnEffectsUptoCardSaid : Prop := Claim7.holds Tryz.pinned (.plain (OpenSpec.upto fnEffectsSpec)) fnEffectsUptoCard
end Rows
end Go.Proofs.YtanbjhnkfiipnaaGreatDoor
