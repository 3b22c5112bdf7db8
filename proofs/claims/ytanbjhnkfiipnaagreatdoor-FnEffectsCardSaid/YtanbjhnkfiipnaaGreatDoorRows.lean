/-
  NARROWER THAN 'FOR EVERY INPUT', by the rows' own cells (each row's printed sentence says how): FnDataPaths: laid · FnTagSteps: laid · FnPathCounts: laid · FnEffects: laid.
  DERIVED. THE GIVEN ROWS OF THIS SEAT. 4 by the template 'for every input the law returns true; each argument reads behind the call as it read before'; 0 by the template 'total and deterministic' (their statements: YtanbjhnkfiipnaaGreatDoorTotals.lean).
  GIVEN WITH THE SEED: the statements are not yours to turn. If you find one false, say at which input.
  Laid BY PROGRAM, IN A SANDBOX (cutbox-rows.mjs): the forced cells as the released guide's own fill.sh prints them over the translation eb4b5fd58759d6a5… (all of the seat's roots in one cut). By AI agents, Wed Nov 11 2026. No macro, syntax, notation, axiom, sorry.
-/
import Derived.Test.YtanbjhnkfiipnaaGreatDoorChecked
import GoSem.PinnedTables
import GoSem.Claim
import GoSem.ClaimJoined
import GoSem.ClaimMapViews
import Derived.JoinedTies
import Derived.KernelRfl
namespace Go.Proofs.YtanbjhnkfiipnaaGreatDoor
/- THE CELL 'sum', in the pinned program and in every row, IS THE sha256 OF THE DUMP (.gsa) THAT YtanbjhnkfiipnaaGreatDoorProg.lean LOADS. Nothing in Lean hashes anything: it is a label: what it is worth is what the hold of that sum in a sandbox is worth. -/
noncomputable def Tryz.pinned : Pinned := { name := "ytanbjhnkfiipnaagreatdoor", sum := "eb4b5fd58759d6a5440b5f780bfa390aca991cb655c6b39d528dfd4ac3f291c6", checked := Tryz.checked }
namespace Rows
def none {H : Type} : Left H := { results := [], args := [] }

/- WHAT THE LISTED PACKAGE-LEVEL VARIABLES READ AS WHEN THE CALL BEGINS. Each datum BY PROGRAM (the guide's laid-datum.mjs) off the statement by which the dump's own 'gosem.cut.vars' lays the variable. In a bare row this is a premise. The card (YtanbjhnkfiipnaaGreatDoorCards.lean) ties it to the program's text. -/
def laid_unicode_utf8_acceptRanges {H : Type} : DataW H := .agg [.agg [.lit (.int .u8 128), .lit (.int .u8 191)], .agg [.lit (.int .u8 160), .lit (.int .u8 191)], .agg [.lit (.int .u8 128), .lit (.int .u8 159)], .agg [.lit (.int .u8 144), .lit (.int .u8 191)], .agg [.lit (.int .u8 128), .lit (.int .u8 143)], .agg [.lit (.int .u8 0), .lit (.int .u8 0)], .agg [.lit (.int .u8 0), .lit (.int .u8 0)], .agg [.lit (.int .u8 0), .lit (.int .u8 0)], .agg [.lit (.int .u8 0), .lit (.int .u8 0)], .agg [.lit (.int .u8 0), .lit (.int .u8 0)], .agg [.lit (.int .u8 0), .lit (.int .u8 0)], .agg [.lit (.int .u8 0), .lit (.int .u8 0)], .agg [.lit (.int .u8 0), .lit (.int .u8 0)], .agg [.lit (.int .u8 0), .lit (.int .u8 0)], .agg [.lit (.int .u8 0), .lit (.int .u8 0)], .agg [.lit (.int .u8 0), .lit (.int .u8 0)]]
/-- One of Go's own tables, pinned by name: the form's constant. -/
def laid_unicode_utf8_first : DataW Unit := Go.Pinned.utf8First

/-- 'laws.FnDataPaths': WHATEVER THE INPUT: true; the input reads as it did. -/
def fnDataPathsSpec : ChangeSpec := { name := "fnDataPaths", fn := fun _ => fun
  | [d] => { results := [.lit (.bool true)], args := [d] }
  | _ => none }
def fnDataPathsRow : OpenClaim := { program := "ytanbjhnkfiipnaagreatdoor", sum := "eb4b5fd58759d6a5440b5f780bfa390aca991cb655c6b39d528dfd4ac3f291c6", func := "loop.example/g00861/laws.FnDataPaths", spec := "fnDataPaths", inPlace := ["internal/bytealg.IndexByteString", "internal/bytealg.IndexString"], unfollowed := true, recurses := true, named := ["unicode/utf8.first", "unicode/utf8.acceptRanges", "internal/bytealg.MaxLen"], apart := false, laid := [("unicode/utf8.acceptRanges", laid_unicode_utf8_acceptRanges), ("unicode/utf8.first", laid_unicode_utf8_first)] }
def FnDataPathsSaid : Prop := fnDataPathsRow.holds Tryz.pinned (OpenSpec.ofChange fnDataPathsSpec)

/-- ITS FALSE NEIGHBOUR: 'it returns false'. Refute it at one input. -/
def fnDataPathsWrong : ChangeSpec := { name := "fnDataPaths", fn := fun _ => fun
  | [d] => { results := [.lit (.bool false)], args := [d] }
  | _ => none }
def FnDataPathsWrongFalsely : Prop := fnDataPathsRow.holds Tryz.pinned (OpenSpec.ofChange fnDataPathsWrong)

/-- 'laws.FnTagSteps': WHATEVER THE INPUT: true; the input reads as it did. -/
def fnTagStepsSpec : ChangeSpec := { name := "fnTagSteps", fn := fun _ => fun
  | [d] => { results := [.lit (.bool true)], args := [d] }
  | _ => none }
def fnTagStepsRow : OpenClaim := { program := "ytanbjhnkfiipnaagreatdoor", sum := "eb4b5fd58759d6a5440b5f780bfa390aca991cb655c6b39d528dfd4ac3f291c6", func := "loop.example/g00861/laws.FnTagSteps", spec := "fnTagSteps", inPlace := ["internal/bytealg.IndexByteString", "internal/bytealg.IndexString"], unfollowed := true, recurses := true, named := ["unicode/utf8.first", "unicode/utf8.acceptRanges", "internal/bytealg.MaxLen"], apart := false, laid := [("unicode/utf8.acceptRanges", laid_unicode_utf8_acceptRanges), ("unicode/utf8.first", laid_unicode_utf8_first)] }
def FnTagStepsSaid : Prop := fnTagStepsRow.holds Tryz.pinned (OpenSpec.ofChange fnTagStepsSpec)

/-- ITS FALSE NEIGHBOUR: 'it returns false'. Refute it at one input. -/
def fnTagStepsWrong : ChangeSpec := { name := "fnTagSteps", fn := fun _ => fun
  | [d] => { results := [.lit (.bool false)], args := [d] }
  | _ => none }
def FnTagStepsWrongFalsely : Prop := fnTagStepsRow.holds Tryz.pinned (OpenSpec.ofChange fnTagStepsWrong)

/-- 'laws.FnPathCounts': WHATEVER THE INPUT: true; the input reads as it did. -/
def fnPathCountsSpec : ChangeSpec := { name := "fnPathCounts", fn := fun _ => fun
  | [d] => { results := [.lit (.bool true)], args := [d] }
  | _ => none }
def fnPathCountsRow : OpenClaim := { program := "ytanbjhnkfiipnaagreatdoor", sum := "eb4b5fd58759d6a5440b5f780bfa390aca991cb655c6b39d528dfd4ac3f291c6", func := "loop.example/g00861/laws.FnPathCounts", spec := "fnPathCounts", inPlace := ["internal/bytealg.IndexByteString", "internal/bytealg.IndexString"], unfollowed := true, recurses := true, named := ["unicode/utf8.first", "unicode/utf8.acceptRanges", "internal/bytealg.MaxLen"], apart := false, laid := [("unicode/utf8.acceptRanges", laid_unicode_utf8_acceptRanges), ("unicode/utf8.first", laid_unicode_utf8_first)] }
def FnPathCountsSaid : Prop := fnPathCountsRow.holds Tryz.pinned (OpenSpec.ofChange fnPathCountsSpec)

/-- ITS FALSE NEIGHBOUR: 'it returns false'. Refute it at one input. -/
def fnPathCountsWrong : ChangeSpec := { name := "fnPathCounts", fn := fun _ => fun
  | [d] => { results := [.lit (.bool false)], args := [d] }
  | _ => none }
def FnPathCountsWrongFalsely : Prop := fnPathCountsRow.holds Tryz.pinned (OpenSpec.ofChange fnPathCountsWrong)

/-- 'laws.FnEffects': WHATEVER THE INPUT: true; the input reads as it did. -/
def fnEffectsSpec : ChangeSpec := { name := "fnEffects", fn := fun _ => fun
  | [d] => { results := [.lit (.bool true)], args := [d] }
  | _ => none }
def fnEffectsRow : OpenClaim := { program := "ytanbjhnkfiipnaagreatdoor", sum := "eb4b5fd58759d6a5440b5f780bfa390aca991cb655c6b39d528dfd4ac3f291c6", func := "loop.example/g00861/laws.FnEffects", spec := "fnEffects", inPlace := ["internal/bytealg.IndexByteString", "internal/bytealg.IndexString"], unfollowed := true, recurses := true, named := ["unicode/utf8.first", "unicode/utf8.acceptRanges", "internal/bytealg.MaxLen"], apart := false, laid := [("unicode/utf8.acceptRanges", laid_unicode_utf8_acceptRanges), ("unicode/utf8.first", laid_unicode_utf8_first)] }
def FnEffectsSaid : Prop := fnEffectsRow.holds Tryz.pinned (OpenSpec.ofChange fnEffectsSpec)

/-- ITS FALSE NEIGHBOUR: 'it returns false'. Refute it at one input. -/
def fnEffectsWrong : ChangeSpec := { name := "fnEffects", fn := fun _ => fun
  | [d] => { results := [.lit (.bool false)], args := [d] }
  | _ => none }
def FnEffectsWrongFalsely : Prop := fnEffectsRow.holds Tryz.pinned (OpenSpec.ofChange fnEffectsWrong)

/- THE SECOND FORM. 'bulk': how many values and letters a reading holds, each counted each time it is reached (what is shared counts as often as it is met; a slice's spare places count too). A statement '..UptoSaid' is the law's where the arguments, and the package variables that the reading takes, are together of bulk at most 1048576: NARROWER than '..Said'. Prove '..Said' where nothing that the law and all that it calls make is longer than what came in: it says more and counts as full. Else prove '..UptoSaid'. A law counts once. -/
mutual
def uptoBulk {H : Type} : DataW H → Nat
  | .lit (.string bytes) => bytes.length + 1
  | .lit _ => 1
  | .nil => 1
  | .ptr d => uptoBulk d + 1
  | .slice elems spare => uptoBulkAll elems + uptoBulkAll spare + 1
  | .agg parts => uptoBulkAll parts + 1
  | .iface _ d => uptoBulk d + 1
  | .map entries => uptoBulkEntries entries + 1
  | .held _ => 1
def uptoBulkAll {H : Type} : List (DataW H) → Nat
  | [] => 0
  | d :: r => uptoBulk d + uptoBulkAll r
def uptoBulkEntries {H : Type} : List (Lit × DataW H) → Nat
  | [] => 0
  | x :: r => uptoBulkEntry x + uptoBulkEntries r
def uptoBulkEntry {H : Type} : Lit × DataW H → Nat
  | (.string bytes, d) => bytes.length + uptoBulk d + 1
  | (_, d) => uptoBulk d + 1
 end
def uptoSmall : (H : Type) → List (DataW H) → Bool := fun _ ds => decide (uptoBulkAll ds ≤ 1048576)
def OpenSpec.upto (s : _root_.Go.ChangeSpec) : _root_.Go.OpenSpec := { _root_.Go.OpenSpec.ofChange s with cond := some uptoSmall }

/-- 'laws.FnDataPaths', WHERE WHAT IT READS IS OF BULK AT MOST 1048576: true; the input reads as it did. -/
def fnDataPathsUptoRow : OpenClaim := { program := "ytanbjhnkfiipnaagreatdoor", sum := "eb4b5fd58759d6a5440b5f780bfa390aca991cb655c6b39d528dfd4ac3f291c6", func := "loop.example/g00861/laws.FnDataPaths", spec := "fnDataPaths", inPlace := ["internal/bytealg.IndexByteString", "internal/bytealg.IndexString"], unfollowed := true, recurses := true, named := ["unicode/utf8.first", "unicode/utf8.acceptRanges", "internal/bytealg.MaxLen"], apart := false, laid := [("unicode/utf8.acceptRanges", laid_unicode_utf8_acceptRanges), ("unicode/utf8.first", laid_unicode_utf8_first)], narrowed := true }
def FnDataPathsUptoSaid : Prop := fnDataPathsUptoRow.holds Tryz.pinned (OpenSpec.upto fnDataPathsSpec)

/-- 'laws.FnTagSteps', WHERE WHAT IT READS IS OF BULK AT MOST 1048576: true; the input reads as it did. -/
def fnTagStepsUptoRow : OpenClaim := { program := "ytanbjhnkfiipnaagreatdoor", sum := "eb4b5fd58759d6a5440b5f780bfa390aca991cb655c6b39d528dfd4ac3f291c6", func := "loop.example/g00861/laws.FnTagSteps", spec := "fnTagSteps", inPlace := ["internal/bytealg.IndexByteString", "internal/bytealg.IndexString"], unfollowed := true, recurses := true, named := ["unicode/utf8.first", "unicode/utf8.acceptRanges", "internal/bytealg.MaxLen"], apart := false, laid := [("unicode/utf8.acceptRanges", laid_unicode_utf8_acceptRanges), ("unicode/utf8.first", laid_unicode_utf8_first)], narrowed := true }
def FnTagStepsUptoSaid : Prop := fnTagStepsUptoRow.holds Tryz.pinned (OpenSpec.upto fnTagStepsSpec)

/-- 'laws.FnPathCounts', WHERE WHAT IT READS IS OF BULK AT MOST 1048576: true; the input reads as it did. -/
def fnPathCountsUptoRow : OpenClaim := { program := "ytanbjhnkfiipnaagreatdoor", sum := "eb4b5fd58759d6a5440b5f780bfa390aca991cb655c6b39d528dfd4ac3f291c6", func := "loop.example/g00861/laws.FnPathCounts", spec := "fnPathCounts", inPlace := ["internal/bytealg.IndexByteString", "internal/bytealg.IndexString"], unfollowed := true, recurses := true, named := ["unicode/utf8.first", "unicode/utf8.acceptRanges", "internal/bytealg.MaxLen"], apart := false, laid := [("unicode/utf8.acceptRanges", laid_unicode_utf8_acceptRanges), ("unicode/utf8.first", laid_unicode_utf8_first)], narrowed := true }
def FnPathCountsUptoSaid : Prop := fnPathCountsUptoRow.holds Tryz.pinned (OpenSpec.upto fnPathCountsSpec)

/-- 'laws.FnEffects', WHERE WHAT IT READS IS OF BULK AT MOST 1048576: true; the input reads as it did. -/
def fnEffectsUptoRow : OpenClaim := { program := "ytanbjhnkfiipnaagreatdoor", sum := "eb4b5fd58759d6a5440b5f780bfa390aca991cb655c6b39d528dfd4ac3f291c6", func := "loop.example/g00861/laws.FnEffects", spec := "fnEffects", inPlace := ["internal/bytealg.IndexByteString", "internal/bytealg.IndexString"], unfollowed := true, recurses := true, named := ["unicode/utf8.first", "unicode/utf8.acceptRanges", "internal/bytealg.MaxLen"], apart := false, laid := [("unicode/utf8.acceptRanges", laid_unicode_utf8_acceptRanges), ("unicode/utf8.first", laid_unicode_utf8_first)], narrowed := true }
def FnEffectsUptoSaid : Prop := fnEffectsUptoRow.holds Tryz.pinned (OpenSpec.upto fnEffectsSpec)

end Rows
end Go.Proofs.YtanbjhnkfiipnaaGreatDoor
