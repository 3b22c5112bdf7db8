/-
  NARROWER THAN 'FOR EVERY INPUT', by the rows' own cells (each row's printed sentence says how): FnExactIsException: laid · FnExactIsDataAcyclic: laid · FnExactPathsTo: laid · FnExactDataSuccessors: laid · FnExactMatchesPath: laid.
  DERIVED. THE GIVEN ROWS OF THIS SEAT. 5 by the template 'for every input the law returns true; each argument reads behind the call as it read before'; 0 by the template 'total and deterministic' (their statements: YthcphhbmdpepkaaGreatDoorTotals.lean).
  GIVEN WITH THE SEED: the statements are not yours to turn. If you find one false, say at which input.
  Laid BY PROGRAM, IN A SANDBOX (cutbox-rows.mjs): the forced cells as the released guide's own fill.sh prints them over the translation ee96e6480c5b4302… (all of the seat's roots in one cut). By AI agents, Wed Nov 11 2026. No macro, syntax, notation, axiom, sorry.
-/
import Derived.Test.YthcphhbmdpepkaaGreatDoorChecked
import GoSem.PinnedTables
import GoSem.Claim
import GoSem.ClaimJoined
import GoSem.ClaimMapViews
import Derived.JoinedTies
import Derived.KernelRfl
namespace Go.Proofs.YthcphhbmdpepkaaGreatDoor
/- THE CELL 'sum', in the pinned program and in every row, IS THE sha256 OF THE DUMP (.gsa) THAT YthcphhbmdpepkaaGreatDoorProg.lean LOADS. Nothing in Lean hashes anything: it is a label: what it is worth is what the hold of that sum in a sandbox is worth. -/
noncomputable def Tryz.pinned : Pinned := { name := "ythcphhbmdpepkaagreatdoor", sum := "ee96e6480c5b430280ddb1af438dc62f02b98ed50d7aaf5a433a7ed565150085", checked := Tryz.checked }
namespace Rows
def none {H : Type} : Left H := { results := [], args := [] }

/- WHAT THE LISTED PACKAGE-LEVEL VARIABLES READ AS WHEN THE CALL BEGINS. Each datum BY PROGRAM (the guide's laid-datum.mjs) off the statement by which the dump's own 'gosem.cut.vars' lays the variable. In a bare row this is a premise. The card (YthcphhbmdpepkaaGreatDoorCards.lean) ties it to the program's text. -/
def laid_unicode_utf8_acceptRanges {H : Type} : DataW H := .agg [.agg [.lit (.int .u8 128), .lit (.int .u8 191)], .agg [.lit (.int .u8 160), .lit (.int .u8 191)], .agg [.lit (.int .u8 128), .lit (.int .u8 159)], .agg [.lit (.int .u8 144), .lit (.int .u8 191)], .agg [.lit (.int .u8 128), .lit (.int .u8 143)], .agg [.lit (.int .u8 0), .lit (.int .u8 0)], .agg [.lit (.int .u8 0), .lit (.int .u8 0)], .agg [.lit (.int .u8 0), .lit (.int .u8 0)], .agg [.lit (.int .u8 0), .lit (.int .u8 0)], .agg [.lit (.int .u8 0), .lit (.int .u8 0)], .agg [.lit (.int .u8 0), .lit (.int .u8 0)], .agg [.lit (.int .u8 0), .lit (.int .u8 0)], .agg [.lit (.int .u8 0), .lit (.int .u8 0)], .agg [.lit (.int .u8 0), .lit (.int .u8 0)], .agg [.lit (.int .u8 0), .lit (.int .u8 0)], .agg [.lit (.int .u8 0), .lit (.int .u8 0)]]
/-- One of Go's own tables, pinned by name: the form's constant. -/
def laid_unicode_utf8_first : DataW Unit := Go.Pinned.utf8First

/-- 'laws.FnExactIsException': WHATEVER THE INPUT: true; the input reads as it did. -/
def fnExactIsExceptionSpec : ChangeSpec := { name := "fnExactIsException", fn := fun _ => fun
  | [d1, d2] => { results := [.lit (.bool true)], args := [d1, d2] }
  | _ => none }
def fnExactIsExceptionRow : OpenClaim := { program := "ythcphhbmdpepkaagreatdoor", sum := "ee96e6480c5b430280ddb1af438dc62f02b98ed50d7aaf5a433a7ed565150085", func := "loop.example/g00861/laws.FnExactIsException", spec := "fnExactIsException", inPlace := ["internal/bytealg.IndexByteString", "internal/bytealg.IndexString"], unfollowed := true, recurses := true, named := ["unicode/utf8.first", "unicode/utf8.acceptRanges", "internal/bytealg.MaxLen"], apart := false, laid := [("unicode/utf8.acceptRanges", laid_unicode_utf8_acceptRanges), ("unicode/utf8.first", laid_unicode_utf8_first)] }
def FnExactIsExceptionSaid : Prop := fnExactIsExceptionRow.holds Tryz.pinned (OpenSpec.ofChange fnExactIsExceptionSpec)

/-- ITS FALSE NEIGHBOUR: 'it returns false'. Refute it at one input. -/
def fnExactIsExceptionWrong : ChangeSpec := { name := "fnExactIsException", fn := fun _ => fun
  | [d1, d2] => { results := [.lit (.bool false)], args := [d1, d2] }
  | _ => none }
def FnExactIsExceptionWrongFalsely : Prop := fnExactIsExceptionRow.holds Tryz.pinned (OpenSpec.ofChange fnExactIsExceptionWrong)

/-- 'laws.FnExactIsDataAcyclic': WHATEVER THE INPUT: true; the input reads as it did. -/
def fnExactIsDataAcyclicSpec : ChangeSpec := { name := "fnExactIsDataAcyclic", fn := fun _ => fun
  | [d] => { results := [.lit (.bool true)], args := [d] }
  | _ => none }
def fnExactIsDataAcyclicRow : OpenClaim := { program := "ythcphhbmdpepkaagreatdoor", sum := "ee96e6480c5b430280ddb1af438dc62f02b98ed50d7aaf5a433a7ed565150085", func := "loop.example/g00861/laws.FnExactIsDataAcyclic", spec := "fnExactIsDataAcyclic", inPlace := ["internal/bytealg.IndexByteString", "internal/bytealg.IndexString"], unfollowed := true, recurses := true, named := ["unicode/utf8.first", "unicode/utf8.acceptRanges", "internal/bytealg.MaxLen"], apart := false, laid := [("unicode/utf8.acceptRanges", laid_unicode_utf8_acceptRanges), ("unicode/utf8.first", laid_unicode_utf8_first)] }
def FnExactIsDataAcyclicSaid : Prop := fnExactIsDataAcyclicRow.holds Tryz.pinned (OpenSpec.ofChange fnExactIsDataAcyclicSpec)

/-- ITS FALSE NEIGHBOUR: 'it returns false'. Refute it at one input. -/
def fnExactIsDataAcyclicWrong : ChangeSpec := { name := "fnExactIsDataAcyclic", fn := fun _ => fun
  | [d] => { results := [.lit (.bool false)], args := [d] }
  | _ => none }
def FnExactIsDataAcyclicWrongFalsely : Prop := fnExactIsDataAcyclicRow.holds Tryz.pinned (OpenSpec.ofChange fnExactIsDataAcyclicWrong)

/-- 'laws.FnExactPathsTo': WHATEVER THE INPUT: true; the input reads as it did. -/
def fnExactPathsToSpec : ChangeSpec := { name := "fnExactPathsTo", fn := fun _ => fun
  | [d1, d2] => { results := [.lit (.bool true)], args := [d1, d2] }
  | _ => none }
def fnExactPathsToRow : OpenClaim := { program := "ythcphhbmdpepkaagreatdoor", sum := "ee96e6480c5b430280ddb1af438dc62f02b98ed50d7aaf5a433a7ed565150085", func := "loop.example/g00861/laws.FnExactPathsTo", spec := "fnExactPathsTo", inPlace := ["internal/bytealg.IndexByteString", "internal/bytealg.IndexString"], unfollowed := true, recurses := true, named := ["unicode/utf8.first", "unicode/utf8.acceptRanges", "internal/bytealg.MaxLen"], apart := false, laid := [("unicode/utf8.acceptRanges", laid_unicode_utf8_acceptRanges), ("unicode/utf8.first", laid_unicode_utf8_first)] }
def FnExactPathsToSaid : Prop := fnExactPathsToRow.holds Tryz.pinned (OpenSpec.ofChange fnExactPathsToSpec)

/-- ITS FALSE NEIGHBOUR: 'it returns false'. Refute it at one input. -/
def fnExactPathsToWrong : ChangeSpec := { name := "fnExactPathsTo", fn := fun _ => fun
  | [d1, d2] => { results := [.lit (.bool false)], args := [d1, d2] }
  | _ => none }
def FnExactPathsToWrongFalsely : Prop := fnExactPathsToRow.holds Tryz.pinned (OpenSpec.ofChange fnExactPathsToWrong)

/-- 'laws.FnExactDataSuccessors': WHATEVER THE INPUT: true; the input reads as it did. -/
def fnExactDataSuccessorsSpec : ChangeSpec := { name := "fnExactDataSuccessors", fn := fun _ => fun
  | [d1, d2] => { results := [.lit (.bool true)], args := [d1, d2] }
  | _ => none }
def fnExactDataSuccessorsRow : OpenClaim := { program := "ythcphhbmdpepkaagreatdoor", sum := "ee96e6480c5b430280ddb1af438dc62f02b98ed50d7aaf5a433a7ed565150085", func := "loop.example/g00861/laws.FnExactDataSuccessors", spec := "fnExactDataSuccessors", inPlace := ["internal/bytealg.IndexByteString", "internal/bytealg.IndexString"], unfollowed := true, recurses := true, named := ["unicode/utf8.first", "unicode/utf8.acceptRanges", "internal/bytealg.MaxLen"], apart := false, laid := [("unicode/utf8.acceptRanges", laid_unicode_utf8_acceptRanges), ("unicode/utf8.first", laid_unicode_utf8_first)] }
def FnExactDataSuccessorsSaid : Prop := fnExactDataSuccessorsRow.holds Tryz.pinned (OpenSpec.ofChange fnExactDataSuccessorsSpec)

/-- ITS FALSE NEIGHBOUR: 'it returns false'. Refute it at one input. -/
def fnExactDataSuccessorsWrong : ChangeSpec := { name := "fnExactDataSuccessors", fn := fun _ => fun
  | [d1, d2] => { results := [.lit (.bool false)], args := [d1, d2] }
  | _ => none }
def FnExactDataSuccessorsWrongFalsely : Prop := fnExactDataSuccessorsRow.holds Tryz.pinned (OpenSpec.ofChange fnExactDataSuccessorsWrong)

/-- 'laws.FnExactMatchesPath': WHATEVER THE INPUT: true; the input reads as it did. -/
def fnExactMatchesPathSpec : ChangeSpec := { name := "fnExactMatchesPath", fn := fun _ => fun
  | [d1, d2, d3] => { results := [.lit (.bool true)], args := [d1, d2, d3] }
  | _ => none }
def fnExactMatchesPathRow : OpenClaim := { program := "ythcphhbmdpepkaagreatdoor", sum := "ee96e6480c5b430280ddb1af438dc62f02b98ed50d7aaf5a433a7ed565150085", func := "loop.example/g00861/laws.FnExactMatchesPath", spec := "fnExactMatchesPath", inPlace := ["internal/bytealg.IndexByteString", "internal/bytealg.IndexString"], unfollowed := true, recurses := true, named := ["unicode/utf8.first", "unicode/utf8.acceptRanges", "internal/bytealg.MaxLen"], apart := false, laid := [("unicode/utf8.acceptRanges", laid_unicode_utf8_acceptRanges), ("unicode/utf8.first", laid_unicode_utf8_first)] }
def FnExactMatchesPathSaid : Prop := fnExactMatchesPathRow.holds Tryz.pinned (OpenSpec.ofChange fnExactMatchesPathSpec)

/-- ITS FALSE NEIGHBOUR: 'it returns false'. Refute it at one input. -/
def fnExactMatchesPathWrong : ChangeSpec := { name := "fnExactMatchesPath", fn := fun _ => fun
  | [d1, d2, d3] => { results := [.lit (.bool false)], args := [d1, d2, d3] }
  | _ => none }
def FnExactMatchesPathWrongFalsely : Prop := fnExactMatchesPathRow.holds Tryz.pinned (OpenSpec.ofChange fnExactMatchesPathWrong)

/- THE SECOND FORM. 'bulk': how many values and letters a reading holds, each counted each time it is reached (what is shared counts as often as it is met; a slice's spare places count too). A statement '..UptoSaid' is the law's where the arguments, and the package variables that the reading takes, are together of bulk at most 1048576: NARROWER than '..Said'. Prove '..Said' where nothing that the law and all that it calls make is longer than what came in: it says more and counts as full. Else prove '..UptoSaid'. A law counts once. -/
mutual
def uptoBulk {H : Type} : DataW H → Nat
  | .lit (.string bytes) => bytes.length + 1
  | .lit _ => 1
  | .nil => 1
  | .ptr d => uptoBulk d + 1
  | .slice elems spare => uptoBulkAll elems + uptoBulkAll spare + 1
  | .agg parts => uptoBulkAll parts + 1
  | .iface _ d => uptoBulk d + 1
  | .map entries => uptoBulkEntries entries + 1
  | .held _ => 1
def uptoBulkAll {H : Type} : List (DataW H) → Nat
  | [] => 0
  | d :: r => uptoBulk d + uptoBulkAll r
def uptoBulkEntries {H : Type} : List (Lit × DataW H) → Nat
  | [] => 0
  | x :: r => uptoBulkEntry x + uptoBulkEntries r
def uptoBulkEntry {H : Type} : Lit × DataW H → Nat
  | (.string bytes, d) => bytes.length + uptoBulk d + 1
  | (_, d) => uptoBulk d + 1
 end
def uptoSmall : (H : Type) → List (DataW H) → Bool := fun _ ds => decide (uptoBulkAll ds ≤ 1048576)
def OpenSpec.upto (s : _root_.Go.ChangeSpec) : _root_.Go.OpenSpec := { _root_.Go.OpenSpec.ofChange s with cond := some uptoSmall }

/-- 'laws.FnExactIsException', WHERE WHAT IT READS IS OF BULK AT MOST 1048576: true; the input reads as it did. -/
def fnExactIsExceptionUptoRow : OpenClaim := { program := "ythcphhbmdpepkaagreatdoor", sum := "ee96e6480c5b430280ddb1af438dc62f02b98ed50d7aaf5a433a7ed565150085", func := "loop.example/g00861/laws.FnExactIsException", spec := "fnExactIsException", inPlace := ["internal/bytealg.IndexByteString", "internal/bytealg.IndexString"], unfollowed := true, recurses := true, named := ["unicode/utf8.first", "unicode/utf8.acceptRanges", "internal/bytealg.MaxLen"], apart := false, laid := [("unicode/utf8.acceptRanges", laid_unicode_utf8_acceptRanges), ("unicode/utf8.first", laid_unicode_utf8_first)], narrowed := true }
def FnExactIsExceptionUptoSaid : Prop := fnExactIsExceptionUptoRow.holds Tryz.pinned (OpenSpec.upto fnExactIsExceptionSpec)

/-- 'laws.FnExactIsDataAcyclic', WHERE WHAT IT READS IS OF BULK AT MOST 1048576: true; the input reads as it did. -/
def fnExactIsDataAcyclicUptoRow : OpenClaim := { program := "ythcphhbmdpepkaagreatdoor", sum := "ee96e6480c5b430280ddb1af438dc62f02b98ed50d7aaf5a433a7ed565150085", func := "loop.example/g00861/laws.FnExactIsDataAcyclic", spec := "fnExactIsDataAcyclic", inPlace := ["internal/bytealg.IndexByteString", "internal/bytealg.IndexString"], unfollowed := true, recurses := true, named := ["unicode/utf8.first", "unicode/utf8.acceptRanges", "internal/bytealg.MaxLen"], apart := false, laid := [("unicode/utf8.acceptRanges", laid_unicode_utf8_acceptRanges), ("unicode/utf8.first", laid_unicode_utf8_first)], narrowed := true }
def FnExactIsDataAcyclicUptoSaid : Prop := fnExactIsDataAcyclicUptoRow.holds Tryz.pinned (OpenSpec.upto fnExactIsDataAcyclicSpec)

/-- 'laws.FnExactPathsTo', WHERE WHAT IT READS IS OF BULK AT MOST 1048576: true; the input reads as it did. -/
def fnExactPathsToUptoRow : OpenClaim := { program := "ythcphhbmdpepkaagreatdoor", sum := "ee96e6480c5b430280ddb1af438dc62f02b98ed50d7aaf5a433a7ed565150085", func := "loop.example/g00861/laws.FnExactPathsTo", spec := "fnExactPathsTo", inPlace := ["internal/bytealg.IndexByteString", "internal/bytealg.IndexString"], unfollowed := true, recurses := true, named := ["unicode/utf8.first", "unicode/utf8.acceptRanges", "internal/bytealg.MaxLen"], apart := false, laid := [("unicode/utf8.acceptRanges", laid_unicode_utf8_acceptRanges), ("unicode/utf8.first", laid_unicode_utf8_first)], narrowed := true }
def FnExactPathsToUptoSaid : Prop := fnExactPathsToUptoRow.holds Tryz.pinned (OpenSpec.upto fnExactPathsToSpec)

/-- 'laws.FnExactDataSuccessors', WHERE WHAT IT READS IS OF BULK AT MOST 1048576: true; the input reads as it did. -/
def fnExactDataSuccessorsUptoRow : OpenClaim := { program := "ythcphhbmdpepkaagreatdoor", sum := "ee96e6480c5b430280ddb1af438dc62f02b98ed50d7aaf5a433a7ed565150085", func := "loop.example/g00861/laws.FnExactDataSuccessors", spec := "fnExactDataSuccessors", inPlace := ["internal/bytealg.IndexByteString", "internal/bytealg.IndexString"], unfollowed := true, recurses := true, named := ["unicode/utf8.first", "unicode/utf8.acceptRanges", "internal/bytealg.MaxLen"], apart := false, laid := [("unicode/utf8.acceptRanges", laid_unicode_utf8_acceptRanges), ("unicode/utf8.first", laid_unicode_utf8_first)], narrowed := true }
def FnExactDataSuccessorsUptoSaid : Prop := fnExactDataSuccessorsUptoRow.holds Tryz.pinned (OpenSpec.upto fnExactDataSuccessorsSpec)

/-- 'laws.FnExactMatchesPath', WHERE WHAT IT READS IS OF BULK AT MOST 1048576: true; the input reads as it did. -/
def fnExactMatchesPathUptoRow : OpenClaim := { program := "ythcphhbmdpepkaagreatdoor", sum := "ee96e6480c5b430280ddb1af438dc62f02b98ed50d7aaf5a433a7ed565150085", func := "loop.example/g00861/laws.FnExactMatchesPath", spec := "fnExactMatchesPath", inPlace := ["internal/bytealg.IndexByteString", "internal/bytealg.IndexString"], unfollowed := true, recurses := true, named := ["unicode/utf8.first", "unicode/utf8.acceptRanges", "internal/bytealg.MaxLen"], apart := false, laid := [("unicode/utf8.acceptRanges", laid_unicode_utf8_acceptRanges), ("unicode/utf8.first", laid_unicode_utf8_first)], narrowed := true }
def FnExactMatchesPathUptoSaid : Prop := fnExactMatchesPathUptoRow.holds Tryz.pinned (OpenSpec.upto fnExactMatchesPathSpec)

end Rows
end Go.Proofs.YthcphhbmdpepkaaGreatDoor
