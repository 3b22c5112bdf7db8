/-
  NARROWER THAN 'FOR EVERY INPUT', by the rows' own cells (each row's printed sentence says how): FnExactPathArrival: laid · FnExactRetimePath: laid · FnExactPathPessimism: laid · FnExactPathNodes: laid · FnExactPathPlaces: laid · FnExactArrivalProfile: laid.
  DERIVED. THE GIVEN ROWS OF THIS SEAT. 6 by the template 'for every input the law returns true; each argument reads behind the call as it read before'; 0 by the template 'total and deterministic' (their statements: YtflinekphmgbeaaGreatDoorTotals.lean).
  GIVEN WITH THE SEED: the statements are not yours to turn. If you find one false, say at which input.
  Laid BY PROGRAM, IN A SANDBOX (cutbox-rows.mjs): the forced cells as the released guide's own fill.sh prints them over the translation b1ad71b54ed7d25d… (all of the seat's roots in one cut). By AI agents, Wed Nov 11 2026. No macro, syntax, notation, axiom, sorry.
-/
import Derived.Test.YtflinekphmgbeaaGreatDoorChecked
import GoSem.PinnedTables
import GoSem.Claim
import GoSem.ClaimJoined
import GoSem.ClaimMapViews
import Derived.JoinedTies
import Derived.KernelRfl
namespace Go.Proofs.YtflinekphmgbeaaGreatDoor
/- THE CELL 'sum', in the pinned program and in every row, IS THE sha256 OF THE DUMP (.gsa) THAT YtflinekphmgbeaaGreatDoorProg.lean LOADS. Nothing in Lean hashes anything: it is a label: what it is worth is what the hold of that sum in a sandbox is worth. -/
noncomputable def Tryz.pinned : Pinned := { name := "ytflinekphmgbeaagreatdoor", sum := "b1ad71b54ed7d25d08a53e8ec7c1016897c045ea6f1fcfe74f29ef584b149261", checked := Tryz.checked }
namespace Rows
def none {H : Type} : Left H := { results := [], args := [] }

/- WHAT THE LISTED PACKAGE-LEVEL VARIABLES READ AS WHEN THE CALL BEGINS. Each datum BY PROGRAM (the guide's laid-datum.mjs) off the statement by which the dump's own 'gosem.cut.vars' lays the variable. In a bare row this is a premise. The card (YtflinekphmgbeaaGreatDoorCards.lean) ties it to the program's text. -/
def laid_unicode_utf8_acceptRanges {H : Type} : DataW H := .agg [.agg [.lit (.int .u8 128), .lit (.int .u8 191)], .agg [.lit (.int .u8 160), .lit (.int .u8 191)], .agg [.lit (.int .u8 128), .lit (.int .u8 159)], .agg [.lit (.int .u8 144), .lit (.int .u8 191)], .agg [.lit (.int .u8 128), .lit (.int .u8 143)], .agg [.lit (.int .u8 0), .lit (.int .u8 0)], .agg [.lit (.int .u8 0), .lit (.int .u8 0)], .agg [.lit (.int .u8 0), .lit (.int .u8 0)], .agg [.lit (.int .u8 0), .lit (.int .u8 0)], .agg [.lit (.int .u8 0), .lit (.int .u8 0)], .agg [.lit (.int .u8 0), .lit (.int .u8 0)], .agg [.lit (.int .u8 0), .lit (.int .u8 0)], .agg [.lit (.int .u8 0), .lit (.int .u8 0)], .agg [.lit (.int .u8 0), .lit (.int .u8 0)], .agg [.lit (.int .u8 0), .lit (.int .u8 0)], .agg [.lit (.int .u8 0), .lit (.int .u8 0)]]
/-- One of Go's own tables, pinned by name: the form's constant. -/
def laid_unicode_utf8_first : DataW Unit := Go.Pinned.utf8First

/-- 'laws.FnExactPathArrival': WHATEVER THE INPUT: true; the input reads as it did. -/
def fnExactPathArrivalSpec : ChangeSpec := { name := "fnExactPathArrival", fn := fun _ => fun
  | [d1, d2, d3, d4] => { results := [.lit (.bool true)], args := [d1, d2, d3, d4] }
  | _ => none }
def fnExactPathArrivalRow : OpenClaim := { program := "ytflinekphmgbeaagreatdoor", sum := "b1ad71b54ed7d25d08a53e8ec7c1016897c045ea6f1fcfe74f29ef584b149261", func := "loop.example/g00861/laws.FnExactPathArrival", spec := "fnExactPathArrival", inPlace := ["internal/bytealg.IndexByteString", "internal/bytealg.IndexString"], unfollowed := true, recurses := true, named := ["unicode/utf8.first", "unicode/utf8.acceptRanges", "internal/bytealg.MaxLen"], apart := false, laid := [("unicode/utf8.acceptRanges", laid_unicode_utf8_acceptRanges), ("unicode/utf8.first", laid_unicode_utf8_first)] }
def FnExactPathArrivalSaid : Prop := fnExactPathArrivalRow.holds Tryz.pinned (OpenSpec.ofChange fnExactPathArrivalSpec)

/-- ITS FALSE NEIGHBOUR: 'it returns false'. Refute it at one input. -/
def fnExactPathArrivalWrong : ChangeSpec := { name := "fnExactPathArrival", fn := fun _ => fun
  | [d1, d2, d3, d4] => { results := [.lit (.bool false)], args := [d1, d2, d3, d4] }
  | _ => none }
def FnExactPathArrivalWrongFalsely : Prop := fnExactPathArrivalRow.holds Tryz.pinned (OpenSpec.ofChange fnExactPathArrivalWrong)

/-- 'laws.FnExactRetimePath': WHATEVER THE INPUT: true; the input reads as it did. -/
def fnExactRetimePathSpec : ChangeSpec := { name := "fnExactRetimePath", fn := fun _ => fun
  | [d1, d2, d3, d4] => { results := [.lit (.bool true)], args := [d1, d2, d3, d4] }
  | _ => none }
def fnExactRetimePathRow : OpenClaim := { program := "ytflinekphmgbeaagreatdoor", sum := "b1ad71b54ed7d25d08a53e8ec7c1016897c045ea6f1fcfe74f29ef584b149261", func := "loop.example/g00861/laws.FnExactRetimePath", spec := "fnExactRetimePath", inPlace := ["internal/bytealg.IndexByteString", "internal/bytealg.IndexString"], unfollowed := true, recurses := true, named := ["unicode/utf8.first", "unicode/utf8.acceptRanges", "internal/bytealg.MaxLen"], apart := false, laid := [("unicode/utf8.acceptRanges", laid_unicode_utf8_acceptRanges), ("unicode/utf8.first", laid_unicode_utf8_first)] }
def FnExactRetimePathSaid : Prop := fnExactRetimePathRow.holds Tryz.pinned (OpenSpec.ofChange fnExactRetimePathSpec)

/-- ITS FALSE NEIGHBOUR: 'it returns false'. Refute it at one input. -/
def fnExactRetimePathWrong : ChangeSpec := { name := "fnExactRetimePath", fn := fun _ => fun
  | [d1, d2, d3, d4] => { results := [.lit (.bool false)], args := [d1, d2, d3, d4] }
  | _ => none }
def FnExactRetimePathWrongFalsely : Prop := fnExactRetimePathRow.holds Tryz.pinned (OpenSpec.ofChange fnExactRetimePathWrong)

/-- 'laws.FnExactPathPessimism': WHATEVER THE INPUT: true; the input reads as it did. -/
def fnExactPathPessimismSpec : ChangeSpec := { name := "fnExactPathPessimism", fn := fun _ => fun
  | [d1, d2, d3, d4] => { results := [.lit (.bool true)], args := [d1, d2, d3, d4] }
  | _ => none }
def fnExactPathPessimismRow : OpenClaim := { program := "ytflinekphmgbeaagreatdoor", sum := "b1ad71b54ed7d25d08a53e8ec7c1016897c045ea6f1fcfe74f29ef584b149261", func := "loop.example/g00861/laws.FnExactPathPessimism", spec := "fnExactPathPessimism", inPlace := ["internal/bytealg.IndexByteString", "internal/bytealg.IndexString"], unfollowed := true, recurses := true, named := ["unicode/utf8.first", "unicode/utf8.acceptRanges", "internal/bytealg.MaxLen"], apart := false, laid := [("unicode/utf8.acceptRanges", laid_unicode_utf8_acceptRanges), ("unicode/utf8.first", laid_unicode_utf8_first)] }
def FnExactPathPessimismSaid : Prop := fnExactPathPessimismRow.holds Tryz.pinned (OpenSpec.ofChange fnExactPathPessimismSpec)

/-- ITS FALSE NEIGHBOUR: 'it returns false'. Refute it at one input. -/
def fnExactPathPessimismWrong : ChangeSpec := { name := "fnExactPathPessimism", fn := fun _ => fun
  | [d1, d2, d3, d4] => { results := [.lit (.bool false)], args := [d1, d2, d3, d4] }
  | _ => none }
def FnExactPathPessimismWrongFalsely : Prop := fnExactPathPessimismRow.holds Tryz.pinned (OpenSpec.ofChange fnExactPathPessimismWrong)

/-- 'laws.FnExactPathNodes': WHATEVER THE INPUT: true; the input reads as it did. -/
def fnExactPathNodesSpec : ChangeSpec := { name := "fnExactPathNodes", fn := fun _ => fun
  | [d1, d2, d3] => { results := [.lit (.bool true)], args := [d1, d2, d3] }
  | _ => none }
def fnExactPathNodesRow : OpenClaim := { program := "ytflinekphmgbeaagreatdoor", sum := "b1ad71b54ed7d25d08a53e8ec7c1016897c045ea6f1fcfe74f29ef584b149261", func := "loop.example/g00861/laws.FnExactPathNodes", spec := "fnExactPathNodes", inPlace := ["internal/bytealg.IndexByteString", "internal/bytealg.IndexString"], unfollowed := true, recurses := true, named := ["unicode/utf8.first", "unicode/utf8.acceptRanges", "internal/bytealg.MaxLen"], apart := false, laid := [("unicode/utf8.acceptRanges", laid_unicode_utf8_acceptRanges), ("unicode/utf8.first", laid_unicode_utf8_first)] }
def FnExactPathNodesSaid : Prop := fnExactPathNodesRow.holds Tryz.pinned (OpenSpec.ofChange fnExactPathNodesSpec)

/-- ITS FALSE NEIGHBOUR: 'it returns false'. Refute it at one input. -/
def fnExactPathNodesWrong : ChangeSpec := { name := "fnExactPathNodes", fn := fun _ => fun
  | [d1, d2, d3] => { results := [.lit (.bool false)], args := [d1, d2, d3] }
  | _ => none }
def FnExactPathNodesWrongFalsely : Prop := fnExactPathNodesRow.holds Tryz.pinned (OpenSpec.ofChange fnExactPathNodesWrong)

/-- 'laws.FnExactPathPlaces': WHATEVER THE INPUT: true; the input reads as it did. -/
def fnExactPathPlacesSpec : ChangeSpec := { name := "fnExactPathPlaces", fn := fun _ => fun
  | [d1, d2, d3] => { results := [.lit (.bool true)], args := [d1, d2, d3] }
  | _ => none }
def fnExactPathPlacesRow : OpenClaim := { program := "ytflinekphmgbeaagreatdoor", sum := "b1ad71b54ed7d25d08a53e8ec7c1016897c045ea6f1fcfe74f29ef584b149261", func := "loop.example/g00861/laws.FnExactPathPlaces", spec := "fnExactPathPlaces", inPlace := ["internal/bytealg.IndexByteString", "internal/bytealg.IndexString"], unfollowed := true, recurses := true, named := ["unicode/utf8.first", "unicode/utf8.acceptRanges", "internal/bytealg.MaxLen"], apart := false, laid := [("unicode/utf8.acceptRanges", laid_unicode_utf8_acceptRanges), ("unicode/utf8.first", laid_unicode_utf8_first)] }
def FnExactPathPlacesSaid : Prop := fnExactPathPlacesRow.holds Tryz.pinned (OpenSpec.ofChange fnExactPathPlacesSpec)

/-- ITS FALSE NEIGHBOUR: 'it returns false'. Refute it at one input. -/
def fnExactPathPlacesWrong : ChangeSpec := { name := "fnExactPathPlaces", fn := fun _ => fun
  | [d1, d2, d3] => { results := [.lit (.bool false)], args := [d1, d2, d3] }
  | _ => none }
def FnExactPathPlacesWrongFalsely : Prop := fnExactPathPlacesRow.holds Tryz.pinned (OpenSpec.ofChange fnExactPathPlacesWrong)

/-- 'laws.FnExactArrivalProfile': WHATEVER THE INPUT: true; the input reads as it did. -/
def fnExactArrivalProfileSpec : ChangeSpec := { name := "fnExactArrivalProfile", fn := fun _ => fun
  | [d1, d2, d3, d4] => { results := [.lit (.bool true)], args := [d1, d2, d3, d4] }
  | _ => none }
def fnExactArrivalProfileRow : OpenClaim := { program := "ytflinekphmgbeaagreatdoor", sum := "b1ad71b54ed7d25d08a53e8ec7c1016897c045ea6f1fcfe74f29ef584b149261", func := "loop.example/g00861/laws.FnExactArrivalProfile", spec := "fnExactArrivalProfile", inPlace := ["internal/bytealg.IndexByteString", "internal/bytealg.IndexString"], unfollowed := true, recurses := true, named := ["unicode/utf8.first", "unicode/utf8.acceptRanges", "internal/bytealg.MaxLen"], apart := false, laid := [("unicode/utf8.acceptRanges", laid_unicode_utf8_acceptRanges), ("unicode/utf8.first", laid_unicode_utf8_first)] }
def FnExactArrivalProfileSaid : Prop := fnExactArrivalProfileRow.holds Tryz.pinned (OpenSpec.ofChange fnExactArrivalProfileSpec)

/-- ITS FALSE NEIGHBOUR: 'it returns false'. Refute it at one input. -/
def fnExactArrivalProfileWrong : ChangeSpec := { name := "fnExactArrivalProfile", fn := fun _ => fun
  | [d1, d2, d3, d4] => { results := [.lit (.bool false)], args := [d1, d2, d3, d4] }
  | _ => none }
def FnExactArrivalProfileWrongFalsely : Prop := fnExactArrivalProfileRow.holds Tryz.pinned (OpenSpec.ofChange fnExactArrivalProfileWrong)

/- THE SECOND FORM. 'bulk': how many values and letters a reading holds, each counted each time it is reached (what is shared counts as often as it is met; a slice's spare places count too). A statement '..UptoSaid' is the law's where the arguments, and the package variables that the reading takes, are together of bulk at most 1048576: NARROWER than '..Said'. Prove '..Said' where nothing that the law and all that it calls make is longer than what came in: it says more and counts as full. Else prove '..UptoSaid'. A law counts once. -/
mutual
def uptoBulk {H : Type} : DataW H → Nat
  | .lit (.string bytes) => bytes.length + 1
  | .lit _ => 1
  | .nil => 1
  | .ptr d => uptoBulk d + 1
  | .slice elems spare => uptoBulkAll elems + uptoBulkAll spare + 1
  | .agg parts => uptoBulkAll parts + 1
  | .iface _ d => uptoBulk d + 1
  | .map entries => uptoBulkEntries entries + 1
  | .held _ => 1
def uptoBulkAll {H : Type} : List (DataW H) → Nat
  | [] => 0
  | d :: r => uptoBulk d + uptoBulkAll r
def uptoBulkEntries {H : Type} : List (Lit × DataW H) → Nat
  | [] => 0
  | x :: r => uptoBulkEntry x + uptoBulkEntries r
def uptoBulkEntry {H : Type} : Lit × DataW H → Nat
  | (.string bytes, d) => bytes.length + uptoBulk d + 1
  | (_, d) => uptoBulk d + 1
 end
def uptoSmall : (H : Type) → List (DataW H) → Bool := fun _ ds => decide (uptoBulkAll ds ≤ 1048576)
def OpenSpec.upto (s : _root_.Go.ChangeSpec) : _root_.Go.OpenSpec := { _root_.Go.OpenSpec.ofChange s with cond := some uptoSmall }

/-- 'laws.FnExactPathArrival', WHERE WHAT IT READS IS OF BULK AT MOST 1048576: true; the input reads as it did. -/
def fnExactPathArrivalUptoRow : OpenClaim := { program := "ytflinekphmgbeaagreatdoor", sum := "b1ad71b54ed7d25d08a53e8ec7c1016897c045ea6f1fcfe74f29ef584b149261", func := "loop.example/g00861/laws.FnExactPathArrival", spec := "fnExactPathArrival", inPlace := ["internal/bytealg.IndexByteString", "internal/bytealg.IndexString"], unfollowed := true, recurses := true, named := ["unicode/utf8.first", "unicode/utf8.acceptRanges", "internal/bytealg.MaxLen"], apart := false, laid := [("unicode/utf8.acceptRanges", laid_unicode_utf8_acceptRanges), ("unicode/utf8.first", laid_unicode_utf8_first)], narrowed := true }
def FnExactPathArrivalUptoSaid : Prop := fnExactPathArrivalUptoRow.holds Tryz.pinned (OpenSpec.upto fnExactPathArrivalSpec)

/-- 'laws.FnExactRetimePath', WHERE WHAT IT READS IS OF BULK AT MOST 1048576: true; the input reads as it did. -/
def fnExactRetimePathUptoRow : OpenClaim := { program := "ytflinekphmgbeaagreatdoor", sum := "b1ad71b54ed7d25d08a53e8ec7c1016897c045ea6f1fcfe74f29ef584b149261", func := "loop.example/g00861/laws.FnExactRetimePath", spec := "fnExactRetimePath", inPlace := ["internal/bytealg.IndexByteString", "internal/bytealg.IndexString"], unfollowed := true, recurses := true, named := ["unicode/utf8.first", "unicode/utf8.acceptRanges", "internal/bytealg.MaxLen"], apart := false, laid := [("unicode/utf8.acceptRanges", laid_unicode_utf8_acceptRanges), ("unicode/utf8.first", laid_unicode_utf8_first)], narrowed := true }
def FnExactRetimePathUptoSaid : Prop := fnExactRetimePathUptoRow.holds Tryz.pinned (OpenSpec.upto fnExactRetimePathSpec)

/-- 'laws.FnExactPathPessimism', WHERE WHAT IT READS IS OF BULK AT MOST 1048576: true; the input reads as it did. -/
def fnExactPathPessimismUptoRow : OpenClaim := { program := "ytflinekphmgbeaagreatdoor", sum := "b1ad71b54ed7d25d08a53e8ec7c1016897c045ea6f1fcfe74f29ef584b149261", func := "loop.example/g00861/laws.FnExactPathPessimism", spec := "fnExactPathPessimism", inPlace := ["internal/bytealg.IndexByteString", "internal/bytealg.IndexString"], unfollowed := true, recurses := true, named := ["unicode/utf8.first", "unicode/utf8.acceptRanges", "internal/bytealg.MaxLen"], apart := false, laid := [("unicode/utf8.acceptRanges", laid_unicode_utf8_acceptRanges), ("unicode/utf8.first", laid_unicode_utf8_first)], narrowed := true }
def FnExactPathPessimismUptoSaid : Prop := fnExactPathPessimismUptoRow.holds Tryz.pinned (OpenSpec.upto fnExactPathPessimismSpec)

/-- 'laws.FnExactPathNodes', WHERE WHAT IT READS IS OF BULK AT MOST 1048576: true; the input reads as it did. -/
def fnExactPathNodesUptoRow : OpenClaim := { program := "ytflinekphmgbeaagreatdoor", sum := "b1ad71b54ed7d25d08a53e8ec7c1016897c045ea6f1fcfe74f29ef584b149261", func := "loop.example/g00861/laws.FnExactPathNodes", spec := "fnExactPathNodes", inPlace := ["internal/bytealg.IndexByteString", "internal/bytealg.IndexString"], unfollowed := true, recurses := true, named := ["unicode/utf8.first", "unicode/utf8.acceptRanges", "internal/bytealg.MaxLen"], apart := false, laid := [("unicode/utf8.acceptRanges", laid_unicode_utf8_acceptRanges), ("unicode/utf8.first", laid_unicode_utf8_first)], narrowed := true }
def FnExactPathNodesUptoSaid : Prop := fnExactPathNodesUptoRow.holds Tryz.pinned (OpenSpec.upto fnExactPathNodesSpec)

/-- 'laws.FnExactPathPlaces', WHERE WHAT IT READS IS OF BULK AT MOST 1048576: true; the input reads as it did. -/
def fnExactPathPlacesUptoRow : OpenClaim := { program := "ytflinekphmgbeaagreatdoor", sum := "b1ad71b54ed7d25d08a53e8ec7c1016897c045ea6f1fcfe74f29ef584b149261", func := "loop.example/g00861/laws.FnExactPathPlaces", spec := "fnExactPathPlaces", inPlace := ["internal/bytealg.IndexByteString", "internal/bytealg.IndexString"], unfollowed := true, recurses := true, named := ["unicode/utf8.first", "unicode/utf8.acceptRanges", "internal/bytealg.MaxLen"], apart := false, laid := [("unicode/utf8.acceptRanges", laid_unicode_utf8_acceptRanges), ("unicode/utf8.first", laid_unicode_utf8_first)], narrowed := true }
def FnExactPathPlacesUptoSaid : Prop := fnExactPathPlacesUptoRow.holds Tryz.pinned (OpenSpec.upto fnExactPathPlacesSpec)

/-- 'laws.FnExactArrivalProfile', WHERE WHAT IT READS IS OF BULK AT MOST 1048576: true; the input reads as it did. -/
def fnExactArrivalProfileUptoRow : OpenClaim := { program := "ytflinekphmgbeaagreatdoor", sum := "b1ad71b54ed7d25d08a53e8ec7c1016897c045ea6f1fcfe74f29ef584b149261", func := "loop.example/g00861/laws.FnExactArrivalProfile", spec := "fnExactArrivalProfile", inPlace := ["internal/bytealg.IndexByteString", "internal/bytealg.IndexString"], unfollowed := true, recurses := true, named := ["unicode/utf8.first", "unicode/utf8.acceptRanges", "internal/bytealg.MaxLen"], apart := false, laid := [("unicode/utf8.acceptRanges", laid_unicode_utf8_acceptRanges), ("unicode/utf8.first", laid_unicode_utf8_first)], narrowed := true }
def FnExactArrivalProfileUptoSaid : Prop := fnExactArrivalProfileUptoRow.holds Tryz.pinned (OpenSpec.upto fnExactArrivalProfileSpec)

end Rows
end Go.Proofs.YtflinekphmgbeaaGreatDoor
