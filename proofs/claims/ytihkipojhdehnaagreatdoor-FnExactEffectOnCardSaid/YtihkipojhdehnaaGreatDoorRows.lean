/-
  NARROWER THAN 'FOR EVERY INPUT', by the rows' own cells (each row's printed sentence says how): FnExactEffectOfTag: laid · FnExactStepTag: laid · FnExactStartTag: laid · FnExactEffectOn: laid · FnExactTagOf: laid · FnExactTagsAt: laid.
  DERIVED. THE GIVEN ROWS OF THIS SEAT. 6 by the template 'for every input the law returns true; each argument reads behind the call as it read before'; 0 by the template 'total and deterministic' (their statements: YtihkipojhdehnaaGreatDoorTotals.lean).
  GIVEN WITH THE SEED: the statements are not yours to turn. If you find one false, say at which input.
  Laid BY PROGRAM, IN A SANDBOX (cutbox-rows.mjs): the forced cells as the released guide's own fill.sh prints them over the translation d4e7a215c91827cc… (all of the seat's roots in one cut). By AI agents, Wed Nov 11 2026. No macro, syntax, notation, axiom, sorry.
-/
import Derived.Test.YtihkipojhdehnaaGreatDoorChecked
import GoSem.PinnedTables
import GoSem.Claim
import GoSem.ClaimJoined
import GoSem.ClaimMapViews
import Derived.JoinedTies
import Derived.KernelRfl
namespace Go.Proofs.YtihkipojhdehnaaGreatDoor
/- THE CELL 'sum', in the pinned program and in every row, IS THE sha256 OF THE DUMP (.gsa) THAT YtihkipojhdehnaaGreatDoorProg.lean LOADS. Nothing in Lean hashes anything: it is a label: what it is worth is what the hold of that sum in a sandbox is worth. -/
noncomputable def Tryz.pinned : Pinned := { name := "ytihkipojhdehnaagreatdoor", sum := "d4e7a215c91827cc9598fc9db6e89a2d814544ce1d1770769ed9ad7fe7d126c6", checked := Tryz.checked }
namespace Rows
def none {H : Type} : Left H := { results := [], args := [] }

/- WHAT THE LISTED PACKAGE-LEVEL VARIABLES READ AS WHEN THE CALL BEGINS. Each datum BY PROGRAM (the guide's laid-datum.mjs) off the statement by which the dump's own 'gosem.cut.vars' lays the variable. In a bare row this is a premise. The card (YtihkipojhdehnaaGreatDoorCards.lean) ties it to the program's text. -/
def laid_unicode_utf8_acceptRanges {H : Type} : DataW H := .agg [.agg [.lit (.int .u8 128), .lit (.int .u8 191)], .agg [.lit (.int .u8 160), .lit (.int .u8 191)], .agg [.lit (.int .u8 128), .lit (.int .u8 159)], .agg [.lit (.int .u8 144), .lit (.int .u8 191)], .agg [.lit (.int .u8 128), .lit (.int .u8 143)], .agg [.lit (.int .u8 0), .lit (.int .u8 0)], .agg [.lit (.int .u8 0), .lit (.int .u8 0)], .agg [.lit (.int .u8 0), .lit (.int .u8 0)], .agg [.lit (.int .u8 0), .lit (.int .u8 0)], .agg [.lit (.int .u8 0), .lit (.int .u8 0)], .agg [.lit (.int .u8 0), .lit (.int .u8 0)], .agg [.lit (.int .u8 0), .lit (.int .u8 0)], .agg [.lit (.int .u8 0), .lit (.int .u8 0)], .agg [.lit (.int .u8 0), .lit (.int .u8 0)], .agg [.lit (.int .u8 0), .lit (.int .u8 0)], .agg [.lit (.int .u8 0), .lit (.int .u8 0)]]
/-- One of Go's own tables, pinned by name: the form's constant. -/
def laid_unicode_utf8_first : DataW Unit := Go.Pinned.utf8First

/-- 'laws.FnExactEffectOfTag': WHATEVER THE INPUT: true; the input reads as it did. -/
def fnExactEffectOfTagSpec : ChangeSpec := { name := "fnExactEffectOfTag", fn := fun _ => fun
  | [d1, d2, d3, d4] => { results := [.lit (.bool true)], args := [d1, d2, d3, d4] }
  | _ => none }
def fnExactEffectOfTagRow : OpenClaim := { program := "ytihkipojhdehnaagreatdoor", sum := "d4e7a215c91827cc9598fc9db6e89a2d814544ce1d1770769ed9ad7fe7d126c6", func := "loop.example/g00861/laws.FnExactEffectOfTag", spec := "fnExactEffectOfTag", inPlace := ["internal/bytealg.IndexByteString", "internal/bytealg.IndexString"], unfollowed := true, recurses := true, named := ["unicode/utf8.first", "unicode/utf8.acceptRanges", "internal/bytealg.MaxLen"], apart := false, laid := [("unicode/utf8.acceptRanges", laid_unicode_utf8_acceptRanges), ("unicode/utf8.first", laid_unicode_utf8_first)] }
def FnExactEffectOfTagSaid : Prop := fnExactEffectOfTagRow.holds Tryz.pinned (OpenSpec.ofChange fnExactEffectOfTagSpec)

/-- ITS FALSE NEIGHBOUR: 'it returns false'. Refute it at one input. -/
def fnExactEffectOfTagWrong : ChangeSpec := { name := "fnExactEffectOfTag", fn := fun _ => fun
  | [d1, d2, d3, d4] => { results := [.lit (.bool false)], args := [d1, d2, d3, d4] }
  | _ => none }
def FnExactEffectOfTagWrongFalsely : Prop := fnExactEffectOfTagRow.holds Tryz.pinned (OpenSpec.ofChange fnExactEffectOfTagWrong)

/-- 'laws.FnExactStepTag': WHATEVER THE INPUT: true; the input reads as it did. -/
def fnExactStepTagSpec : ChangeSpec := { name := "fnExactStepTag", fn := fun _ => fun
  | [d1, d2, d3, d4] => { results := [.lit (.bool true)], args := [d1, d2, d3, d4] }
  | _ => none }
def fnExactStepTagRow : OpenClaim := { program := "ytihkipojhdehnaagreatdoor", sum := "d4e7a215c91827cc9598fc9db6e89a2d814544ce1d1770769ed9ad7fe7d126c6", func := "loop.example/g00861/laws.FnExactStepTag", spec := "fnExactStepTag", inPlace := ["internal/bytealg.IndexByteString", "internal/bytealg.IndexString"], unfollowed := true, recurses := true, named := ["unicode/utf8.first", "unicode/utf8.acceptRanges", "internal/bytealg.MaxLen"], apart := false, laid := [("unicode/utf8.acceptRanges", laid_unicode_utf8_acceptRanges), ("unicode/utf8.first", laid_unicode_utf8_first)] }
def FnExactStepTagSaid : Prop := fnExactStepTagRow.holds Tryz.pinned (OpenSpec.ofChange fnExactStepTagSpec)

/-- ITS FALSE NEIGHBOUR: 'it returns false'. Refute it at one input. -/
def fnExactStepTagWrong : ChangeSpec := { name := "fnExactStepTag", fn := fun _ => fun
  | [d1, d2, d3, d4] => { results := [.lit (.bool false)], args := [d1, d2, d3, d4] }
  | _ => none }
def FnExactStepTagWrongFalsely : Prop := fnExactStepTagRow.holds Tryz.pinned (OpenSpec.ofChange fnExactStepTagWrong)

/-- 'laws.FnExactStartTag': WHATEVER THE INPUT: true; the input reads as it did. -/
def fnExactStartTagSpec : ChangeSpec := { name := "fnExactStartTag", fn := fun _ => fun
  | [d1, d2, d3] => { results := [.lit (.bool true)], args := [d1, d2, d3] }
  | _ => none }
def fnExactStartTagRow : OpenClaim := { program := "ytihkipojhdehnaagreatdoor", sum := "d4e7a215c91827cc9598fc9db6e89a2d814544ce1d1770769ed9ad7fe7d126c6", func := "loop.example/g00861/laws.FnExactStartTag", spec := "fnExactStartTag", inPlace := ["internal/bytealg.IndexByteString", "internal/bytealg.IndexString"], unfollowed := true, recurses := true, named := ["unicode/utf8.first", "unicode/utf8.acceptRanges", "internal/bytealg.MaxLen"], apart := false, laid := [("unicode/utf8.acceptRanges", laid_unicode_utf8_acceptRanges), ("unicode/utf8.first", laid_unicode_utf8_first)] }
def FnExactStartTagSaid : Prop := fnExactStartTagRow.holds Tryz.pinned (OpenSpec.ofChange fnExactStartTagSpec)

/-- ITS FALSE NEIGHBOUR: 'it returns false'. Refute it at one input. -/
def fnExactStartTagWrong : ChangeSpec := { name := "fnExactStartTag", fn := fun _ => fun
  | [d1, d2, d3] => { results := [.lit (.bool false)], args := [d1, d2, d3] }
  | _ => none }
def FnExactStartTagWrongFalsely : Prop := fnExactStartTagRow.holds Tryz.pinned (OpenSpec.ofChange fnExactStartTagWrong)

/-- 'laws.FnExactEffectOn': WHATEVER THE INPUT: true; the input reads as it did. -/
def fnExactEffectOnSpec : ChangeSpec := { name := "fnExactEffectOn", fn := fun _ => fun
  | [d1, d2, d3] => { results := [.lit (.bool true)], args := [d1, d2, d3] }
  | _ => none }
def fnExactEffectOnRow : OpenClaim := { program := "ytihkipojhdehnaagreatdoor", sum := "d4e7a215c91827cc9598fc9db6e89a2d814544ce1d1770769ed9ad7fe7d126c6", func := "loop.example/g00861/laws.FnExactEffectOn", spec := "fnExactEffectOn", inPlace := ["internal/bytealg.IndexByteString", "internal/bytealg.IndexString"], unfollowed := true, recurses := true, named := ["unicode/utf8.first", "unicode/utf8.acceptRanges", "internal/bytealg.MaxLen"], apart := false, laid := [("unicode/utf8.acceptRanges", laid_unicode_utf8_acceptRanges), ("unicode/utf8.first", laid_unicode_utf8_first)] }
def FnExactEffectOnSaid : Prop := fnExactEffectOnRow.holds Tryz.pinned (OpenSpec.ofChange fnExactEffectOnSpec)

/-- ITS FALSE NEIGHBOUR: 'it returns false'. Refute it at one input. -/
def fnExactEffectOnWrong : ChangeSpec := { name := "fnExactEffectOn", fn := fun _ => fun
  | [d1, d2, d3] => { results := [.lit (.bool false)], args := [d1, d2, d3] }
  | _ => none }
def FnExactEffectOnWrongFalsely : Prop := fnExactEffectOnRow.holds Tryz.pinned (OpenSpec.ofChange fnExactEffectOnWrong)

/-- 'laws.FnExactTagOf': WHATEVER THE INPUT: true; the input reads as it did. -/
def fnExactTagOfSpec : ChangeSpec := { name := "fnExactTagOf", fn := fun _ => fun
  | [d1, d2, d3] => { results := [.lit (.bool true)], args := [d1, d2, d3] }
  | _ => none }
def fnExactTagOfRow : OpenClaim := { program := "ytihkipojhdehnaagreatdoor", sum := "d4e7a215c91827cc9598fc9db6e89a2d814544ce1d1770769ed9ad7fe7d126c6", func := "loop.example/g00861/laws.FnExactTagOf", spec := "fnExactTagOf", inPlace := ["internal/bytealg.IndexByteString", "internal/bytealg.IndexString"], unfollowed := true, recurses := true, named := ["unicode/utf8.first", "unicode/utf8.acceptRanges", "internal/bytealg.MaxLen"], apart := false, laid := [("unicode/utf8.acceptRanges", laid_unicode_utf8_acceptRanges), ("unicode/utf8.first", laid_unicode_utf8_first)] }
def FnExactTagOfSaid : Prop := fnExactTagOfRow.holds Tryz.pinned (OpenSpec.ofChange fnExactTagOfSpec)

/-- ITS FALSE NEIGHBOUR: 'it returns false'. Refute it at one input. -/
def fnExactTagOfWrong : ChangeSpec := { name := "fnExactTagOf", fn := fun _ => fun
  | [d1, d2, d3] => { results := [.lit (.bool false)], args := [d1, d2, d3] }
  | _ => none }
def FnExactTagOfWrongFalsely : Prop := fnExactTagOfRow.holds Tryz.pinned (OpenSpec.ofChange fnExactTagOfWrong)

/-- 'laws.FnExactTagsAt': WHATEVER THE INPUT: true; the input reads as it did. -/
def fnExactTagsAtSpec : ChangeSpec := { name := "fnExactTagsAt", fn := fun _ => fun
  | [d1, d2, d3] => { results := [.lit (.bool true)], args := [d1, d2, d3] }
  | _ => none }
def fnExactTagsAtRow : OpenClaim := { program := "ytihkipojhdehnaagreatdoor", sum := "d4e7a215c91827cc9598fc9db6e89a2d814544ce1d1770769ed9ad7fe7d126c6", func := "loop.example/g00861/laws.FnExactTagsAt", spec := "fnExactTagsAt", inPlace := ["internal/bytealg.IndexByteString", "internal/bytealg.IndexString", "slices.overlaps[[]int64]"], unfollowed := true, recurses := true, named := ["unicode/utf8.first", "unicode/utf8.acceptRanges", "internal/bytealg.MaxLen"], apart := false, laid := [("unicode/utf8.acceptRanges", laid_unicode_utf8_acceptRanges), ("unicode/utf8.first", laid_unicode_utf8_first)] }
def FnExactTagsAtSaid : Prop := fnExactTagsAtRow.holds Tryz.pinned (OpenSpec.ofChange fnExactTagsAtSpec)

/-- ITS FALSE NEIGHBOUR: 'it returns false'. Refute it at one input. -/
def fnExactTagsAtWrong : ChangeSpec := { name := "fnExactTagsAt", fn := fun _ => fun
  | [d1, d2, d3] => { results := [.lit (.bool false)], args := [d1, d2, d3] }
  | _ => none }
def FnExactTagsAtWrongFalsely : Prop := fnExactTagsAtRow.holds Tryz.pinned (OpenSpec.ofChange fnExactTagsAtWrong)

/- THE SECOND FORM. 'bulk': how many values and letters a reading holds, each counted each time it is reached (what is shared counts as often as it is met; a slice's spare places count too). A statement '..UptoSaid' is the law's where the arguments, and the package variables that the reading takes, are together of bulk at most 1048576: NARROWER than '..Said'. Prove '..Said' where nothing that the law and all that it calls make is longer than what came in: it says more and counts as full. Else prove '..UptoSaid'. A law counts once. -/
mutual
def uptoBulk {H : Type} : DataW H → Nat
  | .lit (.string bytes) => bytes.length + 1
  | .lit _ => 1
  | .nil => 1
  | .ptr d => uptoBulk d + 1
  | .slice elems spare => uptoBulkAll elems + uptoBulkAll spare + 1
  | .agg parts => uptoBulkAll parts + 1
  | .iface _ d => uptoBulk d + 1
  | .map entries => uptoBulkEntries entries + 1
  | .held _ => 1
def uptoBulkAll {H : Type} : List (DataW H) → Nat
  | [] => 0
  | d :: r => uptoBulk d + uptoBulkAll r
def uptoBulkEntries {H : Type} : List (Lit × DataW H) → Nat
  | [] => 0
  | x :: r => uptoBulkEntry x + uptoBulkEntries r
def uptoBulkEntry {H : Type} : Lit × DataW H → Nat
  | (.string bytes, d) => bytes.length + uptoBulk d + 1
  | (_, d) => uptoBulk d + 1
 end
def uptoSmall : (H : Type) → List (DataW H) → Bool := fun _ ds => decide (uptoBulkAll ds ≤ 1048576)
def OpenSpec.upto (s : _root_.Go.ChangeSpec) : _root_.Go.OpenSpec := { _root_.Go.OpenSpec.ofChange s with cond := some uptoSmall }

/-- 'laws.FnExactEffectOfTag', WHERE WHAT IT READS IS OF BULK AT MOST 1048576: true; the input reads as it did. -/
def fnExactEffectOfTagUptoRow : OpenClaim := { program := "ytihkipojhdehnaagreatdoor", sum := "d4e7a215c91827cc9598fc9db6e89a2d814544ce1d1770769ed9ad7fe7d126c6", func := "loop.example/g00861/laws.FnExactEffectOfTag", spec := "fnExactEffectOfTag", inPlace := ["internal/bytealg.IndexByteString", "internal/bytealg.IndexString"], unfollowed := true, recurses := true, named := ["unicode/utf8.first", "unicode/utf8.acceptRanges", "internal/bytealg.MaxLen"], apart := false, laid := [("unicode/utf8.acceptRanges", laid_unicode_utf8_acceptRanges), ("unicode/utf8.first", laid_unicode_utf8_first)], narrowed := true }
def FnExactEffectOfTagUptoSaid : Prop := fnExactEffectOfTagUptoRow.holds Tryz.pinned (OpenSpec.upto fnExactEffectOfTagSpec)

/-- 'laws.FnExactStepTag', WHERE WHAT IT READS IS OF BULK AT MOST 1048576: true; the input reads as it did. -/
def fnExactStepTagUptoRow : OpenClaim := { program := "ytihkipojhdehnaagreatdoor", sum := "d4e7a215c91827cc9598fc9db6e89a2d814544ce1d1770769ed9ad7fe7d126c6", func := "loop.example/g00861/laws.FnExactStepTag", spec := "fnExactStepTag", inPlace := ["internal/bytealg.IndexByteString", "internal/bytealg.IndexString"], unfollowed := true, recurses := true, named := ["unicode/utf8.first", "unicode/utf8.acceptRanges", "internal/bytealg.MaxLen"], apart := false, laid := [("unicode/utf8.acceptRanges", laid_unicode_utf8_acceptRanges), ("unicode/utf8.first", laid_unicode_utf8_first)], narrowed := true }
def FnExactStepTagUptoSaid : Prop := fnExactStepTagUptoRow.holds Tryz.pinned (OpenSpec.upto fnExactStepTagSpec)

/-- 'laws.FnExactStartTag', WHERE WHAT IT READS IS OF BULK AT MOST 1048576: true; the input reads as it did. -/
def fnExactStartTagUptoRow : OpenClaim := { program := "ytihkipojhdehnaagreatdoor", sum := "d4e7a215c91827cc9598fc9db6e89a2d814544ce1d1770769ed9ad7fe7d126c6", func := "loop.example/g00861/laws.FnExactStartTag", spec := "fnExactStartTag", inPlace := ["internal/bytealg.IndexByteString", "internal/bytealg.IndexString"], unfollowed := true, recurses := true, named := ["unicode/utf8.first", "unicode/utf8.acceptRanges", "internal/bytealg.MaxLen"], apart := false, laid := [("unicode/utf8.acceptRanges", laid_unicode_utf8_acceptRanges), ("unicode/utf8.first", laid_unicode_utf8_first)], narrowed := true }
def FnExactStartTagUptoSaid : Prop := fnExactStartTagUptoRow.holds Tryz.pinned (OpenSpec.upto fnExactStartTagSpec)

/-- 'laws.FnExactEffectOn', WHERE WHAT IT READS IS OF BULK AT MOST 1048576: true; the input reads as it did. -/
def fnExactEffectOnUptoRow : OpenClaim := { program := "ytihkipojhdehnaagreatdoor", sum := "d4e7a215c91827cc9598fc9db6e89a2d814544ce1d1770769ed9ad7fe7d126c6", func := "loop.example/g00861/laws.FnExactEffectOn", spec := "fnExactEffectOn", inPlace := ["internal/bytealg.IndexByteString", "internal/bytealg.IndexString"], unfollowed := true, recurses := true, named := ["unicode/utf8.first", "unicode/utf8.acceptRanges", "internal/bytealg.MaxLen"], apart := false, laid := [("unicode/utf8.acceptRanges", laid_unicode_utf8_acceptRanges), ("unicode/utf8.first", laid_unicode_utf8_first)], narrowed := true }
def FnExactEffectOnUptoSaid : Prop := fnExactEffectOnUptoRow.holds Tryz.pinned (OpenSpec.upto fnExactEffectOnSpec)

/-- 'laws.FnExactTagOf', WHERE WHAT IT READS IS OF BULK AT MOST 1048576: true; the input reads as it did. -/
def fnExactTagOfUptoRow : OpenClaim := { program := "ytihkipojhdehnaagreatdoor", sum := "d4e7a215c91827cc9598fc9db6e89a2d814544ce1d1770769ed9ad7fe7d126c6", func := "loop.example/g00861/laws.FnExactTagOf", spec := "fnExactTagOf", inPlace := ["internal/bytealg.IndexByteString", "internal/bytealg.IndexString"], unfollowed := true, recurses := true, named := ["unicode/utf8.first", "unicode/utf8.acceptRanges", "internal/bytealg.MaxLen"], apart := false, laid := [("unicode/utf8.acceptRanges", laid_unicode_utf8_acceptRanges), ("unicode/utf8.first", laid_unicode_utf8_first)], narrowed := true }
def FnExactTagOfUptoSaid : Prop := fnExactTagOfUptoRow.holds Tryz.pinned (OpenSpec.upto fnExactTagOfSpec)

/-- 'laws.FnExactTagsAt', WHERE WHAT IT READS IS OF BULK AT MOST 1048576: true; the input reads as it did. -/
def fnExactTagsAtUptoRow : OpenClaim := { program := "ytihkipojhdehnaagreatdoor", sum := "d4e7a215c91827cc9598fc9db6e89a2d814544ce1d1770769ed9ad7fe7d126c6", func := "loop.example/g00861/laws.FnExactTagsAt", spec := "fnExactTagsAt", inPlace := ["internal/bytealg.IndexByteString", "internal/bytealg.IndexString", "slices.overlaps[[]int64]"], unfollowed := true, recurses := true, named := ["unicode/utf8.first", "unicode/utf8.acceptRanges", "internal/bytealg.MaxLen"], apart := false, laid := [("unicode/utf8.acceptRanges", laid_unicode_utf8_acceptRanges), ("unicode/utf8.first", laid_unicode_utf8_first)], narrowed := true }
def FnExactTagsAtUptoSaid : Prop := fnExactTagsAtUptoRow.holds Tryz.pinned (OpenSpec.upto fnExactTagsAtSpec)

end Rows
end Go.Proofs.YtihkipojhdehnaaGreatDoor
