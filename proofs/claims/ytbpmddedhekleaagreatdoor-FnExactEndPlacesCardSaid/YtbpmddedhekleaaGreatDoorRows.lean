/-
  NARROWER THAN 'FOR EVERY INPUT', by the rows' own cells (each row's printed sentence says how): FnExactIsMonotoneBlock: laid · FnExactIsCouplings: laid · FnExactIsDataPath: laid · FnExactStartPlaces: laid · FnExactEndPlaces: laid.
  DERIVED. THE GIVEN ROWS OF THIS SEAT. 5 by the template 'for every input the law returns true; each argument reads behind the call as it read before'; 0 by the template 'total and deterministic' (their statements: YtbpmddedhekleaaGreatDoorTotals.lean).
  GIVEN WITH THE SEED: the statements are not yours to turn. If you find one false, say at which input.
  Laid BY PROGRAM, IN A SANDBOX (cutbox-rows.mjs): the forced cells as the released guide's own fill.sh prints them over the translation 3ad08bc330973221… (all of the seat's roots in one cut). By AI agents, Wed Nov 11 2026. No macro, syntax, notation, axiom, sorry.
-/
import Derived.Test.YtbpmddedhekleaaGreatDoorChecked
import GoSem.PinnedTables
import GoSem.Claim
import GoSem.ClaimJoined
import GoSem.ClaimMapViews
import Derived.JoinedTies
import Derived.KernelRfl
namespace Go.Proofs.YtbpmddedhekleaaGreatDoor
/- THE CELL 'sum', in the pinned program and in every row, IS THE sha256 OF THE DUMP (.gsa) THAT YtbpmddedhekleaaGreatDoorProg.lean LOADS. Nothing in Lean hashes anything: it is a label: what it is worth is what the hold of that sum in a sandbox is worth. -/
noncomputable def Tryz.pinned : Pinned := { name := "ytbpmddedhekleaagreatdoor", sum := "3ad08bc33097322197f11b583ca6f90b0a84624a3f72974fffb9ddd3ede56769", checked := Tryz.checked }
namespace Rows
def none {H : Type} : Left H := { results := [], args := [] }

/- WHAT THE LISTED PACKAGE-LEVEL VARIABLES READ AS WHEN THE CALL BEGINS. Each datum BY PROGRAM (the guide's laid-datum.mjs) off the statement by which the dump's own 'gosem.cut.vars' lays the variable. In a bare row this is a premise. The card (YtbpmddedhekleaaGreatDoorCards.lean) ties it to the program's text. -/
def laid_unicode_utf8_acceptRanges {H : Type} : DataW H := .agg [.agg [.lit (.int .u8 128), .lit (.int .u8 191)], .agg [.lit (.int .u8 160), .lit (.int .u8 191)], .agg [.lit (.int .u8 128), .lit (.int .u8 159)], .agg [.lit (.int .u8 144), .lit (.int .u8 191)], .agg [.lit (.int .u8 128), .lit (.int .u8 143)], .agg [.lit (.int .u8 0), .lit (.int .u8 0)], .agg [.lit (.int .u8 0), .lit (.int .u8 0)], .agg [.lit (.int .u8 0), .lit (.int .u8 0)], .agg [.lit (.int .u8 0), .lit (.int .u8 0)], .agg [.lit (.int .u8 0), .lit (.int .u8 0)], .agg [.lit (.int .u8 0), .lit (.int .u8 0)], .agg [.lit (.int .u8 0), .lit (.int .u8 0)], .agg [.lit (.int .u8 0), .lit (.int .u8 0)], .agg [.lit (.int .u8 0), .lit (.int .u8 0)], .agg [.lit (.int .u8 0), .lit (.int .u8 0)], .agg [.lit (.int .u8 0), .lit (.int .u8 0)]]
/-- One of Go's own tables, pinned by name: the form's constant. -/
def laid_unicode_utf8_first : DataW Unit := Go.Pinned.utf8First

/-- 'laws.FnExactIsMonotoneBlock': WHATEVER THE INPUT: true; the input reads as it did. -/
def fnExactIsMonotoneBlockSpec : ChangeSpec := { name := "fnExactIsMonotoneBlock", fn := fun _ => fun
  | [d] => { results := [.lit (.bool true)], args := [d] }
  | _ => none }
def fnExactIsMonotoneBlockRow : OpenClaim := { program := "ytbpmddedhekleaagreatdoor", sum := "3ad08bc33097322197f11b583ca6f90b0a84624a3f72974fffb9ddd3ede56769", func := "loop.example/g00861/laws.FnExactIsMonotoneBlock", spec := "fnExactIsMonotoneBlock", inPlace := ["internal/bytealg.IndexByteString", "internal/bytealg.IndexString"], unfollowed := true, recurses := true, named := ["unicode/utf8.first", "unicode/utf8.acceptRanges", "internal/bytealg.MaxLen"], apart := false, laid := [("unicode/utf8.acceptRanges", laid_unicode_utf8_acceptRanges), ("unicode/utf8.first", laid_unicode_utf8_first)] }
def FnExactIsMonotoneBlockSaid : Prop := fnExactIsMonotoneBlockRow.holds Tryz.pinned (OpenSpec.ofChange fnExactIsMonotoneBlockSpec)

/-- ITS FALSE NEIGHBOUR: 'it returns false'. Refute it at one input. -/
def fnExactIsMonotoneBlockWrong : ChangeSpec := { name := "fnExactIsMonotoneBlock", fn := fun _ => fun
  | [d] => { results := [.lit (.bool false)], args := [d] }
  | _ => none }
def FnExactIsMonotoneBlockWrongFalsely : Prop := fnExactIsMonotoneBlockRow.holds Tryz.pinned (OpenSpec.ofChange fnExactIsMonotoneBlockWrong)

/-- 'laws.FnExactIsCouplings': WHATEVER THE INPUT: true; the input reads as it did. -/
def fnExactIsCouplingsSpec : ChangeSpec := { name := "fnExactIsCouplings", fn := fun _ => fun
  | [d1, d2] => { results := [.lit (.bool true)], args := [d1, d2] }
  | _ => none }
def fnExactIsCouplingsRow : OpenClaim := { program := "ytbpmddedhekleaagreatdoor", sum := "3ad08bc33097322197f11b583ca6f90b0a84624a3f72974fffb9ddd3ede56769", func := "loop.example/g00861/laws.FnExactIsCouplings", spec := "fnExactIsCouplings", inPlace := ["internal/bytealg.IndexByteString", "internal/bytealg.IndexString"], unfollowed := true, recurses := true, named := ["unicode/utf8.first", "unicode/utf8.acceptRanges", "internal/bytealg.MaxLen"], apart := false, laid := [("unicode/utf8.acceptRanges", laid_unicode_utf8_acceptRanges), ("unicode/utf8.first", laid_unicode_utf8_first)] }
def FnExactIsCouplingsSaid : Prop := fnExactIsCouplingsRow.holds Tryz.pinned (OpenSpec.ofChange fnExactIsCouplingsSpec)

/-- ITS FALSE NEIGHBOUR: 'it returns false'. Refute it at one input. -/
def fnExactIsCouplingsWrong : ChangeSpec := { name := "fnExactIsCouplings", fn := fun _ => fun
  | [d1, d2] => { results := [.lit (.bool false)], args := [d1, d2] }
  | _ => none }
def FnExactIsCouplingsWrongFalsely : Prop := fnExactIsCouplingsRow.holds Tryz.pinned (OpenSpec.ofChange fnExactIsCouplingsWrong)

/-- 'laws.FnExactIsDataPath': WHATEVER THE INPUT: true; the input reads as it did. -/
def fnExactIsDataPathSpec : ChangeSpec := { name := "fnExactIsDataPath", fn := fun _ => fun
  | [d1, d2] => { results := [.lit (.bool true)], args := [d1, d2] }
  | _ => none }
def fnExactIsDataPathRow : OpenClaim := { program := "ytbpmddedhekleaagreatdoor", sum := "3ad08bc33097322197f11b583ca6f90b0a84624a3f72974fffb9ddd3ede56769", func := "loop.example/g00861/laws.FnExactIsDataPath", spec := "fnExactIsDataPath", inPlace := ["internal/bytealg.IndexByteString", "internal/bytealg.IndexString"], unfollowed := true, recurses := true, named := ["unicode/utf8.first", "unicode/utf8.acceptRanges", "internal/bytealg.MaxLen"], apart := false, laid := [("unicode/utf8.acceptRanges", laid_unicode_utf8_acceptRanges), ("unicode/utf8.first", laid_unicode_utf8_first)] }
def FnExactIsDataPathSaid : Prop := fnExactIsDataPathRow.holds Tryz.pinned (OpenSpec.ofChange fnExactIsDataPathSpec)

/-- ITS FALSE NEIGHBOUR: 'it returns false'. Refute it at one input. -/
def fnExactIsDataPathWrong : ChangeSpec := { name := "fnExactIsDataPath", fn := fun _ => fun
  | [d1, d2] => { results := [.lit (.bool false)], args := [d1, d2] }
  | _ => none }
def FnExactIsDataPathWrongFalsely : Prop := fnExactIsDataPathRow.holds Tryz.pinned (OpenSpec.ofChange fnExactIsDataPathWrong)

/-- 'laws.FnExactStartPlaces': WHATEVER THE INPUT: true; the input reads as it did. -/
def fnExactStartPlacesSpec : ChangeSpec := { name := "fnExactStartPlaces", fn := fun _ => fun
  | [d] => { results := [.lit (.bool true)], args := [d] }
  | _ => none }
def fnExactStartPlacesRow : OpenClaim := { program := "ytbpmddedhekleaagreatdoor", sum := "3ad08bc33097322197f11b583ca6f90b0a84624a3f72974fffb9ddd3ede56769", func := "loop.example/g00861/laws.FnExactStartPlaces", spec := "fnExactStartPlaces", inPlace := ["internal/bytealg.IndexByteString", "internal/bytealg.IndexString"], unfollowed := true, recurses := true, named := ["unicode/utf8.first", "unicode/utf8.acceptRanges", "internal/bytealg.MaxLen"], apart := false, laid := [("unicode/utf8.acceptRanges", laid_unicode_utf8_acceptRanges), ("unicode/utf8.first", laid_unicode_utf8_first)] }
def FnExactStartPlacesSaid : Prop := fnExactStartPlacesRow.holds Tryz.pinned (OpenSpec.ofChange fnExactStartPlacesSpec)

/-- ITS FALSE NEIGHBOUR: 'it returns false'. Refute it at one input. -/
def fnExactStartPlacesWrong : ChangeSpec := { name := "fnExactStartPlaces", fn := fun _ => fun
  | [d] => { results := [.lit (.bool false)], args := [d] }
  | _ => none }
def FnExactStartPlacesWrongFalsely : Prop := fnExactStartPlacesRow.holds Tryz.pinned (OpenSpec.ofChange fnExactStartPlacesWrong)

/-- 'laws.FnExactEndPlaces': WHATEVER THE INPUT: true; the input reads as it did. -/
def fnExactEndPlacesSpec : ChangeSpec := { name := "fnExactEndPlaces", fn := fun _ => fun
  | [d] => { results := [.lit (.bool true)], args := [d] }
  | _ => none }
def fnExactEndPlacesRow : OpenClaim := { program := "ytbpmddedhekleaagreatdoor", sum := "3ad08bc33097322197f11b583ca6f90b0a84624a3f72974fffb9ddd3ede56769", func := "loop.example/g00861/laws.FnExactEndPlaces", spec := "fnExactEndPlaces", inPlace := ["internal/bytealg.IndexByteString", "internal/bytealg.IndexString"], unfollowed := true, recurses := true, named := ["unicode/utf8.first", "unicode/utf8.acceptRanges", "internal/bytealg.MaxLen"], apart := false, laid := [("unicode/utf8.acceptRanges", laid_unicode_utf8_acceptRanges), ("unicode/utf8.first", laid_unicode_utf8_first)] }
def FnExactEndPlacesSaid : Prop := fnExactEndPlacesRow.holds Tryz.pinned (OpenSpec.ofChange fnExactEndPlacesSpec)

/-- ITS FALSE NEIGHBOUR: 'it returns false'. Refute it at one input. -/
def fnExactEndPlacesWrong : ChangeSpec := { name := "fnExactEndPlaces", fn := fun _ => fun
  | [d] => { results := [.lit (.bool false)], args := [d] }
  | _ => none }
def FnExactEndPlacesWrongFalsely : Prop := fnExactEndPlacesRow.holds Tryz.pinned (OpenSpec.ofChange fnExactEndPlacesWrong)

/- THE SECOND FORM. 'bulk': how many values and letters a reading holds, each counted each time it is reached (what is shared counts as often as it is met; a slice's spare places count too). A statement '..UptoSaid' is the law's where the arguments, and the package variables that the reading takes, are together of bulk at most 1048576: NARROWER than '..Said'. Prove '..Said' where nothing that the law and all that it calls make is longer than what came in: it says more and counts as full. Else prove '..UptoSaid'. A law counts once. -/
mutual
def uptoBulk {H : Type} : DataW H → Nat
  | .lit (.string bytes) => bytes.length + 1
  | .lit _ => 1
  | .nil => 1
  | .ptr d => uptoBulk d + 1
  | .slice elems spare => uptoBulkAll elems + uptoBulkAll spare + 1
  | .agg parts => uptoBulkAll parts + 1
  | .iface _ d => uptoBulk d + 1
  | .map entries => uptoBulkEntries entries + 1
  | .held _ => 1
def uptoBulkAll {H : Type} : List (DataW H) → Nat
  | [] => 0
  | d :: r => uptoBulk d + uptoBulkAll r
def uptoBulkEntries {H : Type} : List (Lit × DataW H) → Nat
  | [] => 0
  | x :: r => uptoBulkEntry x + uptoBulkEntries r
def uptoBulkEntry {H : Type} : Lit × DataW H → Nat
  | (.string bytes, d) => bytes.length + uptoBulk d + 1
  | (_, d) => uptoBulk d + 1
 end
def uptoSmall : (H : Type) → List (DataW H) → Bool := fun _ ds => decide (uptoBulkAll ds ≤ 1048576)
def OpenSpec.upto (s : _root_.Go.ChangeSpec) : _root_.Go.OpenSpec := { _root_.Go.OpenSpec.ofChange s with cond := some uptoSmall }

/-- 'laws.FnExactIsMonotoneBlock', WHERE WHAT IT READS IS OF BULK AT MOST 1048576: true; the input reads as it did. -/
def fnExactIsMonotoneBlockUptoRow : OpenClaim := { program := "ytbpmddedhekleaagreatdoor", sum := "3ad08bc33097322197f11b583ca6f90b0a84624a3f72974fffb9ddd3ede56769", func := "loop.example/g00861/laws.FnExactIsMonotoneBlock", spec := "fnExactIsMonotoneBlock", inPlace := ["internal/bytealg.IndexByteString", "internal/bytealg.IndexString"], unfollowed := true, recurses := true, named := ["unicode/utf8.first", "unicode/utf8.acceptRanges", "internal/bytealg.MaxLen"], apart := false, laid := [("unicode/utf8.acceptRanges", laid_unicode_utf8_acceptRanges), ("unicode/utf8.first", laid_unicode_utf8_first)], narrowed := true }
def FnExactIsMonotoneBlockUptoSaid : Prop := fnExactIsMonotoneBlockUptoRow.holds Tryz.pinned (OpenSpec.upto fnExactIsMonotoneBlockSpec)

/-- 'laws.FnExactIsCouplings', WHERE WHAT IT READS IS OF BULK AT MOST 1048576: true; the input reads as it did. -/
def fnExactIsCouplingsUptoRow : OpenClaim := { program := "ytbpmddedhekleaagreatdoor", sum := "3ad08bc33097322197f11b583ca6f90b0a84624a3f72974fffb9ddd3ede56769", func := "loop.example/g00861/laws.FnExactIsCouplings", spec := "fnExactIsCouplings", inPlace := ["internal/bytealg.IndexByteString", "internal/bytealg.IndexString"], unfollowed := true, recurses := true, named := ["unicode/utf8.first", "unicode/utf8.acceptRanges", "internal/bytealg.MaxLen"], apart := false, laid := [("unicode/utf8.acceptRanges", laid_unicode_utf8_acceptRanges), ("unicode/utf8.first", laid_unicode_utf8_first)], narrowed := true }
def FnExactIsCouplingsUptoSaid : Prop := fnExactIsCouplingsUptoRow.holds Tryz.pinned (OpenSpec.upto fnExactIsCouplingsSpec)

/-- 'laws.FnExactIsDataPath', WHERE WHAT IT READS IS OF BULK AT MOST 1048576: true; the input reads as it did. -/
def fnExactIsDataPathUptoRow : OpenClaim := { program := "ytbpmddedhekleaagreatdoor", sum := "3ad08bc33097322197f11b583ca6f90b0a84624a3f72974fffb9ddd3ede56769", func := "loop.example/g00861/laws.FnExactIsDataPath", spec := "fnExactIsDataPath", inPlace := ["internal/bytealg.IndexByteString", "internal/bytealg.IndexString"], unfollowed := true, recurses := true, named := ["unicode/utf8.first", "unicode/utf8.acceptRanges", "internal/bytealg.MaxLen"], apart := false, laid := [("unicode/utf8.acceptRanges", laid_unicode_utf8_acceptRanges), ("unicode/utf8.first", laid_unicode_utf8_first)], narrowed := true }
def FnExactIsDataPathUptoSaid : Prop := fnExactIsDataPathUptoRow.holds Tryz.pinned (OpenSpec.upto fnExactIsDataPathSpec)

/-- 'laws.FnExactStartPlaces', WHERE WHAT IT READS IS OF BULK AT MOST 1048576: true; the input reads as it did. -/
def fnExactStartPlacesUptoRow : OpenClaim := { program := "ytbpmddedhekleaagreatdoor", sum := "3ad08bc33097322197f11b583ca6f90b0a84624a3f72974fffb9ddd3ede56769", func := "loop.example/g00861/laws.FnExactStartPlaces", spec := "fnExactStartPlaces", inPlace := ["internal/bytealg.IndexByteString", "internal/bytealg.IndexString"], unfollowed := true, recurses := true, named := ["unicode/utf8.first", "unicode/utf8.acceptRanges", "internal/bytealg.MaxLen"], apart := false, laid := [("unicode/utf8.acceptRanges", laid_unicode_utf8_acceptRanges), ("unicode/utf8.first", laid_unicode_utf8_first)], narrowed := true }
def FnExactStartPlacesUptoSaid : Prop := fnExactStartPlacesUptoRow.holds Tryz.pinned (OpenSpec.upto fnExactStartPlacesSpec)

/-- 'laws.FnExactEndPlaces', WHERE WHAT IT READS IS OF BULK AT MOST 1048576: true; the input reads as it did. -/
def fnExactEndPlacesUptoRow : OpenClaim := { program := "ytbpmddedhekleaagreatdoor", sum := "3ad08bc33097322197f11b583ca6f90b0a84624a3f72974fffb9ddd3ede56769", func := "loop.example/g00861/laws.FnExactEndPlaces", spec := "fnExactEndPlaces", inPlace := ["internal/bytealg.IndexByteString", "internal/bytealg.IndexString"], unfollowed := true, recurses := true, named := ["unicode/utf8.first", "unicode/utf8.acceptRanges", "internal/bytealg.MaxLen"], apart := false, laid := [("unicode/utf8.acceptRanges", laid_unicode_utf8_acceptRanges), ("unicode/utf8.first", laid_unicode_utf8_first)], narrowed := true }
def FnExactEndPlacesUptoSaid : Prop := fnExactEndPlacesUptoRow.holds Tryz.pinned (OpenSpec.upto fnExactEndPlacesSpec)

end Rows
end Go.Proofs.YtbpmddedhekleaaGreatDoor
