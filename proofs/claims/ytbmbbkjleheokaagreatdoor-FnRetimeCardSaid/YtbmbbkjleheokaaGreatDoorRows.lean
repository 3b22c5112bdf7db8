/-
  NARROWER THAN 'FOR EVERY INPUT', by the rows' own cells (each row's printed sentence says how): FnLatchSystems: laid · FnExtras: laid · FnPathSums: laid · FnPathBounds: laid · FnCredit: laid · FnRetime: laid.
  DERIVED. THE GIVEN ROWS OF THIS SEAT. 6 by the template 'for every input the law returns true; each argument reads behind the call as it read before'; 0 by the template 'total and deterministic' (their statements: YtbmbbkjleheokaaGreatDoorTotals.lean).
  GIVEN WITH THE SEED: the statements are not yours to turn. If you find one false, say at which input.
  Laid BY PROGRAM, IN A SANDBOX (cutbox-rows.mjs): the forced cells as the released guide's own fill.sh prints them over the translation 3bead9363318441b… (all of the seat's roots in one cut). By AI agents, Wed Nov 11 2026. No macro, syntax, notation, axiom, sorry.
-/
import Derived.Test.YtbmbbkjleheokaaGreatDoorChecked
import GoSem.PinnedTables
import GoSem.Claim
import GoSem.ClaimJoined
import GoSem.ClaimMapViews
import Derived.JoinedTies
import Derived.KernelRfl
namespace Go.Proofs.YtbmbbkjleheokaaGreatDoor
/- THE CELL 'sum', in the pinned program and in every row, IS THE sha256 OF THE DUMP (.gsa) THAT YtbmbbkjleheokaaGreatDoorProg.lean LOADS. Nothing in Lean hashes anything: it is a label: what it is worth is what the hold of that sum in a sandbox is worth. -/
noncomputable def Tryz.pinned : Pinned := { name := "ytbmbbkjleheokaagreatdoor", sum := "3bead9363318441b624ba7318dcd19384457ebd27b0b266976627340ed284181", checked := Tryz.checked }
namespace Rows
def none {H : Type} : Left H := { results := [], args := [] }

/- WHAT THE LISTED PACKAGE-LEVEL VARIABLES READ AS WHEN THE CALL BEGINS. Each datum BY PROGRAM (the guide's laid-datum.mjs) off the statement by which the dump's own 'gosem.cut.vars' lays the variable. In a bare row this is a premise. The card (YtbmbbkjleheokaaGreatDoorCards.lean) ties it to the program's text. -/
def laid_unicode_utf8_acceptRanges {H : Type} : DataW H := .agg [.agg [.lit (.int .u8 128), .lit (.int .u8 191)], .agg [.lit (.int .u8 160), .lit (.int .u8 191)], .agg [.lit (.int .u8 128), .lit (.int .u8 159)], .agg [.lit (.int .u8 144), .lit (.int .u8 191)], .agg [.lit (.int .u8 128), .lit (.int .u8 143)], .agg [.lit (.int .u8 0), .lit (.int .u8 0)], .agg [.lit (.int .u8 0), .lit (.int .u8 0)], .agg [.lit (.int .u8 0), .lit (.int .u8 0)], .agg [.lit (.int .u8 0), .lit (.int .u8 0)], .agg [.lit (.int .u8 0), .lit (.int .u8 0)], .agg [.lit (.int .u8 0), .lit (.int .u8 0)], .agg [.lit (.int .u8 0), .lit (.int .u8 0)], .agg [.lit (.int .u8 0), .lit (.int .u8 0)], .agg [.lit (.int .u8 0), .lit (.int .u8 0)], .agg [.lit (.int .u8 0), .lit (.int .u8 0)], .agg [.lit (.int .u8 0), .lit (.int .u8 0)]]
/-- One of Go's own tables, pinned by name: the form's constant. -/
def laid_unicode_utf8_first : DataW Unit := Go.Pinned.utf8First

/-- 'laws.FnLatchSystems': WHATEVER THE INPUT: true; the input reads as it did. -/
def fnLatchSystemsSpec : ChangeSpec := { name := "fnLatchSystems", fn := fun _ => fun
  | [d] => { results := [.lit (.bool true)], args := [d] }
  | _ => none }
def fnLatchSystemsRow : OpenClaim := { program := "ytbmbbkjleheokaagreatdoor", sum := "3bead9363318441b624ba7318dcd19384457ebd27b0b266976627340ed284181", func := "loop.example/g00861/laws.FnLatchSystems", spec := "fnLatchSystems", inPlace := ["internal/bytealg.IndexByteString", "internal/bytealg.IndexString"], unfollowed := true, recurses := true, named := ["unicode/utf8.first", "unicode/utf8.acceptRanges", "internal/bytealg.MaxLen"], apart := false, laid := [("unicode/utf8.acceptRanges", laid_unicode_utf8_acceptRanges), ("unicode/utf8.first", laid_unicode_utf8_first)] }
def FnLatchSystemsSaid : Prop := fnLatchSystemsRow.holds Tryz.pinned (OpenSpec.ofChange fnLatchSystemsSpec)

/-- ITS FALSE NEIGHBOUR: 'it returns false'. Refute it at one input. -/
def fnLatchSystemsWrong : ChangeSpec := { name := "fnLatchSystems", fn := fun _ => fun
  | [d] => { results := [.lit (.bool false)], args := [d] }
  | _ => none }
def FnLatchSystemsWrongFalsely : Prop := fnLatchSystemsRow.holds Tryz.pinned (OpenSpec.ofChange fnLatchSystemsWrong)

/-- 'laws.FnExtras': WHATEVER THE INPUT: true; the input reads as it did. -/
def fnExtrasSpec : ChangeSpec := { name := "fnExtras", fn := fun _ => fun
  | [d] => { results := [.lit (.bool true)], args := [d] }
  | _ => none }
def fnExtrasRow : OpenClaim := { program := "ytbmbbkjleheokaagreatdoor", sum := "3bead9363318441b624ba7318dcd19384457ebd27b0b266976627340ed284181", func := "loop.example/g00861/laws.FnExtras", spec := "fnExtras", inPlace := ["internal/bytealg.IndexByteString", "internal/bytealg.IndexString"], unfollowed := true, recurses := true, named := ["unicode/utf8.first", "unicode/utf8.acceptRanges", "internal/bytealg.MaxLen"], apart := false, laid := [("unicode/utf8.acceptRanges", laid_unicode_utf8_acceptRanges), ("unicode/utf8.first", laid_unicode_utf8_first)] }
def FnExtrasSaid : Prop := fnExtrasRow.holds Tryz.pinned (OpenSpec.ofChange fnExtrasSpec)

/-- ITS FALSE NEIGHBOUR: 'it returns false'. Refute it at one input. -/
def fnExtrasWrong : ChangeSpec := { name := "fnExtras", fn := fun _ => fun
  | [d] => { results := [.lit (.bool false)], args := [d] }
  | _ => none }
def FnExtrasWrongFalsely : Prop := fnExtrasRow.holds Tryz.pinned (OpenSpec.ofChange fnExtrasWrong)

/-- 'laws.FnPathSums': WHATEVER THE INPUT: true; the input reads as it did. -/
def fnPathSumsSpec : ChangeSpec := { name := "fnPathSums", fn := fun _ => fun
  | [d] => { results := [.lit (.bool true)], args := [d] }
  | _ => none }
def fnPathSumsRow : OpenClaim := { program := "ytbmbbkjleheokaagreatdoor", sum := "3bead9363318441b624ba7318dcd19384457ebd27b0b266976627340ed284181", func := "loop.example/g00861/laws.FnPathSums", spec := "fnPathSums", inPlace := ["internal/bytealg.IndexByteString", "internal/bytealg.IndexString"], unfollowed := true, recurses := true, named := ["unicode/utf8.first", "unicode/utf8.acceptRanges", "internal/bytealg.MaxLen"], apart := false, laid := [("unicode/utf8.acceptRanges", laid_unicode_utf8_acceptRanges), ("unicode/utf8.first", laid_unicode_utf8_first)] }
def FnPathSumsSaid : Prop := fnPathSumsRow.holds Tryz.pinned (OpenSpec.ofChange fnPathSumsSpec)

/-- ITS FALSE NEIGHBOUR: 'it returns false'. Refute it at one input. -/
def fnPathSumsWrong : ChangeSpec := { name := "fnPathSums", fn := fun _ => fun
  | [d] => { results := [.lit (.bool false)], args := [d] }
  | _ => none }
def FnPathSumsWrongFalsely : Prop := fnPathSumsRow.holds Tryz.pinned (OpenSpec.ofChange fnPathSumsWrong)

/-- 'laws.FnPathBounds': WHATEVER THE INPUT: true; the input reads as it did. -/
def fnPathBoundsSpec : ChangeSpec := { name := "fnPathBounds", fn := fun _ => fun
  | [d] => { results := [.lit (.bool true)], args := [d] }
  | _ => none }
def fnPathBoundsRow : OpenClaim := { program := "ytbmbbkjleheokaagreatdoor", sum := "3bead9363318441b624ba7318dcd19384457ebd27b0b266976627340ed284181", func := "loop.example/g00861/laws.FnPathBounds", spec := "fnPathBounds", inPlace := ["internal/bytealg.IndexByteString", "internal/bytealg.IndexString"], unfollowed := true, recurses := true, named := ["unicode/utf8.first", "unicode/utf8.acceptRanges", "internal/bytealg.MaxLen"], apart := false, laid := [("unicode/utf8.acceptRanges", laid_unicode_utf8_acceptRanges), ("unicode/utf8.first", laid_unicode_utf8_first)] }
def FnPathBoundsSaid : Prop := fnPathBoundsRow.holds Tryz.pinned (OpenSpec.ofChange fnPathBoundsSpec)

/-- ITS FALSE NEIGHBOUR: 'it returns false'. Refute it at one input. -/
def fnPathBoundsWrong : ChangeSpec := { name := "fnPathBounds", fn := fun _ => fun
  | [d] => { results := [.lit (.bool false)], args := [d] }
  | _ => none }
def FnPathBoundsWrongFalsely : Prop := fnPathBoundsRow.holds Tryz.pinned (OpenSpec.ofChange fnPathBoundsWrong)

/-- 'laws.FnCredit': WHATEVER THE INPUT: true; the input reads as it did. -/
def fnCreditSpec : ChangeSpec := { name := "fnCredit", fn := fun _ => fun
  | [d] => { results := [.lit (.bool true)], args := [d] }
  | _ => none }
def fnCreditRow : OpenClaim := { program := "ytbmbbkjleheokaagreatdoor", sum := "3bead9363318441b624ba7318dcd19384457ebd27b0b266976627340ed284181", func := "loop.example/g00861/laws.FnCredit", spec := "fnCredit", inPlace := ["internal/bytealg.IndexByteString", "internal/bytealg.IndexString"], unfollowed := true, recurses := true, named := ["unicode/utf8.first", "unicode/utf8.acceptRanges", "internal/bytealg.MaxLen"], apart := false, laid := [("unicode/utf8.acceptRanges", laid_unicode_utf8_acceptRanges), ("unicode/utf8.first", laid_unicode_utf8_first)] }
def FnCreditSaid : Prop := fnCreditRow.holds Tryz.pinned (OpenSpec.ofChange fnCreditSpec)

/-- ITS FALSE NEIGHBOUR: 'it returns false'. Refute it at one input. -/
def fnCreditWrong : ChangeSpec := { name := "fnCredit", fn := fun _ => fun
  | [d] => { results := [.lit (.bool false)], args := [d] }
  | _ => none }
def FnCreditWrongFalsely : Prop := fnCreditRow.holds Tryz.pinned (OpenSpec.ofChange fnCreditWrong)

/-- 'laws.FnRetime': WHATEVER THE INPUT: true; the input reads as it did. -/
def fnRetimeSpec : ChangeSpec := { name := "fnRetime", fn := fun _ => fun
  | [d] => { results := [.lit (.bool true)], args := [d] }
  | _ => none }
def fnRetimeRow : OpenClaim := { program := "ytbmbbkjleheokaagreatdoor", sum := "3bead9363318441b624ba7318dcd19384457ebd27b0b266976627340ed284181", func := "loop.example/g00861/laws.FnRetime", spec := "fnRetime", inPlace := ["internal/bytealg.IndexByteString", "internal/bytealg.IndexString"], unfollowed := true, recurses := true, named := ["unicode/utf8.first", "unicode/utf8.acceptRanges", "internal/bytealg.MaxLen"], apart := false, laid := [("unicode/utf8.acceptRanges", laid_unicode_utf8_acceptRanges), ("unicode/utf8.first", laid_unicode_utf8_first)] }
def FnRetimeSaid : Prop := fnRetimeRow.holds Tryz.pinned (OpenSpec.ofChange fnRetimeSpec)

/-- ITS FALSE NEIGHBOUR: 'it returns false'. Refute it at one input. -/
def fnRetimeWrong : ChangeSpec := { name := "fnRetime", fn := fun _ => fun
  | [d] => { results := [.lit (.bool false)], args := [d] }
  | _ => none }
def FnRetimeWrongFalsely : Prop := fnRetimeRow.holds Tryz.pinned (OpenSpec.ofChange fnRetimeWrong)

/- THE SECOND FORM. 'bulk': how many values and letters a reading holds, each counted each time it is reached (what is shared counts as often as it is met; a slice's spare places count too). A statement '..UptoSaid' is the law's where the arguments, and the package variables that the reading takes, are together of bulk at most 1048576: NARROWER than '..Said'. Prove '..Said' where nothing that the law and all that it calls make is longer than what came in: it says more and counts as full. Else prove '..UptoSaid'. A law counts once. -/
mutual
def uptoBulk {H : Type} : DataW H → Nat
  | .lit (.string bytes) => bytes.length + 1
  | .lit _ => 1
  | .nil => 1
  | .ptr d => uptoBulk d + 1
  | .slice elems spare => uptoBulkAll elems + uptoBulkAll spare + 1
  | .agg parts => uptoBulkAll parts + 1
  | .iface _ d => uptoBulk d + 1
  | .map entries => uptoBulkEntries entries + 1
  | .held _ => 1
def uptoBulkAll {H : Type} : List (DataW H) → Nat
  | [] => 0
  | d :: r => uptoBulk d + uptoBulkAll r
def uptoBulkEntries {H : Type} : List (Lit × DataW H) → Nat
  | [] => 0
  | x :: r => uptoBulkEntry x + uptoBulkEntries r
def uptoBulkEntry {H : Type} : Lit × DataW H → Nat
  | (.string bytes, d) => bytes.length + uptoBulk d + 1
  | (_, d) => uptoBulk d + 1
 end
def uptoSmall : (H : Type) → List (DataW H) → Bool := fun _ ds => decide (uptoBulkAll ds ≤ 1048576)
def OpenSpec.upto (s : _root_.Go.ChangeSpec) : _root_.Go.OpenSpec := { _root_.Go.OpenSpec.ofChange s with cond := some uptoSmall }

/-- 'laws.FnLatchSystems', WHERE WHAT IT READS IS OF BULK AT MOST 1048576: true; the input reads as it did. -/
def fnLatchSystemsUptoRow : OpenClaim := { program := "ytbmbbkjleheokaagreatdoor", sum := "3bead9363318441b624ba7318dcd19384457ebd27b0b266976627340ed284181", func := "loop.example/g00861/laws.FnLatchSystems", spec := "fnLatchSystems", inPlace := ["internal/bytealg.IndexByteString", "internal/bytealg.IndexString"], unfollowed := true, recurses := true, named := ["unicode/utf8.first", "unicode/utf8.acceptRanges", "internal/bytealg.MaxLen"], apart := false, laid := [("unicode/utf8.acceptRanges", laid_unicode_utf8_acceptRanges), ("unicode/utf8.first", laid_unicode_utf8_first)], narrowed := true }
def FnLatchSystemsUptoSaid : Prop := fnLatchSystemsUptoRow.holds Tryz.pinned (OpenSpec.upto fnLatchSystemsSpec)

/-- 'laws.FnExtras', WHERE WHAT IT READS IS OF BULK AT MOST 1048576: true; the input reads as it did. -/
def fnExtrasUptoRow : OpenClaim := { program := "ytbmbbkjleheokaagreatdoor", sum := "3bead9363318441b624ba7318dcd19384457ebd27b0b266976627340ed284181", func := "loop.example/g00861/laws.FnExtras", spec := "fnExtras", inPlace := ["internal/bytealg.IndexByteString", "internal/bytealg.IndexString"], unfollowed := true, recurses := true, named := ["unicode/utf8.first", "unicode/utf8.acceptRanges", "internal/bytealg.MaxLen"], apart := false, laid := [("unicode/utf8.acceptRanges", laid_unicode_utf8_acceptRanges), ("unicode/utf8.first", laid_unicode_utf8_first)], narrowed := true }
def FnExtrasUptoSaid : Prop := fnExtrasUptoRow.holds Tryz.pinned (OpenSpec.upto fnExtrasSpec)

/-- 'laws.FnPathSums', WHERE WHAT IT READS IS OF BULK AT MOST 1048576: true; the input reads as it did. -/
def fnPathSumsUptoRow : OpenClaim := { program := "ytbmbbkjleheokaagreatdoor", sum := "3bead9363318441b624ba7318dcd19384457ebd27b0b266976627340ed284181", func := "loop.example/g00861/laws.FnPathSums", spec := "fnPathSums", inPlace := ["internal/bytealg.IndexByteString", "internal/bytealg.IndexString"], unfollowed := true, recurses := true, named := ["unicode/utf8.first", "unicode/utf8.acceptRanges", "internal/bytealg.MaxLen"], apart := false, laid := [("unicode/utf8.acceptRanges", laid_unicode_utf8_acceptRanges), ("unicode/utf8.first", laid_unicode_utf8_first)], narrowed := true }
def FnPathSumsUptoSaid : Prop := fnPathSumsUptoRow.holds Tryz.pinned (OpenSpec.upto fnPathSumsSpec)

/-- 'laws.FnPathBounds', WHERE WHAT IT READS IS OF BULK AT MOST 1048576: true; the input reads as it did. -/
def fnPathBoundsUptoRow : OpenClaim := { program := "ytbmbbkjleheokaagreatdoor", sum := "3bead9363318441b624ba7318dcd19384457ebd27b0b266976627340ed284181", func := "loop.example/g00861/laws.FnPathBounds", spec := "fnPathBounds", inPlace := ["internal/bytealg.IndexByteString", "internal/bytealg.IndexString"], unfollowed := true, recurses := true, named := ["unicode/utf8.first", "unicode/utf8.acceptRanges", "internal/bytealg.MaxLen"], apart := false, laid := [("unicode/utf8.acceptRanges", laid_unicode_utf8_acceptRanges), ("unicode/utf8.first", laid_unicode_utf8_first)], narrowed := true }
def FnPathBoundsUptoSaid : Prop := fnPathBoundsUptoRow.holds Tryz.pinned (OpenSpec.upto fnPathBoundsSpec)

/-- 'laws.FnCredit', WHERE WHAT IT READS IS OF BULK AT MOST 1048576: true; the input reads as it did. -/
def fnCreditUptoRow : OpenClaim := { program := "ytbmbbkjleheokaagreatdoor", sum := "3bead9363318441b624ba7318dcd19384457ebd27b0b266976627340ed284181", func := "loop.example/g00861/laws.FnCredit", spec := "fnCredit", inPlace := ["internal/bytealg.IndexByteString", "internal/bytealg.IndexString"], unfollowed := true, recurses := true, named := ["unicode/utf8.first", "unicode/utf8.acceptRanges", "internal/bytealg.MaxLen"], apart := false, laid := [("unicode/utf8.acceptRanges", laid_unicode_utf8_acceptRanges), ("unicode/utf8.first", laid_unicode_utf8_first)], narrowed := true }
def FnCreditUptoSaid : Prop := fnCreditUptoRow.holds Tryz.pinned (OpenSpec.upto fnCreditSpec)

/-- 'laws.FnRetime', WHERE WHAT IT READS IS OF BULK AT MOST 1048576: true; the input reads as it did. -/
def fnRetimeUptoRow : OpenClaim := { program := "ytbmbbkjleheokaagreatdoor", sum := "3bead9363318441b624ba7318dcd19384457ebd27b0b266976627340ed284181", func := "loop.example/g00861/laws.FnRetime", spec := "fnRetime", inPlace := ["internal/bytealg.IndexByteString", "internal/bytealg.IndexString"], unfollowed := true, recurses := true, named := ["unicode/utf8.first", "unicode/utf8.acceptRanges", "internal/bytealg.MaxLen"], apart := false, laid := [("unicode/utf8.acceptRanges", laid_unicode_utf8_acceptRanges), ("unicode/utf8.first", laid_unicode_utf8_first)], narrowed := true }
def FnRetimeUptoSaid : Prop := fnRetimeUptoRow.holds Tryz.pinned (OpenSpec.upto fnRetimeSpec)

end Rows
end Go.Proofs.YtbmbbkjleheokaaGreatDoor
