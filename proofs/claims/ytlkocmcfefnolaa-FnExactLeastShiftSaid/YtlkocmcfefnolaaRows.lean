/-
  No cell of these rows narrows 'for every input' (looked for: loops, veiled, ifaces, maps, wideKeys, modest, calm, conditions, laid).
  DERIVED. THE GIVEN ROWS OF THIS SEAT. 5 by the template 'for every input the law returns true; each argument reads behind the call as it read before'; 0 by the template 'total and deterministic' (their statements: YtlkocmcfefnolaaTotals.lean).
  GIVEN WITH THE SEED: the statements are not yours to turn. If you find one false, say at which input.
  Laid BY PROGRAM, IN A SANDBOX (cutbox-rows.mjs): the forced cells as the released guide's own fill.sh prints them over the translation d78ae2e1a6b98456… (all of the seat's roots in one cut). By AI agents, Wed Nov 11 2026. No macro, syntax, notation, axiom, sorry.
-/
import Derived.Test.YtlkocmcfefnolaaChecked
import GoSem.Claim
import GoSem.ClaimJoined
import GoSem.ClaimMapViews
import Derived.JoinedTies
import Derived.KernelRfl
namespace Go.Proofs.Ytlkocmcfefnolaa
/- THE CELL 'sum', in the pinned program and in every row, IS THE sha256 OF THE DUMP (.gsa) THAT YtlkocmcfefnolaaProg.lean LOADS. Nothing in Lean hashes anything: it is a label: what it is worth is what the hold of that sum in a sandbox is worth. -/
noncomputable def Try.pinned : Pinned := { name := "ytlkocmcfefnolaa", sum := "d78ae2e1a6b98456aa6a828d63d5cc70a0b203f6e38548ac602ede303ed4149a", checked := Try.checked }
namespace Rows
def none {H : Type} : Left H := { results := [], args := [] }

/-- 'laws.FnExactRankOf': WHATEVER THE INPUT: true; the input reads as it did. -/
def fnExactRankOfSpec : ChangeSpec := { name := "fnExactRankOf", fn := fun _ => fun
  | [d] => { results := [.lit (.bool true)], args := [d] }
  | _ => none }
def fnExactRankOfRow : OpenClaim := { program := "ytlkocmcfefnolaa", sum := "d78ae2e1a6b98456aa6a828d63d5cc70a0b203f6e38548ac602ede303ed4149a", func := "loop.example/g00861/laws.FnExactRankOf", spec := "fnExactRankOf", apart := false }
def FnExactRankOfSaid : Prop := fnExactRankOfRow.holds Try.pinned (OpenSpec.ofChange fnExactRankOfSpec)

/-- ITS FALSE NEIGHBOUR: 'it returns false'. Refute it at one input. -/
def fnExactRankOfWrong : ChangeSpec := { name := "fnExactRankOf", fn := fun _ => fun
  | [d] => { results := [.lit (.bool false)], args := [d] }
  | _ => none }
def FnExactRankOfWrongFalsely : Prop := fnExactRankOfRow.holds Try.pinned (OpenSpec.ofChange fnExactRankOfWrong)

/-- 'laws.FnExactLatchArrivals': WHATEVER THE INPUT: true; the input reads as it did. -/
def fnExactLatchArrivalsSpec : ChangeSpec := { name := "fnExactLatchArrivals", fn := fun _ => fun
  | [d] => { results := [.lit (.bool true)], args := [d] }
  | _ => none }
def fnExactLatchArrivalsRow : OpenClaim := { program := "ytlkocmcfefnolaa", sum := "d78ae2e1a6b98456aa6a828d63d5cc70a0b203f6e38548ac602ede303ed4149a", func := "loop.example/g00861/laws.FnExactLatchArrivals", spec := "fnExactLatchArrivals", apart := false }
def FnExactLatchArrivalsSaid : Prop := fnExactLatchArrivalsRow.holds Try.pinned (OpenSpec.ofChange fnExactLatchArrivalsSpec)

/-- ITS FALSE NEIGHBOUR: 'it returns false'. Refute it at one input. -/
def fnExactLatchArrivalsWrong : ChangeSpec := { name := "fnExactLatchArrivals", fn := fun _ => fun
  | [d] => { results := [.lit (.bool false)], args := [d] }
  | _ => none }
def FnExactLatchArrivalsWrongFalsely : Prop := fnExactLatchArrivalsRow.holds Try.pinned (OpenSpec.ofChange fnExactLatchArrivalsWrong)

/-- 'laws.FnExactBorrowedTimes': WHATEVER THE INPUT: true; the input reads as it did. -/
def fnExactBorrowedTimesSpec : ChangeSpec := { name := "fnExactBorrowedTimes", fn := fun _ => fun
  | [d] => { results := [.lit (.bool true)], args := [d] }
  | _ => none }
def fnExactBorrowedTimesRow : OpenClaim := { program := "ytlkocmcfefnolaa", sum := "d78ae2e1a6b98456aa6a828d63d5cc70a0b203f6e38548ac602ede303ed4149a", func := "loop.example/g00861/laws.FnExactBorrowedTimes", spec := "fnExactBorrowedTimes", apart := false }
def FnExactBorrowedTimesSaid : Prop := fnExactBorrowedTimesRow.holds Try.pinned (OpenSpec.ofChange fnExactBorrowedTimesSpec)

/-- ITS FALSE NEIGHBOUR: 'it returns false'. Refute it at one input. -/
def fnExactBorrowedTimesWrong : ChangeSpec := { name := "fnExactBorrowedTimes", fn := fun _ => fun
  | [d] => { results := [.lit (.bool false)], args := [d] }
  | _ => none }
def FnExactBorrowedTimesWrongFalsely : Prop := fnExactBorrowedTimesRow.holds Try.pinned (OpenSpec.ofChange fnExactBorrowedTimesWrong)

/-- 'laws.FnExactLatchSlacks': WHATEVER THE INPUT: true; the input reads as it did. -/
def fnExactLatchSlacksSpec : ChangeSpec := { name := "fnExactLatchSlacks", fn := fun _ => fun
  | [d] => { results := [.lit (.bool true)], args := [d] }
  | _ => none }
def fnExactLatchSlacksRow : OpenClaim := { program := "ytlkocmcfefnolaa", sum := "d78ae2e1a6b98456aa6a828d63d5cc70a0b203f6e38548ac602ede303ed4149a", func := "loop.example/g00861/laws.FnExactLatchSlacks", spec := "fnExactLatchSlacks", apart := false }
def FnExactLatchSlacksSaid : Prop := fnExactLatchSlacksRow.holds Try.pinned (OpenSpec.ofChange fnExactLatchSlacksSpec)

/-- ITS FALSE NEIGHBOUR: 'it returns false'. Refute it at one input. -/
def fnExactLatchSlacksWrong : ChangeSpec := { name := "fnExactLatchSlacks", fn := fun _ => fun
  | [d] => { results := [.lit (.bool false)], args := [d] }
  | _ => none }
def FnExactLatchSlacksWrongFalsely : Prop := fnExactLatchSlacksRow.holds Try.pinned (OpenSpec.ofChange fnExactLatchSlacksWrong)

/-- 'laws.FnExactLeastShift': WHATEVER THE INPUT: true; the input reads as it did. -/
def fnExactLeastShiftSpec : ChangeSpec := { name := "fnExactLeastShift", fn := fun _ => fun
  | [d] => { results := [.lit (.bool true)], args := [d] }
  | _ => none }
def fnExactLeastShiftRow : OpenClaim := { program := "ytlkocmcfefnolaa", sum := "d78ae2e1a6b98456aa6a828d63d5cc70a0b203f6e38548ac602ede303ed4149a", func := "loop.example/g00861/laws.FnExactLeastShift", spec := "fnExactLeastShift", unfollowed := true, recurses := true, apart := false }
def FnExactLeastShiftSaid : Prop := fnExactLeastShiftRow.holds Try.pinned (OpenSpec.ofChange fnExactLeastShiftSpec)

/-- ITS FALSE NEIGHBOUR: 'it returns false'. Refute it at one input. -/
def fnExactLeastShiftWrong : ChangeSpec := { name := "fnExactLeastShift", fn := fun _ => fun
  | [d] => { results := [.lit (.bool false)], args := [d] }
  | _ => none }
def FnExactLeastShiftWrongFalsely : Prop := fnExactLeastShiftRow.holds Try.pinned (OpenSpec.ofChange fnExactLeastShiftWrong)

/- THE SECOND FORM. 'bulk': how many values and letters a reading holds, each counted each time it is reached (what is shared counts as often as it is met; a slice's spare places count too). A statement '..UptoSaid' is the law's where the arguments, and the package variables that the reading takes, are together of bulk at most 1048576: NARROWER than '..Said'. Prove '..Said' where nothing that the law and all that it calls make is longer than what came in: it says more and counts as full. Else prove '..UptoSaid'. A law counts once. -/
mutual
def uptoBulk {H : Type} : DataW H → Nat
  | .lit (.string bytes) => bytes.length + 1
  | .lit _ => 1
  | .nil => 1
  | .ptr d => uptoBulk d + 1
  | .slice elems spare => uptoBulkAll elems + uptoBulkAll spare + 1
  | .agg parts => uptoBulkAll parts + 1
  | .iface _ d => uptoBulk d + 1
  | .map entries => uptoBulkEntries entries + 1
  | .held _ => 1
def uptoBulkAll {H : Type} : List (DataW H) → Nat
  | [] => 0
  | d :: r => uptoBulk d + uptoBulkAll r
def uptoBulkEntries {H : Type} : List (Lit × DataW H) → Nat
  | [] => 0
  | x :: r => uptoBulkEntry x + uptoBulkEntries r
def uptoBulkEntry {H : Type} : Lit × DataW H → Nat
  | (.string bytes, d) => bytes.length + uptoBulk d + 1
  | (_, d) => uptoBulk d + 1
 end
def uptoSmall : (H : Type) → List (DataW H) → Bool := fun _ ds => decide (uptoBulkAll ds ≤ 1048576)
def OpenSpec.upto (s : _root_.Go.ChangeSpec) : _root_.Go.OpenSpec := { _root_.Go.OpenSpec.ofChange s with cond := some uptoSmall }

/-- 'laws.FnExactRankOf', WHERE WHAT IT READS IS OF BULK AT MOST 1048576: true; the input reads as it did. -/
def fnExactRankOfUptoRow : OpenClaim := { program := "ytlkocmcfefnolaa", sum := "d78ae2e1a6b98456aa6a828d63d5cc70a0b203f6e38548ac602ede303ed4149a", func := "loop.example/g00861/laws.FnExactRankOf", spec := "fnExactRankOf", apart := false, narrowed := true }
def FnExactRankOfUptoSaid : Prop := fnExactRankOfUptoRow.holds Try.pinned (OpenSpec.upto fnExactRankOfSpec)

/-- 'laws.FnExactLatchArrivals', WHERE WHAT IT READS IS OF BULK AT MOST 1048576: true; the input reads as it did. -/
def fnExactLatchArrivalsUptoRow : OpenClaim := { program := "ytlkocmcfefnolaa", sum := "d78ae2e1a6b98456aa6a828d63d5cc70a0b203f6e38548ac602ede303ed4149a", func := "loop.example/g00861/laws.FnExactLatchArrivals", spec := "fnExactLatchArrivals", apart := false, narrowed := true }
def FnExactLatchArrivalsUptoSaid : Prop := fnExactLatchArrivalsUptoRow.holds Try.pinned (OpenSpec.upto fnExactLatchArrivalsSpec)

/-- 'laws.FnExactBorrowedTimes', WHERE WHAT IT READS IS OF BULK AT MOST 1048576: true; the input reads as it did. -/
def fnExactBorrowedTimesUptoRow : OpenClaim := { program := "ytlkocmcfefnolaa", sum := "d78ae2e1a6b98456aa6a828d63d5cc70a0b203f6e38548ac602ede303ed4149a", func := "loop.example/g00861/laws.FnExactBorrowedTimes", spec := "fnExactBorrowedTimes", apart := false, narrowed := true }
def FnExactBorrowedTimesUptoSaid : Prop := fnExactBorrowedTimesUptoRow.holds Try.pinned (OpenSpec.upto fnExactBorrowedTimesSpec)

/-- 'laws.FnExactLatchSlacks', WHERE WHAT IT READS IS OF BULK AT MOST 1048576: true; the input reads as it did. -/
def fnExactLatchSlacksUptoRow : OpenClaim := { program := "ytlkocmcfefnolaa", sum := "d78ae2e1a6b98456aa6a828d63d5cc70a0b203f6e38548ac602ede303ed4149a", func := "loop.example/g00861/laws.FnExactLatchSlacks", spec := "fnExactLatchSlacks", apart := false, narrowed := true }
def FnExactLatchSlacksUptoSaid : Prop := fnExactLatchSlacksUptoRow.holds Try.pinned (OpenSpec.upto fnExactLatchSlacksSpec)

/-- 'laws.FnExactLeastShift', WHERE WHAT IT READS IS OF BULK AT MOST 1048576: true; the input reads as it did. -/
def fnExactLeastShiftUptoRow : OpenClaim := { program := "ytlkocmcfefnolaa", sum := "d78ae2e1a6b98456aa6a828d63d5cc70a0b203f6e38548ac602ede303ed4149a", func := "loop.example/g00861/laws.FnExactLeastShift", spec := "fnExactLeastShift", unfollowed := true, recurses := true, apart := false, narrowed := true }
def FnExactLeastShiftUptoSaid : Prop := fnExactLeastShiftUptoRow.holds Try.pinned (OpenSpec.upto fnExactLeastShiftSpec)

end Rows
end Go.Proofs.Ytlkocmcfefnolaa
