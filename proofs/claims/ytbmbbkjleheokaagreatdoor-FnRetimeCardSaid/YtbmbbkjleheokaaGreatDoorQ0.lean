/- Facts. -/
import Derived.Test.YtbmbbkjleheokaaGreatDoorRows
import Derived.Test.YtbmbbkjleheokaaGreatDoorCards
import Derived.Test.YtbmbbkjleheokaaGreatDoorTie
import Derived.ProofKit
import Derived.OpenShut
import Derived.LaidMore
import Derived.Lay
import Derived.SevenTiedAt
namespace Go.Proofs.YtbmbbkjleheokaaGreatDoor
open Go.ChangeShapes Go.WideShapes Go.ChangeAt Go.RowKit
theorem own1 : ownKnob Tryz.prog.godebug = none := by kernel_rfl
theorem lo : laidOutB Tryz.prog = true := by kernel_rfl
theorem ja : ((Rows.fnRetimeRow.inPlace == Tryz.checked.prog.inPlace 8) && ((Rows.fnRetimeRow.unfollowed == Tryz.checked.prog.unfollowed 8) && ((Rows.fnRetimeRow.recurses == Tryz.checked.prog.recurses 8) && (Rows.fnRetimeRow.named == Tryz.checked.prog.varsNamed 8)))) = true := by kernel_rfl
theorem jb : (Tryz.checked.prog.mayEnter && (Tryz.checked.prog.stopsHeard && ((Rows.fnRetimeRow.lifted == Tryz.checked.prog.liftsFinal) && ((Tryz.checked.prog.make == some Rows.fnRetimeRow.make) && ((Rows.fnRetimeRow.plainKeys == Tryz.checked.prog.plainKeys) && (mapsRowed Tryz.checked.prog && laidOutB Tryz.checked.prog)))))) = true := by kernel_rfl
theorem jc : (namedTie Tryz.checked.prog Rows.fnRetimeRow.named Rows.fnRetimeSpec.vars && (Rows.fnRetimeRow.wf (OpenSpec.ofChange Rows.fnRetimeSpec) && (Rows.fnRetimeRow.pinned == Rows.fnRetimeRow.pinnedBy))) = true := by kernel_rfl
theorem andT {a b : Bool} (h : (a && b) = true) : a = true ∧ b = true := by simpa using h
theorem closed : joinedFacts Tryz.checked.prog 8 Tryz.f8 Rows.fnRetimeSpec Rows.fnRetimeRow = true := by
 obtain ⟨j0, h⟩ := andT ja
 obtain ⟨j1, h⟩ := andT h
 obtain ⟨j2, j3⟩ := andT h
 obtain ⟨j4, h⟩ := andT jb
 obtain ⟨j5, h⟩ := andT h
 obtain ⟨j6, h⟩ := andT h
 obtain ⟨j7, h⟩ := andT h
 obtain ⟨j8, h⟩ := andT h
 obtain ⟨j9, j10⟩ := andT h
 obtain ⟨j11, h⟩ := andT jc
 obtain ⟨j12, j13⟩ := andT h
 unfold joinedFacts
 rw [j0, j1, j2, j3, j4, j5, j6, j7, j8, j9, j10, j11, j12, j13]
 kernel_rfl
theorem nd : Tryz.checked.prog.funcNamed Rows.fnRetimeRow.func = some 8 := by kernel_rfl
theorem i1 : Tryz.f8.isInstance Tryz.checked.prog Rows.fnRetimeRow.origin Rows.fnRetimeRow.targs := of_decide_eq_true (by kernel_rfl)
theorem wr : Tryz.f8.isWrapper Tryz.checked.prog Rows.fnRetimeRow.wrapper Rows.fnRetimeRow.mainSum := by
 unfold Func.isWrapper
 first | (rw [if_pos (by decide +kernel)]; kernel_rfl) | (rw [if_neg (by decide +kernel)]; exact ⟨rfl, rfl⟩)
theorem gn {P : Program} (h : P.funcs.any Func.goes = false) {st : Start} (hs : st = .entering) (nm : String) : P.goesAt st nm = false := by
 subst hs
 have hf : ∀ f, P.goes f = false := fun f => by
  unfold Program.goes
  rw [h, Bool.and_false, Bool.or_false, List.any_eq_false]
  intro g _
  cases hq : P.funcs[g]? with
  | none => simp
  | some fn =>
   obtain ⟨hi, he⟩ := Array.getElem?_eq_some_iff.1 hq
   have := Array.any_eq_false.1 h g hi
   rw [he] at this
   simpa using this
 unfold Program.goesAt Program.goesFrom
 cases P.funcNamed nm with
 | none => rfl
 | some f => simp [hf f]
theorem kg0 : Tryz.checked.prog.funcs.any Func.goes = false := by kernel_rfl
theorem kg : false = Rows.fnRetimeRow.goesBy Tryz.checked.prog := (gn kg0 rfl _).symm
theorem kw : Rows.fnRetimeRow.wfByText (OpenSpec.ofChange Rows.fnRetimeSpec) = true := by kernel_rfl
theorem km : Tryz.checked.prog.mainIs = some (true, "3930ccb3b115761aeb5244a1e54ad2a3d672ec572ddba045e4390c27d4f60107".toList) := by kernel_rfl
theorem kl : false = Tryz.checked.prog.looks [] := by kernel_rfl
theorem kn : Tryz.prog.funcNamed "loop.example/g00861/laws.FnRetime" = some 8 := by kernel_rfl
theorem ka : ([22].all fun u => !Tryz.prog.wantsStandIn u) = true := by kernel_rfl
end Go.Proofs.YtbmbbkjleheokaaGreatDoor
