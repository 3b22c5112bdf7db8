/- THE LAW laws.FnCoupled, for every input: the call returns true, and its arguments read afterwards as they did. By a program of mine (hgen.py). -/
import Derived.Test.YtfkmekkhnmifiaaGreatDoorRows
import Derived.Test.YtfkmekkhnmifiaaGreatDoorCards
import Derived.Test.YtfkmekkhnmifiaaGreatDoorTie
import Derived.ProofKit
import Derived.OpenShut
import Derived.LaidMore
import Derived.Lay
import Derived.SevenTiedAt
import Derived.Test.YtfkmekkhnmifiaaGreatDoorF56
import Derived.Test.YtfkmekkhnmifiaaGreatDoorA3

namespace Go.Proofs.YtfkmekkhnmifiaaGreatDoor
open Go.ChangeShapes Go.WideShapes Go.ChangeAt Go.RowKit
open Go.Fw
theorem own1 : ownKnob Tryz.prog.godebug = none := by kernel_rfl
theorem laidOut1 : laidOutB Tryz.prog = true := by kernel_rfl
theorem op5 : Opens Tryz.prog 5 (gt_IntK (kd := .u8)) rng8 := qwa Tryz.underlying5 (by kernel_rfl)
theorem op22 : Opens Tryz.prog 22 (@instList (IntK .u8) (gt_IntK (kd := .u8))) (rngL rng8) := qta Tryz.underlying22 (by kernel_rfl) op5
set_option maxRecDepth 100000 in
theorem lawCalls {H : Type} {enc : TypeId × Value → H} {W : World} {base : Nat} {args : Array Value} {ds gs : List (DataW H)} {before : List MemPlace}
  (hval : ∀ (j : Nat) t v, Tryz.f5.params[j]? = some t → args[j]? = some v → Value.okWide Tryz.prog W .any base t v) (hW : DataW.Whole enc Tryz.prog Tryz.f5.params.toList Rows.fnCoupledSpec.vars false W args.toList ds gs before) (fresh handsOn again : Bool) :
  Calls Tryz.prog 5 args W fun e W' => ∃ v, e = .returned v ∧ Rows.fnCoupledSpec.post enc Tryz.prog Tryz.f5 false fresh handsOn again W args v W' := by
 have hW' := hW
 obtain ⟨p, q, hA0, hV, rfl, hfz, hnd⟩ := hW
 have hA : DataW.TrodAll enc Tryz.prog W 0 (fun _ => true) true Tryz.f5.params.toList args.toList ds p := hA0
 rw [Tryz.params5] at hA hval
 obtain ⟨v0, d0, rfl, rfl, h0⟩ := trodAll_one hA
 obtain ⟨rfl, rfl⟩ := trodVars_none hV
 obtain ⟨x0, cs0, rfl, hR0, hx0⟩ := qs6 (A := (@instList (IntK .u8) (gt_IntK (kd := .u8)))) op22 rfl Tryz.underlying22 (hval 0 22 v0 rfl rfl) h0
 obtain ⟨n, hn⟩ := (qrd hx0).at
 have hc := qoE hR0  hn
 refine Calls.mono hc ?_
 rintro e W' ⟨v, rfl, hb, us, rfl, hvs⟩
 refine ⟨_, rfl, ?_⟩
 rw [qwB hvs]
 exact quK laidOut1 (by kernel_rfl) rfl Tryz.underlying4 rfl rfl rfl rfl (by simpa using hW') hb
set_option maxRecDepth 100000 in
theorem lifted (fresh handsOn again : Bool) (os : Os) (started : os.Started) (H : Type) (enc : TypeId × Value → H) :
  ReturnsInHanded {} Tryz.checked os 5 .any (fun w args => (Rows.fnCoupledSpec.pre enc Tryz.prog Tryz.f5 Rows.fnCoupledRow.domain false w args ∧ laidMetH Tryz.prog Rows.fnCoupledRow.laid w) ∧ sizedMet enc Tryz.prog Tryz.f5 (OpenSpec.ofChange Rows.fnCoupledSpec) false w args)
   (Rows.fnCoupledSpec.post enc Tryz.prog Tryz.f5 false fresh handsOn again) := by
 refine returnsInHanded_of_change_and (C := Tryz.checked) (X := fun w _ => laidMetH Tryz.prog Rows.fnCoupledRow.laid w) (fun _ _ _ hh h => h.of_heap hh) own1 started (by kernel_rfl) Tryz.func5
  (ChangeSpec.witness_shaped (enc := enc) (C := Tryz.checked) (os := os) (X := fun w _ => laidMetH Tryz.prog Rows.fnCoupledRow.laid w) false (World.laidAll Tryz.prog os Rows.fnCoupledRow.laid) #[.slice none 0 0] 8 (World.laidAll_os _ _ _)
   (World.shaped_of_ZipB (by kernel_rfl) (by kernel_rfl)) (by kernel_rfl) (by kernel_rfl) (by kernel_rfl)
   (by rw [MakeChecks.laidMetH_plain _ _ _ (by kernel_rfl)]; exact laidMet_laidAll _ (by kernel_rfl) (by kernel_rfl))) ?_
 intro W base args ds gs before hval0 hW hc _ hL _
 exact lawCalls hval0 hW _ _ _
theorem ja : ((Rows.fnCoupledRow.inPlace == Tryz.checked.prog.inPlace 5) && ((Rows.fnCoupledRow.unfollowed == Tryz.checked.prog.unfollowed 5) && ((Rows.fnCoupledRow.recurses == Tryz.checked.prog.recurses 5) && (Rows.fnCoupledRow.named == Tryz.checked.prog.varsNamed 5)))) = true := by kernel_rfl
theorem jb : (Tryz.checked.prog.mayEnter && (Tryz.checked.prog.stopsHeard && ((Rows.fnCoupledRow.lifted == Tryz.checked.prog.liftsFinal) && ((Tryz.checked.prog.make == some Rows.fnCoupledRow.make) && ((Rows.fnCoupledRow.plainKeys == Tryz.checked.prog.plainKeys) && (mapsRowed Tryz.checked.prog && laidOutB Tryz.checked.prog)))))) = true := by kernel_rfl
theorem jc : (namedTie Tryz.checked.prog Rows.fnCoupledRow.named Rows.fnCoupledSpec.vars && (Rows.fnCoupledRow.wf (OpenSpec.ofChange Rows.fnCoupledSpec) && (Rows.fnCoupledRow.pinned == Rows.fnCoupledRow.pinnedBy))) = true := by kernel_rfl
theorem andT {a b : Bool} (h : (a && b) = true) : a = true ∧ b = true := by simpa using h
theorem closed : joinedFacts Tryz.checked.prog 5 Tryz.f5 Rows.fnCoupledSpec Rows.fnCoupledRow = true := by
 obtain ⟨j0, h⟩ := andT ja
 obtain ⟨j1, h⟩ := andT h
 obtain ⟨j2, j3⟩ := andT h
 obtain ⟨j4, h⟩ := andT jb
 obtain ⟨j5, h⟩ := andT h
 obtain ⟨j6, h⟩ := andT h
 obtain ⟨j7, h⟩ := andT h
 obtain ⟨j8, h⟩ := andT h
 obtain ⟨j9, j10⟩ := andT h
 obtain ⟨j11, h⟩ := andT jc
 obtain ⟨j12, j13⟩ := andT h
 unfold joinedFacts
 rw [j0, j1, j2, j3, j4, j5, j6, j7, j8, j9, j10, j11, j12, j13]
 kernel_rfl
theorem named1 : Tryz.checked.prog.funcNamed Rows.fnCoupledRow.func = some 5 := by kernel_rfl
theorem instance1 : Tryz.f5.isInstance Tryz.checked.prog Rows.fnCoupledRow.origin Rows.fnCoupledRow.targs := of_decide_eq_true (by kernel_rfl)
theorem wrapper1 : Tryz.f5.isWrapper Tryz.checked.prog Rows.fnCoupledRow.wrapper Rows.fnCoupledRow.mainSum := by
 unfold Func.isWrapper
 first | (rw [if_pos (by decide +kernel)]; kernel_rfl) | (rw [if_neg (by decide +kernel)]; exact ⟨rfl, rfl⟩)
theorem said_holds : Rows.FnCoupledSaid :=
 OpenClaim.holds_of_wide 5 Tryz.f5 rfl rfl rfl rfl rfl rfl rfl ⟨rfl, rfl, rfl, rfl, rfl⟩ rfl rfl rfl rfl rfl named1 Tryz.func5 closed instance1 wrapper1
  (fun os started H enc _ => lifted _ _ _ os started H enc)
theorem goesNone {P : Program} (h : P.funcs.any Func.goes = false) {st : Start} (hs : st = .entering) (nm : String) : P.goesAt st nm = false := by
 subst hs
 have hf : ∀ f, P.goes f = false := fun f => by
  unfold Program.goes
  rw [h, Bool.and_false, Bool.or_false, List.any_eq_false]
  intro g _
  cases hq : P.funcs[g]? with
  | none => simp
  | some fn =>
   obtain ⟨hi, he⟩ := Array.getElem?_eq_some_iff.1 hq
   have := Array.any_eq_false.1 h g hi
   rw [he] at this
   simpa using this
 unfold Program.goesAt Program.goesFrom
 cases P.funcNamed nm with
 | none => rfl
 | some f => simp [hf f]
theorem kg0 : Tryz.checked.prog.funcs.any Func.goes = false := by kernel_rfl
theorem kg : false = Rows.fnCoupledRow.goesBy Tryz.checked.prog := (goesNone kg0 rfl _).symm
theorem kw : Rows.fnCoupledRow.wfByText (OpenSpec.ofChange Rows.fnCoupledSpec) = true := by kernel_rfl
theorem km : Tryz.checked.prog.mainIs = some (true, "4cc723499ea8f8937e6d7485894a85b5ac2957e55887174cf0d5ee176c97f8ab".toList) := by kernel_rfl
theorem kl : false = Tryz.checked.prog.looks [] := by kernel_rfl
theorem kn : Tryz.prog.funcNamed "loop.example/g00861/laws.FnCoupled" = some 5 := by kernel_rfl
theorem ka : ([22].all fun u => !Tryz.prog.wantsStandIn u) = true := by kernel_rfl
theorem card_holds : Rows.FnCoupledCardSaid :=
 Claim7.holds_tied_plain_at .later [] [.data, .pinned] true (true, "4cc723499ea8f8937e6d7485894a85b5ac2957e55887174cf0d5ee176c97f8ab") false said_holds (fun _ h => by cases h) kw (fun _ h => by cases h) fnCoupled_row_tie rfl ⟨rfl, rfl⟩ km rfl
  (fun f fn hf hfn => by
   obtain rfl : f = 5 := Option.some.inj (kn.symm.trans hf) |>.symm
   obtain rfl : fn = Tryz.f5 := (Option.some.inj (Tryz.func5.symm.trans hfn)).symm
   exact ⟨kl, fun j t ht => by
    rw [Tryz.params5] at ht
    have hm : t ∈ [22] := by simpa using Array.mem_of_getElem? ht
    exact (show Tryz.prog.wantsStandIn t = false by simpa using List.all_eq_true.1 ka t hm)⟩)
  kg
end Go.Proofs.YtfkmekkhnmifiaaGreatDoor
