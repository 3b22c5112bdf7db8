/- THE LAW laws.FnRetimedWorst, for every input: the call returns true, and its arguments read afterwards as they did. By a program of mine (hgen.py). -/
import Derived.Test.YtklmnhcgjnglhaaGreatDoorRows
import Derived.Test.YtklmnhcgjnglhaaGreatDoorCards
import Derived.Test.YtklmnhcgjnglhaaGreatDoorTie
import Derived.ProofKit
import Derived.OpenShut
import Derived.LaidMore
import Derived.Lay
import Derived.SevenTiedAt
import Derived.Test.YtklmnhcgjnglhaaGreatDoorF59
import Derived.Test.YtklmnhcgjnglhaaGreatDoorB2

namespace Go.Proofs.YtklmnhcgjnglhaaGreatDoor
open Go.ChangeShapes Go.WideShapes Go.ChangeAt Go.RowKit
open Go.Fw
theorem qeV : ownKnob Tryz.prog.godebug = none := by kernel_rfl
theorem qaw : laidOutB Tryz.prog = true := by kernel_rfl
theorem qe8 : GF Tryz.prog 5 (HX (kd := .u8)) YX := qaJ Tryz.underlying5 (by kernel_rfl)
theorem qeU : GF Tryz.prog 22 (@bD (gW .u8) (HX (kd := .u8))) (qco YX) := YL Tryz.underlying22 (by kernel_rfl) qe8
set_option maxRecDepth 100000 in
theorem qax {H : Type} {enc : TypeId × Value → H} {W : World} {base : Nat} {args : Array Value} {ds gs : List (DataW H)} {before : List MemPlace}
  (hval : ∀ (j : Nat) t v, Tryz.f4.params[j]? = some t → args[j]? = some v → Value.okWide Tryz.prog W .any base t v) (hW : DataW.Whole enc Tryz.prog Tryz.f4.params.toList Rows.fnRetimedWorstSpec.vars false W args.toList ds gs before) (mT handsOn again : Bool) :
  Calls Tryz.prog 4 args W fun e W' => ∃ v, e = .returned v ∧ Rows.fnRetimedWorstSpec.post enc Tryz.prog Tryz.f4 false mT handsOn again W args v W' := by
 have hW' := hW
 obtain ⟨p, q, hA0, hV, rfl, hfz, hnd⟩ := hW
 have hA : DataW.TrodAll enc Tryz.prog W 0 (fun _ => true) true Tryz.f4.params.toList args.toList ds p := hA0
 rw [Tryz.params4] at hA hval
 obtain ⟨v0, d0, rfl, rfl, h0⟩ := trodAll_one hA
 obtain ⟨rfl, rfl⟩ := trodVars_none hV
 obtain ⟨x0, cs0, rfl, hR0, hx0⟩ := YK (A := (@bD (gW .u8) (HX (kd := .u8)))) qeU rfl Tryz.underlying22 (hval 0 22 v0 rfl rfl) h0
 obtain ⟨n, hn⟩ := (HB hx0).at
 have hc := AU hR0  hn
 refine Calls.mono hc ?_
 rintro e W' ⟨v, rfl, hb, us, rfl, hvs⟩
 refine ⟨_, rfl, ?_⟩
 rw [qbg hvs]
 exact Q4 qaw (by kernel_rfl) rfl Tryz.underlying4 rfl rfl rfl rfl (by simpa using hW') hb
set_option maxRecDepth 100000 in
theorem lifted (mT handsOn again : Bool) (os : Os) (started : os.Started) (H : Type) (enc : TypeId × Value → H) :
  ReturnsInHanded {} Tryz.checked os 4 .any (fun w args => (Rows.fnRetimedWorstSpec.pre enc Tryz.prog Tryz.f4 Rows.fnRetimedWorstRow.domain false w args ∧ laidMetH Tryz.prog Rows.fnRetimedWorstRow.laid w) ∧ sizedMet enc Tryz.prog Tryz.f4 (OpenSpec.ofChange Rows.fnRetimedWorstSpec) false w args)
   (Rows.fnRetimedWorstSpec.post enc Tryz.prog Tryz.f4 false mT handsOn again) := by
 refine returnsInHanded_of_change_and (C := Tryz.checked) (X := fun w _ => laidMetH Tryz.prog Rows.fnRetimedWorstRow.laid w) (fun _ _ _ hh h => h.of_heap hh) qeV started (by kernel_rfl) Tryz.func4
  (ChangeSpec.witness_shaped (enc := enc) (C := Tryz.checked) (os := os) (X := fun w _ => laidMetH Tryz.prog Rows.fnRetimedWorstRow.laid w) false (World.laidAll Tryz.prog os Rows.fnRetimedWorstRow.laid) #[.slice none 0 0] 8 (World.laidAll_os _ _ _)
   (World.shaped_of_ZipB (by kernel_rfl) (by kernel_rfl)) (by kernel_rfl) (by kernel_rfl) (by kernel_rfl)
   (by rw [MakeChecks.laidMetH_plain _ _ _ (by kernel_rfl)]; exact laidMet_laidAll _ (by kernel_rfl) (by kernel_rfl))) ?_
 intro W base args ds gs before hval0 hW hc _ hL _
 exact qax hval0 hW _ _ _
theorem ja : ((Rows.fnRetimedWorstRow.inPlace == Tryz.checked.prog.inPlace 4) && ((Rows.fnRetimedWorstRow.unfollowed == Tryz.checked.prog.unfollowed 4) && ((Rows.fnRetimedWorstRow.recurses == Tryz.checked.prog.recurses 4) && (Rows.fnRetimedWorstRow.named == Tryz.checked.prog.varsNamed 4)))) = true := by kernel_rfl
theorem jb : (Tryz.checked.prog.mayEnter && (Tryz.checked.prog.stopsHeard && ((Rows.fnRetimedWorstRow.lifted == Tryz.checked.prog.liftsFinal) && ((Tryz.checked.prog.make == some Rows.fnRetimedWorstRow.make) && ((Rows.fnRetimedWorstRow.plainKeys == Tryz.checked.prog.plainKeys) && (mapsRowed Tryz.checked.prog && laidOutB Tryz.checked.prog)))))) = true := by kernel_rfl
theorem jc : (namedTie Tryz.checked.prog Rows.fnRetimedWorstRow.named Rows.fnRetimedWorstSpec.vars && (Rows.fnRetimedWorstRow.wf (OpenSpec.ofChange Rows.fnRetimedWorstSpec) && (Rows.fnRetimedWorstRow.pinned == Rows.fnRetimedWorstRow.pinnedBy))) = true := by kernel_rfl
theorem OK {a b : Bool} (h : (a && b) = true) : a = true ∧ b = true := by simpa using h
theorem qdf : joinedFacts Tryz.checked.prog 4 Tryz.f4 Rows.fnRetimedWorstSpec Rows.fnRetimedWorstRow = true := by
 obtain ⟨j0, h⟩ := OK ja
 obtain ⟨j1, h⟩ := OK h
 obtain ⟨j2, j3⟩ := OK h
 obtain ⟨j4, h⟩ := OK jb
 obtain ⟨j5, h⟩ := OK h
 obtain ⟨j6, h⟩ := OK h
 obtain ⟨j7, h⟩ := OK h
 obtain ⟨j8, h⟩ := OK h
 obtain ⟨j9, j10⟩ := OK h
 obtain ⟨j11, h⟩ := OK jc
 obtain ⟨j12, j13⟩ := OK h
 unfold joinedFacts
 rw [j0, j1, j2, j3, j4, j5, j6, j7, j8, j9, j10, j11, j12, j13]
 kernel_rfl
theorem qdB : Tryz.checked.prog.funcNamed Rows.fnRetimedWorstRow.func = some 4 := by kernel_rfl
theorem P9 : Tryz.f4.isInstance Tryz.checked.prog Rows.fnRetimedWorstRow.origin Rows.fnRetimedWorstRow.targs := of_decide_eq_true (by kernel_rfl)
theorem qbl : Tryz.f4.isWrapper Tryz.checked.prog Rows.fnRetimedWorstRow.wrapper Rows.fnRetimedWorstRow.mainSum := by
 unfold Func.isWrapper
 first | (rw [if_pos (by decide +kernel)]; kernel_rfl) | (rw [if_neg (by decide +kernel)]; exact ⟨rfl, rfl⟩)
theorem said_holds : Rows.FnRetimedWorstSaid :=
 OpenClaim.holds_of_wide 4 Tryz.f4 rfl rfl rfl rfl rfl rfl rfl ⟨rfl, rfl, rfl, rfl, rfl⟩ rfl rfl rfl rfl rfl qdB Tryz.func4 qdf P9 qbl
  (fun os started H enc _ => lifted _ _ _ os started H enc)
theorem qah {P : Program} (h : P.funcs.any Func.goes = false) {st : Start} (hs : st = .entering) (nm : String) : P.goesAt st nm = false := by
 subst hs
 have hf : ∀ f, P.goes f = false := fun f => by
  unfold Program.goes
  rw [h, Bool.and_false, Bool.or_false, List.any_eq_false]
  intro g _
  cases hq : P.funcs[g]? with
  | none => simp
  | some fn =>
   obtain ⟨hi, he⟩ := Array.getElem?_eq_some_iff.1 hq
   have := Array.any_eq_false.1 h g hi
   rw [he] at this
   simpa using this
 unfold Program.goesAt Program.goesFrom
 cases P.funcNamed nm with
 | none => rfl
 | some f => simp [hf f]
theorem qe6 : Tryz.checked.prog.funcs.any Func.goes = false := by kernel_rfl
theorem kg : false = Rows.fnRetimedWorstRow.goesBy Tryz.checked.prog := (qah qe6 rfl _).symm
theorem kw : Rows.fnRetimedWorstRow.wfByText (OpenSpec.ofChange Rows.fnRetimedWorstSpec) = true := by kernel_rfl
theorem km : Tryz.checked.prog.mainIs = some (true, "8e153a43415dca2fdf98e6dca50d539c54ce1f961f7883b1d79efcd1188168c3".toList) := by kernel_rfl
theorem kl : false = Tryz.checked.prog.looks [] := by kernel_rfl
theorem kn : Tryz.prog.funcNamed "loop.example/g00861/laws.FnRetimedWorst" = some 4 := by kernel_rfl
theorem ka : ([22].all fun u => !Tryz.prog.wantsStandIn u) = true := by kernel_rfl
theorem card_holds : Rows.FnRetimedWorstCardSaid :=
 Claim7.holds_tied_plain_at .later [] [.data, .pinned] true (true, "8e153a43415dca2fdf98e6dca50d539c54ce1f961f7883b1d79efcd1188168c3") false said_holds (fun _ h => by cases h) kw (fun _ h => by cases h) fnRetimedWorst_row_tie rfl ⟨rfl, rfl⟩ km rfl
  (fun f fn hf hfn => by
   obtain rfl : f = 4 := Option.some.inj (kn.symm.trans hf) |>.symm
   obtain rfl : fn = Tryz.f4 := (Option.some.inj (Tryz.func4.symm.trans hfn)).symm
   exact ⟨kl, fun j t ht => by
    rw [Tryz.params4] at ht
    have hm : t ∈ [22] := by simpa using Array.mem_of_getElem? ht
    exact (show Tryz.prog.wantsStandIn t = false by simpa using List.all_eq_true.1 ka t hm)⟩)
  kg
end Go.Proofs.YtklmnhcgjnglhaaGreatDoor
