/- THE LAW laws.FnWorstPaths, for every input: the call returns true, and its arguments read afterwards as they did. By a program of mine (hgen.py). -/
import Derived.Test.YtklmnhcgjnglhaaGreatDoorRows
import Derived.Test.YtklmnhcgjnglhaaGreatDoorCards
import Derived.Test.YtklmnhcgjnglhaaGreatDoorTie
import Derived.ProofKit
import Derived.OpenShut
import Derived.LaidMore
import Derived.Lay
import Derived.SevenTiedAt
import Derived.Test.YtklmnhcgjnglhaaGreatDoorF58
import Derived.Test.YtklmnhcgjnglhaaGreatDoorB2

namespace Go.Proofs.YtklmnhcgjnglhaaGreatDoor
open Go.ChangeShapes Go.WideShapes Go.ChangeAt Go.RowKit
open Go.Fw
theorem qdR : ownKnob Tryz.prog.godebug = none := by kernel_rfl
theorem U0 : laidOutB Tryz.prog = true := by kernel_rfl
theorem qd5 : EC Tryz.prog 5 (FW (kd := .u8)) WH := V1 Tryz.underlying5 (by kernel_rfl)
theorem qdQ : EC Tryz.prog 22 (@bw (gW .u8) (FW (kd := .u8))) (qbc WH) := VU Tryz.underlying22 (by kernel_rfl) qd5
set_option maxRecDepth 100000 in
theorem U1 {H : Type} {enc : TypeId × Value → H} {W : World} {base : Nat} {args : Array Value} {ds gs : List (DataW H)} {before : List MemPlace}
  (hval : ∀ (j : Nat) t v, Tryz.f3.params[j]? = some t → args[j]? = some v → Value.okWide Tryz.prog W .any base t v) (hW : DataW.Whole enc Tryz.prog Tryz.f3.params.toList Rows.fnWorstPathsSpec.vars false W args.toList ds gs before) (nu handsOn again : Bool) :
  Calls Tryz.prog 3 args W fun e W' => ∃ v, e = .returned v ∧ Rows.fnWorstPathsSpec.post enc Tryz.prog Tryz.f3 false nu handsOn again W args v W' := by
 have hW' := hW
 obtain ⟨p, q, hA0, hV, rfl, hfz, hnd⟩ := hW
 have hA : DataW.TrodAll enc Tryz.prog W 0 (fun _ => true) true Tryz.f3.params.toList args.toList ds p := hA0
 rw [Tryz.params3] at hA hval
 obtain ⟨v0, d0, rfl, rfl, h0⟩ := trodAll_one hA
 obtain ⟨rfl, rfl⟩ := trodVars_none hV
 obtain ⟨x0, cs0, rfl, hR0, hx0⟩ := VT (A := (@bw (gW .u8) (FW (kd := .u8)))) qdQ rfl Tryz.underlying22 (hval 0 22 v0 rfl rfl) h0
 obtain ⟨n, hn⟩ := (HW hx0).at
 have hc := BS hR0  hn
 refine Calls.mono hc ?_
 rintro e W' ⟨v, rfl, hb, us, rfl, hvs⟩
 refine ⟨_, rfl, ?_⟩
 rw [Z6 hvs]
 exact H0 U0 (by kernel_rfl) rfl Tryz.underlying4 rfl rfl rfl rfl (by simpa using hW') hb
set_option maxRecDepth 100000 in
theorem lifted (nu handsOn again : Bool) (os : Os) (started : os.Started) (H : Type) (enc : TypeId × Value → H) :
  ReturnsInHanded {} Tryz.checked os 3 .any (fun w args => (Rows.fnWorstPathsSpec.pre enc Tryz.prog Tryz.f3 Rows.fnWorstPathsRow.domain false w args ∧ laidMetH Tryz.prog Rows.fnWorstPathsRow.laid w) ∧ sizedMet enc Tryz.prog Tryz.f3 (OpenSpec.ofChange Rows.fnWorstPathsSpec) false w args)
   (Rows.fnWorstPathsSpec.post enc Tryz.prog Tryz.f3 false nu handsOn again) := by
 refine returnsInHanded_of_change_and (C := Tryz.checked) (X := fun w _ => laidMetH Tryz.prog Rows.fnWorstPathsRow.laid w) (fun _ _ _ hh h => h.of_heap hh) qdR started (by kernel_rfl) Tryz.func3
  (ChangeSpec.witness_shaped (enc := enc) (C := Tryz.checked) (os := os) (X := fun w _ => laidMetH Tryz.prog Rows.fnWorstPathsRow.laid w) false (World.laidAll Tryz.prog os Rows.fnWorstPathsRow.laid) #[.slice none 0 0] 8 (World.laidAll_os _ _ _)
   (World.shaped_of_ZipB (by kernel_rfl) (by kernel_rfl)) (by kernel_rfl) (by kernel_rfl) (by kernel_rfl)
   (by rw [MakeChecks.laidMetH_plain _ _ _ (by kernel_rfl)]; exact laidMet_laidAll _ (by kernel_rfl) (by kernel_rfl))) ?_
 intro W base args ds gs before hval0 hW hc _ hL _
 exact U1 hval0 hW _ _ _
theorem ja : ((Rows.fnWorstPathsRow.inPlace == Tryz.checked.prog.inPlace 3) && ((Rows.fnWorstPathsRow.unfollowed == Tryz.checked.prog.unfollowed 3) && ((Rows.fnWorstPathsRow.recurses == Tryz.checked.prog.recurses 3) && (Rows.fnWorstPathsRow.named == Tryz.checked.prog.varsNamed 3)))) = true := by kernel_rfl
theorem jb : (Tryz.checked.prog.mayEnter && (Tryz.checked.prog.stopsHeard && ((Rows.fnWorstPathsRow.lifted == Tryz.checked.prog.liftsFinal) && ((Tryz.checked.prog.make == some Rows.fnWorstPathsRow.make) && ((Rows.fnWorstPathsRow.plainKeys == Tryz.checked.prog.plainKeys) && (mapsRowed Tryz.checked.prog && laidOutB Tryz.checked.prog)))))) = true := by kernel_rfl
theorem jc : (namedTie Tryz.checked.prog Rows.fnWorstPathsRow.named Rows.fnWorstPathsSpec.vars && (Rows.fnWorstPathsRow.wf (OpenSpec.ofChange Rows.fnWorstPathsSpec) && (Rows.fnWorstPathsRow.pinned == Rows.fnWorstPathsRow.pinnedBy))) = true := by kernel_rfl
theorem MH {a b : Bool} (h : (a && b) = true) : a = true ∧ b = true := by simpa using h
theorem qcb : joinedFacts Tryz.checked.prog 3 Tryz.f3 Rows.fnWorstPathsSpec Rows.fnWorstPathsRow = true := by
 obtain ⟨j0, h⟩ := MH ja
 obtain ⟨j1, h⟩ := MH h
 obtain ⟨j2, j3⟩ := MH h
 obtain ⟨j4, h⟩ := MH jb
 obtain ⟨j5, h⟩ := MH h
 obtain ⟨j6, h⟩ := MH h
 obtain ⟨j7, h⟩ := MH h
 obtain ⟨j8, h⟩ := MH h
 obtain ⟨j9, j10⟩ := MH h
 obtain ⟨j11, h⟩ := MH jc
 obtain ⟨j12, j13⟩ := MH h
 unfold joinedFacts
 rw [j0, j1, j2, j3, j4, j5, j6, j7, j8, j9, j10, j11, j12, j13]
 kernel_rfl
theorem qcy : Tryz.checked.prog.funcNamed Rows.fnWorstPathsRow.func = some 3 := by kernel_rfl
theorem G5 : Tryz.f3.isInstance Tryz.checked.prog Rows.fnWorstPathsRow.origin Rows.fnWorstPathsRow.targs := of_decide_eq_true (by kernel_rfl)
theorem qac : Tryz.f3.isWrapper Tryz.checked.prog Rows.fnWorstPathsRow.wrapper Rows.fnWorstPathsRow.mainSum := by
 unfold Func.isWrapper
 first | (rw [if_pos (by decide +kernel)]; kernel_rfl) | (rw [if_neg (by decide +kernel)]; exact ⟨rfl, rfl⟩)
theorem said_holds : Rows.FnWorstPathsSaid :=
 OpenClaim.holds_of_wide 3 Tryz.f3 rfl rfl rfl rfl rfl rfl rfl ⟨rfl, rfl, rfl, rfl, rfl⟩ rfl rfl rfl rfl rfl qcy Tryz.func3 qcb G5 qac
  (fun os started H enc _ => lifted _ _ _ os started H enc)
theorem R6 {P : Program} (h : P.funcs.any Func.goes = false) {st : Start} (hs : st = .entering) (nm : String) : P.goesAt st nm = false := by
 subst hs
 have hf : ∀ f, P.goes f = false := fun f => by
  unfold Program.goes
  rw [h, Bool.and_false, Bool.or_false, List.any_eq_false]
  intro g _
  cases hq : P.funcs[g]? with
  | none => simp
  | some fn =>
   obtain ⟨hi, he⟩ := Array.getElem?_eq_some_iff.1 hq
   have := Array.any_eq_false.1 h g hi
   rw [he] at this
   simpa using this
 unfold Program.goesAt Program.goesFrom
 cases P.funcNamed nm with
 | none => rfl
 | some f => simp [hf f]
theorem qd3 : Tryz.checked.prog.funcs.any Func.goes = false := by kernel_rfl
theorem kg : false = Rows.fnWorstPathsRow.goesBy Tryz.checked.prog := (R6 qd3 rfl _).symm
theorem kw : Rows.fnWorstPathsRow.wfByText (OpenSpec.ofChange Rows.fnWorstPathsSpec) = true := by kernel_rfl
theorem km : Tryz.checked.prog.mainIs = some (true, "8e153a43415dca2fdf98e6dca50d539c54ce1f961f7883b1d79efcd1188168c3".toList) := by kernel_rfl
theorem kl : false = Tryz.checked.prog.looks [] := by kernel_rfl
theorem kn : Tryz.prog.funcNamed "loop.example/g00861/laws.FnWorstPaths" = some 3 := by kernel_rfl
theorem ka : ([22].all fun u => !Tryz.prog.wantsStandIn u) = true := by kernel_rfl
theorem card_holds : Rows.FnWorstPathsCardSaid :=
 Claim7.holds_tied_plain_at .later [] [.data, .pinned] true (true, "8e153a43415dca2fdf98e6dca50d539c54ce1f961f7883b1d79efcd1188168c3") false said_holds (fun _ h => by cases h) kw (fun _ h => by cases h) fnWorstPaths_row_tie rfl ⟨rfl, rfl⟩ km rfl
  (fun f fn hf hfn => by
   obtain rfl : f = 3 := Option.some.inj (kn.symm.trans hf) |>.symm
   obtain rfl : fn = Tryz.f3 := (Option.some.inj (Tryz.func3.symm.trans hfn)).symm
   exact ⟨kl, fun j t ht => by
    rw [Tryz.params3] at ht
    have hm : t ∈ [22] := by simpa using Array.mem_of_getElem? ht
    exact (show Tryz.prog.wantsStandIn t = false by simpa using List.all_eq_true.1 ka t hm)⟩)
  kg
end Go.Proofs.YtklmnhcgjnglhaaGreatDoor
