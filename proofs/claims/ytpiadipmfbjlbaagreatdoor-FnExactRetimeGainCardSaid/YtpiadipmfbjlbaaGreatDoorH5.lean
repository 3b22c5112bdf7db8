/- THE LAW laws.FnExactRetimeGain, for every input: the call returns true, and its arguments read afterwards as they did. By a program of mine (hgen.py). -/
import Derived.Test.YtpiadipmfbjlbaaGreatDoorRows
import Derived.Test.YtpiadipmfbjlbaaGreatDoorCards
import Derived.Test.YtpiadipmfbjlbaaGreatDoorTie
import Derived.ProofKit
import Derived.OpenShut
import Derived.LaidMore
import Derived.Lay
import Derived.SevenTiedAt
import Derived.Test.YtpiadipmfbjlbaaGreatDoorY2
import Derived.Test.YtpiadipmfbjlbaaGreatDoorFw34

namespace Go.Proofs.YtpiadipmfbjlbaaGreatDoor
open Go.ChangeShapes Go.WideShapes Go.ChangeAt Go.RowKit
open Go.Fw
theorem own1 : ownKnob Tryz.prog.godebug = none := by kernel_rfl
theorem laidOut1 : laidOutB Tryz.prog = true := by kernel_rfl
theorem op9 : Opens Tryz.prog 9 instStr rngS := qwK Tryz.underlying9 (by kernel_rfl)
theorem op2 : Opens Tryz.prog 2 instInt rngI := qxp Tryz.underlying2 (by kernel_rfl)
theorem op4 : Opens Tryz.prog 4 instBool rngB := qv4 Tryz.underlying4 (by kernel_rfl)
theorem op342 : Opens Tryz.prog 342 gt_TPin qm9 :=
 Opens.imp (qbR (hz := rfl) (f := fun x : qaA => (x.Bd, x.Bx, x.Bv, x.Bs)) (fun p => ⟨p.1, p.2.1, p.2.2.1, p.2.2.2⟩) (fun _ => rfl) Tryz.underlying342 (by kernel_rfl) (qI rfl op9 (qI rfl op2 (qI rfl op2 (qcT rfl op4))))) (fun _ h => h)
theorem op226 : Opens Tryz.prog 226 (@instList qaA gt_TPin) (rngL qm9) := qel Tryz.underlying226 (by kernel_rfl) op342
theorem op35 : Opens Tryz.prog 35 (@instList Int instInt) (rngL rngI) := qel Tryz.underlying35 (by kernel_rfl) op2
theorem op390 : Opens Tryz.prog 390 gt_TTable qit :=
 Opens.imp (qbR (hz := rfl) (f := fun x : qy => (x.Bo, x.Bk, x.Bj)) (fun p => ⟨p.1, p.2.1, p.2.2⟩) (fun _ => rfl) Tryz.underlying390 (by kernel_rfl) (qI rfl op35 (qI rfl op35 (qcT rfl op35)))) (fun _ h => h)
theorem op344 : Opens Tryz.prog 344 (@instList qy gt_TTable) (rngL qit) := qel Tryz.underlying344 (by kernel_rfl) op390
theorem op346 : Opens Tryz.prog 346 gt_TArc qmU :=
 Opens.imp (qbR (hz := rfl) (f := fun x : qY => (x.Bi, x.Bl, x.To, x.Bp, x.Br, x.Be)) (fun p => ⟨p.1, p.2.1, p.2.2.1, p.2.2.2.1, p.2.2.2.2.1, p.2.2.2.2.2⟩) (fun _ => rfl) Tryz.underlying346 (by kernel_rfl) (qI rfl op2 (qI rfl op2 (qI rfl op2 (qI rfl op2 (qI rfl op344 (qcT rfl op344))))))) (fun _ h => h)
theorem op227 : Opens Tryz.prog 227 (@instList qY gt_TArc) (rngL qmU) := qel Tryz.underlying227 (by kernel_rfl) op346
theorem op229 : Opens Tryz.prog 229 gt_TCell qlk :=
 Opens.imp (qbR (hz := rfl) (f := fun x : qC => (x.Bd, x.Bi, x.Bh, x.Bc, x.Bt, x.Cc, x.Bw)) (fun p => ⟨p.1, p.2.1, p.2.2.1, p.2.2.2.1, p.2.2.2.2.1, p.2.2.2.2.2.1, p.2.2.2.2.2.2⟩) (fun _ => rfl) Tryz.underlying229 (by kernel_rfl) (qI rfl op9 (qI rfl op2 (qI rfl op226 (qI rfl op227 (qI rfl op35 (qI rfl op2 (qcT rfl op2)))))))) (fun _ h => h)
theorem op22 : Opens Tryz.prog 22 (@instList qC gt_TCell) (rngL qlk) := qel Tryz.underlying22 (by kernel_rfl) op229
theorem op24 : Opens Tryz.prog 24 gt_TLibrary qlS :=
 Opens.imp (qbR (hz := rfl) (f := fun x : qn => x.Ay) (fun p => ⟨p⟩) (fun _ => rfl) Tryz.underlying24 (by kernel_rfl) (qcT rfl op22)) (fun _ h => h)
theorem op232 : Opens Tryz.prog 232 gt_TInstance qga :=
 Opens.imp (qbR (hz := rfl) (f := fun x : qt => (x.Bd, x.Bu, x.As)) (fun p => ⟨p.1, p.2.1, p.2.2⟩) (fun _ => rfl) Tryz.underlying232 (by kernel_rfl) (qI rfl op9 (qI rfl op2 (qcT rfl op35)))) (fun _ h => h)
theorem op25 : Opens Tryz.prog 25 (@instList qt gt_TInstance) (rngL qga) := qel Tryz.underlying25 (by kernel_rfl) op232
theorem op26 : Opens Tryz.prog 26 (@instList ByteArray instStr) (rngL rngS) := qel Tryz.underlying26 (by kernel_rfl) op9
theorem op235 : Opens Tryz.prog 235 gt_TPort qlp :=
 Opens.imp (qbR (hz := rfl) (f := fun x : qas => (x.Bd, x.Bx, x.Ca)) (fun p => ⟨p.1, p.2.1, p.2.2⟩) (fun _ => rfl) Tryz.underlying235 (by kernel_rfl) (qI rfl op9 (qI rfl op2 (qcT rfl op2)))) (fun _ h => h)
theorem op27 : Opens Tryz.prog 27 (@instList qas gt_TPort) (rngL qlp) := qel Tryz.underlying27 (by kernel_rfl) op235
theorem op29 : Opens Tryz.prog 29 gt_TDesign qm1 :=
 Opens.imp (qbR (hz := rfl) (f := fun x : qd => (x.Ab, x.As, x.Ak)) (fun p => ⟨p.1, p.2.1, p.2.2⟩) (fun _ => rfl) Tryz.underlying29 (by kernel_rfl) (qI rfl op25 (qI rfl op26 (qcT rfl op27)))) (fun _ h => h)
theorem op175 : Opens Tryz.prog 175 gt_TWire qkY :=
 Opens.imp (qbR (hz := rfl) (f := fun x : qZ => (x.Ba, x.Bz, x.Bv, x.Bn)) (fun p => ⟨p.1, p.2.1, p.2.2.1, p.2.2.2⟩) (fun _ => rfl) Tryz.underlying175 (by kernel_rfl) (qI rfl op35 (qI rfl op35 (qI rfl op35 (qcT rfl op35))))) (fun _ h => h)
theorem op30 : Opens Tryz.prog 30 (@instList qZ gt_TWire) (rngL qkY) := qel Tryz.underlying30 (by kernel_rfl) op175
theorem op32 : Opens Tryz.prog 32 gt_TBlock qos :=
 Opens.imp (qbR (hz := rfl) (f := fun x : qf => (x.Au, x.Aa, x.Ah)) (fun p => ⟨p.1, p.2.1, p.2.2⟩) (fun _ => rfl) Tryz.underlying32 (by kernel_rfl) (qI rfl op24 (qI rfl op29 (qcT rfl op30)))) (fun _ h => h)
theorem op34 : Opens Tryz.prog 34 gt_TCorner qmY :=
 Opens.imp (qbR (hz := rfl) (f := fun x : qr => (x.Bd, x.Am, x.Ar, x.Aj, x.Aq)) (fun p => ⟨p.1, p.2.1, p.2.2.1, p.2.2.2.1, p.2.2.2.2⟩) (fun _ => rfl) Tryz.underlying34 (by kernel_rfl) (qI rfl op9 (qI rfl op2 (qI rfl op2 (qI rfl op2 (qcT rfl op2)))))) (fun _ h => h)
theorem op130 : Opens Tryz.prog 130 gt_TSpan qpI :=
 Opens.imp (qbR (hz := rfl) (f := fun x : qe => (x.Az, x.Bf)) (fun p => ⟨p.1, p.2⟩) (fun _ => rfl) Tryz.underlying130 (by kernel_rfl) (qI rfl op2 (qcT rfl op2))) (fun _ h => h)
theorem op132 : Opens Tryz.prog 132 gt_TSource qjk :=
 Opens.imp (qbR (hz := rfl) (f := fun x : qh => (x.Bq, x.Ai, x.Be)) (fun p => ⟨p.1, p.2.1, p.2.2⟩) (fun _ => rfl) Tryz.underlying132 (by kernel_rfl) (qI rfl op2 (qI rfl op130 (qcT rfl op130)))) (fun _ h => h)
theorem op36 : Opens Tryz.prog 36 (@instList qh gt_TSource) (rngL qjk) := qel Tryz.underlying36 (by kernel_rfl) op132
theorem op38 : Opens Tryz.prog 38 gt_TJob qrg :=
 Opens.imp (qbR (hz := rfl) (f := fun x : qaB => (x.Ac, x.Af, x.Av, x.Ap)) (fun p => ⟨p.1, p.2.1, p.2.2.1, p.2.2.2⟩) (fun _ => rfl) Tryz.underlying38 (by kernel_rfl) (qI rfl op32 (qI rfl op34 (qI rfl op35 (qcT rfl op36))))) (fun _ h => h)
set_option maxRecDepth 100000 in
theorem lawCalls {H : Type} {enc : TypeId × Value → H} {W : World} {base : Nat} {args : Array Value} {ds gs : List (DataW H)} {before : List MemPlace}
  (hval : ∀ (j : Nat) t v, Tryz.f5.params[j]? = some t → args[j]? = some v → Value.okWide Tryz.prog W .any base t v) (hW : DataW.Whole enc Tryz.prog Tryz.f5.params.toList Rows.fnExactRetimeGainSpec.vars false W args.toList ds gs before) (fresh handsOn again : Bool) :
  Calls Tryz.prog 5 args W fun e W' => ∃ v, e = .returned v ∧ Rows.fnExactRetimeGainSpec.post enc Tryz.prog Tryz.f5 false fresh handsOn again W args v W' := by
 have hW' := hW
 obtain ⟨p, q, hA0, hV, rfl, hfz, hnd⟩ := hW
 have hA : DataW.TrodAll enc Tryz.prog W 0 (fun _ => true) true Tryz.f5.params.toList args.toList ds p := hA0
 rw [Tryz.params5] at hA hval
 obtain ⟨v0, v1, v2, d0, d1, d2, q0, q1, q2, rfl, rfl, rfl, h0, h1, h2⟩ := trodAll_three hA
 obtain ⟨rfl, rfl⟩ := trodVars_none hV
 obtain ⟨x0, cs0, rfl, hR0, hx0⟩ := qxc (A := gt_TJob) op38 rfl Tryz.underlying38 (hval 0 38 v0 rfl rfl) h0
 obtain ⟨x1, cs1, rfl, hR1, hx1⟩ := qsG (A := instInt) op2 rfl Tryz.underlying2 (hval 1 2 v1 rfl rfl) h1
 obtain rfl : cs1 = [.int .i64 x1] := hR1
 obtain ⟨x2, cs2, rfl, hR2, hx2⟩ := qsG (A := instInt) op2 rfl Tryz.underlying2 (hval 2 2 v2 rfl rfl) h2
 obtain rfl : cs2 = [.int .i64 x2] := hR2
 obtain ⟨n, hn⟩ := (qny hx0 hx1 hx2).at
 have hc := qly hR0  hn
 refine Calls.mono hc ?_
 rintro e W' ⟨v, rfl, hb, us, rfl, hvs⟩
 refine ⟨_, rfl, ?_⟩
 rw [qxF hvs]
 exact qxs laidOut1 (by kernel_rfl) rfl Tryz.underlying4 rfl rfl rfl rfl (by simpa using hW') hb
set_option maxRecDepth 100000 in
theorem lifted (fresh handsOn again : Bool) (os : Os) (started : os.Started) (H : Type) (enc : TypeId × Value → H) :
  ReturnsInHanded {} Tryz.checked os 5 .any (fun w args => (Rows.fnExactRetimeGainSpec.pre enc Tryz.prog Tryz.f5 Rows.fnExactRetimeGainRow.domain false w args ∧ laidMetH Tryz.prog Rows.fnExactRetimeGainRow.laid w) ∧ sizedMet enc Tryz.prog Tryz.f5 (OpenSpec.ofChange Rows.fnExactRetimeGainSpec) false w args)
   (Rows.fnExactRetimeGainSpec.post enc Tryz.prog Tryz.f5 false fresh handsOn again) := by
 refine returnsInHanded_of_change_and (C := Tryz.checked) (X := fun w _ => laidMetH Tryz.prog Rows.fnExactRetimeGainRow.laid w) (fun _ _ _ hh h => h.of_heap hh) own1 started (by kernel_rfl) Tryz.func5
  (ChangeSpec.witness_shaped (enc := enc) (C := Tryz.checked) (os := os) (X := fun w _ => laidMetH Tryz.prog Rows.fnExactRetimeGainRow.laid w) false (World.laidAll Tryz.prog os Rows.fnExactRetimeGainRow.laid) #[.agg #[.slice none 0 0, .slice none 0 0, .slice none 0 0, .slice none 0 0, .slice none 0 0, .string ByteArray.empty, .int .i64 0, .int .i64 0, .int .i64 0, .int .i64 0, .slice none 0 0, .slice none 0 0], .int .i64 0, .int .i64 0] 8 (World.laidAll_os _ _ _)
   (World.shaped_of_ZipB (by kernel_rfl) (by kernel_rfl)) (by kernel_rfl) (by kernel_rfl) (by kernel_rfl)
   (by rw [MakeChecks.laidMetH_plain _ _ _ (by kernel_rfl)]; exact laidMet_laidAll _ (by kernel_rfl) (by kernel_rfl))) ?_
 intro W base args ds gs before hval0 hW hc _ hL _
 exact lawCalls hval0 hW _ _ _
theorem ja : ((Rows.fnExactRetimeGainRow.inPlace == Tryz.checked.prog.inPlace 5) && ((Rows.fnExactRetimeGainRow.unfollowed == Tryz.checked.prog.unfollowed 5) && ((Rows.fnExactRetimeGainRow.recurses == Tryz.checked.prog.recurses 5) && (Rows.fnExactRetimeGainRow.named == Tryz.checked.prog.varsNamed 5)))) = true := by kernel_rfl
theorem jb : (Tryz.checked.prog.mayEnter && (Tryz.checked.prog.stopsHeard && ((Rows.fnExactRetimeGainRow.lifted == Tryz.checked.prog.liftsFinal) && ((Tryz.checked.prog.make == some Rows.fnExactRetimeGainRow.make) && ((Rows.fnExactRetimeGainRow.plainKeys == Tryz.checked.prog.plainKeys) && (mapsRowed Tryz.checked.prog && laidOutB Tryz.checked.prog)))))) = true := by kernel_rfl
theorem jc : (namedTie Tryz.checked.prog Rows.fnExactRetimeGainRow.named Rows.fnExactRetimeGainSpec.vars && (Rows.fnExactRetimeGainRow.wf (OpenSpec.ofChange Rows.fnExactRetimeGainSpec) && (Rows.fnExactRetimeGainRow.pinned == Rows.fnExactRetimeGainRow.pinnedBy))) = true := by kernel_rfl
theorem andT {a b : Bool} (h : (a && b) = true) : a = true ∧ b = true := by simpa using h
theorem closed : joinedFacts Tryz.checked.prog 5 Tryz.f5 Rows.fnExactRetimeGainSpec Rows.fnExactRetimeGainRow = true := by
 obtain ⟨j0, h⟩ := andT ja
 obtain ⟨j1, h⟩ := andT h
 obtain ⟨j2, j3⟩ := andT h
 obtain ⟨j4, h⟩ := andT jb
 obtain ⟨j5, h⟩ := andT h
 obtain ⟨j6, h⟩ := andT h
 obtain ⟨j7, h⟩ := andT h
 obtain ⟨j8, h⟩ := andT h
 obtain ⟨j9, j10⟩ := andT h
 obtain ⟨j11, h⟩ := andT jc
 obtain ⟨j12, j13⟩ := andT h
 unfold joinedFacts
 rw [j0, j1, j2, j3, j4, j5, j6, j7, j8, j9, j10, j11, j12, j13]
 kernel_rfl
theorem named1 : Tryz.checked.prog.funcNamed Rows.fnExactRetimeGainRow.func = some 5 := by kernel_rfl
theorem instance1 : Tryz.f5.isInstance Tryz.checked.prog Rows.fnExactRetimeGainRow.origin Rows.fnExactRetimeGainRow.targs := of_decide_eq_true (by kernel_rfl)
theorem wrapper1 : Tryz.f5.isWrapper Tryz.checked.prog Rows.fnExactRetimeGainRow.wrapper Rows.fnExactRetimeGainRow.mainSum := by
 unfold Func.isWrapper
 first | (rw [if_pos (by decide +kernel)]; kernel_rfl) | (rw [if_neg (by decide +kernel)]; exact ⟨rfl, rfl⟩)
theorem said_holds : Rows.FnExactRetimeGainSaid :=
 OpenClaim.holds_of_wide 5 Tryz.f5 rfl rfl rfl rfl rfl rfl rfl ⟨rfl, rfl, rfl, rfl, rfl⟩ rfl rfl rfl rfl rfl named1 Tryz.func5 closed instance1 wrapper1
  (fun os started H enc _ => lifted _ _ _ os started H enc)
theorem goesNone {P : Program} (h : P.funcs.any Func.goes = false) {st : Start} (hs : st = .entering) (nm : String) : P.goesAt st nm = false := by
 subst hs
 have hf : ∀ f, P.goes f = false := fun f => by
  unfold Program.goes
  rw [h, Bool.and_false, Bool.or_false, List.any_eq_false]
  intro g _
  cases hq : P.funcs[g]? with
  | none => simp
  | some fn =>
   obtain ⟨hi, he⟩ := Array.getElem?_eq_some_iff.1 hq
   have := Array.any_eq_false.1 h g hi
   rw [he] at this
   simpa using this
 unfold Program.goesAt Program.goesFrom
 cases P.funcNamed nm with
 | none => rfl
 | some f => simp [hf f]
theorem kg0 : Tryz.checked.prog.funcs.any Func.goes = false := by kernel_rfl
theorem kg : false = Rows.fnExactRetimeGainRow.goesBy Tryz.checked.prog := (goesNone kg0 rfl _).symm
theorem kw : Rows.fnExactRetimeGainRow.wfByText (OpenSpec.ofChange Rows.fnExactRetimeGainSpec) = true := by kernel_rfl
theorem km : Tryz.checked.prog.mainIs = some (true, "78b8c9631a87ff6ec4d4fe96ecee0b34fb0cd94936c090e93380139f71475279".toList) := by kernel_rfl
theorem kl : false = Tryz.checked.prog.looks [] := by kernel_rfl
theorem kn : Tryz.prog.funcNamed "loop.example/g00861/laws.FnExactRetimeGain" = some 5 := by kernel_rfl
theorem ka : ([38, 2, 2].all fun u => !Tryz.prog.wantsStandIn u) = true := by kernel_rfl
theorem card_holds : Rows.FnExactRetimeGainCardSaid :=
 Claim7.holds_tied_plain_at .later [] [.data, .pinned] true (true, "78b8c9631a87ff6ec4d4fe96ecee0b34fb0cd94936c090e93380139f71475279") false said_holds (fun _ h => by cases h) kw (fun _ h => by cases h) fnExactRetimeGain_row_tie rfl ⟨rfl, rfl⟩ km rfl
  (fun f fn hf hfn => by
   obtain rfl : f = 5 := Option.some.inj (kn.symm.trans hf) |>.symm
   obtain rfl : fn = Tryz.f5 := (Option.some.inj (Tryz.func5.symm.trans hfn)).symm
   exact ⟨kl, fun j t ht => by
    rw [Tryz.params5] at ht
    have hm : t ∈ [38, 2, 2] := by simpa using Array.mem_of_getElem? ht
    exact (show Tryz.prog.wantsStandIn t = false by simpa using List.all_eq_true.1 ka t hm)⟩)
  kg
end Go.Proofs.YtpiadipmfbjlbaaGreatDoor
