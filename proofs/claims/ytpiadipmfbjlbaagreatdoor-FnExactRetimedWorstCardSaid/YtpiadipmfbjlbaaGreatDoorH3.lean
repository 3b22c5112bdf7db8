/- THE LAW laws.FnExactRetimedWorst, for every input: the call returns true, and its arguments read afterwards as they did. By a program of mine (hgen.py). -/
import Derived.Test.YtpiadipmfbjlbaaGreatDoorRows
import Derived.Test.YtpiadipmfbjlbaaGreatDoorCards
import Derived.Test.YtpiadipmfbjlbaaGreatDoorTie
import Derived.ProofKit
import Derived.OpenShut
import Derived.LaidMore
import Derived.Lay
import Derived.SevenTiedAt
import Derived.Test.YtpiadipmfbjlbaaGreatDoorY1
import Derived.Test.YtpiadipmfbjlbaaGreatDoorFw32

namespace Go.Proofs.YtpiadipmfbjlbaaGreatDoor
open Go.ChangeShapes Go.WideShapes Go.ChangeAt Go.RowKit
open Go.Fw
theorem own1 : ownKnob Tryz.prog.godebug = none := by kernel_rfl
theorem laidOut1 : laidOutB Tryz.prog = true := by kernel_rfl
theorem op9 : Opens Tryz.prog 9 instStr rngS := qyO Tryz.underlying9 (by kernel_rfl)
theorem op2 : Opens Tryz.prog 2 instInt rngI := qyr Tryz.underlying2 (by kernel_rfl)
theorem op4 : Opens Tryz.prog 4 instBool rngB := qxc Tryz.underlying4 (by kernel_rfl)
theorem op342 : Opens Tryz.prog 342 gt_TPin qnJ :=
 Opens.imp (qbY (hz := rfl) (f := fun x : qal => (x.Bd, x.Bx, x.Bu, x.Bt)) (fun p => ⟨p.1, p.2.1, p.2.2.1, p.2.2.2⟩) (fun _ => rfl) Tryz.underlying342 (by kernel_rfl) (qL rfl op9 (qL rfl op2 (qL rfl op2 (qc3 rfl op4))))) (fun _ h => h)
theorem op226 : Opens Tryz.prog 226 (@instList qal gt_TPin) (rngL qnJ) := qeH Tryz.underlying226 (by kernel_rfl) op342
theorem op35 : Opens Tryz.prog 35 (@instList Int instInt) (rngL rngI) := qeH Tryz.underlying35 (by kernel_rfl) op2
theorem op390 : Opens Tryz.prog 390 gt_TTable qja :=
 Opens.imp (qbY (hz := rfl) (f := fun x : qy => (x.Bo, x.Bk, x.Bj)) (fun p => ⟨p.1, p.2.1, p.2.2⟩) (fun _ => rfl) Tryz.underlying390 (by kernel_rfl) (qL rfl op35 (qL rfl op35 (qc3 rfl op35)))) (fun _ h => h)
theorem op344 : Opens Tryz.prog 344 (@instList qy gt_TTable) (rngL qja) := qeH Tryz.underlying344 (by kernel_rfl) op390
theorem op346 : Opens Tryz.prog 346 gt_TArc qnA :=
 Opens.imp (qbY (hz := rfl) (f := fun x : qJ => (x.Bi, x.Bm, x.To, x.Br, x.Bp, x.Be)) (fun p => ⟨p.1, p.2.1, p.2.2.1, p.2.2.2.1, p.2.2.2.2.1, p.2.2.2.2.2⟩) (fun _ => rfl) Tryz.underlying346 (by kernel_rfl) (qL rfl op2 (qL rfl op2 (qL rfl op2 (qL rfl op2 (qL rfl op344 (qc3 rfl op344))))))) (fun _ h => h)
theorem op227 : Opens Tryz.prog 227 (@instList qJ gt_TArc) (rngL qnA) := qeH Tryz.underlying227 (by kernel_rfl) op346
theorem op229 : Opens Tryz.prog 229 gt_TCell qlP :=
 Opens.imp (qbY (hz := rfl) (f := fun x : qz => (x.Bd, x.Bi, x.Bh, x.Bc, x.Bq, x.Cc, x.Bw)) (fun p => ⟨p.1, p.2.1, p.2.2.1, p.2.2.2.1, p.2.2.2.2.1, p.2.2.2.2.2.1, p.2.2.2.2.2.2⟩) (fun _ => rfl) Tryz.underlying229 (by kernel_rfl) (qL rfl op9 (qL rfl op2 (qL rfl op226 (qL rfl op227 (qL rfl op35 (qL rfl op2 (qc3 rfl op2)))))))) (fun _ h => h)
theorem op22 : Opens Tryz.prog 22 (@instList qz gt_TCell) (rngL qlP) := qeH Tryz.underlying22 (by kernel_rfl) op229
theorem op24 : Opens Tryz.prog 24 gt_TLibrary qmC :=
 Opens.imp (qbY (hz := rfl) (f := fun x : qp => x.Ay) (fun p => ⟨p⟩) (fun _ => rfl) Tryz.underlying24 (by kernel_rfl) (qc3 rfl op22)) (fun _ h => h)
theorem op232 : Opens Tryz.prog 232 gt_TInstance qgL :=
 Opens.imp (qbY (hz := rfl) (f := fun x : ql => (x.Bd, x.Bv, x.As)) (fun p => ⟨p.1, p.2.1, p.2.2⟩) (fun _ => rfl) Tryz.underlying232 (by kernel_rfl) (qL rfl op9 (qL rfl op2 (qc3 rfl op35)))) (fun _ h => h)
theorem op25 : Opens Tryz.prog 25 (@instList ql gt_TInstance) (rngL qgL) := qeH Tryz.underlying25 (by kernel_rfl) op232
theorem op26 : Opens Tryz.prog 26 (@instList ByteArray instStr) (rngL rngS) := qeH Tryz.underlying26 (by kernel_rfl) op9
theorem op235 : Opens Tryz.prog 235 gt_TPort qlR :=
 Opens.imp (qbY (hz := rfl) (f := fun x : qR => (x.Bd, x.Bx, x.Ca)) (fun p => ⟨p.1, p.2.1, p.2.2⟩) (fun _ => rfl) Tryz.underlying235 (by kernel_rfl) (qL rfl op9 (qL rfl op2 (qc3 rfl op2)))) (fun _ h => h)
theorem op27 : Opens Tryz.prog 27 (@instList qR gt_TPort) (rngL qlR) := qeH Tryz.underlying27 (by kernel_rfl) op235
theorem op29 : Opens Tryz.prog 29 gt_TDesign qn0 :=
 Opens.imp (qbY (hz := rfl) (f := fun x : qd => (x.Ab, x.As, x.Ak)) (fun p => ⟨p.1, p.2.1, p.2.2⟩) (fun _ => rfl) Tryz.underlying29 (by kernel_rfl) (qL rfl op25 (qL rfl op26 (qc3 rfl op27)))) (fun _ h => h)
theorem op175 : Opens Tryz.prog 175 gt_TWire ql0 :=
 Opens.imp (qbY (hz := rfl) (f := fun x : qE => (x.Az, x.Bz, x.Bu, x.Bn)) (fun p => ⟨p.1, p.2.1, p.2.2.1, p.2.2.2⟩) (fun _ => rfl) Tryz.underlying175 (by kernel_rfl) (qL rfl op35 (qL rfl op35 (qL rfl op35 (qc3 rfl op35))))) (fun _ h => h)
theorem op30 : Opens Tryz.prog 30 (@instList qE gt_TWire) (rngL ql0) := qeH Tryz.underlying30 (by kernel_rfl) op175
theorem op32 : Opens Tryz.prog 32 gt_TBlock qph :=
 Opens.imp (qbY (hz := rfl) (f := fun x : qh => (x.Au, x.Aa, x.Ai)) (fun p => ⟨p.1, p.2.1, p.2.2⟩) (fun _ => rfl) Tryz.underlying32 (by kernel_rfl) (qL rfl op24 (qL rfl op29 (qc3 rfl op30)))) (fun _ h => h)
theorem op34 : Opens Tryz.prog 34 gt_TCorner qnP :=
 Opens.imp (qbY (hz := rfl) (f := fun x : qu => (x.Bd, x.Am, x.Ar, x.Aj, x.Ap)) (fun p => ⟨p.1, p.2.1, p.2.2.1, p.2.2.2.1, p.2.2.2.2⟩) (fun _ => rfl) Tryz.underlying34 (by kernel_rfl) (qL rfl op9 (qL rfl op2 (qL rfl op2 (qL rfl op2 (qc3 rfl op2)))))) (fun _ h => h)
theorem op130 : Opens Tryz.prog 130 gt_TSpan qqt :=
 Opens.imp (qbY (hz := rfl) (f := fun x : qe => (x.Ba, x.Bg)) (fun p => ⟨p.1, p.2⟩) (fun _ => rfl) Tryz.underlying130 (by kernel_rfl) (qL rfl op2 (qc3 rfl op2))) (fun _ h => h)
theorem op132 : Opens Tryz.prog 132 gt_TSource qj9 :=
 Opens.imp (qbY (hz := rfl) (f := fun x : qf => (x.Bs, x.Ah, x.Be)) (fun p => ⟨p.1, p.2.1, p.2.2⟩) (fun _ => rfl) Tryz.underlying132 (by kernel_rfl) (qL rfl op2 (qL rfl op130 (qc3 rfl op130)))) (fun _ h => h)
theorem op36 : Opens Tryz.prog 36 (@instList qf gt_TSource) (rngL qj9) := qeH Tryz.underlying36 (by kernel_rfl) op132
theorem op38 : Opens Tryz.prog 38 gt_TJob qr8 :=
 Opens.imp (qbY (hz := rfl) (f := fun x : qay => (x.Ac, x.Af, x.Av, x.Aq)) (fun p => ⟨p.1, p.2.1, p.2.2.1, p.2.2.2⟩) (fun _ => rfl) Tryz.underlying38 (by kernel_rfl) (qL rfl op32 (qL rfl op34 (qL rfl op35 (qc3 rfl op36))))) (fun _ h => h)
set_option maxRecDepth 100000 in
theorem lawCalls {H : Type} {enc : TypeId × Value → H} {W : World} {base : Nat} {args : Array Value} {ds gs : List (DataW H)} {before : List MemPlace}
  (hval : ∀ (j : Nat) t v, Tryz.f3.params[j]? = some t → args[j]? = some v → Value.okWide Tryz.prog W .any base t v) (hW : DataW.Whole enc Tryz.prog Tryz.f3.params.toList Rows.fnExactRetimedWorstSpec.vars false W args.toList ds gs before) (fresh handsOn again : Bool) :
  Calls Tryz.prog 3 args W fun e W' => ∃ v, e = .returned v ∧ Rows.fnExactRetimedWorstSpec.post enc Tryz.prog Tryz.f3 false fresh handsOn again W args v W' := by
 have hW' := hW
 obtain ⟨p, q, hA0, hV, rfl, hfz, hnd⟩ := hW
 have hA : DataW.TrodAll enc Tryz.prog W 0 (fun _ => true) true Tryz.f3.params.toList args.toList ds p := hA0
 rw [Tryz.params3] at hA hval
 obtain ⟨v0, v1, v2, d0, d1, d2, q0, q1, q2, rfl, rfl, rfl, h0, h1, h2⟩ := trodAll_three hA
 obtain ⟨rfl, rfl⟩ := trodVars_none hV
 obtain ⟨x0, cs0, rfl, hR0, hx0⟩ := qyu (A := gt_TJob) op38 rfl Tryz.underlying38 (hval 0 38 v0 rfl rfl) h0
 obtain ⟨x1, cs1, rfl, hR1, hx1⟩ := qtS (A := instInt) op2 rfl Tryz.underlying2 (hval 1 2 v1 rfl rfl) h1
 obtain rfl : cs1 = [.int .i64 x1] := hR1
 obtain ⟨x2, cs2, rfl, hR2, hx2⟩ := qtS (A := instInt) op2 rfl Tryz.underlying2 (hval 2 2 v2 rfl rfl) h2
 obtain rfl : cs2 = [.int .i64 x2] := hR2
 obtain ⟨n, hn⟩ := (qm8 hx0 hx1 hx2).at
 have hc := qla hR0  hn
 refine Calls.mono hc ?_
 rintro e W' ⟨v, rfl, hb, us, rfl, hvs⟩
 refine ⟨_, rfl, ?_⟩
 rw [qzj hvs]
 exact qyi laidOut1 (by kernel_rfl) rfl Tryz.underlying4 rfl rfl rfl rfl (by simpa using hW') hb
set_option maxRecDepth 100000 in
theorem lifted (fresh handsOn again : Bool) (os : Os) (started : os.Started) (H : Type) (enc : TypeId × Value → H) :
  ReturnsInHanded {} Tryz.checked os 3 .any (fun w args => (Rows.fnExactRetimedWorstSpec.pre enc Tryz.prog Tryz.f3 Rows.fnExactRetimedWorstRow.domain false w args ∧ laidMetH Tryz.prog Rows.fnExactRetimedWorstRow.laid w) ∧ sizedMet enc Tryz.prog Tryz.f3 (OpenSpec.ofChange Rows.fnExactRetimedWorstSpec) false w args)
   (Rows.fnExactRetimedWorstSpec.post enc Tryz.prog Tryz.f3 false fresh handsOn again) := by
 refine returnsInHanded_of_change_and (C := Tryz.checked) (X := fun w _ => laidMetH Tryz.prog Rows.fnExactRetimedWorstRow.laid w) (fun _ _ _ hh h => h.of_heap hh) own1 started (by kernel_rfl) Tryz.func3
  (ChangeSpec.witness_shaped (enc := enc) (C := Tryz.checked) (os := os) (X := fun w _ => laidMetH Tryz.prog Rows.fnExactRetimedWorstRow.laid w) false (World.laidAll Tryz.prog os Rows.fnExactRetimedWorstRow.laid) #[.agg #[.slice none 0 0, .slice none 0 0, .slice none 0 0, .slice none 0 0, .slice none 0 0, .string ByteArray.empty, .int .i64 0, .int .i64 0, .int .i64 0, .int .i64 0, .slice none 0 0, .slice none 0 0], .int .i64 0, .int .i64 0] 8 (World.laidAll_os _ _ _)
   (World.shaped_of_ZipB (by kernel_rfl) (by kernel_rfl)) (by kernel_rfl) (by kernel_rfl) (by kernel_rfl)
   (by rw [MakeChecks.laidMetH_plain _ _ _ (by kernel_rfl)]; exact laidMet_laidAll _ (by kernel_rfl) (by kernel_rfl))) ?_
 intro W base args ds gs before hval0 hW hc _ hL _
 exact lawCalls hval0 hW _ _ _
theorem ja : ((Rows.fnExactRetimedWorstRow.inPlace == Tryz.checked.prog.inPlace 3) && ((Rows.fnExactRetimedWorstRow.unfollowed == Tryz.checked.prog.unfollowed 3) && ((Rows.fnExactRetimedWorstRow.recurses == Tryz.checked.prog.recurses 3) && (Rows.fnExactRetimedWorstRow.named == Tryz.checked.prog.varsNamed 3)))) = true := by kernel_rfl
theorem jb : (Tryz.checked.prog.mayEnter && (Tryz.checked.prog.stopsHeard && ((Rows.fnExactRetimedWorstRow.lifted == Tryz.checked.prog.liftsFinal) && ((Tryz.checked.prog.make == some Rows.fnExactRetimedWorstRow.make) && ((Rows.fnExactRetimedWorstRow.plainKeys == Tryz.checked.prog.plainKeys) && (mapsRowed Tryz.checked.prog && laidOutB Tryz.checked.prog)))))) = true := by kernel_rfl
theorem jc : (namedTie Tryz.checked.prog Rows.fnExactRetimedWorstRow.named Rows.fnExactRetimedWorstSpec.vars && (Rows.fnExactRetimedWorstRow.wf (OpenSpec.ofChange Rows.fnExactRetimedWorstSpec) && (Rows.fnExactRetimedWorstRow.pinned == Rows.fnExactRetimedWorstRow.pinnedBy))) = true := by kernel_rfl
theorem andT {a b : Bool} (h : (a && b) = true) : a = true ∧ b = true := by simpa using h
theorem closed : joinedFacts Tryz.checked.prog 3 Tryz.f3 Rows.fnExactRetimedWorstSpec Rows.fnExactRetimedWorstRow = true := by
 obtain ⟨j0, h⟩ := andT ja
 obtain ⟨j1, h⟩ := andT h
 obtain ⟨j2, j3⟩ := andT h
 obtain ⟨j4, h⟩ := andT jb
 obtain ⟨j5, h⟩ := andT h
 obtain ⟨j6, h⟩ := andT h
 obtain ⟨j7, h⟩ := andT h
 obtain ⟨j8, h⟩ := andT h
 obtain ⟨j9, j10⟩ := andT h
 obtain ⟨j11, h⟩ := andT jc
 obtain ⟨j12, j13⟩ := andT h
 unfold joinedFacts
 rw [j0, j1, j2, j3, j4, j5, j6, j7, j8, j9, j10, j11, j12, j13]
 kernel_rfl
theorem named1 : Tryz.checked.prog.funcNamed Rows.fnExactRetimedWorstRow.func = some 3 := by kernel_rfl
theorem instance1 : Tryz.f3.isInstance Tryz.checked.prog Rows.fnExactRetimedWorstRow.origin Rows.fnExactRetimedWorstRow.targs := of_decide_eq_true (by kernel_rfl)
theorem wrapper1 : Tryz.f3.isWrapper Tryz.checked.prog Rows.fnExactRetimedWorstRow.wrapper Rows.fnExactRetimedWorstRow.mainSum := by
 unfold Func.isWrapper
 first | (rw [if_pos (by decide +kernel)]; kernel_rfl) | (rw [if_neg (by decide +kernel)]; exact ⟨rfl, rfl⟩)
theorem said_holds : Rows.FnExactRetimedWorstSaid :=
 OpenClaim.holds_of_wide 3 Tryz.f3 rfl rfl rfl rfl rfl rfl rfl ⟨rfl, rfl, rfl, rfl, rfl⟩ rfl rfl rfl rfl rfl named1 Tryz.func3 closed instance1 wrapper1
  (fun os started H enc _ => lifted _ _ _ os started H enc)
theorem goesNone {P : Program} (h : P.funcs.any Func.goes = false) {st : Start} (hs : st = .entering) (nm : String) : P.goesAt st nm = false := by
 subst hs
 have hf : ∀ f, P.goes f = false := fun f => by
  unfold Program.goes
  rw [h, Bool.and_false, Bool.or_false, List.any_eq_false]
  intro g _
  cases hq : P.funcs[g]? with
  | none => simp
  | some fn =>
   obtain ⟨hi, he⟩ := Array.getElem?_eq_some_iff.1 hq
   have := Array.any_eq_false.1 h g hi
   rw [he] at this
   simpa using this
 unfold Program.goesAt Program.goesFrom
 cases P.funcNamed nm with
 | none => rfl
 | some f => simp [hf f]
theorem kg0 : Tryz.checked.prog.funcs.any Func.goes = false := by kernel_rfl
theorem kg : false = Rows.fnExactRetimedWorstRow.goesBy Tryz.checked.prog := (goesNone kg0 rfl _).symm
theorem kw : Rows.fnExactRetimedWorstRow.wfByText (OpenSpec.ofChange Rows.fnExactRetimedWorstSpec) = true := by kernel_rfl
theorem km : Tryz.checked.prog.mainIs = some (true, "78b8c9631a87ff6ec4d4fe96ecee0b34fb0cd94936c090e93380139f71475279".toList) := by kernel_rfl
theorem kl : false = Tryz.checked.prog.looks [] := by kernel_rfl
theorem kn : Tryz.prog.funcNamed "loop.example/g00861/laws.FnExactRetimedWorst" = some 3 := by kernel_rfl
theorem ka : ([38, 2, 2].all fun u => !Tryz.prog.wantsStandIn u) = true := by kernel_rfl
theorem card_holds : Rows.FnExactRetimedWorstCardSaid :=
 Claim7.holds_tied_plain_at .later [] [.data, .pinned] true (true, "78b8c9631a87ff6ec4d4fe96ecee0b34fb0cd94936c090e93380139f71475279") false said_holds (fun _ h => by cases h) kw (fun _ h => by cases h) fnExactRetimedWorst_row_tie rfl ⟨rfl, rfl⟩ km rfl
  (fun f fn hf hfn => by
   obtain rfl : f = 3 := Option.some.inj (kn.symm.trans hf) |>.symm
   obtain rfl : fn = Tryz.f3 := (Option.some.inj (Tryz.func3.symm.trans hfn)).symm
   exact ⟨kl, fun j t ht => by
    rw [Tryz.params3] at ht
    have hm : t ∈ [38, 2, 2] := by simpa using Array.mem_of_getElem? ht
    exact (show Tryz.prog.wantsStandIn t = false by simpa using List.all_eq_true.1 ka t hm)⟩)
  kg
end Go.Proofs.YtpiadipmfbjlbaaGreatDoor
