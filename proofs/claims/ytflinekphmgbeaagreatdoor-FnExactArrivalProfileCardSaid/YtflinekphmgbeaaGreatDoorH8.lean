/- THE LAW laws.FnExactArrivalProfile, for every input: the call returns true, and its arguments read afterwards as they did. By a program of mine (hgen.py). -/
import Derived.Test.YtflinekphmgbeaaGreatDoorRows
import Derived.Test.YtflinekphmgbeaaGreatDoorCards
import Derived.Test.YtflinekphmgbeaaGreatDoorTie
import Derived.ProofKit
import Derived.OpenShut
import Derived.LaidMore
import Derived.Lay
import Derived.SevenTiedAt
import Derived.Test.YtflinekphmgbeaaGreatDoorW18
import Derived.Test.YtflinekphmgbeaaGreatDoorFw30
open Option renaming bind_some → jd
open Nat renaming le_refl → je, mul_le_mul_right → jr, le_of_ble_eq_true → jt, lt_of_lt_of_le → jx, succ_mul → jK, zero_add → jZ, add_zero → Ja
open Bool renaming and_eq_true → jf, eq_iff_iff → jm, true_and → jA, not_eq_true' → jJ, not_true → Jb
open Go.Result renaming andThen_ok → jg
open List renaming length_append → jh, getElem?_eq_getElem → ji, mem_cons_of_mem → jo, getElem_mem → jp, append_assoc → jq, length_singleton → js, getElem?_append_left → ju, take_succ_eq_append_getElem → jv, getD_eq_getElem?_getD → jw, mem_cons_self → jy, length_map → jz, getElem?_take → jB, getElem?_append_right → jC, take_length → jD, getElem?_toArray → jE, drop_eq_getElem_cons → jF, eq_nil_of_length_eq_zero → jH, length_take → jI, map_append → jL, all_eq_true → jM, not_mem_nil → jO, getElem_of_mem → jP, length_replicate → jQ, size_toArray → jR, mem_cons → jU, append_nil → jX, ext_getElem → jY
open Go.Sem renaming run_bind → jj, run_pure → jk
open Int renaming toNat_natCast → jn, tdiv_eq_ediv_of_nonneg → jG, mul_nonneg → jS, mul_assoc → jT, mul_le_mul → jV, le_refl → jW
open Array renaming getElem?_append_left → jN

namespace Go.Proofs.YtflinekphmgbeaaGreatDoor
open Go.ChangeShapes Go.WideShapes Go.ChangeAt Go.RowKit
open Go.Fw
theorem own1 : ownKnob Tryz.prog.godebug = none := by kernel_rfl
theorem laidOut1 : laidOutB Tryz.prog = true := by kernel_rfl
theorem op9 : Opens Tryz.prog 9 instStr rngS := qwk Tryz.underlying9 (by kernel_rfl)
theorem op2 : Opens Tryz.prog 2 instInt rngI := qwy Tryz.underlying2 (by kernel_rfl)
theorem op4 : Opens Tryz.prog 4 instBool rngB := qvq Tryz.underlying4 (by kernel_rfl)
theorem op297 : Opens Tryz.prog 297 gt_TPin qms :=
 Opens.imp (qbI (hz := rfl) (f := fun x : qaj => (x.Bb, x.Bv, x.Bs, x.Br)) (fun p => ⟨p.1, p.2.1, p.2.2.1, p.2.2.2⟩) (fun _ => rfl) Tryz.underlying297 (by kernel_rfl) (qI rfl op9 (qI rfl op2 (qI rfl op2 (qcL rfl op4))))) (fun _ h => h)
theorem op220 : Opens Tryz.prog 220 (@instList qaj gt_TPin) (rngL qms) := qei Tryz.underlying220 (by kernel_rfl) op297
theorem op35 : Opens Tryz.prog 35 (@instList Int instInt) (rngL rngI) := qei Tryz.underlying35 (by kernel_rfl) op2
theorem op338 : Opens Tryz.prog 338 gt_TTable qio :=
 Opens.imp (qbI (hz := rfl) (f := fun x : qr => (x.Bm, x.Bj, x.Bh)) (fun p => ⟨p.1, p.2.1, p.2.2⟩) (fun _ => rfl) Tryz.underlying338 (by kernel_rfl) (qI rfl op35 (qI rfl op35 (qcL rfl op35)))) (fun _ h => h)
theorem op299 : Opens Tryz.prog 299 (@instList qr gt_TTable) (rngL qio) := qei Tryz.underlying299 (by kernel_rfl) op338
theorem op301 : Opens Tryz.prog 301 gt_TArc qmS :=
 Opens.imp (qbI (hz := rfl) (f := fun x : qG => (x.Bf, x.Bk, x.To, x.Bp, x.Bn, x.Bc)) (fun p => ⟨p.1, p.2.1, p.2.2.1, p.2.2.2.1, p.2.2.2.2.1, p.2.2.2.2.2⟩) (fun _ => rfl) Tryz.underlying301 (by kernel_rfl) (qI rfl op2 (qI rfl op2 (qI rfl op2 (qI rfl op2 (qI rfl op299 (qcL rfl op299))))))) (fun _ h => h)
theorem op221 : Opens Tryz.prog 221 (@instList qG gt_TArc) (rngL qmS) := qei Tryz.underlying221 (by kernel_rfl) op301
theorem op223 : Opens Tryz.prog 223 gt_TCell qkK :=
 Opens.imp (qbI (hz := rfl) (f := fun x : qw => (x.Bb, x.Bf, x.Bd, x.Au, x.Bo, x.Ca, x.Bu)) (fun p => ⟨p.1, p.2.1, p.2.2.1, p.2.2.2.1, p.2.2.2.2.1, p.2.2.2.2.2.1, p.2.2.2.2.2.2⟩) (fun _ => rfl) Tryz.underlying223 (by kernel_rfl) (qI rfl op9 (qI rfl op2 (qI rfl op220 (qI rfl op221 (qI rfl op35 (qI rfl op2 (qcL rfl op2)))))))) (fun _ h => h)
theorem op22 : Opens Tryz.prog 22 (@instList qw gt_TCell) (rngL qkK) := qei Tryz.underlying22 (by kernel_rfl) op223
theorem op24 : Opens Tryz.prog 24 gt_TLibrary qls :=
 Opens.imp (qbI (hz := rfl) (f := fun x : qn => x.As) (fun p => ⟨p⟩) (fun _ => rfl) Tryz.underlying24 (by kernel_rfl) (qcL rfl op22)) (fun _ h => h)
theorem op225 : Opens Tryz.prog 225 gt_TInstance qgd :=
 Opens.imp (qbI (hz := rfl) (f := fun x : qi => (x.Bb, x.Bt, x.Ak)) (fun p => ⟨p.1, p.2.1, p.2.2⟩) (fun _ => rfl) Tryz.underlying225 (by kernel_rfl) (qI rfl op9 (qI rfl op2 (qcL rfl op35)))) (fun _ h => h)
theorem op25 : Opens Tryz.prog 25 (@instList qi gt_TInstance) (rngL qgd) := qei Tryz.underlying25 (by kernel_rfl) op225
theorem op26 : Opens Tryz.prog 26 (@instList ByteArray instStr) (rngL rngS) := qei Tryz.underlying26 (by kernel_rfl) op9
theorem op228 : Opens Tryz.prog 228 gt_TPort qkO :=
 Opens.imp (qbI (hz := rfl) (f := fun x : qK => (x.Bb, x.Bv, x.Bx)) (fun p => ⟨p.1, p.2.1, p.2.2⟩) (fun _ => rfl) Tryz.underlying228 (by kernel_rfl) (qI rfl op9 (qI rfl op2 (qcL rfl op2)))) (fun _ h => h)
theorem op27 : Opens Tryz.prog 27 (@instList qK gt_TPort) (rngL qkO) := qei Tryz.underlying27 (by kernel_rfl) op228
theorem op29 : Opens Tryz.prog 29 gt_TDesign qmE :=
 Opens.imp (qbI (hz := rfl) (f := fun x : qd => (x.Aa, x.Ak, x.Aj)) (fun p => ⟨p.1, p.2.1, p.2.2⟩) (fun _ => rfl) Tryz.underlying29 (by kernel_rfl) (qI rfl op25 (qI rfl op26 (qcL rfl op27)))) (fun _ h => h)
theorem op161 : Opens Tryz.prog 161 gt_TWire qkV :=
 Opens.imp (qbI (hz := rfl) (f := fun x : qD => (x.Am, x.Bw, x.Bs, x.Bl)) (fun p => ⟨p.1, p.2.1, p.2.2.1, p.2.2.2⟩) (fun _ => rfl) Tryz.underlying161 (by kernel_rfl) (qI rfl op35 (qI rfl op35 (qI rfl op35 (qcL rfl op35))))) (fun _ h => h)
theorem op30 : Opens Tryz.prog 30 (@instList qD gt_TWire) (rngL qkV) := qei Tryz.underlying30 (by kernel_rfl) op161
theorem op32 : Opens Tryz.prog 32 gt_TBlock qnU :=
 Opens.imp (qbI (hz := rfl) (f := fun x : qg => (x.Av, x.Ab, x.Ac)) (fun p => ⟨p.1, p.2.1, p.2.2⟩) (fun _ => rfl) Tryz.underlying32 (by kernel_rfl) (qI rfl op24 (qI rfl op29 (qcL rfl op30)))) (fun _ h => h)
theorem op34 : Opens Tryz.prog 34 gt_TCorner qmt :=
 Opens.imp (qbI (hz := rfl) (f := fun x : qt => (x.Bb, x.Ar, x.Az, x.Aq, x.Ba)) (fun p => ⟨p.1, p.2.1, p.2.2.1, p.2.2.2.1, p.2.2.2.2⟩) (fun _ => rfl) Tryz.underlying34 (by kernel_rfl) (qI rfl op9 (qI rfl op2 (qI rfl op2 (qI rfl op2 (qcL rfl op2)))))) (fun _ h => h)
theorem op128 : Opens Tryz.prog 128 gt_TSpan qoP :=
 Opens.imp (qbI (hz := rfl) (f := fun x : qf => (x.Ap, x.Be)) (fun p => ⟨p.1, p.2⟩) (fun _ => rfl) Tryz.underlying128 (by kernel_rfl) (qI rfl op2 (qcL rfl op2))) (fun _ h => h)
theorem op130 : Opens Tryz.prog 130 gt_TSource qjb :=
 Opens.imp (qbI (hz := rfl) (f := fun x : qe => (x.Bq, x.Ai, x.Bc)) (fun p => ⟨p.1, p.2.1, p.2.2⟩) (fun _ => rfl) Tryz.underlying130 (by kernel_rfl) (qI rfl op2 (qI rfl op128 (qcL rfl op128)))) (fun _ h => h)
theorem op36 : Opens Tryz.prog 36 (@instList qe gt_TSource) (rngL qjb) := qei Tryz.underlying36 (by kernel_rfl) op130
theorem op38 : Opens Tryz.prog 38 gt_TJob qqX :=
 Opens.imp (qbI (hz := rfl) (f := fun x : qaW => (x.Af, x.Ah, x.Bi, x.Ay)) (fun p => ⟨p.1, p.2.1, p.2.2.1, p.2.2.2⟩) (fun _ => rfl) Tryz.underlying38 (by kernel_rfl) (qI rfl op32 (qI rfl op34 (qI rfl op35 (qcL rfl op36))))) (fun _ h => h)
set_option maxRecDepth 100000 in
theorem lawCalls {H : Type} {enc : TypeId × Value → H} {W : World} {base : Nat} {args : Array Value} {ds gs : List (DataW H)} {before : List MemPlace}
  (hval : ∀ (j : Nat) t v, Tryz.f8.params[j]? = some t → args[j]? = some v → Value.okWide Tryz.prog W .any base t v) (hW : DataW.Whole enc Tryz.prog Tryz.f8.params.toList Rows.fnExactArrivalProfileSpec.vars false W args.toList ds gs before) (fresh handsOn again : Bool) :
  Calls Tryz.prog 8 args W fun e W' => ∃ v, e = .returned v ∧ Rows.fnExactArrivalProfileSpec.post enc Tryz.prog Tryz.f8 false fresh handsOn again W args v W' := by
 have hW' := hW
 obtain ⟨p, q, hA0, hV, rfl, hfz, hnd⟩ := hW
 have hA : DataW.TrodAll enc Tryz.prog W 0 (fun _ => true) true Tryz.f8.params.toList args.toList ds p := hA0
 rw [Tryz.params8] at hA hval
 obtain ⟨v0, v1, v2, v3, d0, d1, d2, d3, q0, q1, q2, q3, rfl, rfl, rfl, h0, h1, h2, h3⟩ := trodAll_four hA
 obtain ⟨rfl, rfl⟩ := trodVars_none hV
 obtain ⟨x0, cs0, rfl, hR0, hx0⟩ := qwC (A := gt_TJob) op38 rfl Tryz.underlying38 (hval 0 38 v0 rfl rfl) h0
 obtain ⟨x1, cs1, rfl, hR1, hx1⟩ := qsZ (A := instInt) op2 rfl Tryz.underlying2 (hval 1 2 v1 rfl rfl) h1
 obtain rfl : cs1 = [.int .i64 x1] := hR1
 obtain ⟨x2, cs2, rfl, hR2, hx2⟩ := qt9 (A := (@instList Int instInt)) op35 rfl Tryz.underlying35 (hval 2 35 v2 rfl rfl) h2
 obtain ⟨x3, cs3, rfl, hR3, hx3⟩ := qsZ (A := instInt) op2 rfl Tryz.underlying2 (hval 3 2 v3 rfl rfl) h3
 obtain rfl : cs3 = [.int .i64 x3] := hR3
 obtain ⟨n, hn⟩ := (qlk hx0 hx1 hx2 hx3).at
 have hc := qjH hR0 hR2 hn
 refine Calls.mono hc ?_
 rintro e W' ⟨v, rfl, hb, us, rfl, hvs⟩
 refine ⟨_, rfl, ?_⟩
 rw [qx7 hvs]
 exact qwP laidOut1 (by kernel_rfl) rfl Tryz.underlying4 rfl rfl rfl rfl (by simpa using hW') hb
set_option maxRecDepth 100000 in
theorem lifted (fresh handsOn again : Bool) (os : Os) (started : os.Started) (H : Type) (enc : TypeId × Value → H) :
  ReturnsInHanded {} Tryz.checked os 8 .any (fun w args => (Rows.fnExactArrivalProfileSpec.pre enc Tryz.prog Tryz.f8 Rows.fnExactArrivalProfileRow.domain false w args ∧ laidMetH Tryz.prog Rows.fnExactArrivalProfileRow.laid w) ∧ sizedMet enc Tryz.prog Tryz.f8 (OpenSpec.ofChange Rows.fnExactArrivalProfileSpec) false w args)
   (Rows.fnExactArrivalProfileSpec.post enc Tryz.prog Tryz.f8 false fresh handsOn again) := by
 refine returnsInHanded_of_change_and (C := Tryz.checked) (X := fun w _ => laidMetH Tryz.prog Rows.fnExactArrivalProfileRow.laid w) (fun _ _ _ hh h => h.of_heap hh) own1 started (by kernel_rfl) Tryz.func8
  (ChangeSpec.witness_shaped (enc := enc) (C := Tryz.checked) (os := os) (X := fun w _ => laidMetH Tryz.prog Rows.fnExactArrivalProfileRow.laid w) false (World.laidAll Tryz.prog os Rows.fnExactArrivalProfileRow.laid) #[.agg #[.slice none 0 0, .slice none 0 0, .slice none 0 0, .slice none 0 0, .slice none 0 0, .string ByteArray.empty, .int .i64 0, .int .i64 0, .int .i64 0, .int .i64 0, .slice none 0 0, .slice none 0 0], .int .i64 0, .slice none 0 0, .int .i64 0] 8 (World.laidAll_os _ _ _)
   (World.shaped_of_ZipB (by kernel_rfl) (by kernel_rfl)) (by kernel_rfl) (by kernel_rfl) (by kernel_rfl)
   (by rw [MakeChecks.laidMetH_plain _ _ _ (by kernel_rfl)]; exact laidMet_laidAll _ (by kernel_rfl) (by kernel_rfl))) ?_
 intro W base args ds gs before hval0 hW hc _ hL _
 exact lawCalls hval0 hW _ _ _
theorem ja : ((Rows.fnExactArrivalProfileRow.inPlace == Tryz.checked.prog.inPlace 8) && ((Rows.fnExactArrivalProfileRow.unfollowed == Tryz.checked.prog.unfollowed 8) && ((Rows.fnExactArrivalProfileRow.recurses == Tryz.checked.prog.recurses 8) && (Rows.fnExactArrivalProfileRow.named == Tryz.checked.prog.varsNamed 8)))) = true := by kernel_rfl
theorem jb : (Tryz.checked.prog.mayEnter && (Tryz.checked.prog.stopsHeard && ((Rows.fnExactArrivalProfileRow.lifted == Tryz.checked.prog.liftsFinal) && ((Tryz.checked.prog.make == some Rows.fnExactArrivalProfileRow.make) && ((Rows.fnExactArrivalProfileRow.plainKeys == Tryz.checked.prog.plainKeys) && (mapsRowed Tryz.checked.prog && laidOutB Tryz.checked.prog)))))) = true := by kernel_rfl
theorem jc : (namedTie Tryz.checked.prog Rows.fnExactArrivalProfileRow.named Rows.fnExactArrivalProfileSpec.vars && (Rows.fnExactArrivalProfileRow.wf (OpenSpec.ofChange Rows.fnExactArrivalProfileSpec) && (Rows.fnExactArrivalProfileRow.pinned == Rows.fnExactArrivalProfileRow.pinnedBy))) = true := by kernel_rfl
theorem andT {a b : Bool} (h : (a && b) = true) : a = true ∧ b = true := by simpa using h
theorem closed : joinedFacts Tryz.checked.prog 8 Tryz.f8 Rows.fnExactArrivalProfileSpec Rows.fnExactArrivalProfileRow = true := by
 obtain ⟨j0, h⟩ := andT ja
 obtain ⟨j1, h⟩ := andT h
 obtain ⟨j2, j3⟩ := andT h
 obtain ⟨j4, h⟩ := andT jb
 obtain ⟨j5, h⟩ := andT h
 obtain ⟨j6, h⟩ := andT h
 obtain ⟨j7, h⟩ := andT h
 obtain ⟨j8, h⟩ := andT h
 obtain ⟨j9, j10⟩ := andT h
 obtain ⟨j11, h⟩ := andT jc
 obtain ⟨j12, j13⟩ := andT h
 unfold joinedFacts
 rw [j0, j1, j2, j3, j4, j5, j6, j7, j8, j9, j10, j11, j12, j13]
 kernel_rfl
theorem named1 : Tryz.checked.prog.funcNamed Rows.fnExactArrivalProfileRow.func = some 8 := by kernel_rfl
theorem instance1 : Tryz.f8.isInstance Tryz.checked.prog Rows.fnExactArrivalProfileRow.origin Rows.fnExactArrivalProfileRow.targs := of_decide_eq_true (by kernel_rfl)
theorem wrapper1 : Tryz.f8.isWrapper Tryz.checked.prog Rows.fnExactArrivalProfileRow.wrapper Rows.fnExactArrivalProfileRow.mainSum := by
 unfold Func.isWrapper
 first | (rw [if_pos (by decide +kernel)]; kernel_rfl) | (rw [if_neg (by decide +kernel)]; exact ⟨rfl, rfl⟩)
theorem said_holds : Rows.FnExactArrivalProfileSaid :=
 OpenClaim.holds_of_wide 8 Tryz.f8 rfl rfl rfl rfl rfl rfl rfl ⟨rfl, rfl, rfl, rfl, rfl⟩ rfl rfl rfl rfl rfl named1 Tryz.func8 closed instance1 wrapper1
  (fun os started H enc _ => lifted _ _ _ os started H enc)
theorem goesNone {P : Program} (h : P.funcs.any Func.goes = false) {st : Start} (hs : st = .entering) (nm : String) : P.goesAt st nm = false := by
 subst hs
 have hf : ∀ f, P.goes f = false := fun f => by
  unfold Program.goes
  rw [h, Bool.and_false, Bool.or_false, List.any_eq_false]
  intro g _
  cases hq : P.funcs[g]? with
  | none => simp
  | some fn =>
   obtain ⟨hi, he⟩ := Array.getElem?_eq_some_iff.1 hq
   have := Array.any_eq_false.1 h g hi
   rw [he] at this
   simpa using this
 unfold Program.goesAt Program.goesFrom
 cases P.funcNamed nm with
 | none => rfl
 | some f => simp [hf f]
theorem kg0 : Tryz.checked.prog.funcs.any Func.goes = false := by kernel_rfl
theorem kg : false = Rows.fnExactArrivalProfileRow.goesBy Tryz.checked.prog := (goesNone kg0 rfl _).symm
theorem kw : Rows.fnExactArrivalProfileRow.wfByText (OpenSpec.ofChange Rows.fnExactArrivalProfileSpec) = true := by kernel_rfl
theorem km : Tryz.checked.prog.mainIs = some (true, "60b5b58a08630658c2b4f4c30794e330c8a5eed9c7c951ec78707a40d62d511b".toList) := by kernel_rfl
theorem kl : false = Tryz.checked.prog.looks [] := by kernel_rfl
theorem kn : Tryz.prog.funcNamed "loop.example/g00861/laws.FnExactArrivalProfile" = some 8 := by kernel_rfl
theorem ka : ([38, 2, 35, 2].all fun u => !Tryz.prog.wantsStandIn u) = true := by kernel_rfl
theorem card_holds : Rows.FnExactArrivalProfileCardSaid :=
 Claim7.holds_tied_plain_at .later [] [.data, .pinned] true (true, "60b5b58a08630658c2b4f4c30794e330c8a5eed9c7c951ec78707a40d62d511b") false said_holds (fun _ h => by cases h) kw (fun _ h => by cases h) fnExactArrivalProfile_row_tie rfl ⟨rfl, rfl⟩ km rfl
  (fun f fn hf hfn => by
   obtain rfl : f = 8 := Option.some.inj (kn.symm.trans hf) |>.symm
   obtain rfl : fn = Tryz.f8 := (Option.some.inj (Tryz.func8.symm.trans hfn)).symm
   exact ⟨kl, fun j t ht => by
    rw [Tryz.params8] at ht
    have hm : t ∈ [38, 2, 35, 2] := by simpa using Array.mem_of_getElem? ht
    exact (show Tryz.prog.wantsStandIn t = false by simpa using List.all_eq_true.1 ka t hm)⟩)
  kg
end Go.Proofs.YtflinekphmgbeaaGreatDoor
