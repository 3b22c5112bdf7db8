/- THE LAW laws.FnExactNetWindow, for every input: the call returns true, and its arguments read afterwards as they did. By a program of mine (hgen.py). -/
import Derived.Test.YtpblhdihpnjoeaaGreatDoorRows
import Derived.Test.YtpblhdihpnjoeaaGreatDoorCards
import Derived.Test.YtpblhdihpnjoeaaGreatDoorTie
import Derived.ProofKit
import Derived.OpenShut
import Derived.LaidMore
import Derived.Lay
import Derived.SevenTiedAt
import Derived.Test.YtpblhdihpnjoeaaGreatDoorFw46
open Option renaming bind_some → jd
open Nat renaming le_refl → je, mul_le_mul_right → jn, lt_of_lt_of_le → jp, le_of_ble_eq_true → jq, succ_mul → jB, zero_add → jL
open Bool renaming and_eq_true → jf, eq_iff_iff → ji, not_eq_true' → jx, true_and → jC
open Go.Result renaming andThen_ok → jg
open List renaming getElem?_eq_getElem → jh, length_append → jm, mem_cons_of_mem → jo, getElem?_append_left → jr, mem_cons_self → js, getElem_mem → jt, getElem?_take → ju, getElem?_append_right → jv, getElem?_toArray → jw, append_assoc → jy, eq_nil_of_length_eq_zero → jA, length_singleton → jD, size_toArray → jE, getD_eq_getElem?_getD → jF, length_map → jG, getElem_of_mem → jH, mem_of_getElem? → jI, not_mem_nil → jJ, take_length → jK, mem_cons → jM
open Go.Sem renaming run_bind → jj, run_pure → jk
open Int renaming toNat_natCast → jz

namespace Go.Proofs.YtpblhdihpnjoeaaGreatDoor
open Go.ChangeShapes Go.WideShapes Go.ChangeAt Go.RowKit
open Go.Fw
theorem own1 : ownKnob Tryz.prog.godebug = none := by kernel_rfl
theorem laidOut1 : laidOutB Tryz.prog = true := by kernel_rfl
theorem op9 : Opens Tryz.prog 9 instStr rngS := qo6 Tryz.underlying9 (by kernel_rfl)
theorem op2 : Opens Tryz.prog 2 instInt rngI := qpq Tryz.underlying2 (by kernel_rfl)
theorem op4 : Opens Tryz.prog 4 instBool rngB := qos Tryz.underlying4 (by kernel_rfl)
theorem op376 : Opens Tryz.prog 376 gt_TPin qhW :=
 Opens.imp (qa3 (hz := rfl) (f := fun x : qR => (x.Ar, x.Bm, x.Bk, x.Bf)) (fun p => ⟨p.1, p.2.1, p.2.2.1, p.2.2.2⟩) (fun _ => rfl) Tryz.underlying376 (by kernel_rfl) (qG rfl op9 (qG rfl op2 (qG rfl op2 (qb0 rfl op4))))) (fun _ h => h)
theorem op292 : Opens Tryz.prog 292 (@instList qR gt_TPin) (rngL qhW) := qbM Tryz.underlying292 (by kernel_rfl) op376
theorem op34 : Opens Tryz.prog 34 (@instList Int instInt) (rngL rngI) := qbM Tryz.underlying34 (by kernel_rfl) op2
theorem op413 : Opens Tryz.prog 413 gt_TTable qeX :=
 Opens.imp (qa3 (hz := rfl) (f := fun x : qp => (x.Bd, x.Be, x.Ay)) (fun p => ⟨p.1, p.2.1, p.2.2⟩) (fun _ => rfl) Tryz.underlying413 (by kernel_rfl) (qG rfl op34 (qG rfl op34 (qb0 rfl op34)))) (fun _ h => h)
theorem op378 : Opens Tryz.prog 378 (@instList qp gt_TTable) (rngL qeX) := qbM Tryz.underlying378 (by kernel_rfl) op413
theorem op380 : Opens Tryz.prog 380 gt_TArc qh5 :=
 Opens.imp (qa3 (hz := rfl) (f := fun x : qL => (x.Av, x.Bb, x.To, x.Bi, x.Bh, x.Az)) (fun p => ⟨p.1, p.2.1, p.2.2.1, p.2.2.2.1, p.2.2.2.2.1, p.2.2.2.2.2⟩) (fun _ => rfl) Tryz.underlying380 (by kernel_rfl) (qG rfl op2 (qG rfl op2 (qG rfl op2 (qG rfl op2 (qG rfl op378 (qb0 rfl op378))))))) (fun _ h => h)
theorem op293 : Opens Tryz.prog 293 (@instList qL gt_TArc) (rngL qh5) := qbM Tryz.underlying293 (by kernel_rfl) op380
theorem op295 : Opens Tryz.prog 295 gt_TCell qgW :=
 Opens.imp (qa3 (hz := rfl) (f := fun x : qn => (x.Ar, x.Av, x.Ap, x.Aj, x.Bg, x.Br, x.Bj)) (fun p => ⟨p.1, p.2.1, p.2.2.1, p.2.2.2.1, p.2.2.2.2.1, p.2.2.2.2.2.1, p.2.2.2.2.2.2⟩) (fun _ => rfl) Tryz.underlying295 (by kernel_rfl) (qG rfl op9 (qG rfl op2 (qG rfl op292 (qG rfl op293 (qG rfl op34 (qG rfl op2 (qb0 rfl op2)))))))) (fun _ h => h)
theorem op22 : Opens Tryz.prog 22 (@instList qn gt_TCell) (rngL qgW) := qbM Tryz.underlying22 (by kernel_rfl) op295
theorem op24 : Opens Tryz.prog 24 gt_TLibrary qhw :=
 Opens.imp (qa3 (hz := rfl) (f := fun x : ql => x.Ak) (fun p => ⟨p⟩) (fun _ => rfl) Tryz.underlying24 (by kernel_rfl) (qb0 rfl op22)) (fun _ h => h)
theorem op297 : Opens Tryz.prog 297 gt_TInstance qds :=
 Opens.imp (qa3 (hz := rfl) (f := fun x : qe => (x.Ar, x.Bl, x.Ah)) (fun p => ⟨p.1, p.2.1, p.2.2⟩) (fun _ => rfl) Tryz.underlying297 (by kernel_rfl) (qG rfl op9 (qG rfl op2 (qb0 rfl op34)))) (fun _ h => h)
theorem op25 : Opens Tryz.prog 25 (@instList qe gt_TInstance) (rngL qds) := qbM Tryz.underlying25 (by kernel_rfl) op297
theorem op26 : Opens Tryz.prog 26 (@instList ByteArray instStr) (rngL rngS) := qbM Tryz.underlying26 (by kernel_rfl) op9
theorem op300 : Opens Tryz.prog 300 gt_TPort qha :=
 Opens.imp (qa3 (hz := rfl) (f := fun x : qO => (x.Ar, x.Bm, x.Bo)) (fun p => ⟨p.1, p.2.1, p.2.2⟩) (fun _ => rfl) Tryz.underlying300 (by kernel_rfl) (qG rfl op9 (qG rfl op2 (qb0 rfl op2)))) (fun _ h => h)
theorem op27 : Opens Tryz.prog 27 (@instList qO gt_TPort) (rngL qha) := qbM Tryz.underlying27 (by kernel_rfl) op300
theorem op29 : Opens Tryz.prog 29 gt_TDesign qhX :=
 Opens.imp (qa3 (hz := rfl) (f := fun x : qb => (x.Aa, x.Ah, x.Af)) (fun p => ⟨p.1, p.2.1, p.2.2⟩) (fun _ => rfl) Tryz.underlying29 (by kernel_rfl) (qG rfl op25 (qG rfl op26 (qb0 rfl op27)))) (fun _ h => h)
theorem op212 : Opens Tryz.prog 212 gt_TWire qg0 :=
 Opens.imp (qa3 (hz := rfl) (f := fun x : qC => (x.Ai, x.Bn, x.Bk, x.Bc)) (fun p => ⟨p.1, p.2.1, p.2.2.1, p.2.2.2⟩) (fun _ => rfl) Tryz.underlying212 (by kernel_rfl) (qG rfl op34 (qG rfl op34 (qG rfl op34 (qb0 rfl op34))))) (fun _ h => h)
theorem op30 : Opens Tryz.prog 30 (@instList qC gt_TWire) (rngL qg0) := qbM Tryz.underlying30 (by kernel_rfl) op212
theorem op32 : Opens Tryz.prog 32 gt_TBlock qi2 :=
 Opens.imp (qa3 (hz := rfl) (f := fun x : qk => (x.As, x.Ab, x.Ac)) (fun p => ⟨p.1, p.2.1, p.2.2⟩) (fun _ => rfl) Tryz.underlying32 (by kernel_rfl) (qG rfl op24 (qG rfl op29 (qb0 rfl op30)))) (fun _ h => h)
theorem op60 : Opens Tryz.prog 60 (@instList Bool instBool) (rngL rngB) := qbM Tryz.underlying60 (by kernel_rfl) op4
theorem op155 : Opens Tryz.prog 155 gt_TSpan qg9 :=
 Opens.imp (qa3 (hz := rfl) (f := fun x : qh => (x.Au, x.Ba)) (fun p => ⟨p.1, p.2⟩) (fun _ => rfl) Tryz.underlying155 (by kernel_rfl) (qG rfl op2 (qb0 rfl op2))) (fun _ h => h)
theorem op61 : Opens Tryz.prog 61 (@instList qh gt_TSpan) (rngL qg9) := qbM Tryz.underlying61 (by kernel_rfl) op155
theorem op63 : Opens Tryz.prog 63 gt_TTiming qhS :=
 Opens.imp (qa3 (hz := rfl) (f := fun x : qq => (x.Aq, x.Am, x.Az)) (fun p => ⟨p.1, p.2.1, p.2.2⟩) (fun _ => rfl) Tryz.underlying63 (by kernel_rfl) (qG rfl op60 (qG rfl op61 (qb0 rfl op61)))) (fun _ h => h)
set_option maxRecDepth 100000 in
theorem lawCalls {H : Type} {enc : TypeId × Value → H} {W : World} {base : Nat} {args : Array Value} {ds gs : List (DataW H)} {before : List MemPlace}
  (hval : ∀ (j : Nat) t v, Tryz.f4.params[j]? = some t → args[j]? = some v → Value.okWide Tryz.prog W .any base t v) (hW : DataW.Whole enc Tryz.prog Tryz.f4.params.toList Rows.fnExactNetWindowSpec.vars false W args.toList ds gs before) (fresh handsOn again : Bool) :
  Calls Tryz.prog 4 args W fun e W' => ∃ v, e = .returned v ∧ Rows.fnExactNetWindowSpec.post enc Tryz.prog Tryz.f4 false fresh handsOn again W args v W' := by
 have hW' := hW
 obtain ⟨p, q, hA0, hV, rfl, hfz, hnd⟩ := hW
 have hA : DataW.TrodAll enc Tryz.prog W 0 (fun _ => true) true Tryz.f4.params.toList args.toList ds p := hA0
 rw [Tryz.params4] at hA hval
 obtain ⟨v0, v1, v2, d0, d1, d2, q0, q1, q2, rfl, rfl, rfl, h0, h1, h2⟩ := trodAll_three hA
 obtain ⟨rfl, rfl⟩ := trodVars_none hV
 obtain ⟨x0, cs0, rfl, hR0, hx0⟩ := ql9 (A := gt_TBlock) op32 rfl Tryz.underlying32 (hval 0 32 v0 rfl rfl) h0
 obtain ⟨x1, cs1, rfl, hR1, hx1⟩ := ql9 (A := gt_TTiming) op63 rfl Tryz.underlying63 (hval 1 63 v1 rfl rfl) h1
 obtain ⟨x2, cs2, rfl, hR2, hx2⟩ := qo8 (A := instInt) op2 rfl Tryz.underlying2 (hval 2 2 v2 rfl rfl) h2
 obtain rfl : cs2 = [.int .i64 x2] := hR2
 obtain ⟨n, hn⟩ := (qiv hx0 hx1 hx2).at
 have hc := qhz hR0 hR1 hn
 refine Calls.mono hc ?_
 rintro e W' ⟨v, rfl, hb, us, rfl, hvs⟩
 refine ⟨_, rfl, ?_⟩
 rw [qpU hvs]
 exact qoI laidOut1 (by kernel_rfl) rfl Tryz.underlying4 rfl rfl rfl rfl (by simpa using hW') hb
set_option maxRecDepth 100000 in
theorem lifted (fresh handsOn again : Bool) (os : Os) (started : os.Started) (H : Type) (enc : TypeId × Value → H) :
  ReturnsInHanded {} Tryz.checked os 4 .any (fun w args => (Rows.fnExactNetWindowSpec.pre enc Tryz.prog Tryz.f4 Rows.fnExactNetWindowRow.domain false w args ∧ laidMetH Tryz.prog Rows.fnExactNetWindowRow.laid w) ∧ sizedMet enc Tryz.prog Tryz.f4 (OpenSpec.ofChange Rows.fnExactNetWindowSpec) false w args)
   (Rows.fnExactNetWindowSpec.post enc Tryz.prog Tryz.f4 false fresh handsOn again) := by
 refine returnsInHanded_of_change_and (C := Tryz.checked) (X := fun w _ => laidMetH Tryz.prog Rows.fnExactNetWindowRow.laid w) (fun _ _ _ hh h => h.of_heap hh) own1 started (by kernel_rfl) Tryz.func4
  (ChangeSpec.witness_shaped (enc := enc) (C := Tryz.checked) (os := os) (X := fun w _ => laidMetH Tryz.prog Rows.fnExactNetWindowRow.laid w) false (World.laidAll Tryz.prog os Rows.fnExactNetWindowRow.laid) #[.agg #[.slice none 0 0, .slice none 0 0, .slice none 0 0, .slice none 0 0, .slice none 0 0], .agg #[.slice none 0 0, .slice none 0 0, .slice none 0 0], .int .i64 0] 8 (World.laidAll_os _ _ _)
   (World.shaped_of_ZipB (by kernel_rfl) (by kernel_rfl)) (by kernel_rfl) (by kernel_rfl) (by kernel_rfl)
   (by rw [MakeChecks.laidMetH_plain _ _ _ (by kernel_rfl)]; exact laidMet_laidAll _ (by kernel_rfl) (by kernel_rfl))) ?_
 intro W base args ds gs before hval0 hW hc _ hL _
 exact lawCalls hval0 hW _ _ _
theorem ja : ((Rows.fnExactNetWindowRow.inPlace == Tryz.checked.prog.inPlace 4) && ((Rows.fnExactNetWindowRow.unfollowed == Tryz.checked.prog.unfollowed 4) && ((Rows.fnExactNetWindowRow.recurses == Tryz.checked.prog.recurses 4) && (Rows.fnExactNetWindowRow.named == Tryz.checked.prog.varsNamed 4)))) = true := by kernel_rfl
theorem jb : (Tryz.checked.prog.mayEnter && (Tryz.checked.prog.stopsHeard && ((Rows.fnExactNetWindowRow.lifted == Tryz.checked.prog.liftsFinal) && ((Tryz.checked.prog.make == some Rows.fnExactNetWindowRow.make) && ((Rows.fnExactNetWindowRow.plainKeys == Tryz.checked.prog.plainKeys) && (mapsRowed Tryz.checked.prog && laidOutB Tryz.checked.prog)))))) = true := by kernel_rfl
theorem jc : (namedTie Tryz.checked.prog Rows.fnExactNetWindowRow.named Rows.fnExactNetWindowSpec.vars && (Rows.fnExactNetWindowRow.wf (OpenSpec.ofChange Rows.fnExactNetWindowSpec) && (Rows.fnExactNetWindowRow.pinned == Rows.fnExactNetWindowRow.pinnedBy))) = true := by kernel_rfl
theorem andT {a b : Bool} (h : (a && b) = true) : a = true ∧ b = true := by simpa using h
theorem closed : joinedFacts Tryz.checked.prog 4 Tryz.f4 Rows.fnExactNetWindowSpec Rows.fnExactNetWindowRow = true := by
 obtain ⟨j0, h⟩ := andT ja
 obtain ⟨j1, h⟩ := andT h
 obtain ⟨j2, j3⟩ := andT h
 obtain ⟨j4, h⟩ := andT jb
 obtain ⟨j5, h⟩ := andT h
 obtain ⟨j6, h⟩ := andT h
 obtain ⟨j7, h⟩ := andT h
 obtain ⟨j8, h⟩ := andT h
 obtain ⟨j9, j10⟩ := andT h
 obtain ⟨j11, h⟩ := andT jc
 obtain ⟨j12, j13⟩ := andT h
 unfold joinedFacts
 rw [j0, j1, j2, j3, j4, j5, j6, j7, j8, j9, j10, j11, j12, j13]
 kernel_rfl
theorem named1 : Tryz.checked.prog.funcNamed Rows.fnExactNetWindowRow.func = some 4 := by kernel_rfl
theorem instance1 : Tryz.f4.isInstance Tryz.checked.prog Rows.fnExactNetWindowRow.origin Rows.fnExactNetWindowRow.targs := of_decide_eq_true (by kernel_rfl)
theorem wrapper1 : Tryz.f4.isWrapper Tryz.checked.prog Rows.fnExactNetWindowRow.wrapper Rows.fnExactNetWindowRow.mainSum := by
 unfold Func.isWrapper
 first | (rw [if_pos (by decide +kernel)]; kernel_rfl) | (rw [if_neg (by decide +kernel)]; exact ⟨rfl, rfl⟩)
theorem said_holds : Rows.FnExactNetWindowSaid :=
 OpenClaim.holds_of_wide 4 Tryz.f4 rfl rfl rfl rfl rfl rfl rfl ⟨rfl, rfl, rfl, rfl, rfl⟩ rfl rfl rfl rfl rfl named1 Tryz.func4 closed instance1 wrapper1
  (fun os started H enc _ => lifted _ _ _ os started H enc)
theorem goesNone {P : Program} (h : P.funcs.any Func.goes = false) {st : Start} (hs : st = .entering) (nm : String) : P.goesAt st nm = false := by
 subst hs
 have hf : ∀ f, P.goes f = false := fun f => by
  unfold Program.goes
  rw [h, Bool.and_false, Bool.or_false, List.any_eq_false]
  intro g _
  cases hq : P.funcs[g]? with
  | none => simp
  | some fn =>
   obtain ⟨hi, he⟩ := Array.getElem?_eq_some_iff.1 hq
   have := Array.any_eq_false.1 h g hi
   rw [he] at this
   simpa using this
 unfold Program.goesAt Program.goesFrom
 cases P.funcNamed nm with
 | none => rfl
 | some f => simp [hf f]
theorem kg0 : Tryz.checked.prog.funcs.any Func.goes = false := by kernel_rfl
theorem kg : false = Rows.fnExactNetWindowRow.goesBy Tryz.checked.prog := (goesNone kg0 rfl _).symm
theorem kw : Rows.fnExactNetWindowRow.wfByText (OpenSpec.ofChange Rows.fnExactNetWindowSpec) = true := by kernel_rfl
theorem km : Tryz.checked.prog.mainIs = some (true, "3667854c9263a3a53162b93cdec60cecac7793d8eb3523a077847699d50c733e".toList) := by kernel_rfl
theorem kl : false = Tryz.checked.prog.looks [] := by kernel_rfl
theorem kn : Tryz.prog.funcNamed "loop.example/g00861/laws.FnExactNetWindow" = some 4 := by kernel_rfl
theorem ka : ([32, 63, 2].all fun u => !Tryz.prog.wantsStandIn u) = true := by kernel_rfl
theorem card_holds : Rows.FnExactNetWindowCardSaid :=
 Claim7.holds_tied_plain_at .later [] [.data, .pinned] true (true, "3667854c9263a3a53162b93cdec60cecac7793d8eb3523a077847699d50c733e") false said_holds (fun _ h => by cases h) kw (fun _ h => by cases h) fnExactNetWindow_row_tie rfl ⟨rfl, rfl⟩ km rfl
  (fun f fn hf hfn => by
   obtain rfl : f = 4 := Option.some.inj (kn.symm.trans hf) |>.symm
   obtain rfl : fn = Tryz.f4 := (Option.some.inj (Tryz.func4.symm.trans hfn)).symm
   exact ⟨kl, fun j t ht => by
    rw [Tryz.params4] at ht
    have hm : t ∈ [32, 63, 2] := by simpa using Array.mem_of_getElem? ht
    exact (show Tryz.prog.wantsStandIn t = false by simpa using List.all_eq_true.1 ka t hm)⟩)
  kg
end Go.Proofs.YtpblhdihpnjoeaaGreatDoor
