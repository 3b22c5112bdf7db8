/- THE LAW laws.FnExactExtrasOf, for every input: the call returns true, and its arguments read afterwards as they did. By a program of mine (hgen.py). -/
import Derived.Test.YtpblhdihpnjoeaaGreatDoorRows
import Derived.Test.YtpblhdihpnjoeaaGreatDoorCards
import Derived.Test.YtpblhdihpnjoeaaGreatDoorTie
import Derived.ProofKit
import Derived.OpenShut
import Derived.LaidMore
import Derived.Lay
import Derived.SevenTiedAt
import Derived.Test.YtpblhdihpnjoeaaGreatDoorFw46
open Option renaming bind_some → jd
open Nat renaming le_refl → je, mul_le_mul_right → jo, le_of_ble_eq_true → jr, succ_mul → jx, lt_of_lt_of_le → jB, zero_add → jI
open Bool renaming and_eq_true → jf, eq_iff_iff → jh, true_and → jt, not_eq_true' → jw
open Go.Result renaming andThen_ok → jg
open List renaming getElem?_eq_getElem → ji, length_append → jm, mem_cons_of_mem → jn, getElem?_append_left → jp, getElem_mem → jq, mem_cons_self → js, getElem?_append_right → ju, getElem?_toArray → jv, all_eq_true → jy, eq_nil_of_length_eq_zero → jA, getElem?_take → jC, getD_eq_getElem?_getD → jD, drop_eq_getElem_cons → jE, getElem_of_mem → jF, append_assoc → jG, map_append → jH
open Go.Sem renaming run_bind → jj, run_pure → jk
open Int renaming toNat_natCast → jz

namespace Go.Proofs.YtpblhdihpnjoeaaGreatDoor
open Go.ChangeShapes Go.WideShapes Go.ChangeAt Go.RowKit
open Go.Fw
theorem own1 : ownKnob Tryz.prog.godebug = none := by kernel_rfl
theorem laidOut1 : laidOutB Tryz.prog = true := by kernel_rfl
theorem op9 : Opens Tryz.prog 9 instStr rngS := qoa Tryz.underlying9 (by kernel_rfl)
theorem op2 : Opens Tryz.prog 2 instInt rngI := qnJ Tryz.underlying2 (by kernel_rfl)
theorem op4 : Opens Tryz.prog 4 instBool rngB := qna Tryz.underlying4 (by kernel_rfl)
theorem op376 : Opens Tryz.prog 376 gt_TPin qhm :=
 Opens.imp (qbf (hz := rfl) (f := fun x : qF => (x.Am, x.Bh, x.Bg, x.Ba)) (fun p => ⟨p.1, p.2.1, p.2.2.1, p.2.2.2⟩) (fun _ => rfl) Tryz.underlying376 (by kernel_rfl) (qE rfl op9 (qE rfl op2 (qE rfl op2 (qcy rfl op4))))) (fun _ h => h)
theorem op292 : Opens Tryz.prog 292 (@instList qF gt_TPin) (rngL qhm) := qca Tryz.underlying292 (by kernel_rfl) op376
theorem op34 : Opens Tryz.prog 34 (@instList Int instInt) (rngL rngI) := qca Tryz.underlying34 (by kernel_rfl) op2
theorem op413 : Opens Tryz.prog 413 gt_TTable qeP :=
 Opens.imp (qbf (hz := rfl) (f := fun x : ql => (x.Ay, x.Av, x.Ap)) (fun p => ⟨p.1, p.2.1, p.2.2⟩) (fun _ => rfl) Tryz.underlying413 (by kernel_rfl) (qE rfl op34 (qE rfl op34 (qcy rfl op34)))) (fun _ h => h)
theorem op378 : Opens Tryz.prog 378 (@instList ql gt_TTable) (rngL qeP) := qca Tryz.underlying378 (by kernel_rfl) op413
theorem op380 : Opens Tryz.prog 380 gt_TArc qhq :=
 Opens.imp (qbf (hz := rfl) (f := fun x : qz => (x.Ar, x.Az, x.To, x.Bc, x.At, x.Bb)) (fun p => ⟨p.1, p.2.1, p.2.2.1, p.2.2.2.1, p.2.2.2.2.1, p.2.2.2.2.2⟩) (fun _ => rfl) Tryz.underlying380 (by kernel_rfl) (qE rfl op2 (qE rfl op2 (qE rfl op2 (qE rfl op2 (qE rfl op378 (qcy rfl op378))))))) (fun _ h => h)
theorem op293 : Opens Tryz.prog 293 (@instList qz gt_TArc) (rngL qhq) := qca Tryz.underlying293 (by kernel_rfl) op380
theorem op295 : Opens Tryz.prog 295 gt_TCell qgq :=
 Opens.imp (qbf (hz := rfl) (f := fun x : qk => (x.Am, x.Ar, x.Ai, x.Ak, x.Au, x.Bl, x.Bf)) (fun p => ⟨p.1, p.2.1, p.2.2.1, p.2.2.2.1, p.2.2.2.2.1, p.2.2.2.2.2.1, p.2.2.2.2.2.2⟩) (fun _ => rfl) Tryz.underlying295 (by kernel_rfl) (qE rfl op9 (qE rfl op2 (qE rfl op292 (qE rfl op293 (qE rfl op34 (qE rfl op2 (qcy rfl op2)))))))) (fun _ h => h)
theorem op22 : Opens Tryz.prog 22 (@instList qk gt_TCell) (rngL qgq) := qca Tryz.underlying22 (by kernel_rfl) op295
theorem op24 : Opens Tryz.prog 24 gt_TLibrary qgT :=
 Opens.imp (qbf (hz := rfl) (f := fun x : qn => x.Aj) (fun p => ⟨p⟩) (fun _ => rfl) Tryz.underlying24 (by kernel_rfl) (qcy rfl op22)) (fun _ h => h)
theorem op297 : Opens Tryz.prog 297 gt_TInstance qdD :=
 Opens.imp (qbf (hz := rfl) (f := fun x : qc => (x.Am, x.Bj, x.Ac)) (fun p => ⟨p.1, p.2.1, p.2.2⟩) (fun _ => rfl) Tryz.underlying297 (by kernel_rfl) (qE rfl op9 (qE rfl op2 (qcy rfl op34)))) (fun _ h => h)
theorem op25 : Opens Tryz.prog 25 (@instList qc gt_TInstance) (rngL qdD) := qca Tryz.underlying25 (by kernel_rfl) op297
theorem op26 : Opens Tryz.prog 26 (@instList ByteArray instStr) (rngL rngS) := qca Tryz.underlying26 (by kernel_rfl) op9
theorem op300 : Opens Tryz.prog 300 gt_TPort qgB :=
 Opens.imp (qbf (hz := rfl) (f := fun x : qu => (x.Am, x.Bh, x.Bk)) (fun p => ⟨p.1, p.2.1, p.2.2⟩) (fun _ => rfl) Tryz.underlying300 (by kernel_rfl) (qE rfl op9 (qE rfl op2 (qcy rfl op2)))) (fun _ h => h)
theorem op27 : Opens Tryz.prog 27 (@instList qu gt_TPort) (rngL qgB) := qca Tryz.underlying27 (by kernel_rfl) op300
theorem op29 : Opens Tryz.prog 29 gt_TDesign qhr :=
 Opens.imp (qbf (hz := rfl) (f := fun x : qd => (x.Aa, x.Ac, x.Af)) (fun p => ⟨p.1, p.2.1, p.2.2⟩) (fun _ => rfl) Tryz.underlying29 (by kernel_rfl) (qE rfl op25 (qE rfl op26 (qcy rfl op27)))) (fun _ h => h)
theorem op212 : Opens Tryz.prog 212 gt_TWire qgA :=
 Opens.imp (qbf (hz := rfl) (f := fun x : qr => (x.Ah, x.Bi, x.Bg, x.Be)) (fun p => ⟨p.1, p.2.1, p.2.2.1, p.2.2.2⟩) (fun _ => rfl) Tryz.underlying212 (by kernel_rfl) (qE rfl op34 (qE rfl op34 (qE rfl op34 (qcy rfl op34))))) (fun _ h => h)
theorem op30 : Opens Tryz.prog 30 (@instList qr gt_TWire) (rngL qgA) := qca Tryz.underlying30 (by kernel_rfl) op212
theorem op32 : Opens Tryz.prog 32 gt_TBlock qh7 :=
 Opens.imp (qbf (hz := rfl) (f := fun x : qp => (x.As, x.Ab, x.Aq)) (fun p => ⟨p.1, p.2.1, p.2.2⟩) (fun _ => rfl) Tryz.underlying32 (by kernel_rfl) (qE rfl op24 (qE rfl op29 (qcy rfl op30)))) (fun _ h => h)
theorem op118 : Opens Tryz.prog 118 gt_TCoupling qei :=
 Opens.imp (qbf (hz := rfl) (f := fun x : qb => (x.A, x.B, x.Bd)) (fun p => ⟨p.1, p.2.1, p.2.2⟩) (fun _ => rfl) Tryz.underlying118 (by kernel_rfl) (qE rfl op2 (qE rfl op2 (qcy rfl op2)))) (fun _ h => h)
theorem op33 : Opens Tryz.prog 33 (@instList qb gt_TCoupling) (rngL qei) := qca Tryz.underlying33 (by kernel_rfl) op118
set_option maxRecDepth 100000 in
theorem lawCalls {H : Type} {enc : TypeId × Value → H} {W : World} {base : Nat} {args : Array Value} {ds gs : List (DataW H)} {before : List MemPlace}
  (hval : ∀ (j : Nat) t v, Tryz.f3.params[j]? = some t → args[j]? = some v → Value.okWide Tryz.prog W .any base t v) (hW : DataW.Whole enc Tryz.prog Tryz.f3.params.toList Rows.fnExactExtrasOfSpec.vars false W args.toList ds gs before) (fresh handsOn again : Bool) :
  Calls Tryz.prog 3 args W fun e W' => ∃ v, e = .returned v ∧ Rows.fnExactExtrasOfSpec.post enc Tryz.prog Tryz.f3 false fresh handsOn again W args v W' := by
 have hW' := hW
 obtain ⟨p, q, hA0, hV, rfl, hfz, hnd⟩ := hW
 have hA : DataW.TrodAll enc Tryz.prog W 0 (fun _ => true) true Tryz.f3.params.toList args.toList ds p := hA0
 rw [Tryz.params3] at hA hval
 obtain ⟨v0, v1, v2, d0, d1, d2, q0, q1, q2, rfl, rfl, rfl, h0, h1, h2⟩ := trodAll_three hA
 obtain ⟨rfl, rfl⟩ := trodVars_none hV
 obtain ⟨x0, cs0, rfl, hR0, hx0⟩ := qnL (A := gt_TBlock) op32 rfl Tryz.underlying32 (hval 0 32 v0 rfl rfl) h0
 obtain ⟨x1, cs1, rfl, hR1, hx1⟩ := qjG (A := (@instList qb gt_TCoupling)) op33 rfl Tryz.underlying33 (hval 1 33 v1 rfl rfl) h1
 obtain ⟨x2, cs2, rfl, hR2, hx2⟩ := qjG (A := (@instList Int instInt)) op34 rfl Tryz.underlying34 (hval 2 34 v2 rfl rfl) h2
 obtain ⟨n, hn⟩ := (qid hx0 hx1 hx2).at
 have hc := qhe hR0 hR1 hR2 hn
 refine Calls.mono hc ?_
 rintro e W' ⟨v, rfl, hb, us, rfl, hvs⟩
 refine ⟨_, rfl, ?_⟩
 rw [qoi hvs]
 exact qnF laidOut1 (by kernel_rfl) rfl Tryz.underlying4 rfl rfl rfl rfl (by simpa using hW') hb
set_option maxRecDepth 100000 in
theorem lifted (fresh handsOn again : Bool) (os : Os) (started : os.Started) (H : Type) (enc : TypeId × Value → H) :
  ReturnsInHanded {} Tryz.checked os 3 .any (fun w args => (Rows.fnExactExtrasOfSpec.pre enc Tryz.prog Tryz.f3 Rows.fnExactExtrasOfRow.domain false w args ∧ laidMetH Tryz.prog Rows.fnExactExtrasOfRow.laid w) ∧ sizedMet enc Tryz.prog Tryz.f3 (OpenSpec.ofChange Rows.fnExactExtrasOfSpec) false w args)
   (Rows.fnExactExtrasOfSpec.post enc Tryz.prog Tryz.f3 false fresh handsOn again) := by
 refine returnsInHanded_of_change_and (C := Tryz.checked) (X := fun w _ => laidMetH Tryz.prog Rows.fnExactExtrasOfRow.laid w) (fun _ _ _ hh h => h.of_heap hh) own1 started (by kernel_rfl) Tryz.func3
  (ChangeSpec.witness_shaped (enc := enc) (C := Tryz.checked) (os := os) (X := fun w _ => laidMetH Tryz.prog Rows.fnExactExtrasOfRow.laid w) false (World.laidAll Tryz.prog os Rows.fnExactExtrasOfRow.laid) #[.agg #[.slice none 0 0, .slice none 0 0, .slice none 0 0, .slice none 0 0, .slice none 0 0], .slice none 0 0, .slice none 0 0] 8 (World.laidAll_os _ _ _)
   (World.shaped_of_ZipB (by kernel_rfl) (by kernel_rfl)) (by kernel_rfl) (by kernel_rfl) (by kernel_rfl)
   (by rw [MakeChecks.laidMetH_plain _ _ _ (by kernel_rfl)]; exact laidMet_laidAll _ (by kernel_rfl) (by kernel_rfl))) ?_
 intro W base args ds gs before hval0 hW hc _ hL _
 exact lawCalls hval0 hW _ _ _
theorem ja : ((Rows.fnExactExtrasOfRow.inPlace == Tryz.checked.prog.inPlace 3) && ((Rows.fnExactExtrasOfRow.unfollowed == Tryz.checked.prog.unfollowed 3) && ((Rows.fnExactExtrasOfRow.recurses == Tryz.checked.prog.recurses 3) && (Rows.fnExactExtrasOfRow.named == Tryz.checked.prog.varsNamed 3)))) = true := by kernel_rfl
theorem jb : (Tryz.checked.prog.mayEnter && (Tryz.checked.prog.stopsHeard && ((Rows.fnExactExtrasOfRow.lifted == Tryz.checked.prog.liftsFinal) && ((Tryz.checked.prog.make == some Rows.fnExactExtrasOfRow.make) && ((Rows.fnExactExtrasOfRow.plainKeys == Tryz.checked.prog.plainKeys) && (mapsRowed Tryz.checked.prog && laidOutB Tryz.checked.prog)))))) = true := by kernel_rfl
theorem jc : (namedTie Tryz.checked.prog Rows.fnExactExtrasOfRow.named Rows.fnExactExtrasOfSpec.vars && (Rows.fnExactExtrasOfRow.wf (OpenSpec.ofChange Rows.fnExactExtrasOfSpec) && (Rows.fnExactExtrasOfRow.pinned == Rows.fnExactExtrasOfRow.pinnedBy))) = true := by kernel_rfl
theorem andT {a b : Bool} (h : (a && b) = true) : a = true ∧ b = true := by simpa using h
theorem closed : joinedFacts Tryz.checked.prog 3 Tryz.f3 Rows.fnExactExtrasOfSpec Rows.fnExactExtrasOfRow = true := by
 obtain ⟨j0, h⟩ := andT ja
 obtain ⟨j1, h⟩ := andT h
 obtain ⟨j2, j3⟩ := andT h
 obtain ⟨j4, h⟩ := andT jb
 obtain ⟨j5, h⟩ := andT h
 obtain ⟨j6, h⟩ := andT h
 obtain ⟨j7, h⟩ := andT h
 obtain ⟨j8, h⟩ := andT h
 obtain ⟨j9, j10⟩ := andT h
 obtain ⟨j11, h⟩ := andT jc
 obtain ⟨j12, j13⟩ := andT h
 unfold joinedFacts
 rw [j0, j1, j2, j3, j4, j5, j6, j7, j8, j9, j10, j11, j12, j13]
 kernel_rfl
theorem named1 : Tryz.checked.prog.funcNamed Rows.fnExactExtrasOfRow.func = some 3 := by kernel_rfl
theorem instance1 : Tryz.f3.isInstance Tryz.checked.prog Rows.fnExactExtrasOfRow.origin Rows.fnExactExtrasOfRow.targs := of_decide_eq_true (by kernel_rfl)
theorem wrapper1 : Tryz.f3.isWrapper Tryz.checked.prog Rows.fnExactExtrasOfRow.wrapper Rows.fnExactExtrasOfRow.mainSum := by
 unfold Func.isWrapper
 first | (rw [if_pos (by decide +kernel)]; kernel_rfl) | (rw [if_neg (by decide +kernel)]; exact ⟨rfl, rfl⟩)
theorem said_holds : Rows.FnExactExtrasOfSaid :=
 OpenClaim.holds_of_wide 3 Tryz.f3 rfl rfl rfl rfl rfl rfl rfl ⟨rfl, rfl, rfl, rfl, rfl⟩ rfl rfl rfl rfl rfl named1 Tryz.func3 closed instance1 wrapper1
  (fun os started H enc _ => lifted _ _ _ os started H enc)
theorem goesNone {P : Program} (h : P.funcs.any Func.goes = false) {st : Start} (hs : st = .entering) (nm : String) : P.goesAt st nm = false := by
 subst hs
 have hf : ∀ f, P.goes f = false := fun f => by
  unfold Program.goes
  rw [h, Bool.and_false, Bool.or_false, List.any_eq_false]
  intro g _
  cases hq : P.funcs[g]? with
  | none => simp
  | some fn =>
   obtain ⟨hi, he⟩ := Array.getElem?_eq_some_iff.1 hq
   have := Array.any_eq_false.1 h g hi
   rw [he] at this
   simpa using this
 unfold Program.goesAt Program.goesFrom
 cases P.funcNamed nm with
 | none => rfl
 | some f => simp [hf f]
theorem kg0 : Tryz.checked.prog.funcs.any Func.goes = false := by kernel_rfl
theorem kg : false = Rows.fnExactExtrasOfRow.goesBy Tryz.checked.prog := (goesNone kg0 rfl _).symm
theorem kw : Rows.fnExactExtrasOfRow.wfByText (OpenSpec.ofChange Rows.fnExactExtrasOfSpec) = true := by kernel_rfl
theorem km : Tryz.checked.prog.mainIs = some (true, "3667854c9263a3a53162b93cdec60cecac7793d8eb3523a077847699d50c733e".toList) := by kernel_rfl
theorem kl : false = Tryz.checked.prog.looks [] := by kernel_rfl
theorem kn : Tryz.prog.funcNamed "loop.example/g00861/laws.FnExactExtrasOf" = some 3 := by kernel_rfl
theorem ka : ([32, 33, 34].all fun u => !Tryz.prog.wantsStandIn u) = true := by kernel_rfl
theorem card_holds : Rows.FnExactExtrasOfCardSaid :=
 Claim7.holds_tied_plain_at .later [] [.data, .pinned] true (true, "3667854c9263a3a53162b93cdec60cecac7793d8eb3523a077847699d50c733e") false said_holds (fun _ h => by cases h) kw (fun _ h => by cases h) fnExactExtrasOf_row_tie rfl ⟨rfl, rfl⟩ km rfl
  (fun f fn hf hfn => by
   obtain rfl : f = 3 := Option.some.inj (kn.symm.trans hf) |>.symm
   obtain rfl : fn = Tryz.f3 := (Option.some.inj (Tryz.func3.symm.trans hfn)).symm
   exact ⟨kl, fun j t ht => by
    rw [Tryz.params3] at ht
    have hm : t ∈ [32, 33, 34] := by simpa using Array.mem_of_getElem? ht
    exact (show Tryz.prog.wantsStandIn t = false by simpa using List.all_eq_true.1 ka t hm)⟩)
  kg
end Go.Proofs.YtpblhdihpnjoeaaGreatDoor
