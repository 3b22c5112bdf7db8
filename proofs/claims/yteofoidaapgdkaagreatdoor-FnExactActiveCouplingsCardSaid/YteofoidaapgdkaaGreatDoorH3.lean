/- THE LAW laws.FnExactActiveCouplings, for every input: the call returns true, and its arguments read afterwards as they did. By a program of mine (hgen.py). -/
import Derived.Test.YteofoidaapgdkaaGreatDoorRows
import Derived.Test.YteofoidaapgdkaaGreatDoorCards
import Derived.Test.YteofoidaapgdkaaGreatDoorTie
import Derived.ProofKit
import Derived.OpenShut
import Derived.LaidMore
import Derived.Lay
import Derived.SevenTiedAt
import Derived.Test.YteofoidaapgdkaaGreatDoorFw46
open Option renaming bind_some → jd
open Nat renaming le_refl → je, mul_le_mul_right → jn, le_of_ble_eq_true → jp, lt_of_lt_of_le → jr, succ_mul → jC, zero_add → jP, le_trans → jQ
open Bool renaming and_eq_true → jf, eq_iff_iff → jh, not_eq_true' → ju, true_and → jA
open Go.Result renaming andThen_ok → jg
open List renaming getElem?_eq_getElem → ji, length_append → jm, mem_cons_of_mem → jo, getElem?_append_left → jq, getElem_mem → js, mem_cons_self → jt, getElem?_take → jv, getElem?_append_right → jw, append_assoc → jx, getElem?_toArray → jz, eq_nil_of_length_eq_zero → jB, length_singleton → jD, length_map → jE, all_eq_true → jF, getElem_of_mem → jG, size_toArray → jH, getD_eq_getElem?_getD → jJ, map_append → jK, drop_eq_getElem_cons → jL, mem_of_getElem? → jM, not_mem_nil → jN, take_length → jO, mem_cons → jR
open Go.Sem renaming run_bind → jj, run_pure → jk
open Int renaming toNat_natCast → jy
open Array renaming getElem?_append_left → jI

namespace Go.Proofs.YteofoidaapgdkaaGreatDoor
open Go.ChangeShapes Go.WideShapes Go.ChangeAt Go.RowKit
open Go.Fw
theorem own1 : ownKnob Tryz.prog.godebug = none := by kernel_rfl
theorem laidOut1 : laidOutB Tryz.prog = true := by kernel_rfl
theorem op9 : Opens Tryz.prog 9 instStr rngS := qrm Tryz.underlying9 (by kernel_rfl)
theorem op2 : Opens Tryz.prog 2 instInt rngI := qrs Tryz.underlying2 (by kernel_rfl)
theorem op4 : Opens Tryz.prog 4 instBool rngB := qqL Tryz.underlying4 (by kernel_rfl)
theorem op371 : Opens Tryz.prog 371 gt_TPin qjm :=
 Opens.imp (qbg (hz := rfl) (f := fun x : qO => (x.Ar, x.Bm, x.Bk, x.Bh)) (fun p => ⟨p.1, p.2.1, p.2.2.1, p.2.2.2⟩) (fun _ => rfl) Tryz.underlying371 (by kernel_rfl) (qH rfl op9 (qH rfl op2 (qH rfl op2 (qb4 rfl op4))))) (fun _ h => h)
theorem op282 : Opens Tryz.prog 282 (@instList qO gt_TPin) (rngL qjm) := qbX Tryz.underlying282 (by kernel_rfl) op371
theorem op41 : Opens Tryz.prog 41 (@instList Int instInt) (rngL rngI) := qbX Tryz.underlying41 (by kernel_rfl) op2
theorem op408 : Opens Tryz.prog 408 gt_TTable qgb :=
 Opens.imp (qbg (hz := rfl) (f := fun x : qq => (x.Bf, x.Be, x.Av)) (fun p => ⟨p.1, p.2.1, p.2.2⟩) (fun _ => rfl) Tryz.underlying408 (by kernel_rfl) (qH rfl op41 (qH rfl op41 (qb4 rfl op41)))) (fun _ h => h)
theorem op373 : Opens Tryz.prog 373 (@instList qq gt_TTable) (rngL qgb) := qbX Tryz.underlying373 (by kernel_rfl) op408
theorem op375 : Opens Tryz.prog 375 gt_TArc qjw :=
 Opens.imp (qbg (hz := rfl) (f := fun x : qF => (x.Ay, x.Bd, x.To, x.Bi, x.Bb, x.Az)) (fun p => ⟨p.1, p.2.1, p.2.2.1, p.2.2.2.1, p.2.2.2.2.1, p.2.2.2.2.2⟩) (fun _ => rfl) Tryz.underlying375 (by kernel_rfl) (qH rfl op2 (qH rfl op2 (qH rfl op2 (qH rfl op2 (qH rfl op373 (qb4 rfl op373))))))) (fun _ h => h)
theorem op283 : Opens Tryz.prog 283 (@instList qF gt_TArc) (rngL qjw) := qbX Tryz.underlying283 (by kernel_rfl) op375
theorem op285 : Opens Tryz.prog 285 gt_TCell qiv :=
 Opens.imp (qbg (hz := rfl) (f := fun x : qp => (x.Ar, x.Ay, x.Am, x.Aj, x.Bc, x.Bq, x.Bj)) (fun p => ⟨p.1, p.2.1, p.2.2.1, p.2.2.2.1, p.2.2.2.2.1, p.2.2.2.2.2.1, p.2.2.2.2.2.2⟩) (fun _ => rfl) Tryz.underlying285 (by kernel_rfl) (qH rfl op9 (qH rfl op2 (qH rfl op282 (qH rfl op283 (qH rfl op41 (qH rfl op2 (qb4 rfl op2)))))))) (fun _ h => h)
theorem op22 : Opens Tryz.prog 22 (@instList qp gt_TCell) (rngL qiv) := qbX Tryz.underlying22 (by kernel_rfl) op285
theorem op24 : Opens Tryz.prog 24 gt_TLibrary qiQ :=
 Opens.imp (qbg (hz := rfl) (f := fun x : qn => x.Ak) (fun p => ⟨p⟩) (fun _ => rfl) Tryz.underlying24 (by kernel_rfl) (qb4 rfl op22)) (fun _ h => h)
theorem op287 : Opens Tryz.prog 287 gt_TInstance qet :=
 Opens.imp (qbg (hz := rfl) (f := fun x : qd => (x.Ar, x.Bl, x.Ah)) (fun p => ⟨p.1, p.2.1, p.2.2⟩) (fun _ => rfl) Tryz.underlying287 (by kernel_rfl) (qH rfl op9 (qH rfl op2 (qb4 rfl op41)))) (fun _ h => h)
theorem op25 : Opens Tryz.prog 25 (@instList qd gt_TInstance) (rngL qet) := qbX Tryz.underlying25 (by kernel_rfl) op287
theorem op26 : Opens Tryz.prog 26 (@instList ByteArray instStr) (rngL rngS) := qbX Tryz.underlying26 (by kernel_rfl) op9
theorem op290 : Opens Tryz.prog 290 gt_TPort qis :=
 Opens.imp (qbg (hz := rfl) (f := fun x : qB => (x.Ar, x.Bm, x.Bp)) (fun p => ⟨p.1, p.2.1, p.2.2⟩) (fun _ => rfl) Tryz.underlying290 (by kernel_rfl) (qH rfl op9 (qH rfl op2 (qb4 rfl op2)))) (fun _ h => h)
theorem op27 : Opens Tryz.prog 27 (@instList qB gt_TPort) (rngL qis) := qbX Tryz.underlying27 (by kernel_rfl) op290
theorem op29 : Opens Tryz.prog 29 gt_TDesign qjt :=
 Opens.imp (qbg (hz := rfl) (f := fun x : qc => (x.Aa, x.Ah, x.Af)) (fun p => ⟨p.1, p.2.1, p.2.2⟩) (fun _ => rfl) Tryz.underlying29 (by kernel_rfl) (qH rfl op25 (qH rfl op26 (qb4 rfl op27)))) (fun _ h => h)
theorem op202 : Opens Tryz.prog 202 gt_TWire qit :=
 Opens.imp (qbg (hz := rfl) (f := fun x : qw => (x.Ai, x.Bn, x.Bk, x.Bg)) (fun p => ⟨p.1, p.2.1, p.2.2.1, p.2.2.2⟩) (fun _ => rfl) Tryz.underlying202 (by kernel_rfl) (qH rfl op41 (qH rfl op41 (qH rfl op41 (qb4 rfl op41))))) (fun _ h => h)
theorem op30 : Opens Tryz.prog 30 (@instList qw gt_TWire) (rngL qit) := qbX Tryz.underlying30 (by kernel_rfl) op202
theorem op32 : Opens Tryz.prog 32 gt_TBlock qkq :=
 Opens.imp (qbg (hz := rfl) (f := fun x : qk => (x.Au, x.Ab, x.Ac)) (fun p => ⟨p.1, p.2.1, p.2.2⟩) (fun _ => rfl) Tryz.underlying32 (by kernel_rfl) (qH rfl op24 (qH rfl op29 (qb4 rfl op30)))) (fun _ h => h)
theorem op33 : Opens Tryz.prog 33 (@instList Bool instBool) (rngL rngB) := qbX Tryz.underlying33 (by kernel_rfl) op4
theorem op142 : Opens Tryz.prog 142 gt_TSpan qiq :=
 Opens.imp (qbg (hz := rfl) (f := fun x : qm => (x.As, x.Ba)) (fun p => ⟨p.1, p.2⟩) (fun _ => rfl) Tryz.underlying142 (by kernel_rfl) (qH rfl op2 (qb4 rfl op2))) (fun _ h => h)
theorem op34 : Opens Tryz.prog 34 (@instList qm gt_TSpan) (rngL qiq) := qbX Tryz.underlying34 (by kernel_rfl) op142
theorem op36 : Opens Tryz.prog 36 gt_TTiming qjr :=
 Opens.imp (qbg (hz := rfl) (f := fun x : qt => (x.Aq, x.Ap, x.Az)) (fun p => ⟨p.1, p.2.1, p.2.2⟩) (fun _ => rfl) Tryz.underlying36 (by kernel_rfl) (qH rfl op33 (qH rfl op34 (qb4 rfl op34)))) (fun _ h => h)
theorem op113 : Opens Tryz.prog 113 gt_TCoupling qfy :=
 Opens.imp (qbg (hz := rfl) (f := fun x : qe => (x.A, x.B, x.Bo)) (fun p => ⟨p.1, p.2.1, p.2.2⟩) (fun _ => rfl) Tryz.underlying113 (by kernel_rfl) (qH rfl op2 (qH rfl op2 (qb4 rfl op2)))) (fun _ h => h)
theorem op37 : Opens Tryz.prog 37 (@instList qe gt_TCoupling) (rngL qfy) := qbX Tryz.underlying37 (by kernel_rfl) op113
set_option maxRecDepth 100000 in
theorem lawCalls {H : Type} {enc : TypeId × Value → H} {W : World} {base : Nat} {args : Array Value} {ds gs : List (DataW H)} {before : List MemPlace}
  (hval : ∀ (j : Nat) t v, Tryz.f3.params[j]? = some t → args[j]? = some v → Value.okWide Tryz.prog W .any base t v) (hW : DataW.Whole enc Tryz.prog Tryz.f3.params.toList Rows.fnExactActiveCouplingsSpec.vars false W args.toList ds gs before) (fresh handsOn again : Bool) :
  Calls Tryz.prog 3 args W fun e W' => ∃ v, e = .returned v ∧ Rows.fnExactActiveCouplingsSpec.post enc Tryz.prog Tryz.f3 false fresh handsOn again W args v W' := by
 have hW' := hW
 obtain ⟨p, q, hA0, hV, rfl, hfz, hnd⟩ := hW
 have hA : DataW.TrodAll enc Tryz.prog W 0 (fun _ => true) true Tryz.f3.params.toList args.toList ds p := hA0
 rw [Tryz.params3] at hA hval
 obtain ⟨v0, v1, v2, d0, d1, d2, q0, q1, q2, rfl, rfl, rfl, h0, h1, h2⟩ := trodAll_three hA
 obtain ⟨rfl, rfl⟩ := trodVars_none hV
 obtain ⟨x0, cs0, rfl, hR0, hx0⟩ := qor (A := gt_TBlock) op32 rfl Tryz.underlying32 (hval 0 32 v0 rfl rfl) h0
 obtain ⟨x1, cs1, rfl, hR1, hx1⟩ := qor (A := gt_TTiming) op36 rfl Tryz.underlying36 (hval 1 36 v1 rfl rfl) h1
 obtain ⟨x2, cs2, rfl, hR2, hx2⟩ := qpR (A := (@instList qe gt_TCoupling)) op37 rfl Tryz.underlying37 (hval 2 37 v2 rfl rfl) h2
 obtain ⟨n, hn⟩ := (qij hx0 hx1 hx2).at
 have hc := qgM hR0 hR1 hR2 hn
 refine Calls.mono hc ?_
 rintro e W' ⟨v, rfl, hb, us, rfl, hvs⟩
 refine ⟨_, rfl, ?_⟩
 rw [qsA hvs]
 exact qrp laidOut1 (by kernel_rfl) rfl Tryz.underlying4 rfl rfl rfl rfl (by simpa using hW') hb
set_option maxRecDepth 100000 in
theorem lifted (fresh handsOn again : Bool) (os : Os) (started : os.Started) (H : Type) (enc : TypeId × Value → H) :
  ReturnsInHanded {} Tryz.checked os 3 .any (fun w args => (Rows.fnExactActiveCouplingsSpec.pre enc Tryz.prog Tryz.f3 Rows.fnExactActiveCouplingsRow.domain false w args ∧ laidMetH Tryz.prog Rows.fnExactActiveCouplingsRow.laid w) ∧ sizedMet enc Tryz.prog Tryz.f3 (OpenSpec.ofChange Rows.fnExactActiveCouplingsSpec) false w args)
   (Rows.fnExactActiveCouplingsSpec.post enc Tryz.prog Tryz.f3 false fresh handsOn again) := by
 refine returnsInHanded_of_change_and (C := Tryz.checked) (X := fun w _ => laidMetH Tryz.prog Rows.fnExactActiveCouplingsRow.laid w) (fun _ _ _ hh h => h.of_heap hh) own1 started (by kernel_rfl) Tryz.func3
  (ChangeSpec.witness_shaped (enc := enc) (C := Tryz.checked) (os := os) (X := fun w _ => laidMetH Tryz.prog Rows.fnExactActiveCouplingsRow.laid w) false (World.laidAll Tryz.prog os Rows.fnExactActiveCouplingsRow.laid) #[.agg #[.slice none 0 0, .slice none 0 0, .slice none 0 0, .slice none 0 0, .slice none 0 0], .agg #[.slice none 0 0, .slice none 0 0, .slice none 0 0], .slice none 0 0] 8 (World.laidAll_os _ _ _)
   (World.shaped_of_ZipB (by kernel_rfl) (by kernel_rfl)) (by kernel_rfl) (by kernel_rfl) (by kernel_rfl)
   (by rw [MakeChecks.laidMetH_plain _ _ _ (by kernel_rfl)]; exact laidMet_laidAll _ (by kernel_rfl) (by kernel_rfl))) ?_
 intro W base args ds gs before hval0 hW hc _ hL _
 exact lawCalls hval0 hW _ _ _
theorem ja : ((Rows.fnExactActiveCouplingsRow.inPlace == Tryz.checked.prog.inPlace 3) && ((Rows.fnExactActiveCouplingsRow.unfollowed == Tryz.checked.prog.unfollowed 3) && ((Rows.fnExactActiveCouplingsRow.recurses == Tryz.checked.prog.recurses 3) && (Rows.fnExactActiveCouplingsRow.named == Tryz.checked.prog.varsNamed 3)))) = true := by kernel_rfl
theorem jb : (Tryz.checked.prog.mayEnter && (Tryz.checked.prog.stopsHeard && ((Rows.fnExactActiveCouplingsRow.lifted == Tryz.checked.prog.liftsFinal) && ((Tryz.checked.prog.make == some Rows.fnExactActiveCouplingsRow.make) && ((Rows.fnExactActiveCouplingsRow.plainKeys == Tryz.checked.prog.plainKeys) && (mapsRowed Tryz.checked.prog && laidOutB Tryz.checked.prog)))))) = true := by kernel_rfl
theorem jc : (namedTie Tryz.checked.prog Rows.fnExactActiveCouplingsRow.named Rows.fnExactActiveCouplingsSpec.vars && (Rows.fnExactActiveCouplingsRow.wf (OpenSpec.ofChange Rows.fnExactActiveCouplingsSpec) && (Rows.fnExactActiveCouplingsRow.pinned == Rows.fnExactActiveCouplingsRow.pinnedBy))) = true := by kernel_rfl
theorem andT {a b : Bool} (h : (a && b) = true) : a = true ∧ b = true := by simpa using h
theorem closed : joinedFacts Tryz.checked.prog 3 Tryz.f3 Rows.fnExactActiveCouplingsSpec Rows.fnExactActiveCouplingsRow = true := by
 obtain ⟨j0, h⟩ := andT ja
 obtain ⟨j1, h⟩ := andT h
 obtain ⟨j2, j3⟩ := andT h
 obtain ⟨j4, h⟩ := andT jb
 obtain ⟨j5, h⟩ := andT h
 obtain ⟨j6, h⟩ := andT h
 obtain ⟨j7, h⟩ := andT h
 obtain ⟨j8, h⟩ := andT h
 obtain ⟨j9, j10⟩ := andT h
 obtain ⟨j11, h⟩ := andT jc
 obtain ⟨j12, j13⟩ := andT h
 unfold joinedFacts
 rw [j0, j1, j2, j3, j4, j5, j6, j7, j8, j9, j10, j11, j12, j13]
 kernel_rfl
theorem named1 : Tryz.checked.prog.funcNamed Rows.fnExactActiveCouplingsRow.func = some 3 := by kernel_rfl
theorem instance1 : Tryz.f3.isInstance Tryz.checked.prog Rows.fnExactActiveCouplingsRow.origin Rows.fnExactActiveCouplingsRow.targs := of_decide_eq_true (by kernel_rfl)
theorem wrapper1 : Tryz.f3.isWrapper Tryz.checked.prog Rows.fnExactActiveCouplingsRow.wrapper Rows.fnExactActiveCouplingsRow.mainSum := by
 unfold Func.isWrapper
 first | (rw [if_pos (by decide +kernel)]; kernel_rfl) | (rw [if_neg (by decide +kernel)]; exact ⟨rfl, rfl⟩)
theorem said_holds : Rows.FnExactActiveCouplingsSaid :=
 OpenClaim.holds_of_wide 3 Tryz.f3 rfl rfl rfl rfl rfl rfl rfl ⟨rfl, rfl, rfl, rfl, rfl⟩ rfl rfl rfl rfl rfl named1 Tryz.func3 closed instance1 wrapper1
  (fun os started H enc _ => lifted _ _ _ os started H enc)
theorem goesNone {P : Program} (h : P.funcs.any Func.goes = false) {st : Start} (hs : st = .entering) (nm : String) : P.goesAt st nm = false := by
 subst hs
 have hf : ∀ f, P.goes f = false := fun f => by
  unfold Program.goes
  rw [h, Bool.and_false, Bool.or_false, List.any_eq_false]
  intro g _
  cases hq : P.funcs[g]? with
  | none => simp
  | some fn =>
   obtain ⟨hi, he⟩ := Array.getElem?_eq_some_iff.1 hq
   have := Array.any_eq_false.1 h g hi
   rw [he] at this
   simpa using this
 unfold Program.goesAt Program.goesFrom
 cases P.funcNamed nm with
 | none => rfl
 | some f => simp [hf f]
theorem kg0 : Tryz.checked.prog.funcs.any Func.goes = false := by kernel_rfl
theorem kg : false = Rows.fnExactActiveCouplingsRow.goesBy Tryz.checked.prog := (goesNone kg0 rfl _).symm
theorem kw : Rows.fnExactActiveCouplingsRow.wfByText (OpenSpec.ofChange Rows.fnExactActiveCouplingsSpec) = true := by kernel_rfl
theorem km : Tryz.checked.prog.mainIs = some (true, "f106dceb14c82f323192426f410fcf41e62a360cb4e472762b1219f1fe4f146b".toList) := by kernel_rfl
theorem kl : false = Tryz.checked.prog.looks [] := by kernel_rfl
theorem kn : Tryz.prog.funcNamed "loop.example/g00861/laws.FnExactActiveCouplings" = some 3 := by kernel_rfl
theorem ka : ([32, 36, 37].all fun u => !Tryz.prog.wantsStandIn u) = true := by kernel_rfl
theorem card_holds : Rows.FnExactActiveCouplingsCardSaid :=
 Claim7.holds_tied_plain_at .later [] [.data, .pinned] true (true, "f106dceb14c82f323192426f410fcf41e62a360cb4e472762b1219f1fe4f146b") false said_holds (fun _ h => by cases h) kw (fun _ h => by cases h) fnExactActiveCouplings_row_tie rfl ⟨rfl, rfl⟩ km rfl
  (fun f fn hf hfn => by
   obtain rfl : f = 3 := Option.some.inj (kn.symm.trans hf) |>.symm
   obtain rfl : fn = Tryz.f3 := (Option.some.inj (Tryz.func3.symm.trans hfn)).symm
   exact ⟨kl, fun j t ht => by
    rw [Tryz.params3] at ht
    have hm : t ∈ [32, 36, 37] := by simpa using Array.mem_of_getElem? ht
    exact (show Tryz.prog.wantsStandIn t = false by simpa using List.all_eq_true.1 ka t hm)⟩)
  kg
end Go.Proofs.YteofoidaapgdkaaGreatDoor
