/- THE LAW laws.FnExactTimingWithExtras, for every input: the call returns true, and its arguments read afterwards as they did. By a program of mine (hgen.py). -/
import Derived.Test.YteofoidaapgdkaaGreatDoorRows
import Derived.Test.YteofoidaapgdkaaGreatDoorCards
import Derived.Test.YteofoidaapgdkaaGreatDoorTie
import Derived.ProofKit
import Derived.OpenShut
import Derived.LaidMore
import Derived.Lay
import Derived.SevenTiedAt
import Derived.Test.YteofoidaapgdkaaGreatDoorFw46
open Option renaming bind_some → jd
open Nat renaming le_refl → je, le_of_ble_eq_true → jr, mul_le_mul_right → js, lt_of_lt_of_le → jv, succ_mul → jL, zero_add → Jd, add_zero → Je
open Bool renaming and_eq_true → jf, eq_iff_iff → jk, true_and → jz, not_eq_true' → jG, not_true → jX
open Go.Result renaming andThen_ok → jg
open List renaming length_append → jh, getElem?_eq_getElem → ji, mem_cons_of_mem → jn, getElem_mem → jp, append_assoc → jq, length_singleton → jt, getElem?_append_left → ju, mem_cons_self → jw, length_map → jx, take_succ_eq_append_getElem → jy, getElem?_take → jA, getElem?_append_right → jB, getD_eq_getElem?_getD → jC, getElem?_toArray → jE, take_length → jF, eq_nil_of_length_eq_zero → jI, drop_eq_getElem_cons → jJ, map_append → jK, all_eq_true → jM, not_mem_nil → jN, getElem_of_mem → jO, length_replicate → jP, size_toArray → jQ, mem_append_left → jR, append_nil → jT, mem_of_getElem? → jU, mem_cons → jW, range_succ → Ja, length_take → Jb, ext_getElem → Jc
open Go.Sem renaming run_bind → jj, run_pure → jm
open Int renaming toNat_natCast → jo, tdiv_eq_ediv_of_nonneg → jD, mul_nonneg → jS, mul_assoc → jV, mul_le_mul → jY, le_refl → jZ, add_zero → Jf
open Array renaming getElem?_append_left → jH

namespace Go.Proofs.YteofoidaapgdkaaGreatDoor
open Go.ChangeShapes Go.WideShapes Go.ChangeAt Go.RowKit
open Go.Fw
theorem own1 : ownKnob Tryz.prog.godebug = none := by kernel_rfl
theorem laidOut1 : laidOutB Tryz.prog = true := by kernel_rfl
theorem op9 : Opens Tryz.prog 9 instStr rngS := qvw Tryz.underlying9 (by kernel_rfl)
theorem op2 : Opens Tryz.prog 2 instInt rngI := qvO Tryz.underlying2 (by kernel_rfl)
theorem op4 : Opens Tryz.prog 4 instBool rngB := quU Tryz.underlying4 (by kernel_rfl)
theorem op371 : Opens Tryz.prog 371 gt_TPin qmg :=
 Opens.imp (qbY (hz := rfl) (f := fun x : qal => (x.Az, x.Br, x.Bo, x.Bn)) (fun p => ⟨p.1, p.2.1, p.2.2.1, p.2.2.2⟩) (fun _ => rfl) Tryz.underlying371 (by kernel_rfl) (qR rfl op9 (qR rfl op2 (qR rfl op2 (qdh rfl op4))))) (fun _ h => h)
theorem op282 : Opens Tryz.prog 282 (@instList qal gt_TPin) (rngL qmg) := qej Tryz.underlying282 (by kernel_rfl) op371
theorem op41 : Opens Tryz.prog 41 (@instList Int instInt) (rngL rngI) := qej Tryz.underlying41 (by kernel_rfl) op2
theorem op408 : Opens Tryz.prog 408 gt_TTable qio :=
 Opens.imp (qbY (hz := rfl) (f := fun x : qt => (x.Bi, x.Bb, x.Ba)) (fun p => ⟨p.1, p.2.1, p.2.2⟩) (fun _ => rfl) Tryz.underlying408 (by kernel_rfl) (qR rfl op41 (qR rfl op41 (qdh rfl op41)))) (fun _ h => h)
theorem op373 : Opens Tryz.prog 373 (@instList qt gt_TTable) (rngL qio) := qej Tryz.underlying373 (by kernel_rfl) op408
theorem op375 : Opens Tryz.prog 375 gt_TArc qms :=
 Opens.imp (qbY (hz := rfl) (f := fun x : qG => (x.Av, x.Be, x.To, x.Bl, x.Bj, x.Aq)) (fun p => ⟨p.1, p.2.1, p.2.2.1, p.2.2.2.1, p.2.2.2.2.1, p.2.2.2.2.2⟩) (fun _ => rfl) Tryz.underlying375 (by kernel_rfl) (qR rfl op2 (qR rfl op2 (qR rfl op2 (qR rfl op2 (qR rfl op373 (qdh rfl op373))))))) (fun _ h => h)
theorem op283 : Opens Tryz.prog 283 (@instList qG gt_TArc) (rngL qms) := qej Tryz.underlying283 (by kernel_rfl) op375
theorem op285 : Opens Tryz.prog 285 gt_TCell qkT :=
 Opens.imp (qbY (hz := rfl) (f := fun x : qw => (x.Az, x.Av, x.Au, x.As, x.Bk, x.Bw, x.Bq)) (fun p => ⟨p.1, p.2.1, p.2.2.1, p.2.2.2.1, p.2.2.2.2.1, p.2.2.2.2.2.1, p.2.2.2.2.2.2⟩) (fun _ => rfl) Tryz.underlying285 (by kernel_rfl) (qR rfl op9 (qR rfl op2 (qR rfl op282 (qR rfl op283 (qR rfl op41 (qR rfl op2 (qdh rfl op2)))))))) (fun _ h => h)
theorem op22 : Opens Tryz.prog 22 (@instList qw gt_TCell) (rngL qkT) := qej Tryz.underlying22 (by kernel_rfl) op285
theorem op24 : Opens Tryz.prog 24 gt_TLibrary qlk :=
 Opens.imp (qbY (hz := rfl) (f := fun x : qr => x.Ap) (fun p => ⟨p⟩) (fun _ => rfl) Tryz.underlying24 (by kernel_rfl) (qdh rfl op22)) (fun _ h => h)
theorem op287 : Opens Tryz.prog 287 gt_TInstance qf4 :=
 Opens.imp (qbY (hz := rfl) (f := fun x : qi => (x.Az, x.Bp, x.Ai)) (fun p => ⟨p.1, p.2.1, p.2.2⟩) (fun _ => rfl) Tryz.underlying287 (by kernel_rfl) (qR rfl op9 (qR rfl op2 (qdh rfl op41)))) (fun _ h => h)
theorem op25 : Opens Tryz.prog 25 (@instList qi gt_TInstance) (rngL qf4) := qej Tryz.underlying25 (by kernel_rfl) op287
theorem op26 : Opens Tryz.prog 26 (@instList ByteArray instStr) (rngL rngS) := qej Tryz.underlying26 (by kernel_rfl) op9
theorem op290 : Opens Tryz.prog 290 gt_TPort qkQ :=
 Opens.imp (qbY (hz := rfl) (f := fun x : qP => (x.Az, x.Br, x.Bt)) (fun p => ⟨p.1, p.2.1, p.2.2⟩) (fun _ => rfl) Tryz.underlying290 (by kernel_rfl) (qR rfl op9 (qR rfl op2 (qdh rfl op2)))) (fun _ h => h)
theorem op27 : Opens Tryz.prog 27 (@instList qP gt_TPort) (rngL qkQ) := qej Tryz.underlying27 (by kernel_rfl) op290
theorem op29 : Opens Tryz.prog 29 gt_TDesign qmd :=
 Opens.imp (qbY (hz := rfl) (f := fun x : qf => (x.Ab, x.Ai, x.Ah)) (fun p => ⟨p.1, p.2.1, p.2.2⟩) (fun _ => rfl) Tryz.underlying29 (by kernel_rfl) (qR rfl op25 (qR rfl op26 (qdh rfl op27)))) (fun _ h => h)
theorem op202 : Opens Tryz.prog 202 gt_TWire qkw :=
 Opens.imp (qbY (hz := rfl) (f := fun x : qE => (x.Ak, x.Bs, x.Bo, x.Bh)) (fun p => ⟨p.1, p.2.1, p.2.2.1, p.2.2.2⟩) (fun _ => rfl) Tryz.underlying202 (by kernel_rfl) (qR rfl op41 (qR rfl op41 (qR rfl op41 (qdh rfl op41))))) (fun _ h => h)
theorem op30 : Opens Tryz.prog 30 (@instList qE gt_TWire) (rngL qkw) := qej Tryz.underlying30 (by kernel_rfl) op202
theorem op32 : Opens Tryz.prog 32 gt_TBlock qnt :=
 Opens.imp (qbY (hz := rfl) (f := fun x : qg => (x.Ar, x.Aa, x.Ac)) (fun p => ⟨p.1, p.2.1, p.2.2⟩) (fun _ => rfl) Tryz.underlying32 (by kernel_rfl) (qR rfl op24 (qR rfl op29 (qdh rfl op30)))) (fun _ h => h)
theorem op71 : Opens Tryz.prog 71 gt_TCorner qmi :=
 Opens.imp (qbY (hz := rfl) (f := fun x : qy => (x.Az, x.Bc, x.Bf, x.Bd, x.Bg)) (fun p => ⟨p.1, p.2.1, p.2.2.1, p.2.2.2.1, p.2.2.2.2⟩) (fun _ => rfl) Tryz.underlying71 (by kernel_rfl) (qR rfl op9 (qR rfl op2 (qR rfl op2 (qR rfl op2 (qdh rfl op2)))))) (fun _ h => h)
theorem op142 : Opens Tryz.prog 142 gt_TSpan qo1 :=
 Opens.imp (qbY (hz := rfl) (f := fun x : qc => (x.Am, x.Ay)) (fun p => ⟨p.1, p.2⟩) (fun _ => rfl) Tryz.underlying142 (by kernel_rfl) (qR rfl op2 (qdh rfl op2))) (fun _ h => h)
theorem op144 : Opens Tryz.prog 144 gt_TSource qi5 :=
 Opens.imp (qbY (hz := rfl) (f := fun x : qe => (x.Bm, x.Af, x.Aq)) (fun p => ⟨p.1, p.2.1, p.2.2⟩) (fun _ => rfl) Tryz.underlying144 (by kernel_rfl) (qR rfl op2 (qR rfl op142 (qdh rfl op142)))) (fun _ h => h)
theorem op72 : Opens Tryz.prog 72 (@instList qe gt_TSource) (rngL qi5) := qej Tryz.underlying72 (by kernel_rfl) op144
set_option maxRecDepth 100000 in
theorem lawCalls {H : Type} {enc : TypeId × Value → H} {W : World} {base : Nat} {args : Array Value} {ds gs : List (DataW H)} {before : List MemPlace}
  (hval : ∀ (j : Nat) t v, Tryz.f5.params[j]? = some t → args[j]? = some v → Value.okWide Tryz.prog W .any base t v) (hW : DataW.Whole enc Tryz.prog Tryz.f5.params.toList Rows.fnExactTimingWithExtrasSpec.vars false W args.toList ds gs before) (fresh handsOn again : Bool) :
  Calls Tryz.prog 5 args W fun e W' => ∃ v, e = .returned v ∧ Rows.fnExactTimingWithExtrasSpec.post enc Tryz.prog Tryz.f5 false fresh handsOn again W args v W' := by
 have hW' := hW
 obtain ⟨p, q, hA0, hV, rfl, hfz, hnd⟩ := hW
 have hA : DataW.TrodAll enc Tryz.prog W 0 (fun _ => true) true Tryz.f5.params.toList args.toList ds p := hA0
 rw [Tryz.params5] at hA hval
 obtain ⟨v0, v1, v2, v3, v4, d0, d1, d2, d3, d4, q0, q1, q2, q3, q4, rfl, rfl, rfl, h0, h1, h2, h3, h4⟩ := qsU hA
 obtain ⟨rfl, rfl⟩ := trodVars_none hV
 obtain ⟨x0, cs0, rfl, hR0, hx0⟩ := qr3 (A := gt_TBlock) op32 rfl Tryz.underlying32 (hval 0 32 v0 rfl rfl) h0
 obtain ⟨x1, cs1, rfl, hR1, hx1⟩ := qr3 (A := gt_TCorner) op71 rfl Tryz.underlying71 (hval 1 71 v1 rfl rfl) h1
 obtain ⟨x2, cs2, rfl, hR2, hx2⟩ := qmX (A := (@instList Int instInt)) op41 rfl Tryz.underlying41 (hval 2 41 v2 rfl rfl) h2
 obtain ⟨x3, cs3, rfl, hR3, hx3⟩ := qmX (A := (@instList qe gt_TSource)) op72 rfl Tryz.underlying72 (hval 3 72 v3 rfl rfl) h3
 obtain ⟨x4, cs4, rfl, hR4, hx4⟩ := qmX (A := (@instList Int instInt)) op41 rfl Tryz.underlying41 (hval 4 41 v4 rfl rfl) h4
 obtain ⟨n, hn⟩ := (qko hx0 hx1 hx2 hx3 hx4).at
 have hc := qiZ hR0 hR1 hR2 hR3 hR4 hn
 refine Calls.mono hc ?_
 rintro e W' ⟨v, rfl, hb, us, rfl, hvs⟩
 refine ⟨_, rfl, ?_⟩
 rw [qwJ hvs]
 exact qwd laidOut1 (by kernel_rfl) rfl Tryz.underlying4 rfl rfl rfl rfl (by simpa using hW') hb
set_option maxRecDepth 100000 in
theorem lifted (fresh handsOn again : Bool) (os : Os) (started : os.Started) (H : Type) (enc : TypeId × Value → H) :
  ReturnsInHanded {} Tryz.checked os 5 .any (fun w args => (Rows.fnExactTimingWithExtrasSpec.pre enc Tryz.prog Tryz.f5 Rows.fnExactTimingWithExtrasRow.domain false w args ∧ laidMetH Tryz.prog Rows.fnExactTimingWithExtrasRow.laid w) ∧ sizedMet enc Tryz.prog Tryz.f5 (OpenSpec.ofChange Rows.fnExactTimingWithExtrasSpec) false w args)
   (Rows.fnExactTimingWithExtrasSpec.post enc Tryz.prog Tryz.f5 false fresh handsOn again) := by
 refine returnsInHanded_of_change_and (C := Tryz.checked) (X := fun w _ => laidMetH Tryz.prog Rows.fnExactTimingWithExtrasRow.laid w) (fun _ _ _ hh h => h.of_heap hh) own1 started (by kernel_rfl) Tryz.func5
  (ChangeSpec.witness_shaped (enc := enc) (C := Tryz.checked) (os := os) (X := fun w _ => laidMetH Tryz.prog Rows.fnExactTimingWithExtrasRow.laid w) false (World.laidAll Tryz.prog os Rows.fnExactTimingWithExtrasRow.laid) #[.agg #[.slice none 0 0, .slice none 0 0, .slice none 0 0, .slice none 0 0, .slice none 0 0], .agg #[.string ByteArray.empty, .int .i64 0, .int .i64 0, .int .i64 0, .int .i64 0], .slice none 0 0, .slice none 0 0, .slice none 0 0] 8 (World.laidAll_os _ _ _)
   (World.shaped_of_ZipB (by kernel_rfl) (by kernel_rfl)) (by kernel_rfl) (by kernel_rfl) (by kernel_rfl)
   (by rw [MakeChecks.laidMetH_plain _ _ _ (by kernel_rfl)]; exact laidMet_laidAll _ (by kernel_rfl) (by kernel_rfl))) ?_
 intro W base args ds gs before hval0 hW hc _ hL _
 exact lawCalls hval0 hW _ _ _
theorem ja : ((Rows.fnExactTimingWithExtrasRow.inPlace == Tryz.checked.prog.inPlace 5) && ((Rows.fnExactTimingWithExtrasRow.unfollowed == Tryz.checked.prog.unfollowed 5) && ((Rows.fnExactTimingWithExtrasRow.recurses == Tryz.checked.prog.recurses 5) && (Rows.fnExactTimingWithExtrasRow.named == Tryz.checked.prog.varsNamed 5)))) = true := by kernel_rfl
theorem jb : (Tryz.checked.prog.mayEnter && (Tryz.checked.prog.stopsHeard && ((Rows.fnExactTimingWithExtrasRow.lifted == Tryz.checked.prog.liftsFinal) && ((Tryz.checked.prog.make == some Rows.fnExactTimingWithExtrasRow.make) && ((Rows.fnExactTimingWithExtrasRow.plainKeys == Tryz.checked.prog.plainKeys) && (mapsRowed Tryz.checked.prog && laidOutB Tryz.checked.prog)))))) = true := by kernel_rfl
theorem jc : (namedTie Tryz.checked.prog Rows.fnExactTimingWithExtrasRow.named Rows.fnExactTimingWithExtrasSpec.vars && (Rows.fnExactTimingWithExtrasRow.wf (OpenSpec.ofChange Rows.fnExactTimingWithExtrasSpec) && (Rows.fnExactTimingWithExtrasRow.pinned == Rows.fnExactTimingWithExtrasRow.pinnedBy))) = true := by kernel_rfl
theorem andT {a b : Bool} (h : (a && b) = true) : a = true ∧ b = true := by simpa using h
theorem closed : joinedFacts Tryz.checked.prog 5 Tryz.f5 Rows.fnExactTimingWithExtrasSpec Rows.fnExactTimingWithExtrasRow = true := by
 obtain ⟨j0, h⟩ := andT ja
 obtain ⟨j1, h⟩ := andT h
 obtain ⟨j2, j3⟩ := andT h
 obtain ⟨j4, h⟩ := andT jb
 obtain ⟨j5, h⟩ := andT h
 obtain ⟨j6, h⟩ := andT h
 obtain ⟨j7, h⟩ := andT h
 obtain ⟨j8, h⟩ := andT h
 obtain ⟨j9, j10⟩ := andT h
 obtain ⟨j11, h⟩ := andT jc
 obtain ⟨j12, j13⟩ := andT h
 unfold joinedFacts
 rw [j0, j1, j2, j3, j4, j5, j6, j7, j8, j9, j10, j11, j12, j13]
 kernel_rfl
theorem named1 : Tryz.checked.prog.funcNamed Rows.fnExactTimingWithExtrasRow.func = some 5 := by kernel_rfl
theorem instance1 : Tryz.f5.isInstance Tryz.checked.prog Rows.fnExactTimingWithExtrasRow.origin Rows.fnExactTimingWithExtrasRow.targs := of_decide_eq_true (by kernel_rfl)
theorem wrapper1 : Tryz.f5.isWrapper Tryz.checked.prog Rows.fnExactTimingWithExtrasRow.wrapper Rows.fnExactTimingWithExtrasRow.mainSum := by
 unfold Func.isWrapper
 first | (rw [if_pos (by decide +kernel)]; kernel_rfl) | (rw [if_neg (by decide +kernel)]; exact ⟨rfl, rfl⟩)
theorem said_holds : Rows.FnExactTimingWithExtrasSaid :=
 OpenClaim.holds_of_wide 5 Tryz.f5 rfl rfl rfl rfl rfl rfl rfl ⟨rfl, rfl, rfl, rfl, rfl⟩ rfl rfl rfl rfl rfl named1 Tryz.func5 closed instance1 wrapper1
  (fun os started H enc _ => lifted _ _ _ os started H enc)
theorem goesNone {P : Program} (h : P.funcs.any Func.goes = false) {st : Start} (hs : st = .entering) (nm : String) : P.goesAt st nm = false := by
 subst hs
 have hf : ∀ f, P.goes f = false := fun f => by
  unfold Program.goes
  rw [h, Bool.and_false, Bool.or_false, List.any_eq_false]
  intro g _
  cases hq : P.funcs[g]? with
  | none => simp
  | some fn =>
   obtain ⟨hi, he⟩ := Array.getElem?_eq_some_iff.1 hq
   have := Array.any_eq_false.1 h g hi
   rw [he] at this
   simpa using this
 unfold Program.goesAt Program.goesFrom
 cases P.funcNamed nm with
 | none => rfl
 | some f => simp [hf f]
theorem kg0 : Tryz.checked.prog.funcs.any Func.goes = false := by kernel_rfl
theorem kg : false = Rows.fnExactTimingWithExtrasRow.goesBy Tryz.checked.prog := (goesNone kg0 rfl _).symm
theorem kw : Rows.fnExactTimingWithExtrasRow.wfByText (OpenSpec.ofChange Rows.fnExactTimingWithExtrasSpec) = true := by kernel_rfl
theorem km : Tryz.checked.prog.mainIs = some (true, "f106dceb14c82f323192426f410fcf41e62a360cb4e472762b1219f1fe4f146b".toList) := by kernel_rfl
theorem kl : false = Tryz.checked.prog.looks [] := by kernel_rfl
theorem kn : Tryz.prog.funcNamed "loop.example/g00861/laws.FnExactTimingWithExtras" = some 5 := by kernel_rfl
theorem ka : ([32, 71, 41, 72, 41].all fun u => !Tryz.prog.wantsStandIn u) = true := by kernel_rfl
theorem card_holds : Rows.FnExactTimingWithExtrasCardSaid :=
 Claim7.holds_tied_plain_at .later [] [.data, .pinned] true (true, "f106dceb14c82f323192426f410fcf41e62a360cb4e472762b1219f1fe4f146b") false said_holds (fun _ h => by cases h) kw (fun _ h => by cases h) fnExactTimingWithExtras_row_tie rfl ⟨rfl, rfl⟩ km rfl
  (fun f fn hf hfn => by
   obtain rfl : f = 5 := Option.some.inj (kn.symm.trans hf) |>.symm
   obtain rfl : fn = Tryz.f5 := (Option.some.inj (Tryz.func5.symm.trans hfn)).symm
   exact ⟨kl, fun j t ht => by
    rw [Tryz.params5] at ht
    have hm : t ∈ [32, 71, 41, 72, 41] := by simpa using Array.mem_of_getElem? ht
    exact (show Tryz.prog.wantsStandIn t = false by simpa using List.all_eq_true.1 ka t hm)⟩)
  kg
end Go.Proofs.YteofoidaapgdkaaGreatDoor
