/- THE LAW laws.FnExactIsSettled, for every input: the call returns true, and its arguments read afterwards as they did. By a program of mine (hgen.py). -/
import Derived.Test.YteofoidaapgdkaaGreatDoorRows
import Derived.Test.YteofoidaapgdkaaGreatDoorCards
import Derived.Test.YteofoidaapgdkaaGreatDoorTie
import Derived.ProofKit
import Derived.OpenShut
import Derived.LaidMore
import Derived.Lay
import Derived.SevenTiedAt
import Derived.Test.YteofoidaapgdkaaGreatDoorFw46
open Option renaming bind_some → jd
open Nat renaming le_refl → je, mul_le_mul_right → jq, le_of_ble_eq_true → jt, lt_of_lt_of_le → jw, succ_mul → jI, zero_add → jZ, le_trans → Jc
open Bool renaming and_eq_true → jf, eq_iff_iff → jj, true_and → jx, not_eq_true' → jC, not_true → Ja
open Go.Result renaming andThen_ok → jg
open List renaming length_append → jh, getElem?_eq_getElem → ji, mem_cons_of_mem → jo, getElem_mem → jp, length_singleton → jr, append_assoc → js, getElem?_append_left → ju, length_map → jv, mem_cons_self → jy, getElem?_take → jz, getElem?_append_right → jA, getD_eq_getElem?_getD → jB, take_succ_eq_append_getElem → jD, getElem?_toArray → jE, eq_nil_of_length_eq_zero → jG, take_length → jH, length_replicate → jJ, all_eq_true → jK, drop_eq_getElem_cons → jM, not_mem_nil → jN, size_toArray → jO, mem_append_left → jP, getElem_of_mem → jR, map_append → jS, mem_of_getElem? → jT, mem_cons → jV, length_take → jX, ext_getElem → jY
open Go.Sem renaming run_bind → jk, run_pure → jm
open Int renaming toNat_natCast → jn, tdiv_eq_ediv_of_nonneg → jF, mul_nonneg → jQ, mul_assoc → jU, mul_le_mul → jW, le_refl → Jb, add_zero → Jd
open Array renaming getElem?_append_left → jL

namespace Go.Proofs.YteofoidaapgdkaaGreatDoor
open Go.ChangeShapes Go.WideShapes Go.ChangeAt Go.RowKit
open Go.Fw
theorem own1 : ownKnob Tryz.prog.godebug = none := by kernel_rfl
theorem laidOut1 : laidOutB Tryz.prog = true := by kernel_rfl
theorem op9 : Opens Tryz.prog 9 instStr rngS := qvZ Tryz.underlying9 (by kernel_rfl)
theorem op2 : Opens Tryz.prog 2 instInt rngI := qvf Tryz.underlying2 (by kernel_rfl)
theorem op4 : Opens Tryz.prog 4 instBool rngB := qt5 Tryz.underlying4 (by kernel_rfl)
theorem op371 : Opens Tryz.prog 371 gt_TPin qmC :=
 Opens.imp (qbM (hz := rfl) (f := fun x : qax => (x.Az, x.Bs, x.Bq, x.Bm)) (fun p => ⟨p.1, p.2.1, p.2.2.1, p.2.2.2⟩) (fun _ => rfl) Tryz.underlying371 (by kernel_rfl) (qJ rfl op9 (qJ rfl op2 (qJ rfl op2 (qcI rfl op4))))) (fun _ h => h)
theorem op282 : Opens Tryz.prog 282 (@instList qax gt_TPin) (rngL qmC) := qdt Tryz.underlying282 (by kernel_rfl) op371
theorem op41 : Opens Tryz.prog 41 (@instList Int instInt) (rngL rngI) := qdt Tryz.underlying41 (by kernel_rfl) op2
theorem op408 : Opens Tryz.prog 408 gt_TTable qia :=
 Opens.imp (qbM (hz := rfl) (f := fun x : qw => (x.Bi, x.Bc, x.Ba)) (fun p => ⟨p.1, p.2.1, p.2.2⟩) (fun _ => rfl) Tryz.underlying408 (by kernel_rfl) (qJ rfl op41 (qJ rfl op41 (qcI rfl op41)))) (fun _ h => h)
theorem op373 : Opens Tryz.prog 373 (@instList qw gt_TTable) (rngL qia) := qdt Tryz.underlying373 (by kernel_rfl) op408
theorem op375 : Opens Tryz.prog 375 gt_TArc qmn :=
 Opens.imp (qbM (hz := rfl) (f := fun x : qS => (x.As, x.Be, x.To, x.Bj, x.Bl, x.Av)) (fun p => ⟨p.1, p.2.1, p.2.2.1, p.2.2.2.1, p.2.2.2.2.1, p.2.2.2.2.2⟩) (fun _ => rfl) Tryz.underlying375 (by kernel_rfl) (qJ rfl op2 (qJ rfl op2 (qJ rfl op2 (qJ rfl op2 (qJ rfl op373 (qcI rfl op373))))))) (fun _ h => h)
theorem op283 : Opens Tryz.prog 283 (@instList qS gt_TArc) (rngL qmn) := qdt Tryz.underlying283 (by kernel_rfl) op375
theorem op285 : Opens Tryz.prog 285 gt_TCell qkQ :=
 Opens.imp (qbM (hz := rfl) (f := fun x : qC => (x.Az, x.As, x.Ay, x.Am, x.Bn, x.Bx, x.Br)) (fun p => ⟨p.1, p.2.1, p.2.2.1, p.2.2.2.1, p.2.2.2.2.1, p.2.2.2.2.2.1, p.2.2.2.2.2.2⟩) (fun _ => rfl) Tryz.underlying285 (by kernel_rfl) (qJ rfl op9 (qJ rfl op2 (qJ rfl op282 (qJ rfl op283 (qJ rfl op41 (qJ rfl op2 (qcI rfl op2)))))))) (fun _ h => h)
theorem op22 : Opens Tryz.prog 22 (@instList qC gt_TCell) (rngL qkQ) := qdt Tryz.underlying22 (by kernel_rfl) op285
theorem op24 : Opens Tryz.prog 24 gt_TLibrary qlf :=
 Opens.imp (qbM (hz := rfl) (f := fun x : qv => x.Ap) (fun p => ⟨p⟩) (fun _ => rfl) Tryz.underlying24 (by kernel_rfl) (qcI rfl op22)) (fun _ h => h)
theorem op287 : Opens Tryz.prog 287 gt_TInstance qfN :=
 Opens.imp (qbM (hz := rfl) (f := fun x : qp => (x.Az, x.Bp, x.Ai)) (fun p => ⟨p.1, p.2.1, p.2.2⟩) (fun _ => rfl) Tryz.underlying287 (by kernel_rfl) (qJ rfl op9 (qJ rfl op2 (qcI rfl op41)))) (fun _ h => h)
theorem op25 : Opens Tryz.prog 25 (@instList qp gt_TInstance) (rngL qfN) := qdt Tryz.underlying25 (by kernel_rfl) op287
theorem op26 : Opens Tryz.prog 26 (@instList ByteArray instStr) (rngL rngS) := qdt Tryz.underlying26 (by kernel_rfl) op9
theorem op290 : Opens Tryz.prog 290 gt_TPort qkZ :=
 Opens.imp (qbM (hz := rfl) (f := fun x : qar => (x.Az, x.Bs, x.Bu)) (fun p => ⟨p.1, p.2.1, p.2.2⟩) (fun _ => rfl) Tryz.underlying290 (by kernel_rfl) (qJ rfl op9 (qJ rfl op2 (qcI rfl op2)))) (fun _ h => h)
theorem op27 : Opens Tryz.prog 27 (@instList qar gt_TPort) (rngL qkZ) := qdt Tryz.underlying27 (by kernel_rfl) op290
theorem op29 : Opens Tryz.prog 29 gt_TDesign qmB :=
 Opens.imp (qbM (hz := rfl) (f := fun x : qf => (x.Ab, x.Ai, x.Ah)) (fun p => ⟨p.1, p.2.1, p.2.2⟩) (fun _ => rfl) Tryz.underlying29 (by kernel_rfl) (qJ rfl op25 (qJ rfl op26 (qcI rfl op27)))) (fun _ h => h)
theorem op202 : Opens Tryz.prog 202 gt_TWire qkH :=
 Opens.imp (qbM (hz := rfl) (f := fun x : qT => (x.Ak, x.Bt, x.Bq, x.Bh)) (fun p => ⟨p.1, p.2.1, p.2.2.1, p.2.2.2⟩) (fun _ => rfl) Tryz.underlying202 (by kernel_rfl) (qJ rfl op41 (qJ rfl op41 (qJ rfl op41 (qcI rfl op41))))) (fun _ h => h)
theorem op30 : Opens Tryz.prog 30 (@instList qT gt_TWire) (rngL qkH) := qdt Tryz.underlying30 (by kernel_rfl) op202
theorem op32 : Opens Tryz.prog 32 gt_TBlock qnD :=
 Opens.imp (qbM (hz := rfl) (f := fun x : qe => (x.Aq, x.Aa, x.Ac)) (fun p => ⟨p.1, p.2.1, p.2.2⟩) (fun _ => rfl) Tryz.underlying32 (by kernel_rfl) (qJ rfl op24 (qJ rfl op29 (qcI rfl op30)))) (fun _ h => h)
theorem op71 : Opens Tryz.prog 71 gt_TCorner qmr :=
 Opens.imp (qbM (hz := rfl) (f := fun x : qy => (x.Az, x.Bb, x.Bf, x.Bd, x.Bg)) (fun p => ⟨p.1, p.2.1, p.2.2.1, p.2.2.2.1, p.2.2.2.2⟩) (fun _ => rfl) Tryz.underlying71 (by kernel_rfl) (qJ rfl op9 (qJ rfl op2 (qJ rfl op2 (qJ rfl op2 (qcI rfl op2)))))) (fun _ h => h)
theorem op142 : Opens Tryz.prog 142 gt_TSpan qox :=
 Opens.imp (qbM (hz := rfl) (f := fun x : qd => (x.Aj, x.Ar)) (fun p => ⟨p.1, p.2⟩) (fun _ => rfl) Tryz.underlying142 (by kernel_rfl) (qJ rfl op2 (qcI rfl op2))) (fun _ h => h)
theorem op144 : Opens Tryz.prog 144 gt_TSource qi4 :=
 Opens.imp (qbM (hz := rfl) (f := fun x : qg => (x.Bk, x.Af, x.Av)) (fun p => ⟨p.1, p.2.1, p.2.2⟩) (fun _ => rfl) Tryz.underlying144 (by kernel_rfl) (qJ rfl op2 (qJ rfl op142 (qcI rfl op142)))) (fun _ h => h)
theorem op72 : Opens Tryz.prog 72 (@instList qg gt_TSource) (rngL qi4) := qdt Tryz.underlying72 (by kernel_rfl) op144
theorem op113 : Opens Tryz.prog 113 gt_TCoupling qhe :=
 Opens.imp (qbM (hz := rfl) (f := fun x : ql => (x.A, x.B, x.Bo)) (fun p => ⟨p.1, p.2.1, p.2.2⟩) (fun _ => rfl) Tryz.underlying113 (by kernel_rfl) (qJ rfl op2 (qJ rfl op2 (qcI rfl op2)))) (fun _ h => h)
theorem op37 : Opens Tryz.prog 37 (@instList ql gt_TCoupling) (rngL qhe) := qdt Tryz.underlying37 (by kernel_rfl) op113
set_option maxRecDepth 100000 in
theorem lawCalls {H : Type} {enc : TypeId × Value → H} {W : World} {base : Nat} {args : Array Value} {ds gs : List (DataW H)} {before : List MemPlace}
  (hval : ∀ (j : Nat) t v, Tryz.f4.params[j]? = some t → args[j]? = some v → Value.okWide Tryz.prog W .any base t v) (hW : DataW.Whole enc Tryz.prog Tryz.f4.params.toList Rows.fnExactIsSettledSpec.vars false W args.toList ds gs before) (fresh handsOn again : Bool) :
  Calls Tryz.prog 4 args W fun e W' => ∃ v, e = .returned v ∧ Rows.fnExactIsSettledSpec.post enc Tryz.prog Tryz.f4 false fresh handsOn again W args v W' := by
 have hW' := hW
 obtain ⟨p, q, hA0, hV, rfl, hfz, hnd⟩ := hW
 have hA : DataW.TrodAll enc Tryz.prog W 0 (fun _ => true) true Tryz.f4.params.toList args.toList ds p := hA0
 rw [Tryz.params4] at hA hval
 obtain ⟨v0, v1, v2, v3, v4, v5, d0, d1, d2, d3, d4, d5, q0, q1, q2, q3, q4, q5, rfl, rfl, rfl, h0, h1, h2, h3, h4, h5⟩ := qtT hA
 obtain ⟨rfl, rfl⟩ := trodVars_none hV
 obtain ⟨x0, cs0, rfl, hR0, hx0⟩ := qr9 (A := gt_TBlock) op32 rfl Tryz.underlying32 (hval 0 32 v0 rfl rfl) h0
 obtain ⟨x1, cs1, rfl, hR1, hx1⟩ := qr9 (A := gt_TCorner) op71 rfl Tryz.underlying71 (hval 1 71 v1 rfl rfl) h1
 obtain ⟨x2, cs2, rfl, hR2, hx2⟩ := qll (A := (@instList Int instInt)) op41 rfl Tryz.underlying41 (hval 2 41 v2 rfl rfl) h2
 obtain ⟨x3, cs3, rfl, hR3, hx3⟩ := qll (A := (@instList qg gt_TSource)) op72 rfl Tryz.underlying72 (hval 3 72 v3 rfl rfl) h3
 obtain ⟨x4, cs4, rfl, hR4, hx4⟩ := qll (A := (@instList ql gt_TCoupling)) op37 rfl Tryz.underlying37 (hval 4 37 v4 rfl rfl) h4
 obtain ⟨x5, cs5, rfl, hR5, hx5⟩ := qll (A := (@instList Int instInt)) op41 rfl Tryz.underlying41 (hval 5 41 v5 rfl rfl) h5
 obtain ⟨n, hn⟩ := (qm4 hx0 hx1 hx2 hx3 hx4 hx5).at
 have hc := qlB hR0 hR1 hR2 hR3 hR4 hR5 hn
 refine Calls.mono hc ?_
 rintro e W' ⟨v, rfl, hb, us, rfl, hvs⟩
 refine ⟨_, rfl, ?_⟩
 rw [qwI hvs]
 exact qv0 laidOut1 (by kernel_rfl) rfl Tryz.underlying4 rfl rfl rfl rfl (by simpa using hW') hb
set_option maxRecDepth 100000 in
theorem lifted (fresh handsOn again : Bool) (os : Os) (started : os.Started) (H : Type) (enc : TypeId × Value → H) :
  ReturnsInHanded {} Tryz.checked os 4 .any (fun w args => (Rows.fnExactIsSettledSpec.pre enc Tryz.prog Tryz.f4 Rows.fnExactIsSettledRow.domain false w args ∧ laidMetH Tryz.prog Rows.fnExactIsSettledRow.laid w) ∧ sizedMet enc Tryz.prog Tryz.f4 (OpenSpec.ofChange Rows.fnExactIsSettledSpec) false w args)
   (Rows.fnExactIsSettledSpec.post enc Tryz.prog Tryz.f4 false fresh handsOn again) := by
 refine returnsInHanded_of_change_and (C := Tryz.checked) (X := fun w _ => laidMetH Tryz.prog Rows.fnExactIsSettledRow.laid w) (fun _ _ _ hh h => h.of_heap hh) own1 started (by kernel_rfl) Tryz.func4
  (ChangeSpec.witness_shaped (enc := enc) (C := Tryz.checked) (os := os) (X := fun w _ => laidMetH Tryz.prog Rows.fnExactIsSettledRow.laid w) false (World.laidAll Tryz.prog os Rows.fnExactIsSettledRow.laid) #[.agg #[.slice none 0 0, .slice none 0 0, .slice none 0 0, .slice none 0 0, .slice none 0 0], .agg #[.string ByteArray.empty, .int .i64 0, .int .i64 0, .int .i64 0, .int .i64 0], .slice none 0 0, .slice none 0 0, .slice none 0 0, .slice none 0 0] 8 (World.laidAll_os _ _ _)
   (World.shaped_of_ZipB (by kernel_rfl) (by kernel_rfl)) (by kernel_rfl) (by kernel_rfl) (by kernel_rfl)
   (by rw [MakeChecks.laidMetH_plain _ _ _ (by kernel_rfl)]; exact laidMet_laidAll _ (by kernel_rfl) (by kernel_rfl))) ?_
 intro W base args ds gs before hval0 hW hc _ hL _
 exact lawCalls hval0 hW _ _ _
theorem ja : ((Rows.fnExactIsSettledRow.inPlace == Tryz.checked.prog.inPlace 4) && ((Rows.fnExactIsSettledRow.unfollowed == Tryz.checked.prog.unfollowed 4) && ((Rows.fnExactIsSettledRow.recurses == Tryz.checked.prog.recurses 4) && (Rows.fnExactIsSettledRow.named == Tryz.checked.prog.varsNamed 4)))) = true := by kernel_rfl
theorem jb : (Tryz.checked.prog.mayEnter && (Tryz.checked.prog.stopsHeard && ((Rows.fnExactIsSettledRow.lifted == Tryz.checked.prog.liftsFinal) && ((Tryz.checked.prog.make == some Rows.fnExactIsSettledRow.make) && ((Rows.fnExactIsSettledRow.plainKeys == Tryz.checked.prog.plainKeys) && (mapsRowed Tryz.checked.prog && laidOutB Tryz.checked.prog)))))) = true := by kernel_rfl
theorem jc : (namedTie Tryz.checked.prog Rows.fnExactIsSettledRow.named Rows.fnExactIsSettledSpec.vars && (Rows.fnExactIsSettledRow.wf (OpenSpec.ofChange Rows.fnExactIsSettledSpec) && (Rows.fnExactIsSettledRow.pinned == Rows.fnExactIsSettledRow.pinnedBy))) = true := by kernel_rfl
theorem andT {a b : Bool} (h : (a && b) = true) : a = true ∧ b = true := by simpa using h
theorem closed : joinedFacts Tryz.checked.prog 4 Tryz.f4 Rows.fnExactIsSettledSpec Rows.fnExactIsSettledRow = true := by
 obtain ⟨j0, h⟩ := andT ja
 obtain ⟨j1, h⟩ := andT h
 obtain ⟨j2, j3⟩ := andT h
 obtain ⟨j4, h⟩ := andT jb
 obtain ⟨j5, h⟩ := andT h
 obtain ⟨j6, h⟩ := andT h
 obtain ⟨j7, h⟩ := andT h
 obtain ⟨j8, h⟩ := andT h
 obtain ⟨j9, j10⟩ := andT h
 obtain ⟨j11, h⟩ := andT jc
 obtain ⟨j12, j13⟩ := andT h
 unfold joinedFacts
 rw [j0, j1, j2, j3, j4, j5, j6, j7, j8, j9, j10, j11, j12, j13]
 kernel_rfl
theorem named1 : Tryz.checked.prog.funcNamed Rows.fnExactIsSettledRow.func = some 4 := by kernel_rfl
theorem instance1 : Tryz.f4.isInstance Tryz.checked.prog Rows.fnExactIsSettledRow.origin Rows.fnExactIsSettledRow.targs := of_decide_eq_true (by kernel_rfl)
theorem wrapper1 : Tryz.f4.isWrapper Tryz.checked.prog Rows.fnExactIsSettledRow.wrapper Rows.fnExactIsSettledRow.mainSum := by
 unfold Func.isWrapper
 first | (rw [if_pos (by decide +kernel)]; kernel_rfl) | (rw [if_neg (by decide +kernel)]; exact ⟨rfl, rfl⟩)
theorem said_holds : Rows.FnExactIsSettledSaid :=
 OpenClaim.holds_of_wide 4 Tryz.f4 rfl rfl rfl rfl rfl rfl rfl ⟨rfl, rfl, rfl, rfl, rfl⟩ rfl rfl rfl rfl rfl named1 Tryz.func4 closed instance1 wrapper1
  (fun os started H enc _ => lifted _ _ _ os started H enc)
theorem goesNone {P : Program} (h : P.funcs.any Func.goes = false) {st : Start} (hs : st = .entering) (nm : String) : P.goesAt st nm = false := by
 subst hs
 have hf : ∀ f, P.goes f = false := fun f => by
  unfold Program.goes
  rw [h, Bool.and_false, Bool.or_false, List.any_eq_false]
  intro g _
  cases hq : P.funcs[g]? with
  | none => simp
  | some fn =>
   obtain ⟨hi, he⟩ := Array.getElem?_eq_some_iff.1 hq
   have := Array.any_eq_false.1 h g hi
   rw [he] at this
   simpa using this
 unfold Program.goesAt Program.goesFrom
 cases P.funcNamed nm with
 | none => rfl
 | some f => simp [hf f]
theorem kg0 : Tryz.checked.prog.funcs.any Func.goes = false := by kernel_rfl
theorem kg : false = Rows.fnExactIsSettledRow.goesBy Tryz.checked.prog := (goesNone kg0 rfl _).symm
theorem kw : Rows.fnExactIsSettledRow.wfByText (OpenSpec.ofChange Rows.fnExactIsSettledSpec) = true := by kernel_rfl
theorem km : Tryz.checked.prog.mainIs = some (true, "f106dceb14c82f323192426f410fcf41e62a360cb4e472762b1219f1fe4f146b".toList) := by kernel_rfl
theorem kl : false = Tryz.checked.prog.looks [] := by kernel_rfl
theorem kn : Tryz.prog.funcNamed "loop.example/g00861/laws.FnExactIsSettled" = some 4 := by kernel_rfl
theorem ka : ([32, 71, 41, 72, 37, 41].all fun u => !Tryz.prog.wantsStandIn u) = true := by kernel_rfl
theorem card_holds : Rows.FnExactIsSettledCardSaid :=
 Claim7.holds_tied_plain_at .later [] [.data, .pinned] true (true, "f106dceb14c82f323192426f410fcf41e62a360cb4e472762b1219f1fe4f146b") false said_holds (fun _ h => by cases h) kw (fun _ h => by cases h) fnExactIsSettled_row_tie rfl ⟨rfl, rfl⟩ km rfl
  (fun f fn hf hfn => by
   obtain rfl : f = 4 := Option.some.inj (kn.symm.trans hf) |>.symm
   obtain rfl : fn = Tryz.f4 := (Option.some.inj (Tryz.func4.symm.trans hfn)).symm
   exact ⟨kl, fun j t ht => by
    rw [Tryz.params4] at ht
    have hm : t ∈ [32, 71, 41, 72, 37, 41] := by simpa using Array.mem_of_getElem? ht
    exact (show Tryz.prog.wantsStandIn t = false by simpa using List.all_eq_true.1 ka t hm)⟩)
  kg
end Go.Proofs.YteofoidaapgdkaaGreatDoor
