/- THE LAW laws.FnExactLatchSystemOf, for every input: the call returns true, and its arguments read afterwards as they did. By a program of mine (hgen.py). -/
import Derived.Test.YteofoidaapgdkaaGreatDoorRows
import Derived.Test.YteofoidaapgdkaaGreatDoorCards
import Derived.Test.YteofoidaapgdkaaGreatDoorTie
import Derived.ProofKit
import Derived.OpenShut
import Derived.LaidMore
import Derived.Lay
import Derived.SevenTiedAt
import Derived.Test.YteofoidaapgdkaaGreatDoorFw46
open Option renaming bind_some → jd, some → V, none → U
open Nat renaming le_refl → je, le_of_ble_eq_true → jr, mul_le_mul_right → js, lt_of_lt_of_le → jv, succ_mul → jM, zero_add → Jg
open Bool renaming and_eq_true → jf, eq_iff_iff → jj, not_eq_true' → jD, true_and → jG, not_true → jW
open Go.Result renaming andThen_ok → jg
open List renaming length_append → jh, getElem?_eq_getElem → ji, mem_cons_of_mem → jn, getElem_mem → jo, append_assoc → jp, length_singleton → jt, length_map → ju, getElem?_append_left → jw, mem_cons_self → jx, take_succ_eq_append_getElem → jy, getElem?_take → jz, length_cons → jA, getElem?_append_right → jB, getD_eq_getElem?_getD → jC, getElem?_toArray → jE, map_append → jF, take_length → jH, eq_nil_of_length_eq_zero → jK, drop_eq_getElem_cons → jL, all_eq_true → jN, not_mem_nil → jO, getElem_of_mem → jP, length_replicate → jQ, size_toArray → jR, mem_of_getElem? → jS, mem_append_left → jT, length_nil → jV, append_nil → jX, ext_getElem → jZ, mem_cons → Jb, getElem?_map → Jc, range_succ → Je, length_take → Jf
open Go.Sem renaming run_bind → jk, run_pure → jm
open Int renaming toNat_natCast → jq, tdiv_eq_ediv_of_nonneg → jJ, mul_nonneg → jU, le_refl → jY, mul_assoc → Ja, mul_le_mul → Jd
open Array renaming getElem?_append_left → jI

namespace Go.Proofs.YteofoidaapgdkaaGreatDoor
open Go.ChangeShapes Go.WideShapes Go.ChangeAt Go.RowKit
open Go.Fw
theorem own1 : ownKnob Tryz.prog.godebug = none := by kernel_rfl
theorem laidOut1 : laidOutB Tryz.prog = true := by kernel_rfl
theorem op9 : Opens Tryz.prog 9 instStr rngS := qwe Tryz.underlying9 (by kernel_rfl)
theorem op2 : Opens Tryz.prog 2 instInt rngI := qv6 Tryz.underlying2 (by kernel_rfl)
theorem op4 : Opens Tryz.prog 4 instBool rngB := quD Tryz.underlying4 (by kernel_rfl)
theorem op371 : Opens Tryz.prog 371 gt_TPin qmv :=
 Opens.imp (qc3 (hz := rfl) (f := fun x : qam => (x.Au, x.Bu, x.Br, x.Bo)) (fun p => ⟨p.1, p.2.1, p.2.2.1, p.2.2.2⟩) (fun _ => rfl) Tryz.underlying371 (by kernel_rfl) (qah rfl op9 (qah rfl op2 (qah rfl op2 (qeO rfl op4))))) (fun _ h => h)
theorem op282 : Opens Tryz.prog 282 (@instList qam gt_TPin) (rngL qmv) := qfy Tryz.underlying282 (by kernel_rfl) op371
theorem op41 : Opens Tryz.prog 41 (@instList Int instInt) (rngL rngI) := qfy Tryz.underlying41 (by kernel_rfl) op2
theorem op408 : Opens Tryz.prog 408 gt_TTable qiz :=
 Opens.imp (qc3 (hz := rfl) (f := fun x : qu => (x.Bl, x.Bd, x.Az)) (fun p => ⟨p.1, p.2.1, p.2.2⟩) (fun _ => rfl) Tryz.underlying408 (by kernel_rfl) (qah rfl op41 (qah rfl op41 (qeO rfl op41)))) (fun _ h => h)
theorem op373 : Opens Tryz.prog 373 (@instList qu gt_TTable) (rngL qiz) := qfy Tryz.underlying373 (by kernel_rfl) op408
theorem op375 : Opens Tryz.prog 375 gt_TArc qmp :=
 Opens.imp (qc3 (hz := rfl) (f := fun x : qH => (x.Aq, x.Bc, x.To, x.Bn, x.Bk, x.Ba)) (fun p => ⟨p.1, p.2.1, p.2.2.1, p.2.2.2.1, p.2.2.2.2.1, p.2.2.2.2.2⟩) (fun _ => rfl) Tryz.underlying375 (by kernel_rfl) (qah rfl op2 (qah rfl op2 (qah rfl op2 (qah rfl op2 (qah rfl op373 (qeO rfl op373))))))) (fun _ h => h)
theorem op283 : Opens Tryz.prog 283 (@instList qH gt_TArc) (rngL qmp) := qfy Tryz.underlying283 (by kernel_rfl) op375
theorem op285 : Opens Tryz.prog 285 gt_TCell qld :=
 Opens.imp (qc3 (hz := rfl) (f := fun x : qv => (x.Au, x.Aq, x.As, x.Ak, x.Bm, x.Bz, x.Bs)) (fun p => ⟨p.1, p.2.1, p.2.2.1, p.2.2.2.1, p.2.2.2.2.1, p.2.2.2.2.2.1, p.2.2.2.2.2.2⟩) (fun _ => rfl) Tryz.underlying285 (by kernel_rfl) (qah rfl op9 (qah rfl op2 (qah rfl op282 (qah rfl op283 (qah rfl op41 (qah rfl op2 (qeO rfl op2)))))))) (fun _ h => h)
theorem op22 : Opens Tryz.prog 22 (@instList qv gt_TCell) (rngL qld) := qfy Tryz.underlying22 (by kernel_rfl) op285
theorem op24 : Opens Tryz.prog 24 gt_TLibrary qlz :=
 Opens.imp (qc3 (hz := rfl) (f := fun x : qr => x.Am) (fun p => ⟨p⟩) (fun _ => rfl) Tryz.underlying24 (by kernel_rfl) (qeO rfl op22)) (fun _ h => h)
theorem op287 : Opens Tryz.prog 287 gt_TInstance qgx :=
 Opens.imp (qc3 (hz := rfl) (f := fun x : qk => (x.Au, x.Bp, x.Ah)) (fun p => ⟨p.1, p.2.1, p.2.2⟩) (fun _ => rfl) Tryz.underlying287 (by kernel_rfl) (qah rfl op9 (qah rfl op2 (qeO rfl op41)))) (fun _ h => h)
theorem op25 : Opens Tryz.prog 25 (@instList qk gt_TInstance) (rngL qgx) := qfy Tryz.underlying25 (by kernel_rfl) op287
theorem op26 : Opens Tryz.prog 26 (@instList ByteArray instStr) (rngL rngS) := qfy Tryz.underlying26 (by kernel_rfl) op9
theorem op290 : Opens Tryz.prog 290 gt_TPort qkZ :=
 Opens.imp (qc3 (hz := rfl) (f := fun x : qW => (x.Au, x.Bu, x.Bx)) (fun p => ⟨p.1, p.2.1, p.2.2⟩) (fun _ => rfl) Tryz.underlying290 (by kernel_rfl) (qah rfl op9 (qah rfl op2 (qeO rfl op2)))) (fun _ h => h)
theorem op27 : Opens Tryz.prog 27 (@instList qW gt_TPort) (rngL qkZ) := qfy Tryz.underlying27 (by kernel_rfl) op290
theorem op29 : Opens Tryz.prog 29 gt_TDesign qmB :=
 Opens.imp (qc3 (hz := rfl) (f := fun x : qe => (x.Ab, x.Ah, x.Af)) (fun p => ⟨p.1, p.2.1, p.2.2⟩) (fun _ => rfl) Tryz.underlying29 (by kernel_rfl) (qah rfl op25 (qah rfl op26 (qeO rfl op27)))) (fun _ h => h)
theorem op202 : Opens Tryz.prog 202 gt_TWire qkP :=
 Opens.imp (qc3 (hz := rfl) (f := fun x : qG => (x.Aj, x.Bv, x.Br, x.Bi)) (fun p => ⟨p.1, p.2.1, p.2.2.1, p.2.2.2⟩) (fun _ => rfl) Tryz.underlying202 (by kernel_rfl) (qah rfl op41 (qah rfl op41 (qah rfl op41 (qeO rfl op41))))) (fun _ h => h)
theorem op30 : Opens Tryz.prog 30 (@instList qG gt_TWire) (rngL qkP) := qfy Tryz.underlying30 (by kernel_rfl) op202
theorem op32 : Opens Tryz.prog 32 gt_TBlock qny :=
 Opens.imp (qc3 (hz := rfl) (f := fun x : qd => (x.Ap, x.Aa, x.Ac)) (fun p => ⟨p.1, p.2.1, p.2.2⟩) (fun _ => rfl) Tryz.underlying32 (by kernel_rfl) (qah rfl op24 (qah rfl op29 (qeO rfl op30)))) (fun _ h => h)
theorem op71 : Opens Tryz.prog 71 gt_TCorner qmj :=
 Opens.imp (qc3 (hz := rfl) (f := fun x : qy => (x.Au, x.Be, x.Bh, x.Bf, x.Bj)) (fun p => ⟨p.1, p.2.1, p.2.2.1, p.2.2.2.1, p.2.2.2.2⟩) (fun _ => rfl) Tryz.underlying71 (by kernel_rfl) (qah rfl op9 (qah rfl op2 (qah rfl op2 (qah rfl op2 (qeO rfl op2)))))) (fun _ h => h)
set_option maxRecDepth 100000 in
theorem lawCalls {H : Type} {enc : TypeId × Value → H} {W : World} {base : Nat} {args : Array Value} {ds gs : List (DataW H)} {before : List MemPlace}
  (hval : ∀ (j : Nat) t v, Tryz.f6.params[j]? = some t → args[j]? = some v → Value.okWide Tryz.prog W .any base t v) (hW : DataW.Whole enc Tryz.prog Tryz.f6.params.toList Rows.fnExactLatchSystemOfSpec.vars false W args.toList ds gs before) (fresh handsOn again : Bool) :
  Calls Tryz.prog 6 args W fun e W' => ∃ v, e = .returned v ∧ Rows.fnExactLatchSystemOfSpec.post enc Tryz.prog Tryz.f6 false fresh handsOn again W args v W' := by
 have hW' := hW
 obtain ⟨p, q, hA0, hV, rfl, hfz, hnd⟩ := hW
 have hA : DataW.TrodAll enc Tryz.prog W 0 (fun _ => true) true Tryz.f6.params.toList args.toList ds p := hA0
 rw [Tryz.params6] at hA hval
 obtain ⟨v0, v1, v2, v3, v4, v5, d0, d1, d2, d3, d4, d5, q0, q1, q2, q3, q4, q5, rfl, rfl, rfl, h0, h1, h2, h3, h4, h5⟩ := qtt hA
 obtain ⟨rfl, rfl⟩ := trodVars_none hV
 obtain ⟨x0, cs0, rfl, hR0, hx0⟩ := qr4 (A := gt_TBlock) op32 rfl Tryz.underlying32 (hval 0 32 v0 rfl rfl) h0
 obtain ⟨x1, cs1, rfl, hR1, hx1⟩ := qr4 (A := gt_TCorner) op71 rfl Tryz.underlying71 (hval 1 71 v1 rfl rfl) h1
 obtain ⟨x2, cs2, rfl, hR2, hx2⟩ := qtN (A := (@instList Int instInt)) op41 rfl Tryz.underlying41 (hval 2 41 v2 rfl rfl) h2
 obtain ⟨x3, cs3, rfl, hR3, hx3⟩ := qpf (A := instInt) op2 rfl Tryz.underlying2 (hval 3 2 v3 rfl rfl) h3
 obtain rfl : cs3 = [.int .i64 x3] := hR3
 obtain ⟨x4, cs4, rfl, hR4, hx4⟩ := qpf (A := instInt) op2 rfl Tryz.underlying2 (hval 4 2 v4 rfl rfl) h4
 obtain rfl : cs4 = [.int .i64 x4] := hR4
 obtain ⟨x5, cs5, rfl, hR5, hx5⟩ := qpf (A := instInt) op2 rfl Tryz.underlying2 (hval 5 2 v5 rfl rfl) h5
 obtain rfl : cs5 = [.int .i64 x5] := hR5
 obtain ⟨n, hn⟩ := (qlT hx0 hx1 hx2 hx3 hx4 hx5).at
 have hc := qke hR0 hR1 hR2 hn
 refine Calls.mono hc ?_
 rintro e W' ⟨v, rfl, hb, us, rfl, hvs⟩
 refine ⟨_, rfl, ?_⟩
 rw [qw7 hvs]
 exact qvV laidOut1 (by kernel_rfl) rfl Tryz.underlying4 rfl rfl rfl rfl (by simpa using hW') hb
set_option maxRecDepth 100000 in
theorem lifted (fresh handsOn again : Bool) (os : Os) (started : os.Started) (H : Type) (enc : TypeId × Value → H) :
  ReturnsInHanded {} Tryz.checked os 6 .any (fun w args => (Rows.fnExactLatchSystemOfSpec.pre enc Tryz.prog Tryz.f6 Rows.fnExactLatchSystemOfRow.domain false w args ∧ laidMetH Tryz.prog Rows.fnExactLatchSystemOfRow.laid w) ∧ sizedMet enc Tryz.prog Tryz.f6 (OpenSpec.ofChange Rows.fnExactLatchSystemOfSpec) false w args)
   (Rows.fnExactLatchSystemOfSpec.post enc Tryz.prog Tryz.f6 false fresh handsOn again) := by
 refine returnsInHanded_of_change_and (C := Tryz.checked) (X := fun w _ => laidMetH Tryz.prog Rows.fnExactLatchSystemOfRow.laid w) (fun _ _ _ hh h => h.of_heap hh) own1 started (by kernel_rfl) Tryz.func6
  (ChangeSpec.witness_shaped (enc := enc) (C := Tryz.checked) (os := os) (X := fun w _ => laidMetH Tryz.prog Rows.fnExactLatchSystemOfRow.laid w) false (World.laidAll Tryz.prog os Rows.fnExactLatchSystemOfRow.laid) #[.agg #[.slice none 0 0, .slice none 0 0, .slice none 0 0, .slice none 0 0, .slice none 0 0], .agg #[.string ByteArray.empty, .int .i64 0, .int .i64 0, .int .i64 0, .int .i64 0], .slice none 0 0, .int .i64 0, .int .i64 0, .int .i64 0] 8 (World.laidAll_os _ _ _)
   (World.shaped_of_ZipB (by kernel_rfl) (by kernel_rfl)) (by kernel_rfl) (by kernel_rfl) (by kernel_rfl)
   (by rw [MakeChecks.laidMetH_plain _ _ _ (by kernel_rfl)]; exact laidMet_laidAll _ (by kernel_rfl) (by kernel_rfl))) ?_
 intro W base args ds gs before hval0 hW hc _ hL _
 exact lawCalls hval0 hW _ _ _
theorem ja : ((Rows.fnExactLatchSystemOfRow.inPlace == Tryz.checked.prog.inPlace 6) && ((Rows.fnExactLatchSystemOfRow.unfollowed == Tryz.checked.prog.unfollowed 6) && ((Rows.fnExactLatchSystemOfRow.recurses == Tryz.checked.prog.recurses 6) && (Rows.fnExactLatchSystemOfRow.named == Tryz.checked.prog.varsNamed 6)))) = true := by kernel_rfl
theorem jb : (Tryz.checked.prog.mayEnter && (Tryz.checked.prog.stopsHeard && ((Rows.fnExactLatchSystemOfRow.lifted == Tryz.checked.prog.liftsFinal) && ((Tryz.checked.prog.make == some Rows.fnExactLatchSystemOfRow.make) && ((Rows.fnExactLatchSystemOfRow.plainKeys == Tryz.checked.prog.plainKeys) && (mapsRowed Tryz.checked.prog && laidOutB Tryz.checked.prog)))))) = true := by kernel_rfl
theorem jc : (namedTie Tryz.checked.prog Rows.fnExactLatchSystemOfRow.named Rows.fnExactLatchSystemOfSpec.vars && (Rows.fnExactLatchSystemOfRow.wf (OpenSpec.ofChange Rows.fnExactLatchSystemOfSpec) && (Rows.fnExactLatchSystemOfRow.pinned == Rows.fnExactLatchSystemOfRow.pinnedBy))) = true := by kernel_rfl
theorem andT {a b : Bool} (h : (a && b) = true) : a = true ∧ b = true := by simpa using h
theorem closed : joinedFacts Tryz.checked.prog 6 Tryz.f6 Rows.fnExactLatchSystemOfSpec Rows.fnExactLatchSystemOfRow = true := by
 obtain ⟨j0, h⟩ := andT ja
 obtain ⟨j1, h⟩ := andT h
 obtain ⟨j2, j3⟩ := andT h
 obtain ⟨j4, h⟩ := andT jb
 obtain ⟨j5, h⟩ := andT h
 obtain ⟨j6, h⟩ := andT h
 obtain ⟨j7, h⟩ := andT h
 obtain ⟨j8, h⟩ := andT h
 obtain ⟨j9, j10⟩ := andT h
 obtain ⟨j11, h⟩ := andT jc
 obtain ⟨j12, j13⟩ := andT h
 unfold joinedFacts
 rw [j0, j1, j2, j3, j4, j5, j6, j7, j8, j9, j10, j11, j12, j13]
 kernel_rfl
theorem named1 : Tryz.checked.prog.funcNamed Rows.fnExactLatchSystemOfRow.func = some 6 := by kernel_rfl
theorem instance1 : Tryz.f6.isInstance Tryz.checked.prog Rows.fnExactLatchSystemOfRow.origin Rows.fnExactLatchSystemOfRow.targs := of_decide_eq_true (by kernel_rfl)
theorem wrapper1 : Tryz.f6.isWrapper Tryz.checked.prog Rows.fnExactLatchSystemOfRow.wrapper Rows.fnExactLatchSystemOfRow.mainSum := by
 unfold Func.isWrapper
 first | (rw [if_pos (by decide +kernel)]; kernel_rfl) | (rw [if_neg (by decide +kernel)]; exact ⟨rfl, rfl⟩)
theorem said_holds : Rows.FnExactLatchSystemOfSaid :=
 OpenClaim.holds_of_wide 6 Tryz.f6 rfl rfl rfl rfl rfl rfl rfl ⟨rfl, rfl, rfl, rfl, rfl⟩ rfl rfl rfl rfl rfl named1 Tryz.func6 closed instance1 wrapper1
  (fun os started H enc _ => lifted _ _ _ os started H enc)
theorem goesNone {P : Program} (h : P.funcs.any Func.goes = false) {st : Start} (hs : st = .entering) (nm : String) : P.goesAt st nm = false := by
 subst hs
 have hf : ∀ f, P.goes f = false := fun f => by
  unfold Program.goes
  rw [h, Bool.and_false, Bool.or_false, List.any_eq_false]
  intro g _
  cases hq : P.funcs[g]? with
  | none => simp
  | some fn =>
   obtain ⟨hi, he⟩ := Array.getElem?_eq_some_iff.1 hq
   have := Array.any_eq_false.1 h g hi
   rw [he] at this
   simpa using this
 unfold Program.goesAt Program.goesFrom
 cases P.funcNamed nm with
 | none => rfl
 | some f => simp [hf f]
theorem kg0 : Tryz.checked.prog.funcs.any Func.goes = false := by kernel_rfl
theorem kg : false = Rows.fnExactLatchSystemOfRow.goesBy Tryz.checked.prog := (goesNone kg0 rfl _).symm
theorem kw : Rows.fnExactLatchSystemOfRow.wfByText (OpenSpec.ofChange Rows.fnExactLatchSystemOfSpec) = true := by kernel_rfl
theorem km : Tryz.checked.prog.mainIs = some (true, "f106dceb14c82f323192426f410fcf41e62a360cb4e472762b1219f1fe4f146b".toList) := by kernel_rfl
theorem kl : false = Tryz.checked.prog.looks [] := by kernel_rfl
theorem kn : Tryz.prog.funcNamed "loop.example/g00861/laws.FnExactLatchSystemOf" = some 6 := by kernel_rfl
theorem ka : ([32, 71, 41, 2, 2, 2].all fun u => !Tryz.prog.wantsStandIn u) = true := by kernel_rfl
theorem card_holds : Rows.FnExactLatchSystemOfCardSaid :=
 Claim7.holds_tied_plain_at .later [] [.data, .pinned] true (true, "f106dceb14c82f323192426f410fcf41e62a360cb4e472762b1219f1fe4f146b") false said_holds (fun _ h => by cases h) kw (fun _ h => by cases h) fnExactLatchSystemOf_row_tie rfl ⟨rfl, rfl⟩ km rfl
  (fun f fn hf hfn => by
   obtain rfl : f = 6 := Option.some.inj (kn.symm.trans hf) |>.symm
   obtain rfl : fn = Tryz.f6 := (Option.some.inj (Tryz.func6.symm.trans hfn)).symm
   exact ⟨kl, fun j t ht => by
    rw [Tryz.params6] at ht
    have hm : t ∈ [32, 71, 41, 2, 2, 2] := by simpa using Array.mem_of_getElem? ht
    exact (show Tryz.prog.wantsStandIn t = false by simpa using List.all_eq_true.1 ka t hm)⟩)
  kg
end Go.Proofs.YteofoidaapgdkaaGreatDoor
