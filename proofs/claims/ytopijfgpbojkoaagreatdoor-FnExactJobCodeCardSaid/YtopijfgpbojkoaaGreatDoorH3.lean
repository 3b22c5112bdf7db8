/- THE LAW laws.FnExactJobCode, for every input: the call returns true, and its arguments read afterwards as they did. By a program of mine (hgen.py). -/
import Derived.Test.YtopijfgpbojkoaaGreatDoorRows
import Derived.Test.YtopijfgpbojkoaaGreatDoorCards
import Derived.Test.YtopijfgpbojkoaaGreatDoorTie
import Derived.ProofKit
import Derived.OpenShut
import Derived.LaidMore
import Derived.Lay
import Derived.SevenTiedAt
import Derived.Test.YtopijfgpbojkoaaGreatDoorW14
import Derived.Test.YtopijfgpbojkoaaGreatDoorFw33
open Option renaming bind_some → ja
open Nat renaming le_refl → jb, mul_le_mul_right → jj, le_of_ble_eq_true → jq, lt_of_lt_of_le → js, succ_mul → jE, zero_add → jT
open Bool renaming and_eq_true → jc, eq_iff_iff → jh, true_and → jv, not_eq_true' → jD, not_true → jV
open Go.Result renaming andThen_ok → jd
open List renaming length_append → je, getElem?_eq_getElem → jf, length_singleton → jk, append_assoc → jm, mem_cons_of_mem → jn, getElem_mem → jp, getElem?_append_left → jr, mem_cons_self → jt, length_map → ju, getElem?_take → jw, getElem?_append_right → jx, getD_eq_getElem?_getD → jy, take_succ_eq_append_getElem → jz, getElem?_toArray → jA, eq_nil_of_length_eq_zero → jB, take_length → jC, not_mem_nil → jF, length_replicate → jG, size_toArray → jH, getElem_of_mem → jL, map_append → jM, mem_cons → jO, all_eq_true → jQ, length_take → jR, ext_getElem → jS
open Go.Sem renaming run_bind → jg, run_pure → ji
open Int renaming toNat_natCast → jo, tdiv_eq_ediv_of_nonneg → jJ, mul_nonneg → jK, mul_assoc → jN, mul_le_mul → jP, le_refl → jU
open Array renaming getElem?_append_left → jI

namespace Go.Proofs.YtopijfgpbojkoaaGreatDoor
open Go.ChangeShapes Go.WideShapes Go.ChangeAt Go.RowKit
open Go.Fw
theorem own1 : ownKnob Tryz.prog.godebug = none := by kernel_rfl
theorem laidOut1 : laidOutB Tryz.prog = true := by kernel_rfl
theorem op9 : Opens Tryz.prog 9 instStr rngS := qud Tryz.underlying9 (by kernel_rfl)
theorem op2 : Opens Tryz.prog 2 instInt rngI := qtW Tryz.underlying2 (by kernel_rfl)
theorem op4 : Opens Tryz.prog 4 instBool rngB := qss Tryz.underlying4 (by kernel_rfl)
theorem op279 : Opens Tryz.prog 279 gt_TPin qlf :=
 Opens.imp (qbv (hz := rfl) (f := fun x : qal => (x.Av, x.Bv, x.Bt, x.Bp)) (fun p => ⟨p.1, p.2.1, p.2.2.1, p.2.2.2⟩) (fun _ => rfl) Tryz.underlying279 (by kernel_rfl) (qE rfl op9 (qE rfl op2 (qE rfl op2 (qcg rfl op4))))) (fun _ h => h)
theorem op215 : Opens Tryz.prog 215 (@instList qal gt_TPin) (rngL qlf) := qdC Tryz.underlying215 (by kernel_rfl) op279
theorem op35 : Opens Tryz.prog 35 (@instList Int instInt) (rngL rngI) := qdC Tryz.underlying35 (by kernel_rfl) op2
theorem op334 : Opens Tryz.prog 334 gt_TTable qha :=
 Opens.imp (qbv (hz := rfl) (f := fun x : qv => (x.Bl, x.Bh, x.Bf)) (fun p => ⟨p.1, p.2.1, p.2.2⟩) (fun _ => rfl) Tryz.underlying334 (by kernel_rfl) (qE rfl op35 (qE rfl op35 (qcg rfl op35)))) (fun _ h => h)
theorem op281 : Opens Tryz.prog 281 (@instList qv gt_TTable) (rngL qha) := qdC Tryz.underlying281 (by kernel_rfl) op334
theorem op283 : Opens Tryz.prog 283 gt_TArc qk9 :=
 Opens.imp (qbv (hz := rfl) (f := fun x : qN => (x.Ba, x.Bi, x.To, x.Bn, x.Bq, x.Bc)) (fun p => ⟨p.1, p.2.1, p.2.2.1, p.2.2.2.1, p.2.2.2.2.1, p.2.2.2.2.2⟩) (fun _ => rfl) Tryz.underlying283 (by kernel_rfl) (qE rfl op2 (qE rfl op2 (qE rfl op2 (qE rfl op2 (qE rfl op281 (qcg rfl op281))))))) (fun _ h => h)
theorem op216 : Opens Tryz.prog 216 (@instList qN gt_TArc) (rngL qk9) := qdC Tryz.underlying216 (by kernel_rfl) op283
theorem op218 : Opens Tryz.prog 218 gt_TCell qjU :=
 Opens.imp (qbv (hz := rfl) (f := fun x : qz => (x.Av, x.Ba, x.Az, x.Am, x.Br, x.Ca, x.Bu)) (fun p => ⟨p.1, p.2.1, p.2.2.1, p.2.2.2.1, p.2.2.2.2.1, p.2.2.2.2.2.1, p.2.2.2.2.2.2⟩) (fun _ => rfl) Tryz.underlying218 (by kernel_rfl) (qE rfl op9 (qE rfl op2 (qE rfl op215 (qE rfl op216 (qE rfl op35 (qE rfl op2 (qcg rfl op2)))))))) (fun _ h => h)
theorem op22 : Opens Tryz.prog 22 (@instList qz gt_TCell) (rngL qjU) := qdC Tryz.underlying22 (by kernel_rfl) op218
theorem op24 : Opens Tryz.prog 24 gt_TLibrary qko :=
 Opens.imp (qbv (hz := rfl) (f := fun x : qp => x.Ap) (fun p => ⟨p⟩) (fun _ => rfl) Tryz.underlying24 (by kernel_rfl) (qcg rfl op22)) (fun _ h => h)
theorem op220 : Opens Tryz.prog 220 gt_TInstance qe6 :=
 Opens.imp (qbv (hz := rfl) (f := fun x : qn => (x.Av, x.Bs, x.Aj)) (fun p => ⟨p.1, p.2.1, p.2.2⟩) (fun _ => rfl) Tryz.underlying220 (by kernel_rfl) (qE rfl op9 (qE rfl op2 (qcg rfl op35)))) (fun _ h => h)
theorem op25 : Opens Tryz.prog 25 (@instList qn gt_TInstance) (rngL qe6) := qdC Tryz.underlying25 (by kernel_rfl) op220
theorem op26 : Opens Tryz.prog 26 (@instList ByteArray instStr) (rngL rngS) := qdC Tryz.underlying26 (by kernel_rfl) op9
theorem op223 : Opens Tryz.prog 223 gt_TPort qjz :=
 Opens.imp (qbv (hz := rfl) (f := fun x : qaf => (x.Av, x.Bv, x.Bx)) (fun p => ⟨p.1, p.2.1, p.2.2⟩) (fun _ => rfl) Tryz.underlying223 (by kernel_rfl) (qE rfl op9 (qE rfl op2 (qcg rfl op2)))) (fun _ h => h)
theorem op27 : Opens Tryz.prog 27 (@instList qaf gt_TPort) (rngL qjz) := qdC Tryz.underlying27 (by kernel_rfl) op223
theorem op29 : Opens Tryz.prog 29 gt_TDesign qk1 :=
 Opens.imp (qbv (hz := rfl) (f := fun x : qd => (x.Aa, x.Aj, x.Ah)) (fun p => ⟨p.1, p.2.1, p.2.2⟩) (fun _ => rfl) Tryz.underlying29 (by kernel_rfl) (qE rfl op25 (qE rfl op26 (qcg rfl op27)))) (fun _ h => h)
theorem op157 : Opens Tryz.prog 157 gt_TWire qjW :=
 Opens.imp (qbv (hz := rfl) (f := fun x : qO => (x.Ai, x.Bw, x.Bt, x.Bj)) (fun p => ⟨p.1, p.2.1, p.2.2.1, p.2.2.2⟩) (fun _ => rfl) Tryz.underlying157 (by kernel_rfl) (qE rfl op35 (qE rfl op35 (qE rfl op35 (qcg rfl op35))))) (fun _ h => h)
theorem op30 : Opens Tryz.prog 30 (@instList qO gt_TWire) (rngL qjW) := qdC Tryz.underlying30 (by kernel_rfl) op157
theorem op32 : Opens Tryz.prog 32 gt_TBlock qmn :=
 Opens.imp (qbv (hz := rfl) (f := fun x : qe => (x.Au, x.Ab, x.Ac)) (fun p => ⟨p.1, p.2.1, p.2.2⟩) (fun _ => rfl) Tryz.underlying32 (by kernel_rfl) (qE rfl op24 (qE rfl op29 (qcg rfl op30)))) (fun _ h => h)
theorem op34 : Opens Tryz.prog 34 gt_TCorner qll :=
 Opens.imp (qbv (hz := rfl) (f := fun x : qu => (x.Av, x.Ar, x.Bb, x.As, x.Be)) (fun p => ⟨p.1, p.2.1, p.2.2.1, p.2.2.2.1, p.2.2.2.2⟩) (fun _ => rfl) Tryz.underlying34 (by kernel_rfl) (qE rfl op9 (qE rfl op2 (qE rfl op2 (qE rfl op2 (qcg rfl op2)))))) (fun _ h => h)
theorem op114 : Opens Tryz.prog 114 gt_TSpan qni :=
 Opens.imp (qbv (hz := rfl) (f := fun x : qf => (x.Ak, x.Bd)) (fun p => ⟨p.1, p.2⟩) (fun _ => rfl) Tryz.underlying114 (by kernel_rfl) (qE rfl op2 (qcg rfl op2))) (fun _ h => h)
theorem op116 : Opens Tryz.prog 116 gt_TSource qhY :=
 Opens.imp (qbv (hz := rfl) (f := fun x : qg => (x.Bo, x.Af, x.Bc)) (fun p => ⟨p.1, p.2.1, p.2.2⟩) (fun _ => rfl) Tryz.underlying116 (by kernel_rfl) (qE rfl op2 (qE rfl op114 (qcg rfl op114)))) (fun _ h => h)
theorem op36 : Opens Tryz.prog 36 (@instList qg gt_TSource) (rngL qhY) := qdC Tryz.underlying36 (by kernel_rfl) op116
theorem op38 : Opens Tryz.prog 38 gt_TJob qo4 :=
 Opens.imp (qbv (hz := rfl) (f := fun x : qcP => (x.Ay, x.Aq, x.Bm, x.Bk)) (fun p => ⟨p.1, p.2.1, p.2.2.1, p.2.2.2⟩) (fun _ => rfl) Tryz.underlying38 (by kernel_rfl) (qE rfl op32 (qE rfl op34 (qE rfl op35 (qcg rfl op36))))) (fun _ h => h)
set_option maxRecDepth 100000 in
theorem lawCalls {H : Type} {enc : TypeId × Value → H} {W : World} {base : Nat} {args : Array Value} {ds gs : List (DataW H)} {before : List MemPlace}
  (hval : ∀ (j : Nat) t v, Tryz.f3.params[j]? = some t → args[j]? = some v → Value.okWide Tryz.prog W .any base t v) (hW : DataW.Whole enc Tryz.prog Tryz.f3.params.toList Rows.fnExactJobCodeSpec.vars false W args.toList ds gs before) (fresh handsOn again : Bool) :
  Calls Tryz.prog 3 args W fun e W' => ∃ v, e = .returned v ∧ Rows.fnExactJobCodeSpec.post enc Tryz.prog Tryz.f3 false fresh handsOn again W args v W' := by
 have hW' := hW
 obtain ⟨p, q, hA0, hV, rfl, hfz, hnd⟩ := hW
 have hA : DataW.TrodAll enc Tryz.prog W 0 (fun _ => true) true Tryz.f3.params.toList args.toList ds p := hA0
 rw [Tryz.params3] at hA hval
 obtain ⟨v0, d0, rfl, rfl, h0⟩ := trodAll_one hA
 obtain ⟨rfl, rfl⟩ := trodVars_none hV
 obtain ⟨x0, cs0, rfl, hR0, hx0⟩ := qtu (A := gt_TJob) op38 rfl Tryz.underlying38 (hval 0 38 v0 rfl rfl) h0
 obtain ⟨n, hn⟩ := (qmS hx0).at
 have hc := qk7 hR0 hn
 refine Calls.mono hc ?_
 rintro e W' ⟨v, rfl, hb, us, rfl, hvs⟩
 refine ⟨_, rfl, ?_⟩
 rw [qvc hvs]
 exact qtv laidOut1 (by kernel_rfl) rfl Tryz.underlying4 rfl rfl rfl rfl (by simpa using hW') hb
set_option maxRecDepth 100000 in
theorem lifted (fresh handsOn again : Bool) (os : Os) (started : os.Started) (H : Type) (enc : TypeId × Value → H) :
  ReturnsInHanded {} Tryz.checked os 3 .any (fun w args => (Rows.fnExactJobCodeSpec.pre enc Tryz.prog Tryz.f3 Rows.fnExactJobCodeRow.domain false w args ∧ laidMetH Tryz.prog Rows.fnExactJobCodeRow.laid w) ∧ sizedMet enc Tryz.prog Tryz.f3 (OpenSpec.ofChange Rows.fnExactJobCodeSpec) false w args)
   (Rows.fnExactJobCodeSpec.post enc Tryz.prog Tryz.f3 false fresh handsOn again) := by
 refine returnsInHanded_of_change_and (C := Tryz.checked) (X := fun w _ => laidMetH Tryz.prog Rows.fnExactJobCodeRow.laid w) (fun _ _ _ hh h => h.of_heap hh) own1 started (by kernel_rfl) Tryz.func3
  (ChangeSpec.witness_shaped (enc := enc) (C := Tryz.checked) (os := os) (X := fun w _ => laidMetH Tryz.prog Rows.fnExactJobCodeRow.laid w) false (World.laidAll Tryz.prog os Rows.fnExactJobCodeRow.laid) #[.agg #[.slice none 0 0, .slice none 0 0, .slice none 0 0, .slice none 0 0, .slice none 0 0, .string ByteArray.empty, .int .i64 0, .int .i64 0, .int .i64 0, .int .i64 0, .slice none 0 0, .slice none 0 0]] 8 (World.laidAll_os _ _ _)
   (World.shaped_of_ZipB (by kernel_rfl) (by kernel_rfl)) (by kernel_rfl) (by kernel_rfl) (by kernel_rfl)
   (by rw [MakeChecks.laidMetH_plain _ _ _ (by kernel_rfl)]; exact laidMet_laidAll _ (by kernel_rfl) (by kernel_rfl))) ?_
 intro W base args ds gs before hval0 hW hc _ hL _
 exact lawCalls hval0 hW _ _ _
theorem j0 : (Rows.fnExactJobCodeRow.inPlace == Tryz.checked.prog.inPlace 3) = true := by kernel_rfl
theorem j1 : (Rows.fnExactJobCodeRow.unfollowed == Tryz.checked.prog.unfollowed 3) = true := by kernel_rfl
theorem j2 : (Rows.fnExactJobCodeRow.recurses == Tryz.checked.prog.recurses 3) = true := by kernel_rfl
theorem j3 : (Rows.fnExactJobCodeRow.named == Tryz.checked.prog.varsNamed 3) = true := by kernel_rfl
theorem j4 : Tryz.checked.prog.mayEnter = true := by kernel_rfl
theorem j5 : Tryz.checked.prog.stopsHeard = true := by kernel_rfl
theorem j6 : (Rows.fnExactJobCodeRow.lifted == Tryz.checked.prog.liftsFinal) = true := by kernel_rfl
theorem j7 : (Tryz.checked.prog.make == some Rows.fnExactJobCodeRow.make) = true := by kernel_rfl
theorem j8 : (Rows.fnExactJobCodeRow.plainKeys == Tryz.checked.prog.plainKeys) = true := by kernel_rfl
theorem j9 : mapsRowed Tryz.checked.prog = true := by kernel_rfl
theorem j10 : laidOutB Tryz.checked.prog = true := by kernel_rfl
theorem j11 : namedTie Tryz.checked.prog Rows.fnExactJobCodeRow.named Rows.fnExactJobCodeSpec.vars = true := by kernel_rfl
theorem j12 : Rows.fnExactJobCodeRow.wf (OpenSpec.ofChange Rows.fnExactJobCodeSpec) = true := by kernel_rfl
theorem j13 : (Rows.fnExactJobCodeRow.pinned == Rows.fnExactJobCodeRow.pinnedBy) = true := by kernel_rfl
theorem closed : joinedFacts Tryz.checked.prog 3 Tryz.f3 Rows.fnExactJobCodeSpec Rows.fnExactJobCodeRow = true := by
 unfold joinedFacts
 rw [j0, j1, j2, j3, j4, j5, j6, j7, j8, j9, j10, j11, j12, j13]
 kernel_rfl
theorem named1 : Tryz.checked.prog.funcNamed Rows.fnExactJobCodeRow.func = some 3 := by kernel_rfl
theorem instance1 : Tryz.f3.isInstance Tryz.checked.prog Rows.fnExactJobCodeRow.origin Rows.fnExactJobCodeRow.targs := of_decide_eq_true (by kernel_rfl)
theorem wrapper1 : Tryz.f3.isWrapper Tryz.checked.prog Rows.fnExactJobCodeRow.wrapper Rows.fnExactJobCodeRow.mainSum := by
 unfold Func.isWrapper
 first | (rw [if_pos (by decide +kernel)]; kernel_rfl) | (rw [if_neg (by decide +kernel)]; exact ⟨rfl, rfl⟩)
theorem said_holds : Rows.FnExactJobCodeSaid :=
 OpenClaim.holds_of_wide 3 Tryz.f3 rfl rfl rfl rfl rfl rfl rfl ⟨rfl, rfl, rfl, rfl, rfl⟩ rfl rfl rfl rfl rfl named1 Tryz.func3 closed instance1 wrapper1
  (fun os started H enc _ => lifted _ _ _ os started H enc)
theorem card_holds : Rows.FnExactJobCodeCardSaid :=
 Claim7.holds_tied_plain_at .later [] [.data, .pinned] true (true, "40d1125d641e5c6625ac5682a7fda04b2065eecaf48c05877d93b090944e0ade") false said_holds (fun _ h => by cases h) (by kernel_rfl) (fun _ h => by cases h) fnExactJobCode_row_tie rfl ⟨rfl, rfl⟩ (by kernel_rfl) rfl
  (fun f fn hf hfn => by
   obtain rfl : f = 3 := Option.some.inj ((show Tryz.prog.funcNamed "loop.example/g00861/laws.FnExactJobCode" = some 3 by kernel_rfl).symm.trans hf) |>.symm
   obtain rfl : fn = Tryz.f3 := (Option.some.inj (Tryz.func3.symm.trans hfn)).symm
   exact ⟨by kernel_rfl, fun j t ht => by
    rw [Tryz.params3] at ht
    have hm : t ∈ [38] := by simpa using Array.mem_of_getElem? ht
    have hall : ([38].all fun u => !Tryz.prog.wantsStandIn u) = true := by kernel_rfl
    exact (show Tryz.prog.wantsStandIn t = false by simpa using List.all_eq_true.1 hall t hm)⟩)
  (by kernel_rfl)
end Go.Proofs.YtopijfgpbojkoaaGreatDoor
