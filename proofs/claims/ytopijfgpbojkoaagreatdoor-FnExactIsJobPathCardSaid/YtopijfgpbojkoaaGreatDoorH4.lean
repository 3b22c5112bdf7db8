/- THE LAW laws.FnExactIsJobPath, for every input: the call returns true, and its arguments read afterwards as they did. By a program of mine (hgen.py). -/
import Derived.Test.YtopijfgpbojkoaaGreatDoorRows
import Derived.Test.YtopijfgpbojkoaaGreatDoorCards
import Derived.Test.YtopijfgpbojkoaaGreatDoorTie
import Derived.ProofKit
import Derived.OpenShut
import Derived.LaidMore
import Derived.Lay
import Derived.SevenTiedAt
import Derived.Test.YtopijfgpbojkoaaGreatDoorW14
import Derived.Test.YtopijfgpbojkoaaGreatDoorFw33
open Option renaming bind_some → ja
open Nat renaming le_refl → jb, mul_le_mul_right → jj, le_of_ble_eq_true → jq, lt_of_lt_of_le → js, succ_mul → jE, zero_add → jU
open Bool renaming and_eq_true → jc, eq_iff_iff → jh, true_and → jw, not_eq_true' → jD, not_true → jW
open Go.Result renaming andThen_ok → jd
open List renaming length_append → je, getElem?_eq_getElem → jf, length_singleton → jk, append_assoc → jm, mem_cons_of_mem → jo, getElem_mem → jp, getElem?_append_left → jr, mem_cons_self → jt, take_succ_eq_append_getElem → ju, length_map → jv, getElem?_take → jx, getElem?_append_right → jy, getD_eq_getElem?_getD → jz, getElem?_toArray → jA, take_length → jB, eq_nil_of_length_eq_zero → jC, not_mem_nil → jF, length_replicate → jG, size_toArray → jH, all_eq_true → jL, drop_eq_getElem_cons → jM, getElem_of_mem → jN, map_append → jO, mem_cons → jQ, length_take → jS, ext_getElem → jT
open Go.Sem renaming run_bind → jg, run_pure → ji
open Int renaming toNat_natCast → jn, tdiv_eq_ediv_of_nonneg → jJ, mul_nonneg → jK, mul_assoc → jP, mul_le_mul → jR, le_refl → jV
open Array renaming getElem?_append_left → jI

namespace Go.Proofs.YtopijfgpbojkoaaGreatDoor
open Go.ChangeShapes Go.WideShapes Go.ChangeAt Go.RowKit
open Go.Fw
theorem own1 : ownKnob Tryz.prog.godebug = none := by kernel_rfl
theorem laidOut1 : laidOutB Tryz.prog = true := by kernel_rfl
theorem op9 : Opens Tryz.prog 9 instStr rngS := quC Tryz.underlying9 (by kernel_rfl)
theorem op2 : Opens Tryz.prog 2 instInt rngI := qux Tryz.underlying2 (by kernel_rfl)
theorem op4 : Opens Tryz.prog 4 instBool rngB := qtx Tryz.underlying4 (by kernel_rfl)
theorem op279 : Opens Tryz.prog 279 gt_TPin qlt :=
 Opens.imp (qbA (hz := rfl) (f := fun x : qaq => (x.Bb, x.Bv, x.Bt, x.Bp)) (fun p => ⟨p.1, p.2.1, p.2.2.1, p.2.2.2⟩) (fun _ => rfl) Tryz.underlying279 (by kernel_rfl) (qE rfl op9 (qE rfl op2 (qE rfl op2 (qcv rfl op4))))) (fun _ h => h)
theorem op215 : Opens Tryz.prog 215 (@instList qaq gt_TPin) (rngL qlt) := qdJ Tryz.underlying215 (by kernel_rfl) op279
theorem op35 : Opens Tryz.prog 35 (@instList Int instInt) (rngL rngI) := qdJ Tryz.underlying35 (by kernel_rfl) op2
theorem op334 : Opens Tryz.prog 334 gt_TTable qhv :=
 Opens.imp (qbA (hz := rfl) (f := fun x : qv => (x.Bm, x.Bj, x.Bh)) (fun p => ⟨p.1, p.2.1, p.2.2⟩) (fun _ => rfl) Tryz.underlying334 (by kernel_rfl) (qE rfl op35 (qE rfl op35 (qcv rfl op35)))) (fun _ h => h)
theorem op281 : Opens Tryz.prog 281 (@instList qv gt_TTable) (rngL qhv) := qdJ Tryz.underlying281 (by kernel_rfl) op334
theorem op283 : Opens Tryz.prog 283 gt_TArc qlE :=
 Opens.imp (qbA (hz := rfl) (f := fun x : qN => (x.Be, x.Bk, x.To, x.Bn, x.Bq, x.Bc)) (fun p => ⟨p.1, p.2.1, p.2.2.1, p.2.2.2.1, p.2.2.2.2.1, p.2.2.2.2.2⟩) (fun _ => rfl) Tryz.underlying283 (by kernel_rfl) (qE rfl op2 (qE rfl op2 (qE rfl op2 (qE rfl op2 (qE rfl op281 (qcv rfl op281))))))) (fun _ h => h)
theorem op216 : Opens Tryz.prog 216 (@instList qN gt_TArc) (rngL qlE) := qdJ Tryz.underlying216 (by kernel_rfl) op283
theorem op218 : Opens Tryz.prog 218 gt_TCell qkk :=
 Opens.imp (qbA (hz := rfl) (f := fun x : qA => (x.Bb, x.Be, x.Bd, x.Ar, x.Br, x.Ca, x.Bu)) (fun p => ⟨p.1, p.2.1, p.2.2.1, p.2.2.2.1, p.2.2.2.2.1, p.2.2.2.2.2.1, p.2.2.2.2.2.2⟩) (fun _ => rfl) Tryz.underlying218 (by kernel_rfl) (qE rfl op9 (qE rfl op2 (qE rfl op215 (qE rfl op216 (qE rfl op35 (qE rfl op2 (qcv rfl op2)))))))) (fun _ h => h)
theorem op22 : Opens Tryz.prog 22 (@instList qA gt_TCell) (rngL qkk) := qdJ Tryz.underlying22 (by kernel_rfl) op218
theorem op24 : Opens Tryz.prog 24 gt_TLibrary qkG :=
 Opens.imp (qbA (hz := rfl) (f := fun x : qp => x.Aq) (fun p => ⟨p⟩) (fun _ => rfl) Tryz.underlying24 (by kernel_rfl) (qcv rfl op22)) (fun _ h => h)
theorem op220 : Opens Tryz.prog 220 gt_TInstance qfv :=
 Opens.imp (qbA (hz := rfl) (f := fun x : qn => (x.Bb, x.Bs, x.Am)) (fun p => ⟨p.1, p.2.1, p.2.2⟩) (fun _ => rfl) Tryz.underlying220 (by kernel_rfl) (qE rfl op9 (qE rfl op2 (qcv rfl op35)))) (fun _ h => h)
theorem op25 : Opens Tryz.prog 25 (@instList qn gt_TInstance) (rngL qfv) := qdJ Tryz.underlying25 (by kernel_rfl) op220
theorem op26 : Opens Tryz.prog 26 (@instList ByteArray instStr) (rngL rngS) := qdJ Tryz.underlying26 (by kernel_rfl) op9
theorem op223 : Opens Tryz.prog 223 gt_TPort qke :=
 Opens.imp (qbA (hz := rfl) (f := fun x : qaj => (x.Bb, x.Bv, x.Bx)) (fun p => ⟨p.1, p.2.1, p.2.2⟩) (fun _ => rfl) Tryz.underlying223 (by kernel_rfl) (qE rfl op9 (qE rfl op2 (qcv rfl op2)))) (fun _ h => h)
theorem op27 : Opens Tryz.prog 27 (@instList qaj gt_TPort) (rngL qke) := qdJ Tryz.underlying27 (by kernel_rfl) op223
theorem op29 : Opens Tryz.prog 29 gt_TDesign qlD :=
 Opens.imp (qbA (hz := rfl) (f := fun x : qd => (x.Aa, x.Am, x.Aj)) (fun p => ⟨p.1, p.2.1, p.2.2⟩) (fun _ => rfl) Tryz.underlying29 (by kernel_rfl) (qE rfl op25 (qE rfl op26 (qcv rfl op27)))) (fun _ h => h)
theorem op157 : Opens Tryz.prog 157 gt_TWire qjR :=
 Opens.imp (qbA (hz := rfl) (f := fun x : qO => (x.Ak, x.Bw, x.Bt, x.Bl)) (fun p => ⟨p.1, p.2.1, p.2.2.1, p.2.2.2⟩) (fun _ => rfl) Tryz.underlying157 (by kernel_rfl) (qE rfl op35 (qE rfl op35 (qE rfl op35 (qcv rfl op35))))) (fun _ h => h)
theorem op30 : Opens Tryz.prog 30 (@instList qO gt_TWire) (rngL qjR) := qdJ Tryz.underlying30 (by kernel_rfl) op157
theorem op32 : Opens Tryz.prog 32 gt_TBlock qmO :=
 Opens.imp (qbA (hz := rfl) (f := fun x : qf => (x.Av, x.Ab, x.Ac)) (fun p => ⟨p.1, p.2.1, p.2.2⟩) (fun _ => rfl) Tryz.underlying32 (by kernel_rfl) (qE rfl op24 (qE rfl op29 (qcv rfl op30)))) (fun _ h => h)
theorem op34 : Opens Tryz.prog 34 gt_TCorner qlH :=
 Opens.imp (qbA (hz := rfl) (f := fun x : qu => (x.Bb, x.Au, x.Ay, x.As, x.Az)) (fun p => ⟨p.1, p.2.1, p.2.2.1, p.2.2.2.1, p.2.2.2.2⟩) (fun _ => rfl) Tryz.underlying34 (by kernel_rfl) (qE rfl op9 (qE rfl op2 (qE rfl op2 (qE rfl op2 (qcv rfl op2)))))) (fun _ h => h)
theorem op114 : Opens Tryz.prog 114 gt_TSpan qnw :=
 Opens.imp (qbA (hz := rfl) (f := fun x : qh => (x.Ap, x.Bf)) (fun p => ⟨p.1, p.2⟩) (fun _ => rfl) Tryz.underlying114 (by kernel_rfl) (qE rfl op2 (qcv rfl op2))) (fun _ h => h)
theorem op116 : Opens Tryz.prog 116 gt_TSource qir :=
 Opens.imp (qbA (hz := rfl) (f := fun x : qe => (x.Bo, x.Ah, x.Bc)) (fun p => ⟨p.1, p.2.1, p.2.2⟩) (fun _ => rfl) Tryz.underlying116 (by kernel_rfl) (qE rfl op2 (qE rfl op114 (qcv rfl op114)))) (fun _ h => h)
theorem op36 : Opens Tryz.prog 36 (@instList qe gt_TSource) (rngL qir) := qdJ Tryz.underlying36 (by kernel_rfl) op116
theorem op38 : Opens Tryz.prog 38 gt_TJob qpt :=
 Opens.imp (qbA (hz := rfl) (f := fun x : qbp => (x.Af, x.Ai, x.Bi, x.Ba)) (fun p => ⟨p.1, p.2.1, p.2.2.1, p.2.2.2⟩) (fun _ => rfl) Tryz.underlying38 (by kernel_rfl) (qE rfl op32 (qE rfl op34 (qE rfl op35 (qcv rfl op36))))) (fun _ h => h)
set_option maxRecDepth 100000 in
theorem lawCalls {H : Type} {enc : TypeId × Value → H} {W : World} {base : Nat} {args : Array Value} {ds gs : List (DataW H)} {before : List MemPlace}
  (hval : ∀ (j : Nat) t v, Tryz.f4.params[j]? = some t → args[j]? = some v → Value.okWide Tryz.prog W .any base t v) (hW : DataW.Whole enc Tryz.prog Tryz.f4.params.toList Rows.fnExactIsJobPathSpec.vars false W args.toList ds gs before) (fresh handsOn again : Bool) :
  Calls Tryz.prog 4 args W fun e W' => ∃ v, e = .returned v ∧ Rows.fnExactIsJobPathSpec.post enc Tryz.prog Tryz.f4 false fresh handsOn again W args v W' := by
 have hW' := hW
 obtain ⟨p, q, hA0, hV, rfl, hfz, hnd⟩ := hW
 have hA : DataW.TrodAll enc Tryz.prog W 0 (fun _ => true) true Tryz.f4.params.toList args.toList ds p := hA0
 rw [Tryz.params4] at hA hval
 obtain ⟨v0, v1, v2, d0, d1, d2, q0, q1, q2, rfl, rfl, rfl, h0, h1, h2⟩ := trodAll_three hA
 obtain ⟨rfl, rfl⟩ := trodVars_none hV
 obtain ⟨x0, cs0, rfl, hR0, hx0⟩ := quj (A := gt_TJob) op38 rfl Tryz.underlying38 (hval 0 38 v0 rfl rfl) h0
 obtain ⟨x1, cs1, rfl, hR1, hx1⟩ := qt1 (A := instInt) op2 rfl Tryz.underlying2 (hval 1 2 v1 rfl rfl) h1
 obtain rfl : cs1 = [.int .i64 x1] := hR1
 obtain ⟨x2, cs2, rfl, hR2, hx2⟩ := qsT (A := (@instList Int instInt)) op35 rfl Tryz.underlying35 (hval 2 35 v2 rfl rfl) h2
 obtain ⟨n, hn⟩ := (qmG hx0 hx1 hx2).at
 have hc := qkQ hR0 hR2 hn
 refine Calls.mono hc ?_
 rintro e W' ⟨v, rfl, hb, us, rfl, hvs⟩
 refine ⟨_, rfl, ?_⟩
 rw [qvM hvs]
 exact quT laidOut1 (by kernel_rfl) rfl Tryz.underlying4 rfl rfl rfl rfl (by simpa using hW') hb
set_option maxRecDepth 100000 in
theorem lifted (fresh handsOn again : Bool) (os : Os) (started : os.Started) (H : Type) (enc : TypeId × Value → H) :
  ReturnsInHanded {} Tryz.checked os 4 .any (fun w args => (Rows.fnExactIsJobPathSpec.pre enc Tryz.prog Tryz.f4 Rows.fnExactIsJobPathRow.domain false w args ∧ laidMetH Tryz.prog Rows.fnExactIsJobPathRow.laid w) ∧ sizedMet enc Tryz.prog Tryz.f4 (OpenSpec.ofChange Rows.fnExactIsJobPathSpec) false w args)
   (Rows.fnExactIsJobPathSpec.post enc Tryz.prog Tryz.f4 false fresh handsOn again) := by
 refine returnsInHanded_of_change_and (C := Tryz.checked) (X := fun w _ => laidMetH Tryz.prog Rows.fnExactIsJobPathRow.laid w) (fun _ _ _ hh h => h.of_heap hh) own1 started (by kernel_rfl) Tryz.func4
  (ChangeSpec.witness_shaped (enc := enc) (C := Tryz.checked) (os := os) (X := fun w _ => laidMetH Tryz.prog Rows.fnExactIsJobPathRow.laid w) false (World.laidAll Tryz.prog os Rows.fnExactIsJobPathRow.laid) #[.agg #[.slice none 0 0, .slice none 0 0, .slice none 0 0, .slice none 0 0, .slice none 0 0, .string ByteArray.empty, .int .i64 0, .int .i64 0, .int .i64 0, .int .i64 0, .slice none 0 0, .slice none 0 0], .int .i64 0, .slice none 0 0] 8 (World.laidAll_os _ _ _)
   (World.shaped_of_ZipB (by kernel_rfl) (by kernel_rfl)) (by kernel_rfl) (by kernel_rfl) (by kernel_rfl)
   (by rw [MakeChecks.laidMetH_plain _ _ _ (by kernel_rfl)]; exact laidMet_laidAll _ (by kernel_rfl) (by kernel_rfl))) ?_
 intro W base args ds gs before hval0 hW hc _ hL _
 exact lawCalls hval0 hW _ _ _
theorem j0 : (Rows.fnExactIsJobPathRow.inPlace == Tryz.checked.prog.inPlace 4) = true := by kernel_rfl
theorem j1 : (Rows.fnExactIsJobPathRow.unfollowed == Tryz.checked.prog.unfollowed 4) = true := by kernel_rfl
theorem j2 : (Rows.fnExactIsJobPathRow.recurses == Tryz.checked.prog.recurses 4) = true := by kernel_rfl
theorem j3 : (Rows.fnExactIsJobPathRow.named == Tryz.checked.prog.varsNamed 4) = true := by kernel_rfl
theorem j4 : Tryz.checked.prog.mayEnter = true := by kernel_rfl
theorem j5 : Tryz.checked.prog.stopsHeard = true := by kernel_rfl
theorem j6 : (Rows.fnExactIsJobPathRow.lifted == Tryz.checked.prog.liftsFinal) = true := by kernel_rfl
theorem j7 : (Tryz.checked.prog.make == some Rows.fnExactIsJobPathRow.make) = true := by kernel_rfl
theorem j8 : (Rows.fnExactIsJobPathRow.plainKeys == Tryz.checked.prog.plainKeys) = true := by kernel_rfl
theorem j9 : mapsRowed Tryz.checked.prog = true := by kernel_rfl
theorem j10 : laidOutB Tryz.checked.prog = true := by kernel_rfl
theorem j11 : namedTie Tryz.checked.prog Rows.fnExactIsJobPathRow.named Rows.fnExactIsJobPathSpec.vars = true := by kernel_rfl
theorem j12 : Rows.fnExactIsJobPathRow.wf (OpenSpec.ofChange Rows.fnExactIsJobPathSpec) = true := by kernel_rfl
theorem j13 : (Rows.fnExactIsJobPathRow.pinned == Rows.fnExactIsJobPathRow.pinnedBy) = true := by kernel_rfl
theorem closed : joinedFacts Tryz.checked.prog 4 Tryz.f4 Rows.fnExactIsJobPathSpec Rows.fnExactIsJobPathRow = true := by
 unfold joinedFacts
 rw [j0, j1, j2, j3, j4, j5, j6, j7, j8, j9, j10, j11, j12, j13]
 kernel_rfl
theorem named1 : Tryz.checked.prog.funcNamed Rows.fnExactIsJobPathRow.func = some 4 := by kernel_rfl
theorem instance1 : Tryz.f4.isInstance Tryz.checked.prog Rows.fnExactIsJobPathRow.origin Rows.fnExactIsJobPathRow.targs := of_decide_eq_true (by kernel_rfl)
theorem wrapper1 : Tryz.f4.isWrapper Tryz.checked.prog Rows.fnExactIsJobPathRow.wrapper Rows.fnExactIsJobPathRow.mainSum := by
 unfold Func.isWrapper
 first | (rw [if_pos (by decide +kernel)]; kernel_rfl) | (rw [if_neg (by decide +kernel)]; exact ⟨rfl, rfl⟩)
theorem said_holds : Rows.FnExactIsJobPathSaid :=
 OpenClaim.holds_of_wide 4 Tryz.f4 rfl rfl rfl rfl rfl rfl rfl ⟨rfl, rfl, rfl, rfl, rfl⟩ rfl rfl rfl rfl rfl named1 Tryz.func4 closed instance1 wrapper1
  (fun os started H enc _ => lifted _ _ _ os started H enc)
theorem card_holds : Rows.FnExactIsJobPathCardSaid :=
 Claim7.holds_tied_plain_at .later [] [.data, .pinned] true (true, "40d1125d641e5c6625ac5682a7fda04b2065eecaf48c05877d93b090944e0ade") false said_holds (fun _ h => by cases h) (by kernel_rfl) (fun _ h => by cases h) fnExactIsJobPath_row_tie rfl ⟨rfl, rfl⟩ (by kernel_rfl) rfl
  (fun f fn hf hfn => by
   obtain rfl : f = 4 := Option.some.inj ((show Tryz.prog.funcNamed "loop.example/g00861/laws.FnExactIsJobPath" = some 4 by kernel_rfl).symm.trans hf) |>.symm
   obtain rfl : fn = Tryz.f4 := (Option.some.inj (Tryz.func4.symm.trans hfn)).symm
   exact ⟨by kernel_rfl, fun j t ht => by
    rw [Tryz.params4] at ht
    have hm : t ∈ [38, 2, 35] := by simpa using Array.mem_of_getElem? ht
    have hall : ([38, 2, 35].all fun u => !Tryz.prog.wantsStandIn u) = true := by kernel_rfl
    exact (show Tryz.prog.wantsStandIn t = false by simpa using List.all_eq_true.1 hall t hm)⟩)
  (by kernel_rfl)
end Go.Proofs.YtopijfgpbojkoaaGreatDoor
