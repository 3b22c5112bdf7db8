/- THE LAW laws.FnExactPathCount, for every input: the call returns true, and its arguments read afterwards as they did. By a program of mine (hgen.py). -/
import Derived.Test.YtopijfgpbojkoaaGreatDoorRows
import Derived.Test.YtopijfgpbojkoaaGreatDoorCards
import Derived.Test.YtopijfgpbojkoaaGreatDoorTie
import Derived.ProofKit
import Derived.OpenShut
import Derived.LaidMore
import Derived.Lay
import Derived.SevenTiedAt
import Derived.Test.YtopijfgpbojkoaaGreatDoorW14
import Derived.Test.YtopijfgpbojkoaaGreatDoorFw33
open Option renaming bind_some → ja
open Nat renaming le_refl → jb, mul_le_mul_right → jj, le_of_ble_eq_true → jq, lt_of_lt_of_le → jt, succ_mul → jF, zero_add → jV
open Bool renaming and_eq_true → jc, eq_iff_iff → jh, true_and → jw, not_eq_true' → jE, not_true → jX
open Go.Result renaming andThen_ok → jd
open List renaming length_append → je, getElem?_eq_getElem → jf, length_singleton → jk, append_assoc → jm, mem_cons_of_mem → jn, getElem_mem → jo, getElem?_append_left → jr, take_succ_eq_append_getElem → js, mem_cons_self → ju, length_map → jv, getElem?_take → jx, getElem?_append_right → jy, getD_eq_getElem?_getD → jz, getElem?_toArray → jA, take_length → jB, length_replicate → jC, eq_nil_of_length_eq_zero → jD, not_mem_nil → jG, size_toArray → jH, drop_eq_getElem_cons → jL, getElem_of_mem → jM, map_append → jN, mem_append_left → jO, mem_cons → jQ, all_eq_true → jS, length_take → jT, ext_getElem → jU
open Go.Sem renaming run_bind → jg, run_pure → ji
open Int renaming toNat_natCast → jp, tdiv_eq_ediv_of_nonneg → jJ, mul_nonneg → jK, mul_assoc → jP, mul_le_mul → jR, le_refl → jW
open Array renaming getElem?_append_left → jI

namespace Go.Proofs.YtopijfgpbojkoaaGreatDoor
open Go.ChangeShapes Go.WideShapes Go.ChangeAt Go.RowKit
open Go.Fw
theorem own1 : ownKnob Tryz.prog.godebug = none := by kernel_rfl
theorem laidOut1 : laidOutB Tryz.prog = true := by kernel_rfl
theorem op9 : Opens Tryz.prog 9 instStr rngS := qux Tryz.underlying9 (by kernel_rfl)
theorem op2 : Opens Tryz.prog 2 instInt rngI := quF Tryz.underlying2 (by kernel_rfl)
theorem op4 : Opens Tryz.prog 4 instBool rngB := qsZ Tryz.underlying4 (by kernel_rfl)
theorem op279 : Opens Tryz.prog 279 gt_TPin qlG :=
 Opens.imp (qbz (hz := rfl) (f := fun x : qan => (x.Ba, x.Bv, x.Bt, x.Bq)) (fun p => ⟨p.1, p.2.1, p.2.2.1, p.2.2.2⟩) (fun _ => rfl) Tryz.underlying279 (by kernel_rfl) (qE rfl op9 (qE rfl op2 (qE rfl op2 (qcu rfl op4))))) (fun _ h => h)
theorem op215 : Opens Tryz.prog 215 (@instList qan gt_TPin) (rngL qlG) := qdK Tryz.underlying215 (by kernel_rfl) op279
theorem op35 : Opens Tryz.prog 35 (@instList Int instInt) (rngL rngI) := qdK Tryz.underlying35 (by kernel_rfl) op2
theorem op334 : Opens Tryz.prog 334 gt_TTable qho :=
 Opens.imp (qbz (hz := rfl) (f := fun x : qv => (x.Bm, x.Bj, x.Bi)) (fun p => ⟨p.1, p.2.1, p.2.2⟩) (fun _ => rfl) Tryz.underlying334 (by kernel_rfl) (qE rfl op35 (qE rfl op35 (qcu rfl op35)))) (fun _ h => h)
theorem op281 : Opens Tryz.prog 281 (@instList qv gt_TTable) (rngL qho) := qdK Tryz.underlying281 (by kernel_rfl) op334
theorem op283 : Opens Tryz.prog 283 gt_TArc qlJ :=
 Opens.imp (qbz (hz := rfl) (f := fun x : qP => (x.Be, x.Bk, x.To, x.Bn, x.Bp, x.Bd)) (fun p => ⟨p.1, p.2.1, p.2.2.1, p.2.2.2.1, p.2.2.2.2.1, p.2.2.2.2.2⟩) (fun _ => rfl) Tryz.underlying283 (by kernel_rfl) (qE rfl op2 (qE rfl op2 (qE rfl op2 (qE rfl op2 (qE rfl op281 (qcu rfl op281))))))) (fun _ h => h)
theorem op216 : Opens Tryz.prog 216 (@instList qP gt_TArc) (rngL qlJ) := qdK Tryz.underlying216 (by kernel_rfl) op283
theorem op218 : Opens Tryz.prog 218 gt_TCell qj9 :=
 Opens.imp (qbz (hz := rfl) (f := fun x : qB => (x.Ba, x.Be, x.Bc, x.Ar, x.Br, x.Ca, x.Bu)) (fun p => ⟨p.1, p.2.1, p.2.2.1, p.2.2.2.1, p.2.2.2.2.1, p.2.2.2.2.2.1, p.2.2.2.2.2.2⟩) (fun _ => rfl) Tryz.underlying218 (by kernel_rfl) (qE rfl op9 (qE rfl op2 (qE rfl op215 (qE rfl op216 (qE rfl op35 (qE rfl op2 (qcu rfl op2)))))))) (fun _ h => h)
theorem op22 : Opens Tryz.prog 22 (@instList qB gt_TCell) (rngL qj9) := qdK Tryz.underlying22 (by kernel_rfl) op218
theorem op24 : Opens Tryz.prog 24 gt_TLibrary qkE :=
 Opens.imp (qbz (hz := rfl) (f := fun x : qp => x.Aq) (fun p => ⟨p⟩) (fun _ => rfl) Tryz.underlying24 (by kernel_rfl) (qcu rfl op22)) (fun _ h => h)
theorem op220 : Opens Tryz.prog 220 gt_TInstance qfj :=
 Opens.imp (qbz (hz := rfl) (f := fun x : qn => (x.Ba, x.Bs, x.Am)) (fun p => ⟨p.1, p.2.1, p.2.2⟩) (fun _ => rfl) Tryz.underlying220 (by kernel_rfl) (qE rfl op9 (qE rfl op2 (qcu rfl op35)))) (fun _ h => h)
theorem op25 : Opens Tryz.prog 25 (@instList qn gt_TInstance) (rngL qfj) := qdK Tryz.underlying25 (by kernel_rfl) op220
theorem op26 : Opens Tryz.prog 26 (@instList ByteArray instStr) (rngL rngS) := qdK Tryz.underlying26 (by kernel_rfl) op9
theorem op223 : Opens Tryz.prog 223 gt_TPort qj3 :=
 Opens.imp (qbz (hz := rfl) (f := fun x : qah => (x.Ba, x.Bv, x.Bx)) (fun p => ⟨p.1, p.2.1, p.2.2⟩) (fun _ => rfl) Tryz.underlying223 (by kernel_rfl) (qE rfl op9 (qE rfl op2 (qcu rfl op2)))) (fun _ h => h)
theorem op27 : Opens Tryz.prog 27 (@instList qah gt_TPort) (rngL qj3) := qdK Tryz.underlying27 (by kernel_rfl) op223
theorem op29 : Opens Tryz.prog 29 gt_TDesign qlO :=
 Opens.imp (qbz (hz := rfl) (f := fun x : qd => (x.Aa, x.Am, x.Aj)) (fun p => ⟨p.1, p.2.1, p.2.2⟩) (fun _ => rfl) Tryz.underlying29 (by kernel_rfl) (qE rfl op25 (qE rfl op26 (qcu rfl op27)))) (fun _ h => h)
theorem op157 : Opens Tryz.prog 157 gt_TWire qjU :=
 Opens.imp (qbz (hz := rfl) (f := fun x : qQ => (x.Ak, x.Bw, x.Bt, x.Bl)) (fun p => ⟨p.1, p.2.1, p.2.2.1, p.2.2.2⟩) (fun _ => rfl) Tryz.underlying157 (by kernel_rfl) (qE rfl op35 (qE rfl op35 (qE rfl op35 (qcu rfl op35))))) (fun _ h => h)
theorem op30 : Opens Tryz.prog 30 (@instList qQ gt_TWire) (rngL qjU) := qdK Tryz.underlying30 (by kernel_rfl) op157
theorem op32 : Opens Tryz.prog 32 gt_TBlock qmR :=
 Opens.imp (qbz (hz := rfl) (f := fun x : qf => (x.Av, x.Ab, x.Ac)) (fun p => ⟨p.1, p.2.1, p.2.2⟩) (fun _ => rfl) Tryz.underlying32 (by kernel_rfl) (qE rfl op24 (qE rfl op29 (qcu rfl op30)))) (fun _ h => h)
theorem op34 : Opens Tryz.prog 34 gt_TCorner qlp :=
 Opens.imp (qbz (hz := rfl) (f := fun x : qt => (x.Ba, x.Au, x.Ay, x.As, x.Az)) (fun p => ⟨p.1, p.2.1, p.2.2.1, p.2.2.2.1, p.2.2.2.2⟩) (fun _ => rfl) Tryz.underlying34 (by kernel_rfl) (qE rfl op9 (qE rfl op2 (qE rfl op2 (qE rfl op2 (qcu rfl op2)))))) (fun _ h => h)
theorem op114 : Opens Tryz.prog 114 gt_TSpan qnz :=
 Opens.imp (qbz (hz := rfl) (f := fun x : qh => (x.Ap, x.Bf)) (fun p => ⟨p.1, p.2⟩) (fun _ => rfl) Tryz.underlying114 (by kernel_rfl) (qE rfl op2 (qcu rfl op2))) (fun _ h => h)
theorem op116 : Opens Tryz.prog 116 gt_TSource qiu :=
 Opens.imp (qbz (hz := rfl) (f := fun x : qe => (x.Bo, x.Ah, x.Bd)) (fun p => ⟨p.1, p.2.1, p.2.2⟩) (fun _ => rfl) Tryz.underlying116 (by kernel_rfl) (qE rfl op2 (qE rfl op114 (qcu rfl op114)))) (fun _ h => h)
theorem op36 : Opens Tryz.prog 36 (@instList qe gt_TSource) (rngL qiu) := qdK Tryz.underlying36 (by kernel_rfl) op116
theorem op38 : Opens Tryz.prog 38 gt_TJob qpv :=
 Opens.imp (qbz (hz := rfl) (f := fun x : qbA => (x.Af, x.Ai, x.Bg, x.Bb)) (fun p => ⟨p.1, p.2.1, p.2.2.1, p.2.2.2⟩) (fun _ => rfl) Tryz.underlying38 (by kernel_rfl) (qE rfl op32 (qE rfl op34 (qE rfl op35 (qcu rfl op36))))) (fun _ h => h)
set_option maxRecDepth 100000 in
theorem lawCalls {H : Type} {enc : TypeId × Value → H} {W : World} {base : Nat} {args : Array Value} {ds gs : List (DataW H)} {before : List MemPlace}
  (hval : ∀ (j : Nat) t v, Tryz.f5.params[j]? = some t → args[j]? = some v → Value.okWide Tryz.prog W .any base t v) (hW : DataW.Whole enc Tryz.prog Tryz.f5.params.toList Rows.fnExactPathCountSpec.vars false W args.toList ds gs before) (fresh handsOn again : Bool) :
  Calls Tryz.prog 5 args W fun e W' => ∃ v, e = .returned v ∧ Rows.fnExactPathCountSpec.post enc Tryz.prog Tryz.f5 false fresh handsOn again W args v W' := by
 have hW' := hW
 obtain ⟨p, q, hA0, hV, rfl, hfz, hnd⟩ := hW
 have hA : DataW.TrodAll enc Tryz.prog W 0 (fun _ => true) true Tryz.f5.params.toList args.toList ds p := hA0
 rw [Tryz.params5] at hA hval
 obtain ⟨v0, v1, d0, d1, q0, q1, rfl, rfl, rfl, h0, h1⟩ := trodAll_two hA
 obtain ⟨rfl, rfl⟩ := trodVars_none hV
 obtain ⟨x0, cs0, rfl, hR0, hx0⟩ := quv (A := gt_TJob) op38 rfl Tryz.underlying38 (hval 0 38 v0 rfl rfl) h0
 obtain ⟨x1, cs1, rfl, hR1, hx1⟩ := quc (A := instInt) op2 rfl Tryz.underlying2 (hval 1 2 v1 rfl rfl) h1
 obtain rfl : cs1 = [.int .i64 x1] := hR1
 obtain ⟨n, hn⟩ := (qmr hx0 hx1).at
 have hc := qkO hR0 hn
 refine Calls.mono hc ?_
 rintro e W' ⟨v, rfl, hb, us, rfl, hvs⟩
 refine ⟨_, rfl, ?_⟩
 rw [qvT hvs]
 exact qtP laidOut1 (by kernel_rfl) rfl Tryz.underlying4 rfl rfl rfl rfl (by simpa using hW') hb
set_option maxRecDepth 100000 in
theorem lifted (fresh handsOn again : Bool) (os : Os) (started : os.Started) (H : Type) (enc : TypeId × Value → H) :
  ReturnsInHanded {} Tryz.checked os 5 .any (fun w args => (Rows.fnExactPathCountSpec.pre enc Tryz.prog Tryz.f5 Rows.fnExactPathCountRow.domain false w args ∧ laidMetH Tryz.prog Rows.fnExactPathCountRow.laid w) ∧ sizedMet enc Tryz.prog Tryz.f5 (OpenSpec.ofChange Rows.fnExactPathCountSpec) false w args)
   (Rows.fnExactPathCountSpec.post enc Tryz.prog Tryz.f5 false fresh handsOn again) := by
 refine returnsInHanded_of_change_and (C := Tryz.checked) (X := fun w _ => laidMetH Tryz.prog Rows.fnExactPathCountRow.laid w) (fun _ _ _ hh h => h.of_heap hh) own1 started (by kernel_rfl) Tryz.func5
  (ChangeSpec.witness_shaped (enc := enc) (C := Tryz.checked) (os := os) (X := fun w _ => laidMetH Tryz.prog Rows.fnExactPathCountRow.laid w) false (World.laidAll Tryz.prog os Rows.fnExactPathCountRow.laid) #[.agg #[.slice none 0 0, .slice none 0 0, .slice none 0 0, .slice none 0 0, .slice none 0 0, .string ByteArray.empty, .int .i64 0, .int .i64 0, .int .i64 0, .int .i64 0, .slice none 0 0, .slice none 0 0], .int .i64 0] 8 (World.laidAll_os _ _ _)
   (World.shaped_of_ZipB (by kernel_rfl) (by kernel_rfl)) (by kernel_rfl) (by kernel_rfl) (by kernel_rfl)
   (by rw [MakeChecks.laidMetH_plain _ _ _ (by kernel_rfl)]; exact laidMet_laidAll _ (by kernel_rfl) (by kernel_rfl))) ?_
 intro W base args ds gs before hval0 hW hc _ hL _
 exact lawCalls hval0 hW _ _ _
theorem j0 : (Rows.fnExactPathCountRow.inPlace == Tryz.checked.prog.inPlace 5) = true := by kernel_rfl
theorem j1 : (Rows.fnExactPathCountRow.unfollowed == Tryz.checked.prog.unfollowed 5) = true := by kernel_rfl
theorem j2 : (Rows.fnExactPathCountRow.recurses == Tryz.checked.prog.recurses 5) = true := by kernel_rfl
theorem j3 : (Rows.fnExactPathCountRow.named == Tryz.checked.prog.varsNamed 5) = true := by kernel_rfl
theorem j4 : Tryz.checked.prog.mayEnter = true := by kernel_rfl
theorem j5 : Tryz.checked.prog.stopsHeard = true := by kernel_rfl
theorem j6 : (Rows.fnExactPathCountRow.lifted == Tryz.checked.prog.liftsFinal) = true := by kernel_rfl
theorem j7 : (Tryz.checked.prog.make == some Rows.fnExactPathCountRow.make) = true := by kernel_rfl
theorem j8 : (Rows.fnExactPathCountRow.plainKeys == Tryz.checked.prog.plainKeys) = true := by kernel_rfl
theorem j9 : mapsRowed Tryz.checked.prog = true := by kernel_rfl
theorem j10 : laidOutB Tryz.checked.prog = true := by kernel_rfl
theorem j11 : namedTie Tryz.checked.prog Rows.fnExactPathCountRow.named Rows.fnExactPathCountSpec.vars = true := by kernel_rfl
theorem j12 : Rows.fnExactPathCountRow.wf (OpenSpec.ofChange Rows.fnExactPathCountSpec) = true := by kernel_rfl
theorem j13 : (Rows.fnExactPathCountRow.pinned == Rows.fnExactPathCountRow.pinnedBy) = true := by kernel_rfl
theorem closed : joinedFacts Tryz.checked.prog 5 Tryz.f5 Rows.fnExactPathCountSpec Rows.fnExactPathCountRow = true := by
 unfold joinedFacts
 rw [j0, j1, j2, j3, j4, j5, j6, j7, j8, j9, j10, j11, j12, j13]
 kernel_rfl
theorem named1 : Tryz.checked.prog.funcNamed Rows.fnExactPathCountRow.func = some 5 := by kernel_rfl
theorem instance1 : Tryz.f5.isInstance Tryz.checked.prog Rows.fnExactPathCountRow.origin Rows.fnExactPathCountRow.targs := of_decide_eq_true (by kernel_rfl)
theorem wrapper1 : Tryz.f5.isWrapper Tryz.checked.prog Rows.fnExactPathCountRow.wrapper Rows.fnExactPathCountRow.mainSum := by
 unfold Func.isWrapper
 first | (rw [if_pos (by decide +kernel)]; kernel_rfl) | (rw [if_neg (by decide +kernel)]; exact ⟨rfl, rfl⟩)
theorem said_holds : Rows.FnExactPathCountSaid :=
 OpenClaim.holds_of_wide 5 Tryz.f5 rfl rfl rfl rfl rfl rfl rfl ⟨rfl, rfl, rfl, rfl, rfl⟩ rfl rfl rfl rfl rfl named1 Tryz.func5 closed instance1 wrapper1
  (fun os started H enc _ => lifted _ _ _ os started H enc)
theorem card_holds : Rows.FnExactPathCountCardSaid :=
 Claim7.holds_tied_plain_at .later [] [.data, .pinned] true (true, "40d1125d641e5c6625ac5682a7fda04b2065eecaf48c05877d93b090944e0ade") false said_holds (fun _ h => by cases h) (by kernel_rfl) (fun _ h => by cases h) fnExactPathCount_row_tie rfl ⟨rfl, rfl⟩ (by kernel_rfl) rfl
  (fun f fn hf hfn => by
   obtain rfl : f = 5 := Option.some.inj ((show Tryz.prog.funcNamed "loop.example/g00861/laws.FnExactPathCount" = some 5 by kernel_rfl).symm.trans hf) |>.symm
   obtain rfl : fn = Tryz.f5 := (Option.some.inj (Tryz.func5.symm.trans hfn)).symm
   exact ⟨by kernel_rfl, fun j t ht => by
    rw [Tryz.params5] at ht
    have hm : t ∈ [38, 2] := by simpa using Array.mem_of_getElem? ht
    have hall : ([38, 2].all fun u => !Tryz.prog.wantsStandIn u) = true := by kernel_rfl
    exact (show Tryz.prog.wantsStandIn t = false by simpa using List.all_eq_true.1 hall t hm)⟩)
  (by kernel_rfl)
end Go.Proofs.YtopijfgpbojkoaaGreatDoor
