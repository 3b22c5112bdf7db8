/- THE LAW laws.FnExactPathPessimism, for every input: the call returns true, and its arguments read afterwards as they did. By a program of mine (hgen.py). -/
import Derived.Test.YtflinekphmgbeaaGreatDoorRows
import Derived.Test.YtflinekphmgbeaaGreatDoorCards
import Derived.Test.YtflinekphmgbeaaGreatDoorTie
import Derived.ProofKit
import Derived.OpenShut
import Derived.LaidMore
import Derived.Lay
import Derived.SevenTiedAt
import Derived.Test.YtflinekphmgbeaaGreatDoorW18
import Derived.Test.YtflinekphmgbeaaGreatDoorFw32
open Option renaming bind_some → ja
open Nat renaming le_refl → jb, mul_le_mul_right → jm, le_of_ble_eq_true → jq, lt_of_lt_of_le → js, succ_mul → jF, zero_add → jU
open Bool renaming and_eq_true → jc, eq_iff_iff → jh, true_and → jw, not_eq_true' → jE, not_true → jW
open Go.Result renaming andThen_ok → jd
open List renaming length_append → je, getElem?_eq_getElem → jf, mem_cons_of_mem → jk, length_singleton → jn, getElem_mem → jo, append_assoc → jp, getElem?_append_left → jr, mem_cons_self → jt, take_succ_eq_append_getElem → ju, length_map → jv, getElem?_take → jx, getElem?_append_right → jy, getD_eq_getElem?_getD → jz, getElem?_toArray → jA, take_length → jB, eq_nil_of_length_eq_zero → jC, drop_eq_getElem_cons → jD, not_mem_nil → jH, length_replicate → jI, size_toArray → jJ, all_eq_true → jM, length_take → jN, getElem_of_mem → jO, map_append → jP, mem_cons → jR, ext_getElem → jT
open Go.Sem renaming run_bind → jg, run_pure → ji
open Int renaming toNat_natCast → jj, tdiv_eq_ediv_of_nonneg → jG, mul_nonneg → jL, mul_assoc → jQ, mul_le_mul → jS, le_refl → jV
open Array renaming getElem?_append_left → jK

namespace Go.Proofs.YtflinekphmgbeaaGreatDoor
open Go.ChangeShapes Go.WideShapes Go.ChangeAt Go.RowKit
open Go.Fw
theorem own1 : ownKnob Tryz.prog.godebug = none := by kernel_rfl
theorem laidOut1 : laidOutB Tryz.prog = true := by kernel_rfl
theorem op9 : Opens Tryz.prog 9 instStr rngS := qvp Tryz.underlying9 (by kernel_rfl)
theorem op2 : Opens Tryz.prog 2 instInt rngI := qu1 Tryz.underlying2 (by kernel_rfl)
theorem op4 : Opens Tryz.prog 4 instBool rngB := qur Tryz.underlying4 (by kernel_rfl)
theorem op297 : Opens Tryz.prog 297 gt_TPin ql2 :=
 Opens.imp (qbI (hz := rfl) (f := fun x : qaq => (x.Bb, x.Bv, x.Bt, x.Bq)) (fun p => ⟨p.1, p.2.1, p.2.2.1, p.2.2.2⟩) (fun _ => rfl) Tryz.underlying297 (by kernel_rfl) (qE rfl op9 (qE rfl op2 (qE rfl op2 (qcB rfl op4))))) (fun _ h => h)
theorem op220 : Opens Tryz.prog 220 (@instList qaq gt_TPin) (rngL ql2) := qd2 Tryz.underlying220 (by kernel_rfl) op297
theorem op35 : Opens Tryz.prog 35 (@instList Int instInt) (rngL rngI) := qd2 Tryz.underlying35 (by kernel_rfl) op2
theorem op338 : Opens Tryz.prog 338 gt_TTable qhV :=
 Opens.imp (qbI (hz := rfl) (f := fun x : qx => (x.Bm, x.Bj, x.Bh)) (fun p => ⟨p.1, p.2.1, p.2.2⟩) (fun _ => rfl) Tryz.underlying338 (by kernel_rfl) (qE rfl op35 (qE rfl op35 (qcB rfl op35)))) (fun _ h => h)
theorem op299 : Opens Tryz.prog 299 (@instList qx gt_TTable) (rngL qhV) := qd2 Tryz.underlying299 (by kernel_rfl) op338
theorem op301 : Opens Tryz.prog 301 gt_TArc qlU :=
 Opens.imp (qbI (hz := rfl) (f := fun x : qP => (x.Bf, x.Bk, x.To, x.Bn, x.Bp, x.Bc)) (fun p => ⟨p.1, p.2.1, p.2.2.1, p.2.2.2.1, p.2.2.2.2.1, p.2.2.2.2.2⟩) (fun _ => rfl) Tryz.underlying301 (by kernel_rfl) (qE rfl op2 (qE rfl op2 (qE rfl op2 (qE rfl op2 (qE rfl op299 (qcB rfl op299))))))) (fun _ h => h)
theorem op221 : Opens Tryz.prog 221 (@instList qP gt_TArc) (rngL qlU) := qd2 Tryz.underlying221 (by kernel_rfl) op301
theorem op223 : Opens Tryz.prog 223 gt_TCell qkz :=
 Opens.imp (qbI (hz := rfl) (f := fun x : qB => (x.Bb, x.Bf, x.Be, x.Av, x.Br, x.Ca, x.Bu)) (fun p => ⟨p.1, p.2.1, p.2.2.1, p.2.2.2.1, p.2.2.2.2.1, p.2.2.2.2.2.1, p.2.2.2.2.2.2⟩) (fun _ => rfl) Tryz.underlying223 (by kernel_rfl) (qE rfl op9 (qE rfl op2 (qE rfl op220 (qE rfl op221 (qE rfl op35 (qE rfl op2 (qcB rfl op2)))))))) (fun _ h => h)
theorem op22 : Opens Tryz.prog 22 (@instList qB gt_TCell) (rngL qkz) := qd2 Tryz.underlying22 (by kernel_rfl) op223
theorem op24 : Opens Tryz.prog 24 gt_TLibrary qk2 :=
 Opens.imp (qbI (hz := rfl) (f := fun x : qq => x.Au) (fun p => ⟨p⟩) (fun _ => rfl) Tryz.underlying24 (by kernel_rfl) (qcB rfl op22)) (fun _ h => h)
theorem op225 : Opens Tryz.prog 225 gt_TInstance qfN :=
 Opens.imp (qbI (hz := rfl) (f := fun x : qp => (x.Bb, x.Bs, x.Ap)) (fun p => ⟨p.1, p.2.1, p.2.2⟩) (fun _ => rfl) Tryz.underlying225 (by kernel_rfl) (qE rfl op9 (qE rfl op2 (qcB rfl op35)))) (fun _ h => h)
theorem op25 : Opens Tryz.prog 25 (@instList qp gt_TInstance) (rngL qfN) := qd2 Tryz.underlying25 (by kernel_rfl) op225
theorem op26 : Opens Tryz.prog 26 (@instList ByteArray instStr) (rngL rngS) := qd2 Tryz.underlying26 (by kernel_rfl) op9
theorem op228 : Opens Tryz.prog 228 gt_TPort qkE :=
 Opens.imp (qbI (hz := rfl) (f := fun x : qan => (x.Bb, x.Bv, x.Bx)) (fun p => ⟨p.1, p.2.1, p.2.2⟩) (fun _ => rfl) Tryz.underlying228 (by kernel_rfl) (qE rfl op9 (qE rfl op2 (qcB rfl op2)))) (fun _ h => h)
theorem op27 : Opens Tryz.prog 27 (@instList qan gt_TPort) (rngL qkE) := qd2 Tryz.underlying27 (by kernel_rfl) op228
theorem op29 : Opens Tryz.prog 29 gt_TDesign ql7 :=
 Opens.imp (qbI (hz := rfl) (f := fun x : qe => (x.Aa, x.Ap, x.Aj)) (fun p => ⟨p.1, p.2.1, p.2.2⟩) (fun _ => rfl) Tryz.underlying29 (by kernel_rfl) (qE rfl op25 (qE rfl op26 (qcB rfl op27)))) (fun _ h => h)
theorem op161 : Opens Tryz.prog 161 gt_TWire qkl :=
 Opens.imp (qbI (hz := rfl) (f := fun x : qQ => (x.Am, x.Bw, x.Bt, x.Bl)) (fun p => ⟨p.1, p.2.1, p.2.2.1, p.2.2.2⟩) (fun _ => rfl) Tryz.underlying161 (by kernel_rfl) (qE rfl op35 (qE rfl op35 (qE rfl op35 (qcB rfl op35))))) (fun _ h => h)
theorem op30 : Opens Tryz.prog 30 (@instList qQ gt_TWire) (rngL qkl) := qd2 Tryz.underlying30 (by kernel_rfl) op161
theorem op32 : Opens Tryz.prog 32 gt_TBlock qnr :=
 Opens.imp (qbI (hz := rfl) (f := fun x : qf => (x.Ay, x.Ab, x.Ac)) (fun p => ⟨p.1, p.2.1, p.2.2⟩) (fun _ => rfl) Tryz.underlying32 (by kernel_rfl) (qE rfl op24 (qE rfl op29 (qcB rfl op30)))) (fun _ h => h)
theorem op34 : Opens Tryz.prog 34 gt_TCorner qmb :=
 Opens.imp (qbI (hz := rfl) (f := fun x : qr => (x.Bb, x.As, x.Az, x.Aq, x.Ba)) (fun p => ⟨p.1, p.2.1, p.2.2.1, p.2.2.2.1, p.2.2.2.2⟩) (fun _ => rfl) Tryz.underlying34 (by kernel_rfl) (qE rfl op9 (qE rfl op2 (qE rfl op2 (qE rfl op2 (qcB rfl op2)))))) (fun _ h => h)
theorem op128 : Opens Tryz.prog 128 gt_TSpan qol :=
 Opens.imp (qbI (hz := rfl) (f := fun x : qd => (x.Ak, x.Bd)) (fun p => ⟨p.1, p.2⟩) (fun _ => rfl) Tryz.underlying128 (by kernel_rfl) (qE rfl op2 (qcB rfl op2))) (fun _ h => h)
theorem op130 : Opens Tryz.prog 130 gt_TSource qiM :=
 Opens.imp (qbI (hz := rfl) (f := fun x : qg => (x.Bo, x.Ah, x.Bc)) (fun p => ⟨p.1, p.2.1, p.2.2⟩) (fun _ => rfl) Tryz.underlying130 (by kernel_rfl) (qE rfl op2 (qE rfl op128 (qcB rfl op128)))) (fun _ h => h)
theorem op36 : Opens Tryz.prog 36 (@instList qg gt_TSource) (rngL qiM) := qd2 Tryz.underlying36 (by kernel_rfl) op130
theorem op38 : Opens Tryz.prog 38 gt_TJob qqd :=
 Opens.imp (qbI (hz := rfl) (f := fun x : qa2 => (x.Af, x.Ai, x.Bi, x.Ar)) (fun p => ⟨p.1, p.2.1, p.2.2.1, p.2.2.2⟩) (fun _ => rfl) Tryz.underlying38 (by kernel_rfl) (qE rfl op32 (qE rfl op34 (qE rfl op35 (qcB rfl op36))))) (fun _ h => h)
set_option maxRecDepth 100000 in
theorem lawCalls {H : Type} {enc : TypeId × Value → H} {W : World} {base : Nat} {args : Array Value} {ds gs : List (DataW H)} {before : List MemPlace}
  (hval : ∀ (j : Nat) t v, Tryz.f5.params[j]? = some t → args[j]? = some v → Value.okWide Tryz.prog W .any base t v) (hW : DataW.Whole enc Tryz.prog Tryz.f5.params.toList Rows.fnExactPathPessimismSpec.vars false W args.toList ds gs before) (fresh handsOn again : Bool) :
  Calls Tryz.prog 5 args W fun e W' => ∃ v, e = .returned v ∧ Rows.fnExactPathPessimismSpec.post enc Tryz.prog Tryz.f5 false fresh handsOn again W args v W' := by
 have hW' := hW
 obtain ⟨p, q, hA0, hV, rfl, hfz, hnd⟩ := hW
 have hA : DataW.TrodAll enc Tryz.prog W 0 (fun _ => true) true Tryz.f5.params.toList args.toList ds p := hA0
 rw [Tryz.params5] at hA hval
 obtain ⟨v0, v1, v2, v3, d0, d1, d2, d3, q0, q1, q2, q3, rfl, rfl, rfl, h0, h1, h2, h3⟩ := trodAll_four hA
 obtain ⟨rfl, rfl⟩ := trodVars_none hV
 obtain ⟨x0, cs0, rfl, hR0, hx0⟩ := qvy (A := gt_TJob) op38 rfl Tryz.underlying38 (hval 0 38 v0 rfl rfl) h0
 obtain ⟨x1, cs1, rfl, hR1, hx1⟩ := qrX (A := instInt) op2 rfl Tryz.underlying2 (hval 1 2 v1 rfl rfl) h1
 obtain rfl : cs1 = [.int .i64 x1] := hR1
 obtain ⟨x2, cs2, rfl, hR2, hx2⟩ := qth (A := (@instList Int instInt)) op35 rfl Tryz.underlying35 (hval 2 35 v2 rfl rfl) h2
 obtain ⟨x3, cs3, rfl, hR3, hx3⟩ := qrX (A := instInt) op2 rfl Tryz.underlying2 (hval 3 2 v3 rfl rfl) h3
 obtain rfl : cs3 = [.int .i64 x3] := hR3
 obtain ⟨n, hn⟩ := (qlo hx0 hx1 hx2 hx3).at
 have hc := qjJ hR0 hR2 hn
 refine Calls.mono hc ?_
 rintro e W' ⟨v, rfl, hb, us, rfl, hvs⟩
 refine ⟨_, rfl, ?_⟩
 rw [qvZ hvs]
 exact qvu laidOut1 (by kernel_rfl) rfl Tryz.underlying4 rfl rfl rfl rfl (by simpa using hW') hb
set_option maxRecDepth 100000 in
theorem lifted (fresh handsOn again : Bool) (os : Os) (started : os.Started) (H : Type) (enc : TypeId × Value → H) :
  ReturnsInHanded {} Tryz.checked os 5 .any (fun w args => (Rows.fnExactPathPessimismSpec.pre enc Tryz.prog Tryz.f5 Rows.fnExactPathPessimismRow.domain false w args ∧ laidMetH Tryz.prog Rows.fnExactPathPessimismRow.laid w) ∧ sizedMet enc Tryz.prog Tryz.f5 (OpenSpec.ofChange Rows.fnExactPathPessimismSpec) false w args)
   (Rows.fnExactPathPessimismSpec.post enc Tryz.prog Tryz.f5 false fresh handsOn again) := by
 refine returnsInHanded_of_change_and (C := Tryz.checked) (X := fun w _ => laidMetH Tryz.prog Rows.fnExactPathPessimismRow.laid w) (fun _ _ _ hh h => h.of_heap hh) own1 started (by kernel_rfl) Tryz.func5
  (ChangeSpec.witness_shaped (enc := enc) (C := Tryz.checked) (os := os) (X := fun w _ => laidMetH Tryz.prog Rows.fnExactPathPessimismRow.laid w) false (World.laidAll Tryz.prog os Rows.fnExactPathPessimismRow.laid) #[.agg #[.slice none 0 0, .slice none 0 0, .slice none 0 0, .slice none 0 0, .slice none 0 0, .string ByteArray.empty, .int .i64 0, .int .i64 0, .int .i64 0, .int .i64 0, .slice none 0 0, .slice none 0 0], .int .i64 0, .slice none 0 0, .int .i64 0] 8 (World.laidAll_os _ _ _)
   (World.shaped_of_ZipB (by kernel_rfl) (by kernel_rfl)) (by kernel_rfl) (by kernel_rfl) (by kernel_rfl)
   (by rw [MakeChecks.laidMetH_plain _ _ _ (by kernel_rfl)]; exact laidMet_laidAll _ (by kernel_rfl) (by kernel_rfl))) ?_
 intro W base args ds gs before hval0 hW hc _ hL _
 exact lawCalls hval0 hW _ _ _
theorem j0 : (Rows.fnExactPathPessimismRow.inPlace == Tryz.checked.prog.inPlace 5) = true := by kernel_rfl
theorem j1 : (Rows.fnExactPathPessimismRow.unfollowed == Tryz.checked.prog.unfollowed 5) = true := by kernel_rfl
theorem j2 : (Rows.fnExactPathPessimismRow.recurses == Tryz.checked.prog.recurses 5) = true := by kernel_rfl
theorem j3 : (Rows.fnExactPathPessimismRow.named == Tryz.checked.prog.varsNamed 5) = true := by kernel_rfl
theorem j4 : Tryz.checked.prog.mayEnter = true := by kernel_rfl
theorem j5 : Tryz.checked.prog.stopsHeard = true := by kernel_rfl
theorem j6 : (Rows.fnExactPathPessimismRow.lifted == Tryz.checked.prog.liftsFinal) = true := by kernel_rfl
theorem j7 : (Tryz.checked.prog.make == some Rows.fnExactPathPessimismRow.make) = true := by kernel_rfl
theorem j8 : (Rows.fnExactPathPessimismRow.plainKeys == Tryz.checked.prog.plainKeys) = true := by kernel_rfl
theorem j9 : mapsRowed Tryz.checked.prog = true := by kernel_rfl
theorem j10 : laidOutB Tryz.checked.prog = true := by kernel_rfl
theorem j11 : namedTie Tryz.checked.prog Rows.fnExactPathPessimismRow.named Rows.fnExactPathPessimismSpec.vars = true := by kernel_rfl
theorem j12 : Rows.fnExactPathPessimismRow.wf (OpenSpec.ofChange Rows.fnExactPathPessimismSpec) = true := by kernel_rfl
theorem j13 : (Rows.fnExactPathPessimismRow.pinned == Rows.fnExactPathPessimismRow.pinnedBy) = true := by kernel_rfl
theorem closed : joinedFacts Tryz.checked.prog 5 Tryz.f5 Rows.fnExactPathPessimismSpec Rows.fnExactPathPessimismRow = true := by
 unfold joinedFacts
 rw [j0, j1, j2, j3, j4, j5, j6, j7, j8, j9, j10, j11, j12, j13]
 kernel_rfl
theorem named1 : Tryz.checked.prog.funcNamed Rows.fnExactPathPessimismRow.func = some 5 := by kernel_rfl
theorem instance1 : Tryz.f5.isInstance Tryz.checked.prog Rows.fnExactPathPessimismRow.origin Rows.fnExactPathPessimismRow.targs := of_decide_eq_true (by kernel_rfl)
theorem wrapper1 : Tryz.f5.isWrapper Tryz.checked.prog Rows.fnExactPathPessimismRow.wrapper Rows.fnExactPathPessimismRow.mainSum := by
 unfold Func.isWrapper
 first | (rw [if_pos (by decide +kernel)]; kernel_rfl) | (rw [if_neg (by decide +kernel)]; exact ⟨rfl, rfl⟩)
theorem said_holds : Rows.FnExactPathPessimismSaid :=
 OpenClaim.holds_of_wide 5 Tryz.f5 rfl rfl rfl rfl rfl rfl rfl ⟨rfl, rfl, rfl, rfl, rfl⟩ rfl rfl rfl rfl rfl named1 Tryz.func5 closed instance1 wrapper1
  (fun os started H enc _ => lifted _ _ _ os started H enc)
theorem goesNone {P : Program} (h : P.funcs.any Func.goes = false) {st : Start} (hs : st = .entering) (nm : String) : P.goesAt st nm = false := by
 subst hs
 have hf : ∀ f, P.goes f = false := fun f => by
  unfold Program.goes
  rw [h, Bool.and_false, Bool.or_false, List.any_eq_false]
  intro g _
  cases hq : P.funcs[g]? with
  | none => simp
  | some fn =>
   obtain ⟨hi, he⟩ := Array.getElem?_eq_some_iff.1 hq
   have := Array.any_eq_false.1 h g hi
   rw [he] at this
   simpa using this
 unfold Program.goesAt Program.goesFrom
 cases P.funcNamed nm with
 | none => rfl
 | some f => simp [hf f]
theorem kg0 : Tryz.checked.prog.funcs.any Func.goes = false := by kernel_rfl
theorem kg : false = Rows.fnExactPathPessimismRow.goesBy Tryz.checked.prog := (goesNone kg0 rfl _).symm
theorem kw : Rows.fnExactPathPessimismRow.wfByText (OpenSpec.ofChange Rows.fnExactPathPessimismSpec) = true := by kernel_rfl
theorem km : Tryz.checked.prog.mainIs = some (true, "60b5b58a08630658c2b4f4c30794e330c8a5eed9c7c951ec78707a40d62d511b".toList) := by kernel_rfl
theorem kl : false = Tryz.checked.prog.looks [] := by kernel_rfl
theorem kn : Tryz.prog.funcNamed "loop.example/g00861/laws.FnExactPathPessimism" = some 5 := by kernel_rfl
theorem ka : ([38, 2, 35, 2].all fun u => !Tryz.prog.wantsStandIn u) = true := by kernel_rfl
theorem card_holds : Rows.FnExactPathPessimismCardSaid :=
 Claim7.holds_tied_plain_at .later [] [.data, .pinned] true (true, "60b5b58a08630658c2b4f4c30794e330c8a5eed9c7c951ec78707a40d62d511b") false said_holds (fun _ h => by cases h) kw (fun _ h => by cases h) fnExactPathPessimism_row_tie rfl ⟨rfl, rfl⟩ km rfl
  (fun f fn hf hfn => by
   obtain rfl : f = 5 := Option.some.inj (kn.symm.trans hf) |>.symm
   obtain rfl : fn = Tryz.f5 := (Option.some.inj (Tryz.func5.symm.trans hfn)).symm
   exact ⟨kl, fun j t ht => by
    rw [Tryz.params5] at ht
    have hm : t ∈ [38, 2, 35, 2] := by simpa using Array.mem_of_getElem? ht
    exact (show Tryz.prog.wantsStandIn t = false by simpa using List.all_eq_true.1 ka t hm)⟩)
  kg
end Go.Proofs.YtflinekphmgbeaaGreatDoor
