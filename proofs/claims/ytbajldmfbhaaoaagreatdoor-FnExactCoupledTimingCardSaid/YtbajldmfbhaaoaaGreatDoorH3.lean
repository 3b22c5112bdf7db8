/- THE LAW laws.FnExactCoupledTiming, for every input: the call returns true, and its arguments read afterwards as they did. By a program of mine (hgen.py). -/
import Derived.Test.YtbajldmfbhaaoaaGreatDoorRows
import Derived.Test.YtbajldmfbhaaoaaGreatDoorCards
import Derived.Test.YtbajldmfbhaaoaaGreatDoorTie
import Derived.ProofKit
import Derived.OpenShut
import Derived.LaidMore
import Derived.Lay
import Derived.SevenTiedAt
import Derived.Test.YtbajldmfbhaaoaaGreatDoorY0
import Derived.Test.YtbajldmfbhaaoaaGreatDoorA2
open Option renaming bind_some → jd, some → V, none → U
open Nat renaming le_refl → je, le_of_ble_eq_true → jp, mul_le_mul_right → js, lt_of_lt_of_le → jw, succ_mul → jO, zero_add → jW, le_trans → Jb, add_zero → Jh
open Bool renaming and_eq_true → jf, eq_iff_iff → jk, true_and → jx, not_eq_true' → jF, not_true → jV, false_or → Jj
open Go.Result renaming andThen_ok → jg
open List renaming length_append → jh, getElem?_eq_getElem → ji, mem_cons_of_mem → jo, getElem_mem → jq, append_assoc → jr, length_singleton → jt, mem_cons_self → ju, getElem?_append_left → jv, length_map → jy, getElem?_take → jz, take_succ_eq_append_getElem → jB, getElem?_append_right → jC, getD_eq_getElem?_getD → jD, take_length → jG, getElem?_toArray → jH, all_eq_true → jI, size_toArray → jJ, length_replicate → jK, eq_nil_of_length_eq_zero → jL, drop_eq_getElem_cons → jM, map_append → jN, length_take → jP, not_mem_nil → jQ, getElem_of_mem → jR, mem_append_left → jS, append_nil → jU, mem_of_getElem? → jX, mem_cons → Ja, range_succ → Jd, length_cons → Je, ext_getElem → Jf, map_cons → Jg
open Go.Sem renaming run_bind → jj, run_pure → jm
open Int renaming toNat_natCast → jn, tdiv_eq_ediv_of_nonneg → jE, mul_nonneg → jT, le_refl → jY, mul_assoc → jZ, mul_le_mul → Jc, add_zero → Ji
open Array renaming getElem?_append_left → jA

namespace Go.Proofs.YtbajldmfbhaaoaaGreatDoor
open Go.ChangeShapes Go.WideShapes Go.ChangeAt Go.RowKit
open Go.Fw
theorem own1 : ownKnob Tryz.prog.godebug = none := by kernel_rfl
theorem laidOut1 : laidOutB Tryz.prog = true := by kernel_rfl
theorem op9 : Opens Tryz.prog 9 instStr rngS := qxx Tryz.underlying9 (by kernel_rfl)
theorem op2 : Opens Tryz.prog 2 instInt rngI := qxj Tryz.underlying2 (by kernel_rfl)
theorem op4 : Opens Tryz.prog 4 instBool rngB := qwF Tryz.underlying4 (by kernel_rfl)
theorem op327 : Opens Tryz.prog 327 gt_TPin qnr :=
 Opens.imp (qbW (hz := rfl) (f := fun x : qat => (x.Az, x.Bs, x.Bq, x.Bn)) (fun p => ⟨p.1, p.2.1, p.2.2.1, p.2.2.2⟩) (fun _ => rfl) Tryz.underlying327 (by kernel_rfl) (qS rfl op9 (qS rfl op2 (qS rfl op2 (qc3 rfl op4))))) (fun _ h => h)
theorem op202 : Opens Tryz.prog 202 (@instList qat gt_TPin) (rngL qnr) := qdO Tryz.underlying202 (by kernel_rfl) op327
theorem op35 : Opens Tryz.prog 35 (@instList Int instInt) (rngL rngI) := qdO Tryz.underlying35 (by kernel_rfl) op2
theorem op386 : Opens Tryz.prog 386 gt_TTable qjd :=
 Opens.imp (qbW (hz := rfl) (f := fun x : qx => (x.Bi, x.Bb, x.Ba)) (fun p => ⟨p.1, p.2.1, p.2.2⟩) (fun _ => rfl) Tryz.underlying386 (by kernel_rfl) (qS rfl op35 (qS rfl op35 (qc3 rfl op35)))) (fun _ h => h)
theorem op329 : Opens Tryz.prog 329 (@instList qx gt_TTable) (rngL qjd) := qdO Tryz.underlying329 (by kernel_rfl) op386
theorem op331 : Opens Tryz.prog 331 gt_TArc qnz :=
 Opens.imp (qbW (hz := rfl) (f := fun x : qL => (x.Ay, x.Bf, x.To, x.Bl, x.Bj, x.Aq)) (fun p => ⟨p.1, p.2.1, p.2.2.1, p.2.2.2.1, p.2.2.2.2.1, p.2.2.2.2.2⟩) (fun _ => rfl) Tryz.underlying331 (by kernel_rfl) (qS rfl op2 (qS rfl op2 (qS rfl op2 (qS rfl op2 (qS rfl op329 (qc3 rfl op329))))))) (fun _ h => h)
theorem op203 : Opens Tryz.prog 203 (@instList qL gt_TArc) (rngL qnz) := qdO Tryz.underlying203 (by kernel_rfl) op331
theorem op205 : Opens Tryz.prog 205 gt_TCell ql7 :=
 Opens.imp (qbW (hz := rfl) (f := fun x : qA => (x.Az, x.Ay, x.Av, x.As, x.Bk, x.Bx, x.Br)) (fun p => ⟨p.1, p.2.1, p.2.2.1, p.2.2.2.1, p.2.2.2.2.1, p.2.2.2.2.2.1, p.2.2.2.2.2.2⟩) (fun _ => rfl) Tryz.underlying205 (by kernel_rfl) (qS rfl op9 (qS rfl op2 (qS rfl op202 (qS rfl op203 (qS rfl op35 (qS rfl op2 (qc3 rfl op2)))))))) (fun _ h => h)
theorem op22 : Opens Tryz.prog 22 (@instList qA gt_TCell) (rngL ql7) := qdO Tryz.underlying22 (by kernel_rfl) op205
theorem op24 : Opens Tryz.prog 24 gt_TLibrary qmH :=
 Opens.imp (qbW (hz := rfl) (f := fun x : qt => x.Ap) (fun p => ⟨p⟩) (fun _ => rfl) Tryz.underlying24 (by kernel_rfl) (qc3 rfl op22)) (fun _ h => h)
theorem op208 : Opens Tryz.prog 208 gt_TInstance qgL :=
 Opens.imp (qbW (hz := rfl) (f := fun x : qm => (x.Az, x.Bo, x.Ai)) (fun p => ⟨p.1, p.2.1, p.2.2⟩) (fun _ => rfl) Tryz.underlying208 (by kernel_rfl) (qS rfl op9 (qS rfl op2 (qc3 rfl op35)))) (fun _ h => h)
theorem op25 : Opens Tryz.prog 25 (@instList qm gt_TInstance) (rngL qgL) := qdO Tryz.underlying25 (by kernel_rfl) op208
theorem op26 : Opens Tryz.prog 26 (@instList ByteArray instStr) (rngL rngS) := qdO Tryz.underlying26 (by kernel_rfl) op9
theorem op211 : Opens Tryz.prog 211 gt_TPort qlG :=
 Opens.imp (qbW (hz := rfl) (f := fun x : qY => (x.Az, x.Bs, x.Bu)) (fun p => ⟨p.1, p.2.1, p.2.2⟩) (fun _ => rfl) Tryz.underlying211 (by kernel_rfl) (qS rfl op9 (qS rfl op2 (qc3 rfl op2)))) (fun _ h => h)
theorem op27 : Opens Tryz.prog 27 (@instList qY gt_TPort) (rngL qlG) := qdO Tryz.underlying27 (by kernel_rfl) op211
theorem op29 : Opens Tryz.prog 29 gt_TDesign qnt :=
 Opens.imp (qbW (hz := rfl) (f := fun x : qg => (x.Ab, x.Ai, x.Ah)) (fun p => ⟨p.1, p.2.1, p.2.2⟩) (fun _ => rfl) Tryz.underlying29 (by kernel_rfl) (qS rfl op25 (qS rfl op26 (qc3 rfl op27)))) (fun _ h => h)
theorem op152 : Opens Tryz.prog 152 gt_TWire qlA :=
 Opens.imp (qbW (hz := rfl) (f := fun x : qH => (x.Ak, x.Bt, x.Bq, x.Bg)) (fun p => ⟨p.1, p.2.1, p.2.2.1, p.2.2.2⟩) (fun _ => rfl) Tryz.underlying152 (by kernel_rfl) (qS rfl op35 (qS rfl op35 (qS rfl op35 (qc3 rfl op35))))) (fun _ h => h)
theorem op30 : Opens Tryz.prog 30 (@instList qH gt_TWire) (rngL qlA) := qdO Tryz.underlying30 (by kernel_rfl) op152
theorem op32 : Opens Tryz.prog 32 gt_TBlock qo2 :=
 Opens.imp (qbW (hz := rfl) (f := fun x : qe => (x.Ar, x.Aa, x.Af)) (fun p => ⟨p.1, p.2.1, p.2.2⟩) (fun _ => rfl) Tryz.underlying32 (by kernel_rfl) (qS rfl op24 (qS rfl op29 (qc3 rfl op30)))) (fun _ h => h)
theorem op34 : Opens Tryz.prog 34 gt_TCorner qnI :=
 Opens.imp (qbW (hz := rfl) (f := fun x : qz => (x.Az, x.Bc, x.Be, x.Bd, x.Bh)) (fun p => ⟨p.1, p.2.1, p.2.2.1, p.2.2.2.1, p.2.2.2.2⟩) (fun _ => rfl) Tryz.underlying34 (by kernel_rfl) (qS rfl op9 (qS rfl op2 (qS rfl op2 (qS rfl op2 (qc3 rfl op2)))))) (fun _ h => h)
theorem op97 : Opens Tryz.prog 97 gt_TSpan qpT :=
 Opens.imp (qbW (hz := rfl) (f := fun x : qc => (x.Am, x.Au)) (fun p => ⟨p.1, p.2⟩) (fun _ => rfl) Tryz.underlying97 (by kernel_rfl) (qS rfl op2 (qc3 rfl op2))) (fun _ h => h)
theorem op99 : Opens Tryz.prog 99 gt_TSource qka :=
 Opens.imp (qbW (hz := rfl) (f := fun x : qf => (x.Bm, x.Ac, x.Aq)) (fun p => ⟨p.1, p.2.1, p.2.2⟩) (fun _ => rfl) Tryz.underlying99 (by kernel_rfl) (qS rfl op2 (qS rfl op97 (qc3 rfl op97)))) (fun _ h => h)
theorem op36 : Opens Tryz.prog 36 (@instList qf gt_TSource) (rngL qka) := qdO Tryz.underlying36 (by kernel_rfl) op99
theorem op103 : Opens Tryz.prog 103 gt_TCoupling qip :=
 Opens.imp (qbW (hz := rfl) (f := fun x : qh => (x.A, x.B, x.Bp)) (fun p => ⟨p.1, p.2.1, p.2.2⟩) (fun _ => rfl) Tryz.underlying103 (by kernel_rfl) (qS rfl op2 (qS rfl op2 (qc3 rfl op2)))) (fun _ h => h)
theorem op37 : Opens Tryz.prog 37 (@instList qh gt_TCoupling) (rngL qip) := qdO Tryz.underlying37 (by kernel_rfl) op103
set_option maxRecDepth 100000 in
theorem lawCalls {H : Type} {enc : TypeId × Value → H} {W : World} {base : Nat} {args : Array Value} {ds gs : List (DataW H)} {before : List MemPlace}
  (hval : ∀ (j : Nat) t v, Tryz.f3.params[j]? = some t → args[j]? = some v → Value.okWide Tryz.prog W .any base t v) (hW : DataW.Whole enc Tryz.prog Tryz.f3.params.toList Rows.fnExactCoupledTimingSpec.vars false W args.toList ds gs before) (fresh handsOn again : Bool) :
  Calls Tryz.prog 3 args W fun e W' => ∃ v, e = .returned v ∧ Rows.fnExactCoupledTimingSpec.post enc Tryz.prog Tryz.f3 false fresh handsOn again W args v W' := by
 have hW' := hW
 obtain ⟨p, q, hA0, hV, rfl, hfz, hnd⟩ := hW
 have hA : DataW.TrodAll enc Tryz.prog W 0 (fun _ => true) true Tryz.f3.params.toList args.toList ds p := hA0
 rw [Tryz.params3] at hA hval
 obtain ⟨v0, v1, v2, v3, v4, d0, d1, d2, d3, d4, q0, q1, q2, q3, q4, rfl, rfl, rfl, h0, h1, h2, h3, h4⟩ := qud hA
 obtain ⟨rfl, rfl⟩ := trodVars_none hV
 obtain ⟨x0, cs0, rfl, hR0, hx0⟩ := qt4 (A := gt_TBlock) op32 rfl Tryz.underlying32 (hval 0 32 v0 rfl rfl) h0
 obtain ⟨x1, cs1, rfl, hR1, hx1⟩ := qt4 (A := gt_TCorner) op34 rfl Tryz.underlying34 (hval 1 34 v1 rfl rfl) h1
 obtain ⟨x2, cs2, rfl, hR2, hx2⟩ := qoe (A := (@instList Int instInt)) op35 rfl Tryz.underlying35 (hval 2 35 v2 rfl rfl) h2
 obtain ⟨x3, cs3, rfl, hR3, hx3⟩ := qoe (A := (@instList qf gt_TSource)) op36 rfl Tryz.underlying36 (hval 3 36 v3 rfl rfl) h3
 obtain ⟨x4, cs4, rfl, hR4, hx4⟩ := qoe (A := (@instList qh gt_TCoupling)) op37 rfl Tryz.underlying37 (hval 4 37 v4 rfl rfl) h4
 obtain ⟨n, hn⟩ := (qmR hx0 hx1 hx2 hx3 hx4).at
 have hc := qkW hR0 hR1 hR2 hR3 hR4 hn
 refine Calls.mono hc ?_
 rintro e W' ⟨v, rfl, hb, us, rfl, hvs⟩
 refine ⟨_, rfl, ?_⟩
 rw [qyq hvs]
 exact qxq laidOut1 (by kernel_rfl) rfl Tryz.underlying4 rfl rfl rfl rfl (by simpa using hW') hb
set_option maxRecDepth 100000 in
theorem lifted (fresh handsOn again : Bool) (os : Os) (started : os.Started) (H : Type) (enc : TypeId × Value → H) :
  ReturnsInHanded {} Tryz.checked os 3 .any (fun w args => (Rows.fnExactCoupledTimingSpec.pre enc Tryz.prog Tryz.f3 Rows.fnExactCoupledTimingRow.domain false w args ∧ laidMetH Tryz.prog Rows.fnExactCoupledTimingRow.laid w) ∧ sizedMet enc Tryz.prog Tryz.f3 (OpenSpec.ofChange Rows.fnExactCoupledTimingSpec) false w args)
   (Rows.fnExactCoupledTimingSpec.post enc Tryz.prog Tryz.f3 false fresh handsOn again) := by
 refine returnsInHanded_of_change_and (C := Tryz.checked) (X := fun w _ => laidMetH Tryz.prog Rows.fnExactCoupledTimingRow.laid w) (fun _ _ _ hh h => h.of_heap hh) own1 started (by kernel_rfl) Tryz.func3
  (ChangeSpec.witness_shaped (enc := enc) (C := Tryz.checked) (os := os) (X := fun w _ => laidMetH Tryz.prog Rows.fnExactCoupledTimingRow.laid w) false (World.laidAll Tryz.prog os Rows.fnExactCoupledTimingRow.laid) #[.agg #[.slice none 0 0, .slice none 0 0, .slice none 0 0, .slice none 0 0, .slice none 0 0], .agg #[.string ByteArray.empty, .int .i64 0, .int .i64 0, .int .i64 0, .int .i64 0], .slice none 0 0, .slice none 0 0, .slice none 0 0] 8 (World.laidAll_os _ _ _)
   (World.shaped_of_ZipB (by kernel_rfl) (by kernel_rfl)) (by kernel_rfl) (by kernel_rfl) (by kernel_rfl)
   (by rw [MakeChecks.laidMetH_plain _ _ _ (by kernel_rfl)]; exact laidMet_laidAll _ (by kernel_rfl) (by kernel_rfl))) ?_
 intro W base args ds gs before hval0 hW hc _ hL _
 exact lawCalls hval0 hW _ _ _
theorem ja : ((Rows.fnExactCoupledTimingRow.inPlace == Tryz.checked.prog.inPlace 3) && ((Rows.fnExactCoupledTimingRow.unfollowed == Tryz.checked.prog.unfollowed 3) && ((Rows.fnExactCoupledTimingRow.recurses == Tryz.checked.prog.recurses 3) && (Rows.fnExactCoupledTimingRow.named == Tryz.checked.prog.varsNamed 3)))) = true := by kernel_rfl
theorem jb : (Tryz.checked.prog.mayEnter && (Tryz.checked.prog.stopsHeard && ((Rows.fnExactCoupledTimingRow.lifted == Tryz.checked.prog.liftsFinal) && ((Tryz.checked.prog.make == some Rows.fnExactCoupledTimingRow.make) && ((Rows.fnExactCoupledTimingRow.plainKeys == Tryz.checked.prog.plainKeys) && (mapsRowed Tryz.checked.prog && laidOutB Tryz.checked.prog)))))) = true := by kernel_rfl
theorem jc : (namedTie Tryz.checked.prog Rows.fnExactCoupledTimingRow.named Rows.fnExactCoupledTimingSpec.vars && (Rows.fnExactCoupledTimingRow.wf (OpenSpec.ofChange Rows.fnExactCoupledTimingSpec) && (Rows.fnExactCoupledTimingRow.pinned == Rows.fnExactCoupledTimingRow.pinnedBy))) = true := by kernel_rfl
theorem andT {a b : Bool} (h : (a && b) = true) : a = true ∧ b = true := by simpa using h
theorem closed : joinedFacts Tryz.checked.prog 3 Tryz.f3 Rows.fnExactCoupledTimingSpec Rows.fnExactCoupledTimingRow = true := by
 obtain ⟨j0, h⟩ := andT ja
 obtain ⟨j1, h⟩ := andT h
 obtain ⟨j2, j3⟩ := andT h
 obtain ⟨j4, h⟩ := andT jb
 obtain ⟨j5, h⟩ := andT h
 obtain ⟨j6, h⟩ := andT h
 obtain ⟨j7, h⟩ := andT h
 obtain ⟨j8, h⟩ := andT h
 obtain ⟨j9, j10⟩ := andT h
 obtain ⟨j11, h⟩ := andT jc
 obtain ⟨j12, j13⟩ := andT h
 unfold joinedFacts
 rw [j0, j1, j2, j3, j4, j5, j6, j7, j8, j9, j10, j11, j12, j13]
 kernel_rfl
theorem named1 : Tryz.checked.prog.funcNamed Rows.fnExactCoupledTimingRow.func = some 3 := by kernel_rfl
theorem instance1 : Tryz.f3.isInstance Tryz.checked.prog Rows.fnExactCoupledTimingRow.origin Rows.fnExactCoupledTimingRow.targs := of_decide_eq_true (by kernel_rfl)
theorem wrapper1 : Tryz.f3.isWrapper Tryz.checked.prog Rows.fnExactCoupledTimingRow.wrapper Rows.fnExactCoupledTimingRow.mainSum := by
 unfold Func.isWrapper
 first | (rw [if_pos (by decide +kernel)]; kernel_rfl) | (rw [if_neg (by decide +kernel)]; exact ⟨rfl, rfl⟩)
theorem said_holds : Rows.FnExactCoupledTimingSaid :=
 OpenClaim.holds_of_wide 3 Tryz.f3 rfl rfl rfl rfl rfl rfl rfl ⟨rfl, rfl, rfl, rfl, rfl⟩ rfl rfl rfl rfl rfl named1 Tryz.func3 closed instance1 wrapper1
  (fun os started H enc _ => lifted _ _ _ os started H enc)
theorem goesNone {P : Program} (h : P.funcs.any Func.goes = false) {st : Start} (hs : st = .entering) (nm : String) : P.goesAt st nm = false := by
 subst hs
 have hf : ∀ f, P.goes f = false := fun f => by
  unfold Program.goes
  rw [h, Bool.and_false, Bool.or_false, List.any_eq_false]
  intro g _
  cases hq : P.funcs[g]? with
  | none => simp
  | some fn =>
   obtain ⟨hi, he⟩ := Array.getElem?_eq_some_iff.1 hq
   have := Array.any_eq_false.1 h g hi
   rw [he] at this
   simpa using this
 unfold Program.goesAt Program.goesFrom
 cases P.funcNamed nm with
 | none => rfl
 | some f => simp [hf f]
theorem kg0 : Tryz.checked.prog.funcs.any Func.goes = false := by kernel_rfl
theorem kg : false = Rows.fnExactCoupledTimingRow.goesBy Tryz.checked.prog := (goesNone kg0 rfl _).symm
theorem kw : Rows.fnExactCoupledTimingRow.wfByText (OpenSpec.ofChange Rows.fnExactCoupledTimingSpec) = true := by kernel_rfl
theorem km : Tryz.checked.prog.mainIs = some (true, "99da2e745480b12dc5465538c2f0be6fe83948c1a7732d618a514760c371811a".toList) := by kernel_rfl
theorem kl : false = Tryz.checked.prog.looks [] := by kernel_rfl
theorem kn : Tryz.prog.funcNamed "loop.example/g00861/laws.FnExactCoupledTiming" = some 3 := by kernel_rfl
theorem ka : ([32, 34, 35, 36, 37].all fun u => !Tryz.prog.wantsStandIn u) = true := by kernel_rfl
theorem card_holds : Rows.FnExactCoupledTimingCardSaid :=
 Claim7.holds_tied_plain_at .later [] [.data, .pinned] true (true, "99da2e745480b12dc5465538c2f0be6fe83948c1a7732d618a514760c371811a") false said_holds (fun _ h => by cases h) kw (fun _ h => by cases h) fnExactCoupledTiming_row_tie rfl ⟨rfl, rfl⟩ km rfl
  (fun f fn hf hfn => by
   obtain rfl : f = 3 := Option.some.inj (kn.symm.trans hf) |>.symm
   obtain rfl : fn = Tryz.f3 := (Option.some.inj (Tryz.func3.symm.trans hfn)).symm
   exact ⟨kl, fun j t ht => by
    rw [Tryz.params3] at ht
    have hm : t ∈ [32, 34, 35, 36, 37] := by simpa using Array.mem_of_getElem? ht
    exact (show Tryz.prog.wantsStandIn t = false by simpa using List.all_eq_true.1 ka t hm)⟩)
  kg
end Go.Proofs.YtbajldmfbhaaoaaGreatDoor
