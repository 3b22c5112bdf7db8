/- THE LAW laws.FnExactReadException, for every input: the call returns true, and its arguments read afterwards as they did. By a program of mine (hgen.py). -/
import Derived.Test.YtmkldekhhkijdaaGreatDoorRows
import Derived.Test.YtmkldekhhkijdaaGreatDoorCards
import Derived.Test.YtmkldekhhkijdaaGreatDoorTie
import Derived.ProofKit
import Derived.OpenShut
import Derived.LaidMore
import Derived.Lay
import Derived.SevenTiedAt
import Derived.Test.YtmkldekhhkijdaaGreatDoorQG
open Option renaming bind_some → jd, map_some → jL
open Nat renaming le_refl → je, mul_le_mul_right → jo, le_of_ble_eq_true → jq, lt_of_lt_of_le → jr, succ_mul → jF, zero_le → jP, zero_add → jQ
open Go.Result renaming andThen_ok → jf
open Bool renaming and_eq_true → jg, eq_iff_iff → jl, true_and → jB, not_eq_true' → jJ
open List renaming getElem?_eq_getElem → jh, length_append → ji, length_singleton → jm, mem_cons_of_mem → jn, mem_cons_self → jp, length_cons → js, getElem?_append_left → jt, getElem_mem → ju, getD_eq_getElem?_getD → jv, getElem?_take → jw, drop_eq_getElem_cons → jx, getElem?_append_right → jy, getElem?_toArray → jz, mem_of_getElem? → jA, eq_nil_of_length_eq_zero → jD, append_assoc → jE, size_toArray → jG, length_map → jH, getElem_of_mem → jI, all_eq_true → jK, map_append → jM, not_mem_nil → jN, take_length → jO, map_cons → jR
open Go.Sem renaming run_bind → jj, run_pure → jk
open Int renaming toNat_natCast → jC

namespace Go.Proofs.YtmkldekhhkijdaaGreatDoor
open Go.ChangeShapes Go.WideShapes Go.ChangeAt Go.RowKit
open Go.Fw
theorem own1 : ownKnob Tryz.prog.godebug = none := by kernel_rfl
theorem laidOut1 : laidOutB Tryz.prog = true := by kernel_rfl
theorem op9 : Opens Tryz.prog 9 instStr rngS := qqq Tryz.underlying9 (by kernel_rfl)
theorem op2 : Opens Tryz.prog 2 instInt rngI := qqC Tryz.underlying2 (by kernel_rfl)
theorem op4 : Opens Tryz.prog 4 instBool rngB := qpd Tryz.underlying4 (by kernel_rfl)
theorem op238 : Opens Tryz.prog 238 gt_TPin qiH :=
 Opens.imp (qcm (hz := rfl) (f := fun x : qM => (x.Aq, x.Bl, x.Bk, x.Be)) (fun p => ⟨p.1, p.2.1, p.2.2.1, p.2.2.2⟩) (fun _ => rfl) Tryz.underlying238 (by kernel_rfl) (qP rfl op9 (qP rfl op2 (qP rfl op2 (qdV rfl op4))))) (fun _ h => h)
theorem op155 : Opens Tryz.prog 155 (@instList qM gt_TPin) (rngL qiH) := qdJ Tryz.underlying155 (by kernel_rfl) op238
theorem op33 : Opens Tryz.prog 33 (@instList Int instInt) (rngL rngI) := qdJ Tryz.underlying33 (by kernel_rfl) op2
theorem op306 : Opens Tryz.prog 306 gt_TTable qfZ :=
 Opens.imp (qcm (hz := rfl) (f := fun x : qp => (x.Bb, x.Ba, x.Au)) (fun p => ⟨p.1, p.2.1, p.2.2⟩) (fun _ => rfl) Tryz.underlying306 (by kernel_rfl) (qP rfl op33 (qP rfl op33 (qdV rfl op33)))) (fun _ h => h)
theorem op240 : Opens Tryz.prog 240 (@instList qp gt_TTable) (rngL qfZ) := qdJ Tryz.underlying240 (by kernel_rfl) op306
theorem op242 : Opens Tryz.prog 242 gt_TArc qiT :=
 Opens.imp (qcm (hz := rfl) (f := fun x : qF => (x.Ap, x.Av, x.To, x.Bf, x.Az, x.Bi)) (fun p => ⟨p.1, p.2.1, p.2.2.1, p.2.2.2.1, p.2.2.2.2.1, p.2.2.2.2.2⟩) (fun _ => rfl) Tryz.underlying242 (by kernel_rfl) (qP rfl op2 (qP rfl op2 (qP rfl op2 (qP rfl op2 (qP rfl op240 (qdV rfl op240))))))) (fun _ h => h)
theorem op156 : Opens Tryz.prog 156 (@instList qF gt_TArc) (rngL qiT) := qdJ Tryz.underlying156 (by kernel_rfl) op242
theorem op158 : Opens Tryz.prog 158 gt_TCell qhF :=
 Opens.imp (qcm (hz := rfl) (f := fun x : qn => (x.Aq, x.Ap, x.Am, x.Ar, x.Ay, x.Bo, x.Bj)) (fun p => ⟨p.1, p.2.1, p.2.2.1, p.2.2.2.1, p.2.2.2.2.1, p.2.2.2.2.2.1, p.2.2.2.2.2.2⟩) (fun _ => rfl) Tryz.underlying158 (by kernel_rfl) (qP rfl op9 (qP rfl op2 (qP rfl op155 (qP rfl op156 (qP rfl op33 (qP rfl op2 (qdV rfl op2)))))))) (fun _ h => h)
theorem op22 : Opens Tryz.prog 22 (@instList qn gt_TCell) (rngL qhF) := qdJ Tryz.underlying22 (by kernel_rfl) op158
theorem op24 : Opens Tryz.prog 24 gt_TLibrary qh6 :=
 Opens.imp (qcm (hz := rfl) (f := fun x : qh => x.Ai) (fun p => ⟨p⟩) (fun _ => rfl) Tryz.underlying24 (by kernel_rfl) (qdV rfl op22)) (fun _ h => h)
theorem op160 : Opens Tryz.prog 160 gt_TInstance qeo :=
 Opens.imp (qcm (hz := rfl) (f := fun x : qd => (x.Aq, x.Bg, x.Af)) (fun p => ⟨p.1, p.2.1, p.2.2⟩) (fun _ => rfl) Tryz.underlying160 (by kernel_rfl) (qP rfl op9 (qP rfl op2 (qdV rfl op33)))) (fun _ h => h)
theorem op25 : Opens Tryz.prog 25 (@instList qd gt_TInstance) (rngL qeo) := qdJ Tryz.underlying25 (by kernel_rfl) op160
theorem op26 : Opens Tryz.prog 26 (@instList ByteArray instStr) (rngL rngS) := qdJ Tryz.underlying26 (by kernel_rfl) op9
theorem op163 : Opens Tryz.prog 163 gt_TPort qhM :=
 Opens.imp (qcm (hz := rfl) (f := fun x : qy => (x.Aq, x.Bl, x.Bn)) (fun p => ⟨p.1, p.2.1, p.2.2⟩) (fun _ => rfl) Tryz.underlying163 (by kernel_rfl) (qP rfl op9 (qP rfl op2 (qdV rfl op2)))) (fun _ h => h)
theorem op27 : Opens Tryz.prog 27 (@instList qy gt_TPort) (rngL qhM) := qdJ Tryz.underlying27 (by kernel_rfl) op163
theorem op29 : Opens Tryz.prog 29 gt_TDesign qiI :=
 Opens.imp (qcm (hz := rfl) (f := fun x : qc => (x.Aa, x.Af, x.Ac)) (fun p => ⟨p.1, p.2.1, p.2.2⟩) (fun _ => rfl) Tryz.underlying29 (by kernel_rfl) (qP rfl op25 (qP rfl op26 (qdV rfl op27)))) (fun _ h => h)
theorem op103 : Opens Tryz.prog 103 gt_TWire qhI :=
 Opens.imp (qcm (hz := rfl) (f := fun x : qw => (x.Ak, x.Bm, x.Bk, x.Bc)) (fun p => ⟨p.1, p.2.1, p.2.2.1, p.2.2.2⟩) (fun _ => rfl) Tryz.underlying103 (by kernel_rfl) (qP rfl op33 (qP rfl op33 (qP rfl op33 (qdV rfl op33))))) (fun _ h => h)
theorem op30 : Opens Tryz.prog 30 (@instList qw gt_TWire) (rngL qhI) := qdJ Tryz.underlying30 (by kernel_rfl) op103
theorem op32 : Opens Tryz.prog 32 gt_TBlock qjJ :=
 Opens.imp (qcm (hz := rfl) (f := fun x : qm => (x.Ah, x.Ab, x.Aj)) (fun p => ⟨p.1, p.2.1, p.2.2⟩) (fun _ => rfl) Tryz.underlying32 (by kernel_rfl) (qP rfl op24 (qP rfl op29 (qdV rfl op30)))) (fun _ h => h)
set_option maxRecDepth 100000 in
theorem lawCalls {H : Type} {enc : TypeId × Value → H} {W : World} {base : Nat} {args : Array Value} {ds gs : List (DataW H)} {before : List MemPlace}
  (hval : ∀ (j : Nat) t v, Tryz.f5.params[j]? = some t → args[j]? = some v → Value.okWide Tryz.prog W .any base t v) (hW : DataW.Whole enc Tryz.prog Tryz.f5.params.toList Rows.fnExactReadExceptionSpec.vars false W args.toList ds gs before) (hL : laidMetH Tryz.prog Rows.fnExactReadExceptionRow.laid W) (hSh : W.ShapedOpen Tryz.prog) (fresh handsOn again : Bool) :
  Calls Tryz.prog 5 args W fun e W' => ∃ v, e = .returned v ∧ Rows.fnExactReadExceptionSpec.post enc Tryz.prog Tryz.f5 false fresh handsOn again W args v W' := by
 have hW' := hW
 obtain ⟨p, q, hA0, hV, rfl, hfz, hnd⟩ := hW
 have hA : DataW.TrodAll enc Tryz.prog W 0 (fun _ => true) true Tryz.f5.params.toList args.toList ds p := hA0
 rw [Tryz.params5] at hA hval
 obtain ⟨v0, v1, d0, d1, q0, q1, rfl, rfl, rfl, h0, h1⟩ := trodAll_two hA
 obtain ⟨_, _, _, _, g1, _, rfl, _⟩ := trodVars_one hV
 obtain ⟨x0, cs0, rfl, hR0, hx0⟩ := qqh (A := gt_TBlock) op32 rfl Tryz.underlying32 (hval 0 32 v0 rfl rfl) h0
 obtain ⟨x1, cs1, rfl, hR1, hx1⟩ := qp2 (A := instStr) op9 rfl Tryz.underlying9 (hval 1 9 v1 rfl rfl) h1
 obtain rfl : cs1 = [.string x1] := hR1
 obtain ⟨n, hn⟩ := (qin hx0 hx1).at
 rw [MakeChecks.laidMetH_plain _ _ _ (by kernel_rfl)] at hL
 obtain ⟨g0, t0, c0, f0, p0, a0, b0, v0x, tr0⟩ := qlJ hL (jA (i := 6) rfl : ("loop.example/g00861/impl.exceptionWords", _) ∈ _)
 obtain rfl : 0 = g0 := Option.some.inj ((show Tryz.prog.globalNamed "loop.example/g00861/impl.exceptionWords" = some 0 by kernel_rfl).symm.trans a0)
 obtain rfl : 131 = t0 := Option.some.inj ((show (Tryz.prog.globals[0]?).map (·.type) = some 131 by kernel_rfl).symm.trans b0)
 have e0 : c0.toList = exWords.map Value.string := qmM (zs := exWords) Tryz.underlying131 Tryz.underlying9 (by kernel_rfl) (by kernel_rfl) tr0
 have hgv0 : GV 0 (exWords.map Value.string) W (old W) := GV.of_var (P := Tryz.prog) (nm := "loop.example/g00861/impl.exceptionWords") (by rw [← e0]; exact v0x) (by kernel_rfl)
 have hgv1 : GVE 1 isIntC W (old W) := GVE.of_shaped (t := 3) (t' := 3) (zero := #[.int .i64 0]) hSh (of_decide_eq_true (by kernel_rfl)) (by kernel_rfl) rfl (by kernel_rfl) (by kernel_rfl) Tryz.underlying3
 obtain ⟨g2, t2, c2, f2, p2, a2, b2, v2x, tr2⟩ := qlJ hL (jA (i := 2) rfl : ("internal/strconv.uint64pow10", _) ∈ _)
 obtain rfl : 2 = g2 := Option.some.inj ((show Tryz.prog.globalNamed "internal/strconv.uint64pow10" = some 2 by kernel_rfl).symm.trans a2)
 obtain rfl : 285 = t2 := Option.some.inj ((show (Tryz.prog.globals[2]?).map (·.type) = some 285 by kernel_rfl).symm.trans b2)
 have e2 : c2.toList = Lib.pow10Tab.map (Value.int .u64) := Lib.cells_of_tab (zs := Lib.pow10Tab) Tryz.underlying285 Tryz.underlying248 (by kernel_rfl) (by kernel_rfl) tr2
 have hgv2 : GV 2 (Lib.pow10Tab.map (Value.int .u64)) W (old W) := GV.of_var (P := Tryz.prog) (nm := "internal/strconv.uint64pow10") (by rw [← e2]; exact v2x) (by kernel_rfl)
 obtain ⟨g3, t3, c3, f3, p3, a3, b3, v3x, tr3⟩ := qlJ hL (jA (i := 5) rfl : ("strconv.ErrSyntax", _) ∈ _)
 obtain rfl : 3 = g3 := Option.some.inj ((show Tryz.prog.globalNamed "strconv.ErrSyntax" = some 3 by kernel_rfl).symm.trans a3)
 obtain rfl : 203 = t3 := Option.some.inj ((show (Tryz.prog.globals[3]?).map (·.type) = some 203 by kernel_rfl).symm.trans b3)
 have hgv3 : GVE 3 isErrC W (old W) := GVE.of_var (P := Tryz.prog) (nm := "strconv.ErrSyntax") (cs := c3.toList) (by simpa using v3x) (by kernel_rfl) (qm7 Tryz.underlying203 tr3)
 obtain ⟨g4, t4, c4, f4, p4, a4, b4, v4x, tr4⟩ := qlJ hL (jA (i := 4) rfl : ("strconv.ErrRange", _) ∈ _)
 obtain rfl : 4 = g4 := Option.some.inj ((show Tryz.prog.globalNamed "strconv.ErrRange" = some 4 by kernel_rfl).symm.trans a4)
 obtain rfl : 203 = t4 := Option.some.inj ((show (Tryz.prog.globals[4]?).map (·.type) = some 203 by kernel_rfl).symm.trans b4)
 have hgv4 : GVE 4 isErrC W (old W) := GVE.of_var (P := Tryz.prog) (nm := "strconv.ErrRange") (cs := c4.toList) (by simpa using v4x) (by kernel_rfl) (qm7 Tryz.underlying203 tr4)
 have hc := qg6 hR0 hgv0 hgv1 hgv2 hgv3 hgv4 hn
 refine Calls.mono hc ?_
 rintro e W' ⟨v, rfl, hb, us, rfl, hvs⟩
 refine ⟨_, rfl, ?_⟩
 rw [qqV hvs]
 exact qqE laidOut1 (by kernel_rfl) rfl Tryz.underlying4 (by kernel_rfl) rfl rfl rfl hW' hb
set_option maxRecDepth 100000 in
theorem lifted (fresh handsOn again : Bool) (os : Os) (started : os.Started) (H : Type) (enc : TypeId × Value → H) :
  ReturnsInHanded {} Tryz.checked os 5 .any (fun w args => (Rows.fnExactReadExceptionSpec.pre enc Tryz.prog Tryz.f5 Rows.fnExactReadExceptionRow.domain false w args ∧ laidMetH Tryz.prog Rows.fnExactReadExceptionRow.laid w) ∧ sizedMet enc Tryz.prog Tryz.f5 (OpenSpec.ofChange Rows.fnExactReadExceptionSpec) false w args)
   (Rows.fnExactReadExceptionSpec.post enc Tryz.prog Tryz.f5 false fresh handsOn again) := by
 refine qgv (C := Tryz.checked) (X := fun w _ => laidMetH Tryz.prog Rows.fnExactReadExceptionRow.laid w) (fun _ _ _ hh h => h.of_heap hh) own1 started (by kernel_rfl) Tryz.func5
  (ChangeSpec.witness_shaped (enc := enc) (C := Tryz.checked) (os := os) (X := fun w _ => laidMetH Tryz.prog Rows.fnExactReadExceptionRow.laid w) false (World.laidAll Tryz.prog os Rows.fnExactReadExceptionRow.laid) #[.agg #[.slice none 0 0, .slice none 0 0, .slice none 0 0, .slice none 0 0, .slice none 0 0], .string ByteArray.empty] 8 (World.laidAll_os _ _ _)
   (World.shaped_of_ZipB (by kernel_rfl) (by kernel_rfl)) (by kernel_rfl) (by kernel_rfl) (by kernel_rfl)
   (by rw [MakeChecks.laidMetH_plain _ _ _ (by kernel_rfl)]; exact laidMet_laidAll _ (by kernel_rfl) (by kernel_rfl))) ?_
 intro W base args ds gs before hval0 hW hL hSh
 exact lawCalls hval0 hW hL hSh _ _ _
theorem ja : ((Rows.fnExactReadExceptionRow.inPlace == Tryz.checked.prog.inPlace 5) && ((Rows.fnExactReadExceptionRow.unfollowed == Tryz.checked.prog.unfollowed 5) && ((Rows.fnExactReadExceptionRow.recurses == Tryz.checked.prog.recurses 5) && (Rows.fnExactReadExceptionRow.named == Tryz.checked.prog.varsNamed 5)))) = true := by kernel_rfl
theorem jb : (Tryz.checked.prog.mayEnter && (Tryz.checked.prog.stopsHeard && ((Rows.fnExactReadExceptionRow.lifted == Tryz.checked.prog.liftsFinal) && ((Tryz.checked.prog.make == some Rows.fnExactReadExceptionRow.make) && ((Rows.fnExactReadExceptionRow.plainKeys == Tryz.checked.prog.plainKeys) && (mapsRowed Tryz.checked.prog && laidOutB Tryz.checked.prog)))))) = true := by kernel_rfl
theorem jc : (namedTie Tryz.checked.prog Rows.fnExactReadExceptionRow.named Rows.fnExactReadExceptionSpec.vars && (Rows.fnExactReadExceptionRow.wf (OpenSpec.ofChange Rows.fnExactReadExceptionSpec) && (Rows.fnExactReadExceptionRow.pinned == Rows.fnExactReadExceptionRow.pinnedBy))) = true := by kernel_rfl
theorem andT {a b : Bool} (h : (a && b) = true) : a = true ∧ b = true := by simpa using h
theorem closed : joinedFacts Tryz.checked.prog 5 Tryz.f5 Rows.fnExactReadExceptionSpec Rows.fnExactReadExceptionRow = true := by
 obtain ⟨j0, h⟩ := andT ja
 obtain ⟨j1, h⟩ := andT h
 obtain ⟨j2, j3⟩ := andT h
 obtain ⟨j4, h⟩ := andT jb
 obtain ⟨j5, h⟩ := andT h
 obtain ⟨j6, h⟩ := andT h
 obtain ⟨j7, h⟩ := andT h
 obtain ⟨j8, h⟩ := andT h
 obtain ⟨j9, j10⟩ := andT h
 obtain ⟨j11, h⟩ := andT jc
 obtain ⟨j12, j13⟩ := andT h
 unfold joinedFacts
 rw [j0, j1, j2, j3, j4, j5, j6, j7, j8, j9, j10, j11, j12, j13]
 kernel_rfl
theorem named1 : Tryz.checked.prog.funcNamed Rows.fnExactReadExceptionRow.func = some 5 := by kernel_rfl
theorem instance1 : Tryz.f5.isInstance Tryz.checked.prog Rows.fnExactReadExceptionRow.origin Rows.fnExactReadExceptionRow.targs := of_decide_eq_true (by kernel_rfl)
theorem wrapper1 : Tryz.f5.isWrapper Tryz.checked.prog Rows.fnExactReadExceptionRow.wrapper Rows.fnExactReadExceptionRow.mainSum := by
 unfold Func.isWrapper
 first | (rw [if_pos (by decide +kernel)]; kernel_rfl) | (rw [if_neg (by decide +kernel)]; exact ⟨rfl, rfl⟩)
theorem said_holds : Rows.FnExactReadExceptionSaid :=
 OpenClaim.holds_of_wide 5 Tryz.f5 rfl rfl rfl rfl rfl rfl rfl ⟨rfl, rfl, rfl, rfl, rfl⟩ rfl rfl rfl rfl rfl named1 Tryz.func5 closed instance1 wrapper1
  (fun os started H enc _ => lifted _ _ _ os started H enc)
theorem goesNone {P : Program} (h : P.funcs.any Func.goes = false) {st : Start} (hs : st = .entering) (nm : String) : P.goesAt st nm = false := by
 subst hs
 have hf : ∀ f, P.goes f = false := fun f => by
  unfold Program.goes
  rw [h, Bool.and_false, Bool.or_false, List.any_eq_false]
  intro g _
  cases hq : P.funcs[g]? with
  | none => simp
  | some fn =>
   obtain ⟨hi, he⟩ := Array.getElem?_eq_some_iff.1 hq
   have := Array.any_eq_false.1 h g hi
   rw [he] at this
   simpa using this
 unfold Program.goesAt Program.goesFrom
 cases P.funcNamed nm with
 | none => rfl
 | some f => simp [hf f]
theorem kg0 : Tryz.checked.prog.funcs.any Func.goes = false := by kernel_rfl
theorem kg : false = Rows.fnExactReadExceptionRow.goesBy Tryz.checked.prog := (goesNone kg0 rfl _).symm
theorem kw : Rows.fnExactReadExceptionRow.wfByText (OpenSpec.ofChange Rows.fnExactReadExceptionSpec) = true := by kernel_rfl
theorem km : Tryz.checked.prog.mainIs = some (true, "3dc255eb1a9a456d2f91d406d5eb29a0d4712a2e461557c129bd5653314ab2e1".toList) := by kernel_rfl
theorem kl : true = Tryz.checked.prog.looks [] := by kernel_rfl
theorem kn : Tryz.prog.funcNamed "loop.example/g00861/laws.FnExactReadException" = some 5 := by kernel_rfl
theorem ka : ([32, 9].all fun u => !Tryz.prog.wantsStandIn u) = true := by kernel_rfl
theorem card_holds : Rows.FnExactReadExceptionCardSaid :=
 Claim7.holds_tied_plain_at .later [] [.data, .data, .data, .data, .sentinel, .sentinel, .widerDeep, .pinned] true (true, "3dc255eb1a9a456d2f91d406d5eb29a0d4712a2e461557c129bd5653314ab2e1") true said_holds (fun _ h => by cases h) kw (fun _ h => by cases h) fnExactReadException_row_tie rfl ⟨rfl, rfl⟩ km rfl
  (fun f fn hf hfn => by
   obtain rfl : f = 5 := Option.some.inj (kn.symm.trans hf) |>.symm
   obtain rfl : fn = Tryz.f5 := (Option.some.inj (Tryz.func5.symm.trans hfn)).symm
   exact ⟨kl, fun j t ht => by
    rw [Tryz.params5] at ht
    have hm : t ∈ [32, 9] := by simpa using Array.mem_of_getElem? ht
    exact (show Tryz.prog.wantsStandIn t = false by simpa using List.all_eq_true.1 ka t hm)⟩)
  kg
end Go.Proofs.YtmkldekhhkijdaaGreatDoor
