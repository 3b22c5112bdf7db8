/- THE LAW laws.FnExactExceptionText, for every input: the call returns true, and its arguments read afterwards as they did. By a program of mine (hgen.py). -/
import Derived.Test.YtmkldekhhkijdaaGreatDoorRows
import Derived.Test.YtmkldekhhkijdaaGreatDoorCards
import Derived.Test.YtmkldekhhkijdaaGreatDoorTie
import Derived.ProofKit
import Derived.OpenShut
import Derived.LaidMore
import Derived.Lay
import Derived.SevenTiedAt
import Derived.Test.YtmkldekhhkijdaaGreatDoorY0
open Option renaming bind_some → jd
open Nat renaming le_refl → je, mul_le_mul_right → jm, le_of_ble_eq_true → jo, lt_of_lt_of_le → jq, succ_mul → jz, zero_add → jJ, zero_le → jK
open Go.Result renaming andThen_ok → jf
open Bool renaming and_eq_true → jg, eq_iff_iff → ji, true_and → jx, not_eq_true' → jD, not_true → jI
open List renaming getElem?_eq_getElem → jh, length_append → jl, mem_cons_of_mem → jn, getElem?_append_left → jp, getElem?_take → jr, mem_cons_self → js, getElem_mem → jt, getElem?_append_right → ju, getD_eq_getElem?_getD → jv, getElem?_toArray → jw, eq_nil_of_length_eq_zero → jy, size_toArray → jA, mem_of_getElem? → jB, length_singleton → jC, length_map → jF, append_assoc → jG, getElem_of_mem → jH
open Go.Sem renaming run_bind → jj, run_pure → jk
open Int renaming toNat_natCast → jE

namespace Go.Proofs.YtmkldekhhkijdaaGreatDoor
open Go.ChangeShapes Go.WideShapes Go.ChangeAt Go.RowKit
open Go.Fw
theorem own1 : ownKnob Tryz.prog.godebug = none := by kernel_rfl
theorem laidOut1 : laidOutB Tryz.prog = true := by kernel_rfl
theorem op9 : Opens Tryz.prog 9 instStr rngS := qnU Tryz.underlying9 (by kernel_rfl)
theorem op2 : Opens Tryz.prog 2 instInt rngI := qn5 Tryz.underlying2 (by kernel_rfl)
theorem op4 : Opens Tryz.prog 4 instBool rngB := qm3 Tryz.underlying4 (by kernel_rfl)
theorem op238 : Opens Tryz.prog 238 gt_TPin qhs :=
 Opens.imp (qbh (hz := rfl) (f := fun x : qN => (x.Am, x.Bl, x.Bj, x.Ay)) (fun p => ⟨p.1, p.2.1, p.2.2.1, p.2.2.2⟩) (fun _ => rfl) Tryz.underlying238 (by kernel_rfl) (qz rfl op9 (qz rfl op2 (qz rfl op2 (qct rfl op4))))) (fun _ h => h)
theorem op155 : Opens Tryz.prog 155 (@instList qN gt_TPin) (rngL qhs) := qcN Tryz.underlying155 (by kernel_rfl) op238
theorem op33 : Opens Tryz.prog 33 (@instList Int instInt) (rngL rngI) := qcN Tryz.underlying33 (by kernel_rfl) op2
theorem op306 : Opens Tryz.prog 306 gt_TTable qeP :=
 Opens.imp (qbh (hz := rfl) (f := fun x : qp => (x.Ba, x.Bb, x.As)) (fun p => ⟨p.1, p.2.1, p.2.2⟩) (fun _ => rfl) Tryz.underlying306 (by kernel_rfl) (qz rfl op33 (qz rfl op33 (qct rfl op33)))) (fun _ h => h)
theorem op240 : Opens Tryz.prog 240 (@instList qp gt_TTable) (rngL qeP) := qcN Tryz.underlying240 (by kernel_rfl) op306
theorem op242 : Opens Tryz.prog 242 gt_TArc qhz :=
 Opens.imp (qbh (hz := rfl) (f := fun x : qH => (x.Ap, x.Av, x.To, x.Bf, x.Bd, x.Bk)) (fun p => ⟨p.1, p.2.1, p.2.2.1, p.2.2.2.1, p.2.2.2.2.1, p.2.2.2.2.2⟩) (fun _ => rfl) Tryz.underlying242 (by kernel_rfl) (qz rfl op2 (qz rfl op2 (qz rfl op2 (qz rfl op2 (qz rfl op240 (qct rfl op240))))))) (fun _ h => h)
theorem op156 : Opens Tryz.prog 156 (@instList qH gt_TArc) (rngL qhz) := qcN Tryz.underlying156 (by kernel_rfl) op242
theorem op158 : Opens Tryz.prog 158 gt_TCell qgM :=
 Opens.imp (qbh (hz := rfl) (f := fun x : qn => (x.Am, x.Ap, x.Ak, x.Ar, x.Az, x.Bo, x.Bh)) (fun p => ⟨p.1, p.2.1, p.2.2.1, p.2.2.2.1, p.2.2.2.2.1, p.2.2.2.2.2.1, p.2.2.2.2.2.2⟩) (fun _ => rfl) Tryz.underlying158 (by kernel_rfl) (qz rfl op9 (qz rfl op2 (qz rfl op155 (qz rfl op156 (qz rfl op33 (qz rfl op2 (qct rfl op2)))))))) (fun _ h => h)
theorem op22 : Opens Tryz.prog 22 (@instList qn gt_TCell) (rngL qgM) := qcN Tryz.underlying22 (by kernel_rfl) op158
theorem op24 : Opens Tryz.prog 24 gt_TLibrary qg5 :=
 Opens.imp (qbh (hz := rfl) (f := fun x : qh => x.Aj) (fun p => ⟨p⟩) (fun _ => rfl) Tryz.underlying24 (by kernel_rfl) (qct rfl op22)) (fun _ h => h)
theorem op160 : Opens Tryz.prog 160 gt_TInstance qdv :=
 Opens.imp (qbh (hz := rfl) (f := fun x : qd => (x.Am, x.Be, x.Af)) (fun p => ⟨p.1, p.2.1, p.2.2⟩) (fun _ => rfl) Tryz.underlying160 (by kernel_rfl) (qz rfl op9 (qz rfl op2 (qct rfl op33)))) (fun _ h => h)
theorem op25 : Opens Tryz.prog 25 (@instList qd gt_TInstance) (rngL qdv) := qcN Tryz.underlying25 (by kernel_rfl) op160
theorem op26 : Opens Tryz.prog 26 (@instList ByteArray instStr) (rngL rngS) := qcN Tryz.underlying26 (by kernel_rfl) op9
theorem op163 : Opens Tryz.prog 163 gt_TPort qgD :=
 Opens.imp (qbh (hz := rfl) (f := fun x : qI => (x.Am, x.Bl, x.Bm)) (fun p => ⟨p.1, p.2.1, p.2.2⟩) (fun _ => rfl) Tryz.underlying163 (by kernel_rfl) (qz rfl op9 (qz rfl op2 (qct rfl op2)))) (fun _ h => h)
theorem op27 : Opens Tryz.prog 27 (@instList qI gt_TPort) (rngL qgD) := qcN Tryz.underlying27 (by kernel_rfl) op163
theorem op29 : Opens Tryz.prog 29 gt_TDesign qhD :=
 Opens.imp (qbh (hz := rfl) (f := fun x : qb => (x.Aa, x.Af, x.Ac)) (fun p => ⟨p.1, p.2.1, p.2.2⟩) (fun _ => rfl) Tryz.underlying29 (by kernel_rfl) (qz rfl op25 (qz rfl op26 (qct rfl op27)))) (fun _ h => h)
theorem op103 : Opens Tryz.prog 103 gt_TWire qgy :=
 Opens.imp (qbh (hz := rfl) (f := fun x : qD => (x.Ai, x.Bn, x.Bj, x.Bc)) (fun p => ⟨p.1, p.2.1, p.2.2.1, p.2.2.2⟩) (fun _ => rfl) Tryz.underlying103 (by kernel_rfl) (qz rfl op33 (qz rfl op33 (qz rfl op33 (qct rfl op33))))) (fun _ h => h)
theorem op30 : Opens Tryz.prog 30 (@instList qD gt_TWire) (rngL qgy) := qcN Tryz.underlying30 (by kernel_rfl) op103
theorem op32 : Opens Tryz.prog 32 gt_TBlock qim :=
 Opens.imp (qbh (hz := rfl) (f := fun x : qm => (x.Aq, x.Ab, x.Ah)) (fun p => ⟨p.1, p.2.1, p.2.2⟩) (fun _ => rfl) Tryz.underlying32 (by kernel_rfl) (qz rfl op24 (qz rfl op29 (qct rfl op30)))) (fun _ h => h)
theorem op35 : Opens Tryz.prog 35 gt_TException qfC :=
 Opens.imp (qbh (hz := rfl) (f := fun x : qk => (x.Ap, x.Bg, x.Av, x.Au, x.To)) (fun p => ⟨p.1, p.2.1, p.2.2.1, p.2.2.2.1, p.2.2.2.2⟩) (fun _ => rfl) Tryz.underlying35 (by kernel_rfl) (qz rfl op2 (qz rfl op2 (qz rfl op33 (qz rfl op33 (qct rfl op33)))))) (fun _ h => h)
set_option maxRecDepth 100000 in
theorem lawCalls {H : Type} {enc : TypeId × Value → H} {W : World} {base : Nat} {args : Array Value} {ds gs : List (DataW H)} {before : List MemPlace}
  (hval : ∀ (j : Nat) t v, Tryz.f3.params[j]? = some t → args[j]? = some v → Value.okWide Tryz.prog W .any base t v) (hW : DataW.Whole enc Tryz.prog Tryz.f3.params.toList Rows.fnExactExceptionTextSpec.vars false W args.toList ds gs before) (hL : laidMetH Tryz.prog Rows.fnExactExceptionTextRow.laid W) (fresh handsOn again : Bool) :
  Calls Tryz.prog 3 args W fun e W' => ∃ v, e = .returned v ∧ Rows.fnExactExceptionTextSpec.post enc Tryz.prog Tryz.f3 false fresh handsOn again W args v W' := by
 have hW' := hW
 obtain ⟨p, q, hA0, hV, rfl, hfz, hnd⟩ := hW
 have hA : DataW.TrodAll enc Tryz.prog W 0 (fun _ => true) true Tryz.f3.params.toList args.toList ds p := hA0
 rw [Tryz.params3] at hA hval
 obtain ⟨v0, v1, d0, d1, q0, q1, rfl, rfl, rfl, h0, h1⟩ := trodAll_two hA
 obtain ⟨_, _, _, _, g1, _, rfl, _⟩ := trodVars_one hV
 obtain ⟨x0, cs0, rfl, hR0, hx0⟩ := qlv (A := gt_TBlock) op32 rfl Tryz.underlying32 (hval 0 32 v0 rfl rfl) h0
 obtain ⟨x1, cs1, rfl, hR1, hx1⟩ := qlv (A := gt_TException) op35 rfl Tryz.underlying35 (hval 1 35 v1 rfl rfl) h1
 obtain ⟨n, hn⟩ := (qhc hx0 hx1).at
 rw [MakeChecks.laidMetH_plain _ _ _ (by kernel_rfl)] at hL
 obtain ⟨g0, t0, c0, f0, p0, a0, b0, v0x, tr0⟩ := qnv hL (jB (i := 4) rfl : ("loop.example/g00861/impl.exceptionWords", _) ∈ _)
 obtain rfl : 0 = g0 := Option.some.inj ((show Tryz.prog.globalNamed "loop.example/g00861/impl.exceptionWords" = some 0 by kernel_rfl).symm.trans a0)
 obtain rfl : 131 = t0 := Option.some.inj ((show (Tryz.prog.globals[0]?).map (·.type) = some 131 by kernel_rfl).symm.trans b0)
 have e0 : c0.toList = exWords.map Value.string := qk9 (zs := exWords) Tryz.underlying131 Tryz.underlying9 (by kernel_rfl) (by kernel_rfl) tr0
 have hgv0 : GV 0 (exWords.map Value.string) W (old W) := GV.of_var (P := Tryz.prog) (nm := "loop.example/g00861/impl.exceptionWords") (by rw [← e0]; exact v0x) (by kernel_rfl)
 obtain ⟨g2, t2, c2, f2, p2, a2, b2, v2x, tr2⟩ := qnv hL (jB (i := 2) rfl : ("internal/strconv.uint64pow10", _) ∈ _)
 obtain rfl : 2 = g2 := Option.some.inj ((show Tryz.prog.globalNamed "internal/strconv.uint64pow10" = some 2 by kernel_rfl).symm.trans a2)
 obtain rfl : 285 = t2 := Option.some.inj ((show (Tryz.prog.globals[2]?).map (·.type) = some 285 by kernel_rfl).symm.trans b2)
 have e2 : c2.toList = Lib.pow10Tab.map (Value.int .u64) := Lib.cells_of_tab (zs := Lib.pow10Tab) Tryz.underlying285 Tryz.underlying248 (by kernel_rfl) (by kernel_rfl) tr2
 have hgv2 : GV 2 (Lib.pow10Tab.map (Value.int .u64)) W (old W) := GV.of_var (P := Tryz.prog) (nm := "internal/strconv.uint64pow10") (by rw [← e2]; exact v2x) (by kernel_rfl)
 have hc := qfZ hR0 hR1 hgv0 hgv2 hn
 refine Calls.mono hc ?_
 rintro e W' ⟨v, rfl, hb, us, rfl, hvs⟩
 refine ⟨_, rfl, ?_⟩
 rw [qot hvs]
 exact qn2 laidOut1 (by kernel_rfl) rfl Tryz.underlying4 (by kernel_rfl) rfl rfl rfl hW' hb
set_option maxRecDepth 100000 in
theorem lifted (fresh handsOn again : Bool) (os : Os) (started : os.Started) (H : Type) (enc : TypeId × Value → H) :
  ReturnsInHanded {} Tryz.checked os 3 .any (fun w args => (Rows.fnExactExceptionTextSpec.pre enc Tryz.prog Tryz.f3 Rows.fnExactExceptionTextRow.domain false w args ∧ laidMetH Tryz.prog Rows.fnExactExceptionTextRow.laid w) ∧ sizedMet enc Tryz.prog Tryz.f3 (OpenSpec.ofChange Rows.fnExactExceptionTextSpec) false w args)
   (Rows.fnExactExceptionTextSpec.post enc Tryz.prog Tryz.f3 false fresh handsOn again) := by
 refine returnsInHanded_of_change_and (C := Tryz.checked) (X := fun w _ => laidMetH Tryz.prog Rows.fnExactExceptionTextRow.laid w) (fun _ _ _ hh h => h.of_heap hh) own1 started (by kernel_rfl) Tryz.func3
  (ChangeSpec.witness_shaped (enc := enc) (C := Tryz.checked) (os := os) (X := fun w _ => laidMetH Tryz.prog Rows.fnExactExceptionTextRow.laid w) false (World.laidAll Tryz.prog os Rows.fnExactExceptionTextRow.laid) #[.agg #[.slice none 0 0, .slice none 0 0, .slice none 0 0, .slice none 0 0, .slice none 0 0], .agg #[.int .i64 0, .int .i64 0, .slice none 0 0, .slice none 0 0, .slice none 0 0]] 8 (World.laidAll_os _ _ _)
   (World.shaped_of_ZipB (by kernel_rfl) (by kernel_rfl)) (by kernel_rfl) (by kernel_rfl) (by kernel_rfl)
   (by rw [MakeChecks.laidMetH_plain _ _ _ (by kernel_rfl)]; exact laidMet_laidAll _ (by kernel_rfl) (by kernel_rfl))) ?_
 intro W base args ds gs before hval0 hW hc _ hL _
 exact lawCalls hval0 hW hL _ _ _
theorem ja : ((Rows.fnExactExceptionTextRow.inPlace == Tryz.checked.prog.inPlace 3) && ((Rows.fnExactExceptionTextRow.unfollowed == Tryz.checked.prog.unfollowed 3) && ((Rows.fnExactExceptionTextRow.recurses == Tryz.checked.prog.recurses 3) && (Rows.fnExactExceptionTextRow.named == Tryz.checked.prog.varsNamed 3)))) = true := by kernel_rfl
theorem jb : (Tryz.checked.prog.mayEnter && (Tryz.checked.prog.stopsHeard && ((Rows.fnExactExceptionTextRow.lifted == Tryz.checked.prog.liftsFinal) && ((Tryz.checked.prog.make == some Rows.fnExactExceptionTextRow.make) && ((Rows.fnExactExceptionTextRow.plainKeys == Tryz.checked.prog.plainKeys) && (mapsRowed Tryz.checked.prog && laidOutB Tryz.checked.prog)))))) = true := by kernel_rfl
theorem jc : (namedTie Tryz.checked.prog Rows.fnExactExceptionTextRow.named Rows.fnExactExceptionTextSpec.vars && (Rows.fnExactExceptionTextRow.wf (OpenSpec.ofChange Rows.fnExactExceptionTextSpec) && (Rows.fnExactExceptionTextRow.pinned == Rows.fnExactExceptionTextRow.pinnedBy))) = true := by kernel_rfl
theorem andT {a b : Bool} (h : (a && b) = true) : a = true ∧ b = true := by simpa using h
theorem closed : joinedFacts Tryz.checked.prog 3 Tryz.f3 Rows.fnExactExceptionTextSpec Rows.fnExactExceptionTextRow = true := by
 obtain ⟨j0, h⟩ := andT ja
 obtain ⟨j1, h⟩ := andT h
 obtain ⟨j2, j3⟩ := andT h
 obtain ⟨j4, h⟩ := andT jb
 obtain ⟨j5, h⟩ := andT h
 obtain ⟨j6, h⟩ := andT h
 obtain ⟨j7, h⟩ := andT h
 obtain ⟨j8, h⟩ := andT h
 obtain ⟨j9, j10⟩ := andT h
 obtain ⟨j11, h⟩ := andT jc
 obtain ⟨j12, j13⟩ := andT h
 unfold joinedFacts
 rw [j0, j1, j2, j3, j4, j5, j6, j7, j8, j9, j10, j11, j12, j13]
 kernel_rfl
theorem named1 : Tryz.checked.prog.funcNamed Rows.fnExactExceptionTextRow.func = some 3 := by kernel_rfl
theorem instance1 : Tryz.f3.isInstance Tryz.checked.prog Rows.fnExactExceptionTextRow.origin Rows.fnExactExceptionTextRow.targs := of_decide_eq_true (by kernel_rfl)
theorem wrapper1 : Tryz.f3.isWrapper Tryz.checked.prog Rows.fnExactExceptionTextRow.wrapper Rows.fnExactExceptionTextRow.mainSum := by
 unfold Func.isWrapper
 first | (rw [if_pos (by decide +kernel)]; kernel_rfl) | (rw [if_neg (by decide +kernel)]; exact ⟨rfl, rfl⟩)
theorem said_holds : Rows.FnExactExceptionTextSaid :=
 OpenClaim.holds_of_wide 3 Tryz.f3 rfl rfl rfl rfl rfl rfl rfl ⟨rfl, rfl, rfl, rfl, rfl⟩ rfl rfl rfl rfl rfl named1 Tryz.func3 closed instance1 wrapper1
  (fun os started H enc _ => lifted _ _ _ os started H enc)
theorem goesNone {P : Program} (h : P.funcs.any Func.goes = false) {st : Start} (hs : st = .entering) (nm : String) : P.goesAt st nm = false := by
 subst hs
 have hf : ∀ f, P.goes f = false := fun f => by
  unfold Program.goes
  rw [h, Bool.and_false, Bool.or_false, List.any_eq_false]
  intro g _
  cases hq : P.funcs[g]? with
  | none => simp
  | some fn =>
   obtain ⟨hi, he⟩ := Array.getElem?_eq_some_iff.1 hq
   have := Array.any_eq_false.1 h g hi
   rw [he] at this
   simpa using this
 unfold Program.goesAt Program.goesFrom
 cases P.funcNamed nm with
 | none => rfl
 | some f => simp [hf f]
theorem kg0 : Tryz.checked.prog.funcs.any Func.goes = false := by kernel_rfl
theorem kg : false = Rows.fnExactExceptionTextRow.goesBy Tryz.checked.prog := (goesNone kg0 rfl _).symm
theorem kw : Rows.fnExactExceptionTextRow.wfByText (OpenSpec.ofChange Rows.fnExactExceptionTextSpec) = true := by kernel_rfl
theorem km : Tryz.checked.prog.mainIs = some (true, "3dc255eb1a9a456d2f91d406d5eb29a0d4712a2e461557c129bd5653314ab2e1".toList) := by kernel_rfl
theorem kl : true = Tryz.checked.prog.looks [] := by kernel_rfl
theorem kn : Tryz.prog.funcNamed "loop.example/g00861/laws.FnExactExceptionText" = some 3 := by kernel_rfl
theorem ka : ([32, 35].all fun u => !Tryz.prog.wantsStandIn u) = true := by kernel_rfl
theorem card_holds : Rows.FnExactExceptionTextCardSaid :=
 Claim7.holds_tied_plain_at .later [] [.data, .data, .data, .data, .widerDeep, .pinned] true (true, "3dc255eb1a9a456d2f91d406d5eb29a0d4712a2e461557c129bd5653314ab2e1") true said_holds (fun _ h => by cases h) kw (fun _ h => by cases h) fnExactExceptionText_row_tie rfl ⟨rfl, rfl⟩ km rfl
  (fun f fn hf hfn => by
   obtain rfl : f = 3 := Option.some.inj (kn.symm.trans hf) |>.symm
   obtain rfl : fn = Tryz.f3 := (Option.some.inj (Tryz.func3.symm.trans hfn)).symm
   exact ⟨kl, fun j t ht => by
    rw [Tryz.params3] at ht
    have hm : t ∈ [32, 35] := by simpa using Array.mem_of_getElem? ht
    exact (show Tryz.prog.wantsStandIn t = false by simpa using List.all_eq_true.1 ka t hm)⟩)
  kg
end Go.Proofs.YtmkldekhhkijdaaGreatDoor
