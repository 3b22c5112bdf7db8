/- THE LAW laws.FnExceptionText, for every input: the call returns true, and its arguments read afterwards as they did. By a program of mine (hgen.py). -/
import Derived.Test.YtmkldekhhkijdaaGreatDoorRows
import Derived.Test.YtmkldekhhkijdaaGreatDoorCards
import Derived.Test.YtmkldekhhkijdaaGreatDoorTie
import Derived.ProofKit
import Derived.OpenShut
import Derived.LaidMore
import Derived.Lay
import Derived.SevenTiedAt
import Derived.Test.YtmkldekhhkijdaaGreatDoorQG
import Derived.Test.YtmkldekhhkijdaaGreatDoorA3
open Option renaming bind_some → je
open Nat renaming le_refl → jf, le_of_ble_eq_true → js, mul_le_mul_right → jt, lt_of_lt_of_le → jw, zero_le → jB, succ_mul → jJ, le_trans → jV, zero_add → jW
open List renaming length_append → jg, length_singleton → ji, mem_cons_of_mem → jk, getElem?_eq_getElem → jm, mem_cons_self → jq, getElem_mem → jr, mem_of_getElem? → ju, length_cons → jv, getD_eq_getElem?_getD → jx, length_map → jy, not_mem_nil → jA, getElem?_append_left → jD, drop_eq_getElem_cons → jE, getElem?_take → jF, eq_nil_of_length_eq_zero → jG, append_assoc → jI, getElem?_toArray → jK, getElem?_append_right → jL, mem_cons → jM, size_toArray → jO, getElem_of_mem → jQ, append_nil → jR, all_eq_true → jS, take_length → jT
open Bool renaming and_eq_true → jh, eq_iff_iff → jp, true_and → jC, not_eq_true' → jH, not_true → jU
open Go.Result renaming andThen_ok → jj
open Go.Sem renaming run_bind → jl, run_pure → jo
open Int renaming toNat_natCast → jz
open Array renaming length_toList → jN, getElem?_append_left → jP

namespace Go.Proofs.YtmkldekhhkijdaaGreatDoor
open Go.ChangeShapes Go.WideShapes Go.ChangeAt Go.RowKit
open Go.Fw
theorem own1 : ownKnob Tryz.prog.godebug = none := by kernel_rfl
theorem laidOut1 : laidOutB Tryz.prog = true := by kernel_rfl
theorem op5 : Opens Tryz.prog 5 (gt_IntK (kd := .u8)) rng8 := qps Tryz.underlying5 (by kernel_rfl)
theorem op55 : Opens Tryz.prog 55 (@instList (IntK .u8) (gt_IntK (kd := .u8))) (rngL rng8) := qmT Tryz.underlying55 (by kernel_rfl) op5
set_option maxRecDepth 100000 in
theorem lawCalls {H : Type} {enc : TypeId × Value → H} {W : World} {base : Nat} {args : Array Value} {ds gs : List (DataW H)} {before : List MemPlace}
  (hval : ∀ (j : Nat) t v, Tryz.f4.params[j]? = some t → args[j]? = some v → Value.okWide Tryz.prog W .any base t v) (hW : DataW.Whole enc Tryz.prog Tryz.f4.params.toList Rows.fnExceptionTextSpec.vars false W args.toList ds gs before) (hL : laidMetH Tryz.prog Rows.fnExceptionTextRow.laid W) (hSh : W.ShapedOpen Tryz.prog) (fresh handsOn again : Bool) :
  Calls Tryz.prog 4 args W fun e W' => ∃ v, e = .returned v ∧ Rows.fnExceptionTextSpec.post enc Tryz.prog Tryz.f4 false fresh handsOn again W args v W' := by
 have hW' := hW
 obtain ⟨p, q, hA0, hV, rfl, hfz, hnd⟩ := hW
 have hA : DataW.TrodAll enc Tryz.prog W 0 (fun _ => true) true Tryz.f4.params.toList args.toList ds p := hA0
 rw [Tryz.params4] at hA hval
 obtain ⟨v0, d0, rfl, rfl, h0⟩ := trodAll_one hA
 obtain ⟨_, _, _, _, g1, _, rfl, _⟩ := trodVars_one hV
 obtain ⟨x0, cs0, rfl, hR0, hx0⟩ := qm5 (A := (@instList (IntK .u8) (gt_IntK (kd := .u8)))) op55 rfl Tryz.underlying55 (hval 0 55 v0 rfl rfl) h0
 obtain ⟨n, hn⟩ := (qjb hx0).at
 rw [MakeChecks.laidMetH_plain _ _ _ (by kernel_rfl)] at hL
 obtain ⟨g0, t0, c0, f0, p0, a0, b0, v0x, tr0⟩ := qkF hL (ju (i := 6) rfl : ("loop.example/g00861/impl.exceptionWords", _) ∈ _)
 obtain rfl : 0 = g0 := Option.some.inj ((show Tryz.prog.globalNamed "loop.example/g00861/impl.exceptionWords" = some 0 by kernel_rfl).symm.trans a0)
 obtain rfl : 131 = t0 := Option.some.inj ((show (Tryz.prog.globals[0]?).map (·.type) = some 131 by kernel_rfl).symm.trans b0)
 have e0 : c0.toList = exWords.map Value.string := qlt (zs := exWords) Tryz.underlying131 Tryz.underlying9 (by kernel_rfl) (by kernel_rfl) tr0
 have hgv0 : GV 0 (exWords.map Value.string) W (old W) := GV.of_var (P := Tryz.prog) (nm := "loop.example/g00861/impl.exceptionWords") (by rw [← e0]; exact v0x) (by kernel_rfl)
 have hgv1 : GVE 1 isIntC W (old W) := GVE.of_shaped (t := 3) (t' := 3) (zero := #[.int .i64 0]) hSh (of_decide_eq_true (by kernel_rfl)) (by kernel_rfl) rfl (by kernel_rfl) (by kernel_rfl) Tryz.underlying3
 obtain ⟨g2, t2, c2, f2, p2, a2, b2, v2x, tr2⟩ := qkF hL (ju (i := 2) rfl : ("internal/strconv.uint64pow10", _) ∈ _)
 obtain rfl : 2 = g2 := Option.some.inj ((show Tryz.prog.globalNamed "internal/strconv.uint64pow10" = some 2 by kernel_rfl).symm.trans a2)
 obtain rfl : 285 = t2 := Option.some.inj ((show (Tryz.prog.globals[2]?).map (·.type) = some 285 by kernel_rfl).symm.trans b2)
 have e2 : c2.toList = Lib.pow10Tab.map (Value.int .u64) := Lib.cells_of_tab (zs := Lib.pow10Tab) Tryz.underlying285 Tryz.underlying248 (by kernel_rfl) (by kernel_rfl) tr2
 have hgv2 : GV 2 (Lib.pow10Tab.map (Value.int .u64)) W (old W) := GV.of_var (P := Tryz.prog) (nm := "internal/strconv.uint64pow10") (by rw [← e2]; exact v2x) (by kernel_rfl)
 obtain ⟨g3, t3, c3, f3, p3, a3, b3, v3x, tr3⟩ := qkF hL (ju (i := 5) rfl : ("strconv.ErrSyntax", _) ∈ _)
 obtain rfl : 3 = g3 := Option.some.inj ((show Tryz.prog.globalNamed "strconv.ErrSyntax" = some 3 by kernel_rfl).symm.trans a3)
 obtain rfl : 203 = t3 := Option.some.inj ((show (Tryz.prog.globals[3]?).map (·.type) = some 203 by kernel_rfl).symm.trans b3)
 have hgv3 : GVE 3 isErrC W (old W) := GVE.of_var (P := Tryz.prog) (nm := "strconv.ErrSyntax") (cs := c3.toList) (by simpa using v3x) (by kernel_rfl) (qlV Tryz.underlying203 tr3)
 obtain ⟨g4, t4, c4, f4, p4, a4, b4, v4x, tr4⟩ := qkF hL (ju (i := 4) rfl : ("strconv.ErrRange", _) ∈ _)
 obtain rfl : 4 = g4 := Option.some.inj ((show Tryz.prog.globalNamed "strconv.ErrRange" = some 4 by kernel_rfl).symm.trans a4)
 obtain rfl : 203 = t4 := Option.some.inj ((show (Tryz.prog.globals[4]?).map (·.type) = some 203 by kernel_rfl).symm.trans b4)
 have hgv4 : GVE 4 isErrC W (old W) := GVE.of_var (P := Tryz.prog) (nm := "strconv.ErrRange") (cs := c4.toList) (by simpa using v4x) (by kernel_rfl) (qlV Tryz.underlying203 tr4)
 have hc := qhR hR0 hgv0 hgv1 hgv2 hgv3 hgv4 hn
 refine Calls.mono hc ?_
 rintro e W' ⟨v, rfl, hb, us, rfl, hvs⟩
 refine ⟨_, rfl, ?_⟩
 rw [qpn hvs]
 exact qoz laidOut1 (by kernel_rfl) rfl Tryz.underlying4 (by kernel_rfl) rfl rfl rfl hW' hb
set_option maxRecDepth 100000 in
theorem lifted (fresh handsOn again : Bool) (os : Os) (started : os.Started) (H : Type) (enc : TypeId × Value → H) :
  ReturnsInHanded {} Tryz.checked os 4 .any (fun w args => (Rows.fnExceptionTextSpec.pre enc Tryz.prog Tryz.f4 Rows.fnExceptionTextRow.domain false w args ∧ laidMetH Tryz.prog Rows.fnExceptionTextRow.laid w) ∧ sizedMet enc Tryz.prog Tryz.f4 (OpenSpec.ofChange Rows.fnExceptionTextSpec) false w args)
   (Rows.fnExceptionTextSpec.post enc Tryz.prog Tryz.f4 false fresh handsOn again) := by
 refine qf8 (C := Tryz.checked) (X := fun w _ => laidMetH Tryz.prog Rows.fnExceptionTextRow.laid w) (fun _ _ _ hh h => h.of_heap hh) own1 started (by kernel_rfl) Tryz.func4
  (ChangeSpec.witness_shaped (enc := enc) (C := Tryz.checked) (os := os) (X := fun w _ => laidMetH Tryz.prog Rows.fnExceptionTextRow.laid w) false (World.laidAll Tryz.prog os Rows.fnExceptionTextRow.laid) #[.slice none 0 0] 8 (World.laidAll_os _ _ _)
   (World.shaped_of_ZipB (by kernel_rfl) (by kernel_rfl)) (by kernel_rfl) (by kernel_rfl) (by kernel_rfl)
   (by rw [MakeChecks.laidMetH_plain _ _ _ (by kernel_rfl)]; exact laidMet_laidAll _ (by kernel_rfl) (by kernel_rfl))) ?_
 intro W base args ds gs before hval0 hW hL hSh
 exact lawCalls hval0 hW hL hSh _ _ _
theorem ja : ((Rows.fnExceptionTextRow.inPlace == Tryz.checked.prog.inPlace 4) && ((Rows.fnExceptionTextRow.unfollowed == Tryz.checked.prog.unfollowed 4) && ((Rows.fnExceptionTextRow.recurses == Tryz.checked.prog.recurses 4) && (Rows.fnExceptionTextRow.named == Tryz.checked.prog.varsNamed 4)))) = true := by kernel_rfl
theorem jb : (Tryz.checked.prog.mayEnter && (Tryz.checked.prog.stopsHeard && ((Rows.fnExceptionTextRow.lifted == Tryz.checked.prog.liftsFinal) && ((Tryz.checked.prog.make == some Rows.fnExceptionTextRow.make) && ((Rows.fnExceptionTextRow.plainKeys == Tryz.checked.prog.plainKeys) && (mapsRowed Tryz.checked.prog && laidOutB Tryz.checked.prog)))))) = true := by kernel_rfl
theorem jc : (namedTie Tryz.checked.prog Rows.fnExceptionTextRow.named Rows.fnExceptionTextSpec.vars && (Rows.fnExceptionTextRow.wf (OpenSpec.ofChange Rows.fnExceptionTextSpec) && (Rows.fnExceptionTextRow.pinned == Rows.fnExceptionTextRow.pinnedBy))) = true := by kernel_rfl
theorem andT {a b : Bool} (h : (a && b) = true) : a = true ∧ b = true := by simpa using h
theorem closed : joinedFacts Tryz.checked.prog 4 Tryz.f4 Rows.fnExceptionTextSpec Rows.fnExceptionTextRow = true := by
 obtain ⟨j0, h⟩ := andT ja
 obtain ⟨j1, h⟩ := andT h
 obtain ⟨j2, j3⟩ := andT h
 obtain ⟨j4, h⟩ := andT jb
 obtain ⟨j5, h⟩ := andT h
 obtain ⟨j6, h⟩ := andT h
 obtain ⟨j7, h⟩ := andT h
 obtain ⟨j8, h⟩ := andT h
 obtain ⟨j9, j10⟩ := andT h
 obtain ⟨j11, h⟩ := andT jc
 obtain ⟨j12, j13⟩ := andT h
 unfold joinedFacts
 rw [j0, j1, j2, j3, j4, j5, j6, j7, j8, j9, j10, j11, j12, j13]
 kernel_rfl
theorem named1 : Tryz.checked.prog.funcNamed Rows.fnExceptionTextRow.func = some 4 := by kernel_rfl
theorem instance1 : Tryz.f4.isInstance Tryz.checked.prog Rows.fnExceptionTextRow.origin Rows.fnExceptionTextRow.targs := of_decide_eq_true (by kernel_rfl)
theorem wrapper1 : Tryz.f4.isWrapper Tryz.checked.prog Rows.fnExceptionTextRow.wrapper Rows.fnExceptionTextRow.mainSum := by
 unfold Func.isWrapper
 first | (rw [if_pos (by decide +kernel)]; kernel_rfl) | (rw [if_neg (by decide +kernel)]; exact ⟨rfl, rfl⟩)
theorem said_holds : Rows.FnExceptionTextSaid :=
 OpenClaim.holds_of_wide 4 Tryz.f4 rfl rfl rfl rfl rfl rfl rfl ⟨rfl, rfl, rfl, rfl, rfl⟩ rfl rfl rfl rfl rfl named1 Tryz.func4 closed instance1 wrapper1
  (fun os started H enc _ => lifted _ _ _ os started H enc)
theorem goesNone {P : Program} (h : P.funcs.any Func.goes = false) {st : Start} (hs : st = .entering) (nm : String) : P.goesAt st nm = false := by
 subst hs
 have hf : ∀ f, P.goes f = false := fun f => by
  unfold Program.goes
  rw [h, Bool.and_false, Bool.or_false, List.any_eq_false]
  intro g _
  cases hq : P.funcs[g]? with
  | none => simp
  | some fn =>
   obtain ⟨hi, he⟩ := Array.getElem?_eq_some_iff.1 hq
   have := Array.any_eq_false.1 h g hi
   rw [he] at this
   simpa using this
 unfold Program.goesAt Program.goesFrom
 cases P.funcNamed nm with
 | none => rfl
 | some f => simp [hf f]
theorem kg0 : Tryz.checked.prog.funcs.any Func.goes = false := by kernel_rfl
theorem kg : false = Rows.fnExceptionTextRow.goesBy Tryz.checked.prog := (goesNone kg0 rfl _).symm
theorem kw : Rows.fnExceptionTextRow.wfByText (OpenSpec.ofChange Rows.fnExceptionTextSpec) = true := by kernel_rfl
theorem km : Tryz.checked.prog.mainIs = some (true, "3dc255eb1a9a456d2f91d406d5eb29a0d4712a2e461557c129bd5653314ab2e1".toList) := by kernel_rfl
theorem kl : true = Tryz.checked.prog.looks [] := by kernel_rfl
theorem kn : Tryz.prog.funcNamed "loop.example/g00861/laws.FnExceptionText" = some 4 := by kernel_rfl
theorem ka : ([55].all fun u => !Tryz.prog.wantsStandIn u) = true := by kernel_rfl
theorem card_holds : Rows.FnExceptionTextCardSaid :=
 Claim7.holds_tied_plain_at .later [] [.data, .data, .data, .data, .sentinel, .sentinel, .widerDeep, .pinned] true (true, "3dc255eb1a9a456d2f91d406d5eb29a0d4712a2e461557c129bd5653314ab2e1") true said_holds (fun _ h => by cases h) kw (fun _ h => by cases h) fnExceptionText_row_tie rfl ⟨rfl, rfl⟩ km rfl
  (fun f fn hf hfn => by
   obtain rfl : f = 4 := Option.some.inj (kn.symm.trans hf) |>.symm
   obtain rfl : fn = Tryz.f4 := (Option.some.inj (Tryz.func4.symm.trans hfn)).symm
   exact ⟨kl, fun j t ht => by
    rw [Tryz.params4] at ht
    have hm : t ∈ [55] := by simpa using Array.mem_of_getElem? ht
    exact (show Tryz.prog.wantsStandIn t = false by simpa using List.all_eq_true.1 ka t hm)⟩)
  kg
end Go.Proofs.YtmkldekhhkijdaaGreatDoor
