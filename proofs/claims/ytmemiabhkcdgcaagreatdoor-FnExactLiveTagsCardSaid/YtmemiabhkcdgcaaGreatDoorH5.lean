/- THE LAW laws.FnExactLiveTags, for every input: the call returns true, and its arguments read afterwards as they did. By a program of mine (hgen.py). -/
import Derived.Test.YtmemiabhkcdgcaaGreatDoorRows
import Derived.Test.YtmemiabhkcdgcaaGreatDoorCards
import Derived.Test.YtmemiabhkcdgcaaGreatDoorTie
import Derived.ProofKit
import Derived.OpenShut
import Derived.LaidMore
import Derived.Lay
import Derived.SevenTiedAt
import Derived.Test.YtmemiabhkcdgcaaGreatDoorF48
import Derived.Test.YtmemiabhkcdgcaaGreatDoorFw38
open Option renaming bind_some → je, map_some → jV
open Nat renaming le_refl → jf, le_of_ble_eq_true → jt, mul_le_mul_right → ju, lt_of_lt_of_le → jz, zero_le → jG, succ_mul → jP, le_trans → jS, add_zero → jY, zero_add → Ji
open List renaming getElem?_eq_getElem → jg, mem_cons_of_mem → jm, mem_cons_self → jn, length_append → jo, getElem_mem → jp, getElem?_append_left → jq, getElem?_take → jr, take_succ_eq_append_getElem → js, length_singleton → jw, getElem?_append_right → jy, mem_of_getElem? → jA, getElem?_drop → jB, take_length → jC, drop_eq_getElem_cons → jD, eq_nil_of_length_eq_zero → jE, getElem?_toArray → jF, map_append → jH, getElem_of_mem → jI, getD_eq_getElem?_getD → jK, getElem?_cons_succ → jL, append_nil → jM, length_map → jN, size_toArray → jQ, mem_append_left → jR, range_succ → jT, map_cons → jU, all_eq_true → jW, length_cons → jZ, drop_eq_nil_of_le → Ja, length_take → Jb, ext_getElem → Jc, append_assoc → Jd, length_filter_le → Je, getElem?_set_ne → Jf, not_mem_nil → Jg, mem_cons → Jh
open Go.Result renaming andThen_ok → jh
open Bool renaming and_eq_true → ji, eq_iff_iff → jk, true_and → jJ, not_eq_true' → jO, not_true → Jj, false_or → Jk
open Go.Sem renaming run_bind → jj, run_pure → jl
open Int renaming toNat_natCast → jx
open Array renaming getElem?_append_left → jX

namespace Go.Proofs.YtmemiabhkcdgcaaGreatDoor
open Go.ChangeShapes Go.WideShapes Go.ChangeAt Go.RowKit
open Go.Fw
theorem own1 : ownKnob Tryz.prog.godebug = none := by kernel_rfl
theorem laidOut1 : laidOutB Tryz.prog = true := by kernel_rfl
theorem op9 : Opens Tryz.prog 9 instStr rngS := qt8 Tryz.underlying9 (by kernel_rfl)
theorem op2 : Opens Tryz.prog 2 instInt rngI := quS Tryz.underlying2 (by kernel_rfl)
theorem op4 : Opens Tryz.prog 4 instBool rngB := qty Tryz.underlying4 (by kernel_rfl)
theorem op282 : Opens Tryz.prog 282 gt_TPin qli :=
 Opens.imp (qct (hz := rfl) (f := fun x : qX => (x.As, x.Bl, x.Bk, x.Be)) (fun p => ⟨p.1, p.2.1, p.2.2.1, p.2.2.2⟩) (fun _ => rfl) Tryz.underlying282 (by kernel_rfl) (qT rfl op9 (qT rfl op2 (qT rfl op2 (qel rfl op4))))) (fun _ h => h)
theorem op227 : Opens Tryz.prog 227 (@instList qX gt_TPin) (rngL qli) := qdV Tryz.underlying227 (by kernel_rfl) op282
theorem op36 : Opens Tryz.prog 36 (@instList Int instInt) (rngL rngI) := qdV Tryz.underlying36 (by kernel_rfl) op2
theorem op311 : Opens Tryz.prog 311 gt_TTable qhs :=
 Opens.imp (qct (hz := rfl) (f := fun x : qr => (x.Bd, x.Bc, x.Av)) (fun p => ⟨p.1, p.2.1, p.2.2⟩) (fun _ => rfl) Tryz.underlying311 (by kernel_rfl) (qT rfl op36 (qT rfl op36 (qel rfl op36)))) (fun _ h => h)
theorem op284 : Opens Tryz.prog 284 (@instList qr gt_TTable) (rngL qhs) := qdV Tryz.underlying284 (by kernel_rfl) op311
theorem op286 : Opens Tryz.prog 286 gt_TArc qk8 :=
 Opens.imp (qct (hz := rfl) (f := fun x : qF => (x.Ar, x.Au, x.To, x.Bh, x.Az, x.Bi)) (fun p => ⟨p.1, p.2.1, p.2.2.1, p.2.2.2.1, p.2.2.2.2.1, p.2.2.2.2.2⟩) (fun _ => rfl) Tryz.underlying286 (by kernel_rfl) (qT rfl op2 (qT rfl op2 (qT rfl op2 (qT rfl op2 (qT rfl op284 (qel rfl op284))))))) (fun _ h => h)
theorem op228 : Opens Tryz.prog 228 (@instList qF gt_TArc) (rngL qk8) := qdV Tryz.underlying228 (by kernel_rfl) op286
theorem op230 : Opens Tryz.prog 230 gt_TCell qjU :=
 Opens.imp (qct (hz := rfl) (f := fun x : qp => (x.As, x.Ar, x.Am, x.Ap, x.Ay, x.Bo, x.Bg)) (fun p => ⟨p.1, p.2.1, p.2.2.1, p.2.2.2.1, p.2.2.2.2.1, p.2.2.2.2.2.1, p.2.2.2.2.2.2⟩) (fun _ => rfl) Tryz.underlying230 (by kernel_rfl) (qT rfl op9 (qT rfl op2 (qT rfl op227 (qT rfl op228 (qT rfl op36 (qT rfl op2 (qel rfl op2)))))))) (fun _ h => h)
theorem op52 : Opens Tryz.prog 52 (@instList qp gt_TCell) (rngL qjU) := qdV Tryz.underlying52 (by kernel_rfl) op230
theorem op54 : Opens Tryz.prog 54 gt_TLibrary qka :=
 Opens.imp (qct (hz := rfl) (f := fun x : qn => x.Ah) (fun p => ⟨p⟩) (fun _ => rfl) Tryz.underlying54 (by kernel_rfl) (qel rfl op52)) (fun _ h => h)
theorem op232 : Opens Tryz.prog 232 gt_TInstance qfP :=
 Opens.imp (qct (hz := rfl) (f := fun x : qj => (x.As, x.Ba, x.Af)) (fun p => ⟨p.1, p.2.1, p.2.2⟩) (fun _ => rfl) Tryz.underlying232 (by kernel_rfl) (qT rfl op9 (qT rfl op2 (qel rfl op36)))) (fun _ h => h)
theorem op55 : Opens Tryz.prog 55 (@instList qj gt_TInstance) (rngL qfP) := qdV Tryz.underlying55 (by kernel_rfl) op232
theorem op28 : Opens Tryz.prog 28 (@instList ByteArray instStr) (rngL rngS) := qdV Tryz.underlying28 (by kernel_rfl) op9
theorem op234 : Opens Tryz.prog 234 gt_TPort qj2 :=
 Opens.imp (qct (hz := rfl) (f := fun x : qH => (x.As, x.Bl, x.Bp)) (fun p => ⟨p.1, p.2.1, p.2.2⟩) (fun _ => rfl) Tryz.underlying234 (by kernel_rfl) (qT rfl op9 (qT rfl op2 (qel rfl op2)))) (fun _ h => h)
theorem op56 : Opens Tryz.prog 56 (@instList qH gt_TPort) (rngL qj2) := qdV Tryz.underlying56 (by kernel_rfl) op234
theorem op58 : Opens Tryz.prog 58 gt_TDesign qk1 :=
 Opens.imp (qct (hz := rfl) (f := fun x : qf => (x.Aa, x.Af, x.Ac)) (fun p => ⟨p.1, p.2.1, p.2.2⟩) (fun _ => rfl) Tryz.underlying58 (by kernel_rfl) (qT rfl op55 (qT rfl op28 (qel rfl op56)))) (fun _ h => h)
theorem op166 : Opens Tryz.prog 166 gt_TWire qjR :=
 Opens.imp (qct (hz := rfl) (f := fun x : qB => (x.Ak, x.Bn, x.Bk, x.Bf)) (fun p => ⟨p.1, p.2.1, p.2.2.1, p.2.2.2⟩) (fun _ => rfl) Tryz.underlying166 (by kernel_rfl) (qT rfl op36 (qT rfl op36 (qT rfl op36 (qel rfl op36))))) (fun _ h => h)
theorem op59 : Opens Tryz.prog 59 (@instList qB gt_TWire) (rngL qjR) := qdV Tryz.underlying59 (by kernel_rfl) op166
theorem op61 : Opens Tryz.prog 61 gt_TBlock qmn :=
 Opens.imp (qct (hz := rfl) (f := fun x : qg => (x.Ai, x.Ab, x.Aj)) (fun p => ⟨p.1, p.2.1, p.2.2⟩) (fun _ => rfl) Tryz.underlying61 (by kernel_rfl) (qT rfl op54 (qT rfl op58 (qel rfl op59)))) (fun _ h => h)
theorem op102 : Opens Tryz.prog 102 gt_TException qeX :=
 Opens.imp (qct (hz := rfl) (f := fun x : qa => (x.Ar, x.Bb, x.Au, x.Aq, x.To)) (fun p => ⟨p.1, p.2.1, p.2.2.1, p.2.2.2.1, p.2.2.2.2⟩) (fun _ => rfl) Tryz.underlying102 (by kernel_rfl) (qT rfl op2 (qT rfl op2 (qT rfl op36 (qT rfl op36 (qel rfl op36)))))) (fun _ h => h)
theorem op62 : Opens Tryz.prog 62 (@instList qa gt_TException) (rngL qeX) := qdV Tryz.underlying62 (by kernel_rfl) op102
set_option maxRecDepth 100000 in
theorem lawCalls {H : Type} {enc : TypeId × Value → H} {W : World} {base : Nat} {args : Array Value} {ds gs : List (DataW H)} {before : List MemPlace}
  (hval : ∀ (j : Nat) t v, Tryz.f5.params[j]? = some t → args[j]? = some v → Value.okWide Tryz.prog W .any base t v) (hW : DataW.Whole enc Tryz.prog Tryz.f5.params.toList Rows.fnExactLiveTagsSpec.vars false W args.toList ds gs before) (fresh handsOn again : Bool) :
  Calls Tryz.prog 5 args W fun e W' => ∃ v, e = .returned v ∧ Rows.fnExactLiveTagsSpec.post enc Tryz.prog Tryz.f5 false fresh handsOn again W args v W' := by
 have hW' := hW
 obtain ⟨p, q, hA0, hV, rfl, hfz, hnd⟩ := hW
 have hA : DataW.TrodAll enc Tryz.prog W 0 (fun _ => true) true Tryz.f5.params.toList args.toList ds p := hA0
 rw [Tryz.params5] at hA hval
 obtain ⟨v0, v1, v2, d0, d1, d2, q0, q1, q2, rfl, rfl, rfl, h0, h1, h2⟩ := trodAll_three hA
 obtain ⟨rfl, rfl⟩ := trodVars_none hV
 obtain ⟨x0, cs0, rfl, hR0, hx0⟩ := qt9 (A := gt_TBlock) op61 rfl Tryz.underlying61 (hval 0 61 v0 rfl rfl) h0
 obtain ⟨x1, cs1, rfl, hR1, hx1⟩ := qsa (A := (@instList qa gt_TException)) op62 rfl Tryz.underlying62 (hval 1 62 v1 rfl rfl) h1
 obtain ⟨x2, cs2, rfl, hR2, hx2⟩ := qux (A := instInt) op2 rfl Tryz.underlying2 (hval 2 2 v2 rfl rfl) h2
 obtain rfl : cs2 = [.int .i64 x2] := hR2
 obtain ⟨n, hn⟩ := (qmw hx0 hx1 hx2).at
 have hc := qkI hR0 hR1  hn
 refine Calls.mono hc ?_
 rintro e W' ⟨v, rfl, hb, us, rfl, hvs⟩
 refine ⟨_, rfl, ?_⟩
 rw [qvq hvs]
 exact quM laidOut1 (by kernel_rfl) rfl Tryz.underlying4 rfl rfl rfl rfl (by simpa using hW') hb
set_option maxRecDepth 100000 in
theorem lifted (fresh handsOn again : Bool) (os : Os) (started : os.Started) (H : Type) (enc : TypeId × Value → H) :
  ReturnsInHanded {} Tryz.checked os 5 .any (fun w args => (Rows.fnExactLiveTagsSpec.pre enc Tryz.prog Tryz.f5 Rows.fnExactLiveTagsRow.domain false w args ∧ laidMetH Tryz.prog Rows.fnExactLiveTagsRow.laid w) ∧ sizedMet enc Tryz.prog Tryz.f5 (OpenSpec.ofChange Rows.fnExactLiveTagsSpec) false w args)
   (Rows.fnExactLiveTagsSpec.post enc Tryz.prog Tryz.f5 false fresh handsOn again) := by
 refine returnsInHanded_of_change_and (C := Tryz.checked) (X := fun w _ => laidMetH Tryz.prog Rows.fnExactLiveTagsRow.laid w) (fun _ _ _ hh h => h.of_heap hh) own1 started (by kernel_rfl) Tryz.func5
  (ChangeSpec.witness_shaped (enc := enc) (C := Tryz.checked) (os := os) (X := fun w _ => laidMetH Tryz.prog Rows.fnExactLiveTagsRow.laid w) false (World.laidAll Tryz.prog os Rows.fnExactLiveTagsRow.laid) #[.agg #[.slice none 0 0, .slice none 0 0, .slice none 0 0, .slice none 0 0, .slice none 0 0], .slice none 0 0, .int .i64 0] 8 (World.laidAll_os _ _ _)
   (World.shaped_of_ZipB (by kernel_rfl) (by kernel_rfl)) (by kernel_rfl) (by kernel_rfl) (by kernel_rfl)
   (by rw [MakeChecks.laidMetH_plain _ _ _ (by kernel_rfl)]; exact laidMet_laidAll _ (by kernel_rfl) (by kernel_rfl))) ?_
 intro W base args ds gs before hval0 hW hc _ hL _
 exact lawCalls hval0 hW _ _ _
theorem ja : ((Rows.fnExactLiveTagsRow.inPlace == Tryz.checked.prog.inPlace 5) && ((Rows.fnExactLiveTagsRow.unfollowed == Tryz.checked.prog.unfollowed 5) && ((Rows.fnExactLiveTagsRow.recurses == Tryz.checked.prog.recurses 5) && (Rows.fnExactLiveTagsRow.named == Tryz.checked.prog.varsNamed 5)))) = true := by kernel_rfl
theorem jb : (Tryz.checked.prog.mayEnter && (Tryz.checked.prog.stopsHeard && ((Rows.fnExactLiveTagsRow.lifted == Tryz.checked.prog.liftsFinal) && ((Tryz.checked.prog.make == some Rows.fnExactLiveTagsRow.make) && ((Rows.fnExactLiveTagsRow.plainKeys == Tryz.checked.prog.plainKeys) && (mapsRowed Tryz.checked.prog && laidOutB Tryz.checked.prog)))))) = true := by kernel_rfl
theorem jc : (namedTie Tryz.checked.prog Rows.fnExactLiveTagsRow.named Rows.fnExactLiveTagsSpec.vars && (Rows.fnExactLiveTagsRow.wf (OpenSpec.ofChange Rows.fnExactLiveTagsSpec) && (Rows.fnExactLiveTagsRow.pinned == Rows.fnExactLiveTagsRow.pinnedBy))) = true := by kernel_rfl
theorem andT {a b : Bool} (h : (a && b) = true) : a = true ∧ b = true := by simpa using h
theorem closed : joinedFacts Tryz.checked.prog 5 Tryz.f5 Rows.fnExactLiveTagsSpec Rows.fnExactLiveTagsRow = true := by
 obtain ⟨j0, h⟩ := andT ja
 obtain ⟨j1, h⟩ := andT h
 obtain ⟨j2, j3⟩ := andT h
 obtain ⟨j4, h⟩ := andT jb
 obtain ⟨j5, h⟩ := andT h
 obtain ⟨j6, h⟩ := andT h
 obtain ⟨j7, h⟩ := andT h
 obtain ⟨j8, h⟩ := andT h
 obtain ⟨j9, j10⟩ := andT h
 obtain ⟨j11, h⟩ := andT jc
 obtain ⟨j12, j13⟩ := andT h
 unfold joinedFacts
 rw [j0, j1, j2, j3, j4, j5, j6, j7, j8, j9, j10, j11, j12, j13]
 kernel_rfl
theorem named1 : Tryz.checked.prog.funcNamed Rows.fnExactLiveTagsRow.func = some 5 := by kernel_rfl
theorem instance1 : Tryz.f5.isInstance Tryz.checked.prog Rows.fnExactLiveTagsRow.origin Rows.fnExactLiveTagsRow.targs := of_decide_eq_true (by kernel_rfl)
theorem wrapper1 : Tryz.f5.isWrapper Tryz.checked.prog Rows.fnExactLiveTagsRow.wrapper Rows.fnExactLiveTagsRow.mainSum := by
 unfold Func.isWrapper
 first | (rw [if_pos (by decide +kernel)]; kernel_rfl) | (rw [if_neg (by decide +kernel)]; exact ⟨rfl, rfl⟩)
theorem said_holds : Rows.FnExactLiveTagsSaid :=
 OpenClaim.holds_of_wide 5 Tryz.f5 rfl rfl rfl rfl rfl rfl rfl ⟨rfl, rfl, rfl, rfl, rfl⟩ rfl rfl rfl rfl rfl named1 Tryz.func5 closed instance1 wrapper1
  (fun os started H enc _ => lifted _ _ _ os started H enc)
theorem goesNone {P : Program} (h : P.funcs.any Func.goes = false) {st : Start} (hs : st = .entering) (nm : String) : P.goesAt st nm = false := by
 subst hs
 have hf : ∀ f, P.goes f = false := fun f => by
  unfold Program.goes
  rw [h, Bool.and_false, Bool.or_false, List.any_eq_false]
  intro g _
  cases hq : P.funcs[g]? with
  | none => simp
  | some fn =>
   obtain ⟨hi, he⟩ := Array.getElem?_eq_some_iff.1 hq
   have := Array.any_eq_false.1 h g hi
   rw [he] at this
   simpa using this
 unfold Program.goesAt Program.goesFrom
 cases P.funcNamed nm with
 | none => rfl
 | some f => simp [hf f]
theorem kg0 : Tryz.checked.prog.funcs.any Func.goes = false := by kernel_rfl
theorem kg : false = Rows.fnExactLiveTagsRow.goesBy Tryz.checked.prog := (goesNone kg0 rfl _).symm
theorem kw : Rows.fnExactLiveTagsRow.wfByText (OpenSpec.ofChange Rows.fnExactLiveTagsSpec) = true := by kernel_rfl
theorem km : Tryz.checked.prog.mainIs = some (true, "1329b9f34752655c778e9a58c7f33931ff3cebfb83ca6ad1d5c4c6581b6a87f7".toList) := by kernel_rfl
theorem kl : false = Tryz.checked.prog.looks [] := by kernel_rfl
theorem kn : Tryz.prog.funcNamed "loop.example/g00861/laws.FnExactLiveTags" = some 5 := by kernel_rfl
theorem ka : ([61, 62, 2].all fun u => !Tryz.prog.wantsStandIn u) = true := by kernel_rfl
theorem card_holds : Rows.FnExactLiveTagsCardSaid :=
 Claim7.holds_tied_plain_at .later [] [.data, .pinned] true (true, "1329b9f34752655c778e9a58c7f33931ff3cebfb83ca6ad1d5c4c6581b6a87f7") false said_holds (fun _ h => by cases h) kw (fun _ h => by cases h) fnExactLiveTags_row_tie rfl ⟨rfl, rfl⟩ km rfl
  (fun f fn hf hfn => by
   obtain rfl : f = 5 := Option.some.inj (kn.symm.trans hf) |>.symm
   obtain rfl : fn = Tryz.f5 := (Option.some.inj (Tryz.func5.symm.trans hfn)).symm
   exact ⟨kl, fun j t ht => by
    rw [Tryz.params5] at ht
    have hm : t ∈ [61, 62, 2] := by simpa using Array.mem_of_getElem? ht
    exact (show Tryz.prog.wantsStandIn t = false by simpa using List.all_eq_true.1 ka t hm)⟩)
  kg
end Go.Proofs.YtmemiabhkcdgcaaGreatDoor
