/- THE LAW laws.FnTags, for every input: the call returns true, and its arguments read afterwards as they did. By a program of mine (hgen.py). -/
import Derived.Test.YtmemiabhkcdgcaaGreatDoorRows
import Derived.Test.YtmemiabhkcdgcaaGreatDoorCards
import Derived.Test.YtmemiabhkcdgcaaGreatDoorTie
import Derived.ProofKit
import Derived.OpenShut
import Derived.LaidMore
import Derived.Lay
import Derived.SevenTiedAt
import Derived.Test.YtmemiabhkcdgcaaGreatDoorF29
import Derived.Test.YtmemiabhkcdgcaaGreatDoorA2
open Option renaming bind_some → je, map_some → jW
open Nat renaming le_refl → jf, le_of_ble_eq_true → js, mul_le_mul_right → jx, lt_of_lt_of_le → jy, zero_le → jz, succ_mul → jQ, le_trans → jS, add_zero → Jc, zero_add → Jj
open Bool renaming and_eq_true → jg, eq_iff_iff → jm, true_and → jJ, not_eq_true' → jO, and_assoc → Ji, not_true → Jk, false_or → Jl
open Go.Result renaming andThen_ok → jh
open List renaming getElem?_eq_getElem → ji, length_append → jj, length_singleton → jk, mem_cons_of_mem → jo, getElem_mem → jp, mem_cons_self → jq, take_succ_eq_append_getElem → jr, getElem?_take → jt, getElem?_append_left → ju, mem_of_getElem? → jw, getElem?_drop → jA, take_length → jB, getElem?_append_right → jD, drop_eq_getElem_cons → jE, eq_nil_of_length_eq_zero → jF, not_mem_nil → jG, length_map → jH, getElem?_toArray → jI, getD_eq_getElem?_getD → jK, mem_append_left → jL, getElem_of_mem → jM, mem_cons → jN, getElem?_cons_succ → jP, mem_append_right → jR, append_nil → jT, size_toArray → jV, map_append → jX, range_succ → jY, length_take → jZ, length_filter_le → Ja, map_cons → Jb, drop_eq_nil_of_le → Jd, all_eq_true → Je, length_cons → Jf, append_assoc → Jg, ext_getElem → Jh
open Go.Sem renaming run_bind → jl, run_pure → jn
open Int renaming toNat_natCast → jC
open Array renaming getElem?_append_left → jU

namespace Go.Proofs.YtmemiabhkcdgcaaGreatDoor
open Go.ChangeShapes Go.WideShapes Go.ChangeAt Go.RowKit
open Go.Fw
theorem own1 : ownKnob Tryz.prog.godebug = none := by kernel_rfl
theorem laidOut1 : laidOutB Tryz.prog = true := by kernel_rfl
theorem op5 : Opens Tryz.prog 5 (gt_IntK (kd := .u8)) rng8 := qsk Tryz.underlying5 (by kernel_rfl)
theorem op22 : Opens Tryz.prog 22 (@instList (IntK .u8) (gt_IntK (kd := .u8))) (rngL rng8) := qpo Tryz.underlying22 (by kernel_rfl) op5
set_option maxRecDepth 100000 in
theorem lawCalls {H : Type} {enc : TypeId × Value → H} {W : World} {base : Nat} {args : Array Value} {ds gs : List (DataW H)} {before : List MemPlace}
  (hval : ∀ (j : Nat) t v, Tryz.f3.params[j]? = some t → args[j]? = some v → Value.okWide Tryz.prog W .any base t v) (hW : DataW.Whole enc Tryz.prog Tryz.f3.params.toList Rows.fnTagsSpec.vars false W args.toList ds gs before) (fresh handsOn again : Bool) :
  Calls Tryz.prog 3 args W fun e W' => ∃ v, e = .returned v ∧ Rows.fnTagsSpec.post enc Tryz.prog Tryz.f3 false fresh handsOn again W args v W' := by
 have hW' := hW
 obtain ⟨p, q, hA0, hV, rfl, hfz, hnd⟩ := hW
 have hA : DataW.TrodAll enc Tryz.prog W 0 (fun _ => true) true Tryz.f3.params.toList args.toList ds p := hA0
 rw [Tryz.params3] at hA hval
 obtain ⟨v0, d0, rfl, rfl, h0⟩ := trodAll_one hA
 obtain ⟨rfl, rfl⟩ := trodVars_none hV
 obtain ⟨x0, cs0, rfl, hR0, hx0⟩ := qps (A := (@instList (IntK .u8) (gt_IntK (kd := .u8)))) op22 rfl Tryz.underlying22 (hval 0 22 v0 rfl rfl) h0
 obtain ⟨n, hn⟩ := (qpW hx0).at
 have hc := qm7 hR0  hn
 refine Calls.mono hc ?_
 rintro e W' ⟨v, rfl, hb, us, rfl, hvs⟩
 refine ⟨_, rfl, ?_⟩
 rw [qr4 hvs]
 exact qru laidOut1 (by kernel_rfl) rfl Tryz.underlying4 rfl rfl rfl rfl (by simpa using hW') hb
set_option maxRecDepth 100000 in
theorem lifted (fresh handsOn again : Bool) (os : Os) (started : os.Started) (H : Type) (enc : TypeId × Value → H) :
  ReturnsInHanded {} Tryz.checked os 3 .any (fun w args => (Rows.fnTagsSpec.pre enc Tryz.prog Tryz.f3 Rows.fnTagsRow.domain false w args ∧ laidMetH Tryz.prog Rows.fnTagsRow.laid w) ∧ sizedMet enc Tryz.prog Tryz.f3 (OpenSpec.ofChange Rows.fnTagsSpec) false w args)
   (Rows.fnTagsSpec.post enc Tryz.prog Tryz.f3 false fresh handsOn again) := by
 refine returnsInHanded_of_change_and (C := Tryz.checked) (X := fun w _ => laidMetH Tryz.prog Rows.fnTagsRow.laid w) (fun _ _ _ hh h => h.of_heap hh) own1 started (by kernel_rfl) Tryz.func3
  (ChangeSpec.witness_shaped (enc := enc) (C := Tryz.checked) (os := os) (X := fun w _ => laidMetH Tryz.prog Rows.fnTagsRow.laid w) false (World.laidAll Tryz.prog os Rows.fnTagsRow.laid) #[.slice none 0 0] 8 (World.laidAll_os _ _ _)
   (World.shaped_of_ZipB (by kernel_rfl) (by kernel_rfl)) (by kernel_rfl) (by kernel_rfl) (by kernel_rfl)
   (by rw [MakeChecks.laidMetH_plain _ _ _ (by kernel_rfl)]; exact laidMet_laidAll _ (by kernel_rfl) (by kernel_rfl))) ?_
 intro W base args ds gs before hval0 hW hc _ hL _
 exact lawCalls hval0 hW _ _ _
theorem ja : ((Rows.fnTagsRow.inPlace == Tryz.checked.prog.inPlace 3) && ((Rows.fnTagsRow.unfollowed == Tryz.checked.prog.unfollowed 3) && ((Rows.fnTagsRow.recurses == Tryz.checked.prog.recurses 3) && (Rows.fnTagsRow.named == Tryz.checked.prog.varsNamed 3)))) = true := by kernel_rfl
theorem jb : (Tryz.checked.prog.mayEnter && (Tryz.checked.prog.stopsHeard && ((Rows.fnTagsRow.lifted == Tryz.checked.prog.liftsFinal) && ((Tryz.checked.prog.make == some Rows.fnTagsRow.make) && ((Rows.fnTagsRow.plainKeys == Tryz.checked.prog.plainKeys) && (mapsRowed Tryz.checked.prog && laidOutB Tryz.checked.prog)))))) = true := by kernel_rfl
theorem jc : (namedTie Tryz.checked.prog Rows.fnTagsRow.named Rows.fnTagsSpec.vars && (Rows.fnTagsRow.wf (OpenSpec.ofChange Rows.fnTagsSpec) && (Rows.fnTagsRow.pinned == Rows.fnTagsRow.pinnedBy))) = true := by kernel_rfl
theorem andT {a b : Bool} (h : (a && b) = true) : a = true ∧ b = true := by simpa using h
theorem closed : joinedFacts Tryz.checked.prog 3 Tryz.f3 Rows.fnTagsSpec Rows.fnTagsRow = true := by
 obtain ⟨j0, h⟩ := andT ja
 obtain ⟨j1, h⟩ := andT h
 obtain ⟨j2, j3⟩ := andT h
 obtain ⟨j4, h⟩ := andT jb
 obtain ⟨j5, h⟩ := andT h
 obtain ⟨j6, h⟩ := andT h
 obtain ⟨j7, h⟩ := andT h
 obtain ⟨j8, h⟩ := andT h
 obtain ⟨j9, j10⟩ := andT h
 obtain ⟨j11, h⟩ := andT jc
 obtain ⟨j12, j13⟩ := andT h
 unfold joinedFacts
 rw [j0, j1, j2, j3, j4, j5, j6, j7, j8, j9, j10, j11, j12, j13]
 kernel_rfl
theorem named1 : Tryz.checked.prog.funcNamed Rows.fnTagsRow.func = some 3 := by kernel_rfl
theorem instance1 : Tryz.f3.isInstance Tryz.checked.prog Rows.fnTagsRow.origin Rows.fnTagsRow.targs := of_decide_eq_true (by kernel_rfl)
theorem wrapper1 : Tryz.f3.isWrapper Tryz.checked.prog Rows.fnTagsRow.wrapper Rows.fnTagsRow.mainSum := by
 unfold Func.isWrapper
 first | (rw [if_pos (by decide +kernel)]; kernel_rfl) | (rw [if_neg (by decide +kernel)]; exact ⟨rfl, rfl⟩)
theorem said_holds : Rows.FnTagsSaid :=
 OpenClaim.holds_of_wide 3 Tryz.f3 rfl rfl rfl rfl rfl rfl rfl ⟨rfl, rfl, rfl, rfl, rfl⟩ rfl rfl rfl rfl rfl named1 Tryz.func3 closed instance1 wrapper1
  (fun os started H enc _ => lifted _ _ _ os started H enc)
theorem goesNone {P : Program} (h : P.funcs.any Func.goes = false) {st : Start} (hs : st = .entering) (nm : String) : P.goesAt st nm = false := by
 subst hs
 have hf : ∀ f, P.goes f = false := fun f => by
  unfold Program.goes
  rw [h, Bool.and_false, Bool.or_false, List.any_eq_false]
  intro g _
  cases hq : P.funcs[g]? with
  | none => simp
  | some fn =>
   obtain ⟨hi, he⟩ := Array.getElem?_eq_some_iff.1 hq
   have := Array.any_eq_false.1 h g hi
   rw [he] at this
   simpa using this
 unfold Program.goesAt Program.goesFrom
 cases P.funcNamed nm with
 | none => rfl
 | some f => simp [hf f]
theorem kg0 : Tryz.checked.prog.funcs.any Func.goes = false := by kernel_rfl
theorem kg : false = Rows.fnTagsRow.goesBy Tryz.checked.prog := (goesNone kg0 rfl _).symm
theorem kw : Rows.fnTagsRow.wfByText (OpenSpec.ofChange Rows.fnTagsSpec) = true := by kernel_rfl
theorem km : Tryz.checked.prog.mainIs = some (true, "1329b9f34752655c778e9a58c7f33931ff3cebfb83ca6ad1d5c4c6581b6a87f7".toList) := by kernel_rfl
theorem kl : false = Tryz.checked.prog.looks [] := by kernel_rfl
theorem kn : Tryz.prog.funcNamed "loop.example/g00861/laws.FnTags" = some 3 := by kernel_rfl
theorem ka : ([22].all fun u => !Tryz.prog.wantsStandIn u) = true := by kernel_rfl
theorem card_holds : Rows.FnTagsCardSaid :=
 Claim7.holds_tied_plain_at .later [] [.data, .pinned] true (true, "1329b9f34752655c778e9a58c7f33931ff3cebfb83ca6ad1d5c4c6581b6a87f7") false said_holds (fun _ h => by cases h) kw (fun _ h => by cases h) fnTags_row_tie rfl ⟨rfl, rfl⟩ km rfl
  (fun f fn hf hfn => by
   obtain rfl : f = 3 := Option.some.inj (kn.symm.trans hf) |>.symm
   obtain rfl : fn = Tryz.f3 := (Option.some.inj (Tryz.func3.symm.trans hfn)).symm
   exact ⟨kl, fun j t ht => by
    rw [Tryz.params3] at ht
    have hm : t ∈ [22] := by simpa using Array.mem_of_getElem? ht
    exact (show Tryz.prog.wantsStandIn t = false by simpa using List.all_eq_true.1 ka t hm)⟩)
  kg
end Go.Proofs.YtmemiabhkcdgcaaGreatDoor
