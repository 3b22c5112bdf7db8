/- laws.FnRetime. -/
import Derived.Test.YtbmbbkjleheokaaGreatDoorQ0
import Derived.Test.YtbmbbkjleheokaaGreatDoorQ9
import Derived.Test.YtbmbbkjleheokaaGreatDoorQ4
namespace Go.Proofs.YtbmbbkjleheokaaGreatDoor
open Go.ChangeShapes Go.WideShapes Go.ChangeAt Go.RowKit
open Go.Fw
theorem op5 : Opens Tryz.prog 5 (gt_IntK (kd := .u8)) rng8 := qvM Tryz.underlying5 (by kernel_rfl)
theorem op22 : Opens Tryz.prog 22 (@instList (IntK .u8) (gt_IntK (kd := .u8))) (rngL rng8) := qsY Tryz.underlying22 (by kernel_rfl) op5
set_option maxRecDepth 100000 in
theorem lawCalls {H : Type} {enc : TypeId × Value → H} {W : World} {base : Nat} {args : Array Value} {ds gs : List (DataW H)} {before : List MemPlace}
  (hval : ∀ (j : Nat) t v, Tryz.f8.params[j]? = some t → args[j]? = some v → Value.okWide Tryz.prog W .any base t v) (hW : DataW.Whole enc Tryz.prog Tryz.f8.params.toList Rows.fnRetimeSpec.vars false W args.toList ds gs before) (fresh handsOn again : Bool) :
  Calls Tryz.prog 8 args W fun e W' => ∃ v, e = .returned v ∧ Rows.fnRetimeSpec.post enc Tryz.prog Tryz.f8 false fresh handsOn again W args v W' := by
 have hW' := hW
 obtain ⟨p, q, hA0, hV, rfl, hfz, hnd⟩ := hW
 have hA : DataW.TrodAll enc Tryz.prog W 0 (fun _ => true) true Tryz.f8.params.toList args.toList ds p := hA0
 rw [Tryz.params8] at hA hval
 obtain ⟨v0, d0, rfl, rfl, h0⟩ := trodAll_one hA
 obtain ⟨rfl, rfl⟩ := trodVars_none hV
 obtain ⟨x0, cs0, rfl, hR0, hx0⟩ := qsN (A := (@instList (IntK .u8) (gt_IntK (kd := .u8)))) op22 rfl Tryz.underlying22 (hval 0 22 v0 rfl rfl) h0
 obtain ⟨n, hn⟩ := (qrG hx0).at
 have hc := qoK hR0 hn
 refine Calls.mono hc ?_
 rintro e W' ⟨v, rfl, hb, us, rfl, hvs⟩
 refine ⟨_, rfl, ?_⟩
 rw [qvK hvs]
 exact qut lo (by kernel_rfl) rfl Tryz.underlying4 rfl rfl rfl rfl (by simpa using hW') hb
set_option maxRecDepth 100000 in
theorem lifted (fresh handsOn again : Bool) (os : Os) (started : os.Started) (H : Type) (enc : TypeId × Value → H) :
  ReturnsInHanded {} Tryz.checked os 8 .any (fun w args => (Rows.fnRetimeSpec.pre enc Tryz.prog Tryz.f8 Rows.fnRetimeRow.domain false w args ∧ laidMetH Tryz.prog Rows.fnRetimeRow.laid w) ∧ sizedMet enc Tryz.prog Tryz.f8 (OpenSpec.ofChange Rows.fnRetimeSpec) false w args)
   (Rows.fnRetimeSpec.post enc Tryz.prog Tryz.f8 false fresh handsOn again) := by
 refine returnsInHanded_of_change_and (C := Tryz.checked) (X := fun w _ => laidMetH Tryz.prog Rows.fnRetimeRow.laid w) (fun _ _ _ hh h => h.of_heap hh) own1 started (by kernel_rfl) Tryz.func8
  (ChangeSpec.witness_shaped (enc := enc) (C := Tryz.checked) (os := os) (X := fun w _ => laidMetH Tryz.prog Rows.fnRetimeRow.laid w) false (World.laidAll Tryz.prog os Rows.fnRetimeRow.laid) #[.slice none 0 0] 8 (World.laidAll_os _ _ _)
   (World.shaped_of_ZipB (by kernel_rfl) (by kernel_rfl)) (by kernel_rfl) (by kernel_rfl) (by kernel_rfl)
   (by rw [MakeChecks.laidMetH_plain _ _ _ (by kernel_rfl)]; exact laidMet_laidAll _ (by kernel_rfl) (by kernel_rfl))) ?_
 intro W base args ds gs before hval0 hW hc _ hL _
 exact lawCalls hval0 hW _ _ _
theorem said_holds : Rows.FnRetimeSaid :=
 OpenClaim.holds_of_wide 8 Tryz.f8 rfl rfl rfl rfl rfl rfl rfl ⟨rfl, rfl, rfl, rfl, rfl⟩ rfl rfl rfl rfl rfl nd Tryz.func8 closed i1 wr
  (fun os started H enc _ => lifted _ _ _ os started H enc)
theorem card_holds : Rows.FnRetimeCardSaid :=
 Claim7.holds_tied_plain_at .later [] [.data, .pinned] true (true, "3930ccb3b115761aeb5244a1e54ad2a3d672ec572ddba045e4390c27d4f60107") false said_holds (fun _ h => by cases h) kw (fun _ h => by cases h) fnRetime_row_tie rfl ⟨rfl, rfl⟩ km rfl
  (fun f fn hf hfn => by
   obtain rfl : f = 8 := Option.some.inj (kn.symm.trans hf) |>.symm
   obtain rfl : fn = Tryz.f8 := (Option.some.inj (Tryz.func8.symm.trans hfn)).symm
   exact ⟨kl, fun j t ht => by
    rw [Tryz.params8] at ht
    have hm : t ∈ [22] := by simpa using Array.mem_of_getElem? ht
    exact (show Tryz.prog.wantsStandIn t = false by simpa using List.all_eq_true.1 ka t hm)⟩)
  kg
end Go.Proofs.YtbmbbkjleheokaaGreatDoor
