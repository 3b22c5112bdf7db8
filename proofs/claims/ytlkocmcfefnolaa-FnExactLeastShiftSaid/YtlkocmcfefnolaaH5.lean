/- THE LAW laws.FnExactLeastShift, for every input: the call returns true, and its argument reads afterwards as it did. No condition. -/
import Derived.Test.YtlkocmcfefnolaaRows
import Derived.Test.YtlkocmcfefnolaaN5
namespace Go.Proofs.Ytlkocmcfefnolaa
open Go.ChangeShapes Go.WideShapes Go.ChangeAt Go.RowKit
open Go.Fw

theorem own1 : ownKnob Try.prog.godebug = none := by kernel_rfl
theorem laidOut1 : laidOutB Try.prog = true := by kernel_rfl

theorem opens2 : Opens Try.prog 2 instInt rngI := opens_int Try.underlying2 (by kernel_rfl)
theorem opensLatch : Opens Try.prog 78 gt_TLatch rng_Latch :=
  Opens.imp (opens_struct (hz := rfl) (f := fun x : TLatch => (x.Open, x.Close)) (fun p => ⟨p.1, p.2⟩) (fun _ => rfl) Try.underlying78 (by kernel_rfl) (opensF_cons rfl opens2 (opensF_one rfl opens2))) (fun _ h => h)
theorem opensLink : Opens Try.prog 80 gt_TLatchLink rng_LatchLink :=
  Opens.imp (opens_struct (hz := rfl) (f := fun x : TLatchLink => (x.From, x.To, x.Delay, x.Shift)) (fun p => ⟨p.1, p.2.1, p.2.2.1, p.2.2.2⟩) (fun _ => rfl) Try.underlying80 (by kernel_rfl)
    (opensF_cons rfl opens2 (opensF_cons rfl opens2 (opensF_cons rfl opens2 (opensF_one rfl opens2))))) (fun _ h => h)
theorem opens34 : Opens Try.prog 34 gt_TLatchSystem rng_LatchSystem :=
  Opens.imp (opens_struct (hz := rfl) (f := fun x : TLatchSystem => (x.Latches, x.Links)) (fun p => ⟨p.1, p.2⟩) (fun _ => rfl) Try.underlying34 (by kernel_rfl)
    (opensF_cons rfl (opens_slice Try.underlying31 (by kernel_rfl) opensLatch) (opensF_one rfl (opens_slice Try.underlying32 (by kernel_rfl) opensLink)))) (fun _ h => h)

set_option maxRecDepth 100000 in
theorem lifted (fresh handsOn again : Bool) (os : Os) (started : os.Started) (H : Type) (enc : TypeId × Value → H) :
    ReturnsInHanded {} Try.checked os 7 .any (Rows.fnExactLeastShiftSpec.pre6 enc Try.prog Try.f7 Rows.fnExactLeastShiftRow.domain false) (Rows.fnExactLeastShiftSpec.post enc Try.prog Try.f7 false fresh handsOn again) := by
  refine returnsInHanded_of_change (C := Try.checked) own1 started (by kernel_rfl) Try.func7
    (ChangeSpec.witness6 (enc := enc) (C := Try.checked) false ⟨#[], #[.agg #[.slice none 0 0, .slice none 0 0]], []⟩ 8 (by kernel_rfl) (by kernel_rfl) (by kernel_rfl) (by kernel_rfl)) ?_
  intro W base args ds gs before hval0 hW hcnd _
  have hval : ∀ (j : Nat) t v, Try.f7.params[j]? = some t → args[j]? = some v → Value.okWide Try.prog W .any base t v := hval0
  have hW' := hW
  obtain ⟨p, q, hA0, hV, rfl, hfz, hnd⟩ := hW
  have hA : DataW.TrodAll enc Try.prog W 0 (fun _ => true) true Try.f7.params.toList args.toList ds p := hA0
  rw [Try.params7] at hA hval
  obtain ⟨v0, d0, rfl, rfl, h0⟩ := trodAll_one hA
  obtain ⟨rfl, rfl⟩ := trodVars_none hV
  have hw0 := hval 0 34 v0 rfl rfl
  unfold Value.okWide at hw0
  rw [Try.underlying34] at hw0
  obtain ⟨cs, rfl, _⟩ := hw0
  obtain ⟨fuel, hf⟩ := h0
  obtain ⟨x, hR, hx⟩ := opens34.2 hf
  obtain ⟨n, hn⟩ := (law_LeastShift hx).at
  have hc := laws_FnExactLeastShift_ok hR hn
  refine Calls.mono hc ?_
  rintro e W' ⟨v, rfl, hb, us, rfl, hvs⟩
  refine ⟨_, rfl, ?_⟩
  rw [tup_bool hvs]
  exact law_post laidOut1 (by kernel_rfl) (of_decide_eq_true (by kernel_rfl)) Try.params7 rfl Try.underlying4 rfl rfl rfl rfl (by simpa using hW') hb

theorem leastShift_holds : Rows.FnExactLeastShiftSaid :=
  OpenClaim.holds_of_wide 7 Try.f7 rfl rfl rfl rfl rfl rfl rfl ⟨rfl, rfl, rfl, rfl, rfl⟩ rfl rfl rfl rfl rfl (by kernel_rfl) Try.func7 (by kernel_rfl)
    (of_decide_eq_true (by kernel_rfl)) (by unfold Func.isWrapper; first | (rw [if_pos (by decide +kernel)]; kernel_rfl) | (rw [if_neg (by decide +kernel)]; exact ⟨rfl, rfl⟩))
    (fun os started H enc _ => lifted _ _ _ os started H enc)

end Go.Proofs.Ytlkocmcfefnolaa
