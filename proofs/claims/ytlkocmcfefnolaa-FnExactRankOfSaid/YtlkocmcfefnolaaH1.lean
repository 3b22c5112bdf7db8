/- THE LAW laws.FnExactRankOf, for every input: the call returns true, and its argument reads afterwards as it did. No condition. -/
import Derived.Test.YtlkocmcfefnolaaRows
import Derived.Test.YtlkocmcfefnolaaP1
namespace Go.Proofs.Ytlkocmcfefnolaa
open Go.ChangeShapes Go.WideShapes Go.ChangeAt Go.RowKit
open Go.Fw

theorem own1 : ownKnob Try.prog.godebug = none := by kernel_rfl
theorem laidOut1 : laidOutB Try.prog = true := by kernel_rfl

theorem opens2 : Opens Try.prog 2 instInt rngI := opens_int Try.underlying2 (by kernel_rfl)
theorem opens22 : Opens Try.prog 22 (@instList Int instInt) (rngL rngI) := opens_slice Try.underlying22 (by kernel_rfl) opens2
theorem opens24 : Opens Try.prog 24 gt_TException rngExc :=
  Opens.imp (opens_struct (hz := rfl) (f := fun x : TException => (x.Kind, x.Value, x.From, x.Through, x.To)) (fun p => ⟨p.1, p.2.1, p.2.2.1, p.2.2.2.1, p.2.2.2.2⟩) (fun _ => rfl) Try.underlying24 (by kernel_rfl)
    (opensF_cons rfl opens2 (opensF_cons rfl opens2 (opensF_cons rfl opens22 (opensF_cons rfl opens22 (opensF_one rfl opens22)))))) (fun _ h => h)

set_option maxRecDepth 100000 in
theorem rankOf_lifted (fresh handsOn again : Bool) (os : Os) (started : os.Started) (H : Type) (enc : TypeId × Value → H) :
    ReturnsInHanded {} Try.checked os 3 .any (Rows.fnExactRankOfSpec.pre6 enc Try.prog Try.f3 Rows.fnExactRankOfRow.domain false) (Rows.fnExactRankOfSpec.post enc Try.prog Try.f3 false fresh handsOn again) := by
  refine returnsInHanded_of_change (C := Try.checked) own1 started (by kernel_rfl) Try.func3
    (ChangeSpec.witness6 (enc := enc) (C := Try.checked) false ⟨#[], #[.agg #[.int .i64 0, .int .i64 0, .slice none 0 0, .slice none 0 0, .slice none 0 0]], []⟩ 8 (by kernel_rfl) (by kernel_rfl) (by kernel_rfl) (by kernel_rfl)) ?_
  intro W base args ds gs before hval0 hW hcnd _
  have hval : ∀ (j : Nat) t v, Try.f3.params[j]? = some t → args[j]? = some v → Value.okWide Try.prog W .any base t v := hval0
  have hW' := hW
  obtain ⟨p, q, hA0, hV, rfl, hfz, hnd⟩ := hW
  have hA : DataW.TrodAll enc Try.prog W 0 (fun _ => true) true Try.f3.params.toList args.toList ds p := hA0
  rw [Try.params3] at hA hval
  obtain ⟨v0, d0, rfl, rfl, h0⟩ := trodAll_one hA
  obtain ⟨rfl, rfl⟩ := trodVars_none hV
  have hw0 := hval 0 24 v0 rfl rfl
  unfold Value.okWide at hw0
  rw [Try.underlying24] at hw0
  obtain ⟨cs, rfl, _⟩ := hw0
  obtain ⟨fuel, hf⟩ := h0
  obtain ⟨x, hR, hx⟩ := opens24.2 hf
  obtain ⟨n, hn⟩ := (law_rankOf hx).at
  have hc := laws_FnExactRankOf_ok hR hn
  refine Calls.mono hc ?_
  rintro e W' ⟨v, rfl, hb, us, rfl, hvs⟩
  refine ⟨_, rfl, ?_⟩
  rw [tup_bool hvs]
  exact law_post laidOut1 (by kernel_rfl) (of_decide_eq_true (by kernel_rfl)) Try.params3 rfl Try.underlying4 rfl rfl rfl rfl (by simpa using hW') hb

theorem rankOf_holds : Rows.FnExactRankOfSaid :=
  OpenClaim.holds_of_wide 3 Try.f3 rfl rfl rfl rfl rfl rfl rfl ⟨rfl, rfl, rfl, rfl, rfl⟩ rfl rfl rfl rfl rfl (by kernel_rfl) Try.func3 (by kernel_rfl)
    (of_decide_eq_true (by kernel_rfl)) (by unfold Func.isWrapper; first | (rw [if_pos (by decide +kernel)]; kernel_rfl) | (rw [if_neg (by decide +kernel)]; exact ⟨rfl, rfl⟩))
    (fun os started H enc _ => rankOf_lifted _ _ _ os started H enc)

end Go.Proofs.Ytlkocmcfefnolaa
