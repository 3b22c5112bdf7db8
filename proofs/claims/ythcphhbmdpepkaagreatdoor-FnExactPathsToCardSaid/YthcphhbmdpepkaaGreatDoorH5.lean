/- THE LAW laws.FnExactPathsTo, for every input: the call returns true, and its arguments read afterwards as they did. By a program of mine (hgen.py). -/
import Derived.Test.YthcphhbmdpepkaaGreatDoorRows
import Derived.Test.YthcphhbmdpepkaaGreatDoorCards
import Derived.Test.YthcphhbmdpepkaaGreatDoorTie
import Derived.ProofKit
import Derived.OpenShut
import Derived.LaidMore
import Derived.Lay
import Derived.SevenTiedAt
import Derived.Test.YthcphhbmdpepkaaGreatDoorK2
import Derived.Test.YthcphhbmdpepkaaGreatDoorFw33

namespace Go.Proofs.YthcphhbmdpepkaaGreatDoor
open Go.ChangeShapes Go.WideShapes Go.ChangeAt Go.RowKit
open Go.Fw

theorem own1 : ownKnob Tryz.prog.godebug = none := by kernel_rfl
theorem laidOut1 : laidOutB Tryz.prog = true := by kernel_rfl

theorem op9 : Opens Tryz.prog 9 instStr rngS := qoM Tryz.underlying9 (by kernel_rfl)
theorem op2 : Opens Tryz.prog 2 instInt rngI := qoC Tryz.underlying2 (by kernel_rfl)
theorem op4 : Opens Tryz.prog 4 instBool rngB := qob Tryz.underlying4 (by kernel_rfl)
theorem op221 : Opens Tryz.prog 221 gt_TPin qiF :=
  Opens.imp (qdb (hz := rfl) (f := fun x : qau => (x.Name, x.Dir, x.Cap, x.Clock)) (fun p => ⟨p.1, p.2.1, p.2.2.1, p.2.2.2⟩) (fun _ => rfl) Tryz.underlying221 (by kernel_rfl) (qah rfl op9 (qah rfl op2 (qah rfl op2 (qev rfl op4))))) (fun _ h => h)
theorem op173 : Opens Tryz.prog 173 (@instList qau gt_TPin) (rngL qiF) := qd8 Tryz.underlying173 (by kernel_rfl) op221
theorem op33 : Opens Tryz.prog 33 (@instList Int instInt) (rngL rngI) := qd8 Tryz.underlying33 (by kernel_rfl) op2
theorem op247 : Opens Tryz.prog 247 gt_TTable qgc :=
  Opens.imp (qdb (hz := rfl) (f := fun x : qG => (x.Slews, x.Loads, x.Values)) (fun p => ⟨p.1, p.2.1, p.2.2⟩) (fun _ => rfl) Tryz.underlying247 (by kernel_rfl) (qah rfl op33 (qah rfl op33 (qev rfl op33)))) (fun _ h => h)
theorem op223 : Opens Tryz.prog 223 (@instList qG gt_TTable) (rngL qgc) := qd8 Tryz.underlying223 (by kernel_rfl) op247
theorem op225 : Opens Tryz.prog 225 gt_TArc qiy :=
  Opens.imp (qdb (hz := rfl) (f := fun x : qZ => (x.Kind, x.From, x.To, x.Sense, x.Delay, x.Slew)) (fun p => ⟨p.1, p.2.1, p.2.2.1, p.2.2.2.1, p.2.2.2.2.1, p.2.2.2.2.2⟩) (fun _ => rfl) Tryz.underlying225 (by kernel_rfl) (qah rfl op2 (qah rfl op2 (qah rfl op2 (qah rfl op2 (qah rfl op223 (qev rfl op223))))))) (fun _ h => h)
theorem op174 : Opens Tryz.prog 174 (@instList qZ gt_TArc) (rngL qiy) := qd8 Tryz.underlying174 (by kernel_rfl) op225
theorem op176 : Opens Tryz.prog 176 gt_TCell qhQ :=
  Opens.imp (qdb (hz := rfl) (f := fun x : qD => (x.Name, x.Kind, x.Pins, x.Arcs, x.Truth, x.Leak, x.Energy)) (fun p => ⟨p.1, p.2.1, p.2.2.1, p.2.2.2.1, p.2.2.2.2.1, p.2.2.2.2.2.1, p.2.2.2.2.2.2⟩) (fun _ => rfl) Tryz.underlying176 (by kernel_rfl) (qah rfl op9 (qah rfl op2 (qah rfl op173 (qah rfl op174 (qah rfl op33 (qah rfl op2 (qev rfl op2)))))))) (fun _ h => h)
theorem op22 : Opens Tryz.prog 22 (@instList qD gt_TCell) (rngL qhQ) := qd8 Tryz.underlying22 (by kernel_rfl) op176
theorem op24 : Opens Tryz.prog 24 gt_TLibrary qh5 :=
  Opens.imp (qdb (hz := rfl) (f := fun x : qv => x.Cells) (fun p => ⟨p⟩) (fun _ => rfl) Tryz.underlying24 (by kernel_rfl) (qev rfl op22)) (fun _ h => h)
theorem op178 : Opens Tryz.prog 178 gt_TInstance qeW :=
  Opens.imp (qdb (hz := rfl) (f := fun x : qn => (x.Name, x.Cell, x.Nets)) (fun p => ⟨p.1, p.2.1, p.2.2⟩) (fun _ => rfl) Tryz.underlying178 (by kernel_rfl) (qah rfl op9 (qah rfl op2 (qev rfl op33)))) (fun _ h => h)
theorem op25 : Opens Tryz.prog 25 (@instList qn gt_TInstance) (rngL qeW) := qd8 Tryz.underlying25 (by kernel_rfl) op178
theorem op26 : Opens Tryz.prog 26 (@instList ByteArray instStr) (rngL rngS) := qd8 Tryz.underlying26 (by kernel_rfl) op9
theorem op180 : Opens Tryz.prog 180 gt_TPort qhK :=
  Opens.imp (qdb (hz := rfl) (f := fun x : qak => (x.Name, x.Dir, x.Net)) (fun p => ⟨p.1, p.2.1, p.2.2⟩) (fun _ => rfl) Tryz.underlying180 (by kernel_rfl) (qah rfl op9 (qah rfl op2 (qev rfl op2)))) (fun _ h => h)
theorem op27 : Opens Tryz.prog 27 (@instList qak gt_TPort) (rngL qhK) := qd8 Tryz.underlying27 (by kernel_rfl) op180
theorem op29 : Opens Tryz.prog 29 gt_TDesign qiB :=
  Opens.imp (qdb (hz := rfl) (f := fun x : qj => (x.Instances, x.Nets, x.Ports)) (fun p => ⟨p.1, p.2.1, p.2.2⟩) (fun _ => rfl) Tryz.underlying29 (by kernel_rfl) (qah rfl op25 (qah rfl op26 (qev rfl op27)))) (fun _ h => h)
theorem op114 : Opens Tryz.prog 114 gt_TWire qhI :=
  Opens.imp (qdb (hz := rfl) (f := fun x : qaa => (x.Parent, x.Res, x.Cap, x.Sink)) (fun p => ⟨p.1, p.2.1, p.2.2.1, p.2.2.2⟩) (fun _ => rfl) Tryz.underlying114 (by kernel_rfl) (qah rfl op33 (qah rfl op33 (qah rfl op33 (qev rfl op33))))) (fun _ h => h)
theorem op30 : Opens Tryz.prog 30 (@instList qaa gt_TWire) (rngL qhI) := qd8 Tryz.underlying30 (by kernel_rfl) op114
theorem op32 : Opens Tryz.prog 32 gt_TBlock qjp :=
  Opens.imp (qdb (hz := rfl) (f := fun x : ql => (x.Library, x.Design, x.Wires)) (fun p => ⟨p.1, p.2.1, p.2.2⟩) (fun _ => rfl) Tryz.underlying32 (by kernel_rfl) (qah rfl op24 (qah rfl op29 (qev rfl op30)))) (fun _ h => h)

set_option maxRecDepth 100000 in
theorem lawCalls {H : Type} {enc : TypeId × Value → H} {W : World} {base : Nat} {args : Array Value} {ds gs : List (DataW H)} {before : List MemPlace}
    (hval : ∀ (j : Nat) t v, Tryz.f5.params[j]? = some t → args[j]? = some v → Value.okWide Tryz.prog W .any base t v) (hW : DataW.Whole enc Tryz.prog Tryz.f5.params.toList Rows.fnExactPathsToSpec.vars false W args.toList ds gs before) (fresh handsOn again : Bool) :
    Calls Tryz.prog 5 args W fun e W' => ∃ v, e = .returned v ∧ Rows.fnExactPathsToSpec.post enc Tryz.prog Tryz.f5 false fresh handsOn again W args v W' := by
  have hW' := hW
  obtain ⟨p, q, hA0, hV, rfl, hfz, hnd⟩ := hW
  have hA : DataW.TrodAll enc Tryz.prog W 0 (fun _ => true) true Tryz.f5.params.toList args.toList ds p := hA0
  rw [Tryz.params5] at hA hval
  obtain ⟨v0, v1, d0, d1, q0, q1, rfl, rfl, rfl, h0, h1⟩ := trodAll_two hA
  obtain ⟨rfl, rfl⟩ := trodVars_none hV
  obtain ⟨x0, cs0, rfl, hR0, hx0⟩ := qph (A := gt_TBlock) op32 rfl Tryz.underlying32 (hval 0 32 v0 rfl rfl) h0
  obtain ⟨x1, cs1, rfl, hR1, hx1⟩ := qoJ (A := instInt) op2 rfl Tryz.underlying2 (hval 1 2 v1 rfl rfl) h1
  obtain rfl : cs1 = [.int .i64 x1] := hR1
  obtain ⟨n, hn⟩ := (qnx hx0 hx1).at
  have hc := qiG hR0 hn
  refine Calls.mono hc ?_
  rintro e W' ⟨v, rfl, hb, us, rfl, hvs⟩
  refine ⟨_, rfl, ?_⟩
  rw [qp2 hvs]
  exact qpm laidOut1 (by kernel_rfl) rfl Tryz.underlying4 rfl rfl rfl rfl (by simpa using hW') hb

set_option maxRecDepth 100000 in
theorem lifted (fresh handsOn again : Bool) (os : Os) (started : os.Started) (H : Type) (enc : TypeId × Value → H) :
    ReturnsInHanded {} Tryz.checked os 5 .any (fun w args => (Rows.fnExactPathsToSpec.pre enc Tryz.prog Tryz.f5 Rows.fnExactPathsToRow.domain false w args ∧ laidMetH Tryz.prog Rows.fnExactPathsToRow.laid w) ∧ sizedMet enc Tryz.prog Tryz.f5 (OpenSpec.ofChange Rows.fnExactPathsToSpec) false w args)
      (Rows.fnExactPathsToSpec.post enc Tryz.prog Tryz.f5 false fresh handsOn again) := by
  refine returnsInHanded_of_change_and (C := Tryz.checked) (X := fun w _ => laidMetH Tryz.prog Rows.fnExactPathsToRow.laid w) (fun _ _ _ hh h => h.of_heap hh) own1 started (by kernel_rfl) Tryz.func5
    (ChangeSpec.witness_shaped (enc := enc) (C := Tryz.checked) (os := os) (X := fun w _ => laidMetH Tryz.prog Rows.fnExactPathsToRow.laid w) false (World.laidAll Tryz.prog os Rows.fnExactPathsToRow.laid) #[.agg #[.slice none 0 0, .slice none 0 0, .slice none 0 0, .slice none 0 0, .slice none 0 0], .int .i64 0] 8 (World.laidAll_os _ _ _)
      (World.shaped_of_ZipB (by kernel_rfl) (by kernel_rfl)) (by kernel_rfl) (by kernel_rfl) (by kernel_rfl)
      (by rw [MakeChecks.laidMetH_plain _ _ _ (by kernel_rfl)]; exact laidMet_laidAll _ (by kernel_rfl) (by kernel_rfl))) ?_
  intro W base args ds gs before hval0 hW hc _ hL _
  exact lawCalls hval0 hW _ _ _

theorem said_holds : Rows.FnExactPathsToSaid :=
  OpenClaim.holds_of_wide 5 Tryz.f5 rfl rfl rfl rfl rfl rfl rfl ⟨rfl, rfl, rfl, rfl, rfl⟩ rfl rfl rfl rfl rfl (by kernel_rfl) Tryz.func5 (by kernel_rfl)
    (of_decide_eq_true (by kernel_rfl)) (by unfold Func.isWrapper; first | (rw [if_pos (by decide +kernel)]; kernel_rfl) | (rw [if_neg (by decide +kernel)]; exact ⟨rfl, rfl⟩))
    (fun os started H enc _ => lifted _ _ _ os started H enc)

theorem card_holds : Rows.FnExactPathsToCardSaid :=
  Claim7.holds_tied_plain_at .later [] [.data, .pinned] true (true, "f9decd3b936936955a915587fb4773c6e1a8f7611a93f81548b22b0ce3c75ae4") false said_holds (fun _ h => by cases h) (by kernel_rfl) (fun _ h => by cases h) fnExactPathsTo_row_tie rfl ⟨rfl, rfl⟩ (by kernel_rfl) rfl
    (fun f fn hf hfn => by
      obtain rfl : f = 5 := Option.some.inj ((show Tryz.prog.funcNamed "loop.example/g00861/laws.FnExactPathsTo" = some 5 by kernel_rfl).symm.trans hf) |>.symm
      obtain rfl : fn = Tryz.f5 := (Option.some.inj (Tryz.func5.symm.trans hfn)).symm
      exact ⟨by kernel_rfl, fun j t ht => by
        rw [Tryz.params5] at ht
        have hm : t ∈ [32, 2] := by simpa using Array.mem_of_getElem? ht
        have hall : ([32, 2].all fun u => !Tryz.prog.wantsStandIn u) = true := by kernel_rfl
        exact (show Tryz.prog.wantsStandIn t = false by simpa using List.all_eq_true.1 hall t hm)⟩)
    (by kernel_rfl)

end Go.Proofs.YthcphhbmdpepkaaGreatDoor
