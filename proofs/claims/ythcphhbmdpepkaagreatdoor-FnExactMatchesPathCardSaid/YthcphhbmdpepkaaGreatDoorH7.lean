/- THE LAW laws.FnExactMatchesPath, for every input: the call returns true, and its arguments read afterwards as they did. By a program of mine (hgen.py). -/
import Derived.Test.YthcphhbmdpepkaaGreatDoorRows
import Derived.Test.YthcphhbmdpepkaaGreatDoorCards
import Derived.Test.YthcphhbmdpepkaaGreatDoorTie
import Derived.ProofKit
import Derived.OpenShut
import Derived.LaidMore
import Derived.Lay
import Derived.SevenTiedAt
import Derived.Test.YthcphhbmdpepkaaGreatDoorI2
import Derived.Test.YthcphhbmdpepkaaGreatDoorFw33

namespace Go.Proofs.YthcphhbmdpepkaaGreatDoor
open Go.ChangeShapes Go.WideShapes Go.ChangeAt Go.RowKit
open Go.Fw

theorem own1 : ownKnob Tryz.prog.godebug = none := by kernel_rfl
theorem laidOut1 : laidOutB Tryz.prog = true := by kernel_rfl

theorem op9 : Opens Tryz.prog 9 instStr rngS := qoO Tryz.underlying9 (by kernel_rfl)
theorem op2 : Opens Tryz.prog 2 instInt rngI := qoY Tryz.underlying2 (by kernel_rfl)
theorem op4 : Opens Tryz.prog 4 instBool rngB := qoo Tryz.underlying4 (by kernel_rfl)
theorem op221 : Opens Tryz.prog 221 gt_TPin qiI :=
  Opens.imp (qcN (hz := rfl) (f := fun x : qaq => (x.Name, x.Dir, x.Cap, x.Clock)) (fun p => ⟨p.1, p.2.1, p.2.2.1, p.2.2.2⟩) (fun _ => rfl) Tryz.underlying221 (by kernel_rfl) (qZ rfl op9 (qZ rfl op2 (qZ rfl op2 (qdX rfl op4))))) (fun _ h => h)
theorem op173 : Opens Tryz.prog 173 (@instList qaq gt_TPin) (rngL qiI) := qeb Tryz.underlying173 (by kernel_rfl) op221
theorem op33 : Opens Tryz.prog 33 (@instList Int instInt) (rngL rngI) := qeb Tryz.underlying33 (by kernel_rfl) op2
theorem op247 : Opens Tryz.prog 247 gt_TTable qgj :=
  Opens.imp (qcN (hz := rfl) (f := fun x : qF => (x.Slews, x.Loads, x.Values)) (fun p => ⟨p.1, p.2.1, p.2.2⟩) (fun _ => rfl) Tryz.underlying247 (by kernel_rfl) (qZ rfl op33 (qZ rfl op33 (qdX rfl op33)))) (fun _ h => h)
theorem op223 : Opens Tryz.prog 223 (@instList qF gt_TTable) (rngL qgj) := qeb Tryz.underlying223 (by kernel_rfl) op247
theorem op225 : Opens Tryz.prog 225 gt_TArc qiM :=
  Opens.imp (qcN (hz := rfl) (f := fun x : qac => (x.Kind, x.From, x.To, x.Sense, x.Delay, x.Slew)) (fun p => ⟨p.1, p.2.1, p.2.2.1, p.2.2.2.1, p.2.2.2.2.1, p.2.2.2.2.2⟩) (fun _ => rfl) Tryz.underlying225 (by kernel_rfl) (qZ rfl op2 (qZ rfl op2 (qZ rfl op2 (qZ rfl op2 (qZ rfl op223 (qdX rfl op223))))))) (fun _ h => h)
theorem op174 : Opens Tryz.prog 174 (@instList qac gt_TArc) (rngL qiM) := qeb Tryz.underlying174 (by kernel_rfl) op225
theorem op176 : Opens Tryz.prog 176 gt_TCell qhH :=
  Opens.imp (qcN (hz := rfl) (f := fun x : qD => (x.Name, x.Kind, x.Pins, x.Arcs, x.Truth, x.Leak, x.Energy)) (fun p => ⟨p.1, p.2.1, p.2.2.1, p.2.2.2.1, p.2.2.2.2.1, p.2.2.2.2.2.1, p.2.2.2.2.2.2⟩) (fun _ => rfl) Tryz.underlying176 (by kernel_rfl) (qZ rfl op9 (qZ rfl op2 (qZ rfl op173 (qZ rfl op174 (qZ rfl op33 (qZ rfl op2 (qdX rfl op2)))))))) (fun _ h => h)
theorem op22 : Opens Tryz.prog 22 (@instList qD gt_TCell) (rngL qhH) := qeb Tryz.underlying22 (by kernel_rfl) op176
theorem op24 : Opens Tryz.prog 24 gt_TLibrary qh1 :=
  Opens.imp (qcN (hz := rfl) (f := fun x : qt => x.Cells) (fun p => ⟨p⟩) (fun _ => rfl) Tryz.underlying24 (by kernel_rfl) (qdX rfl op22)) (fun _ h => h)
theorem op178 : Opens Tryz.prog 178 gt_TInstance qe0 :=
  Opens.imp (qcN (hz := rfl) (f := fun x : qp => (x.Name, x.Cell, x.Nets)) (fun p => ⟨p.1, p.2.1, p.2.2⟩) (fun _ => rfl) Tryz.underlying178 (by kernel_rfl) (qZ rfl op9 (qZ rfl op2 (qdX rfl op33)))) (fun _ h => h)
theorem op25 : Opens Tryz.prog 25 (@instList qp gt_TInstance) (rngL qe0) := qeb Tryz.underlying25 (by kernel_rfl) op178
theorem op26 : Opens Tryz.prog 26 (@instList ByteArray instStr) (rngL rngS) := qeb Tryz.underlying26 (by kernel_rfl) op9
theorem op180 : Opens Tryz.prog 180 gt_TPort qhR :=
  Opens.imp (qcN (hz := rfl) (f := fun x : qaj => (x.Name, x.Dir, x.Net)) (fun p => ⟨p.1, p.2.1, p.2.2⟩) (fun _ => rfl) Tryz.underlying180 (by kernel_rfl) (qZ rfl op9 (qZ rfl op2 (qdX rfl op2)))) (fun _ h => h)
theorem op27 : Opens Tryz.prog 27 (@instList qaj gt_TPort) (rngL qhR) := qeb Tryz.underlying27 (by kernel_rfl) op180
theorem op29 : Opens Tryz.prog 29 gt_TDesign qiG :=
  Opens.imp (qcN (hz := rfl) (f := fun x : qk => (x.Instances, x.Nets, x.Ports)) (fun p => ⟨p.1, p.2.1, p.2.2⟩) (fun _ => rfl) Tryz.underlying29 (by kernel_rfl) (qZ rfl op25 (qZ rfl op26 (qdX rfl op27)))) (fun _ h => h)
theorem op114 : Opens Tryz.prog 114 gt_TWire qhP :=
  Opens.imp (qcN (hz := rfl) (f := fun x : qad => (x.Parent, x.Res, x.Cap, x.Sink)) (fun p => ⟨p.1, p.2.1, p.2.2.1, p.2.2.2⟩) (fun _ => rfl) Tryz.underlying114 (by kernel_rfl) (qZ rfl op33 (qZ rfl op33 (qZ rfl op33 (qdX rfl op33))))) (fun _ h => h)
theorem op30 : Opens Tryz.prog 30 (@instList qad gt_TWire) (rngL qhP) := qeb Tryz.underlying30 (by kernel_rfl) op114
theorem op32 : Opens Tryz.prog 32 gt_TBlock qjn :=
  Opens.imp (qcN (hz := rfl) (f := fun x : qy => (x.Library, x.Design, x.Wires)) (fun p => ⟨p.1, p.2.1, p.2.2⟩) (fun _ => rfl) Tryz.underlying32 (by kernel_rfl) (qZ rfl op24 (qZ rfl op29 (qdX rfl op30)))) (fun _ h => h)
theorem op35 : Opens Tryz.prog 35 gt_TException qg8 :=
  Opens.imp (qcN (hz := rfl) (f := fun x : qm => (x.Kind, x.Value, x.From, x.Through, x.To)) (fun p => ⟨p.1, p.2.1, p.2.2.1, p.2.2.2.1, p.2.2.2.2⟩) (fun _ => rfl) Tryz.underlying35 (by kernel_rfl) (qZ rfl op2 (qZ rfl op2 (qZ rfl op33 (qZ rfl op33 (qdX rfl op33)))))) (fun _ h => h)

set_option maxRecDepth 100000 in
theorem lawCalls {H : Type} {enc : TypeId × Value → H} {W : World} {base : Nat} {args : Array Value} {ds gs : List (DataW H)} {before : List MemPlace}
    (hval : ∀ (j : Nat) t v, Tryz.f7.params[j]? = some t → args[j]? = some v → Value.okWide Tryz.prog W .any base t v) (hW : DataW.Whole enc Tryz.prog Tryz.f7.params.toList Rows.fnExactMatchesPathSpec.vars false W args.toList ds gs before) (fresh handsOn again : Bool) :
    Calls Tryz.prog 7 args W fun e W' => ∃ v, e = .returned v ∧ Rows.fnExactMatchesPathSpec.post enc Tryz.prog Tryz.f7 false fresh handsOn again W args v W' := by
  have hW' := hW
  obtain ⟨p, q, hA0, hV, rfl, hfz, hnd⟩ := hW
  have hA : DataW.TrodAll enc Tryz.prog W 0 (fun _ => true) true Tryz.f7.params.toList args.toList ds p := hA0
  rw [Tryz.params7] at hA hval
  obtain ⟨v0, v1, v2, d0, d1, d2, q0, q1, q2, rfl, rfl, rfl, h0, h1, h2⟩ := trodAll_three hA
  obtain ⟨rfl, rfl⟩ := trodVars_none hV
  obtain ⟨x0, cs0, rfl, hR0, hx0⟩ := qmD (A := gt_TBlock) op32 rfl Tryz.underlying32 (hval 0 32 v0 rfl rfl) h0
  obtain ⟨x1, cs1, rfl, hR1, hx1⟩ := qmD (A := gt_TException) op35 rfl Tryz.underlying35 (hval 1 35 v1 rfl rfl) h1
  obtain ⟨x2, cs2, rfl, hR2, hx2⟩ := qne (A := (@instList Int instInt)) op33 rfl Tryz.underlying33 (hval 2 33 v2 rfl rfl) h2
  obtain ⟨n, hn⟩ := (qkR hx0 hx1 hx2).at
  have hc := qhG hR0 hR1 hR2 hn
  refine Calls.mono hc ?_
  rintro e W' ⟨v, rfl, hb, us, rfl, hvs⟩
  refine ⟨_, rfl, ?_⟩
  rw [qpH hvs]
  exact qo3 laidOut1 (by kernel_rfl) rfl Tryz.underlying4 rfl rfl rfl rfl (by simpa using hW') hb

set_option maxRecDepth 100000 in
theorem lifted (fresh handsOn again : Bool) (os : Os) (started : os.Started) (H : Type) (enc : TypeId × Value → H) :
    ReturnsInHanded {} Tryz.checked os 7 .any (fun w args => (Rows.fnExactMatchesPathSpec.pre enc Tryz.prog Tryz.f7 Rows.fnExactMatchesPathRow.domain false w args ∧ laidMetH Tryz.prog Rows.fnExactMatchesPathRow.laid w) ∧ sizedMet enc Tryz.prog Tryz.f7 (OpenSpec.ofChange Rows.fnExactMatchesPathSpec) false w args)
      (Rows.fnExactMatchesPathSpec.post enc Tryz.prog Tryz.f7 false fresh handsOn again) := by
  refine returnsInHanded_of_change_and (C := Tryz.checked) (X := fun w _ => laidMetH Tryz.prog Rows.fnExactMatchesPathRow.laid w) (fun _ _ _ hh h => h.of_heap hh) own1 started (by kernel_rfl) Tryz.func7
    (ChangeSpec.witness_shaped (enc := enc) (C := Tryz.checked) (os := os) (X := fun w _ => laidMetH Tryz.prog Rows.fnExactMatchesPathRow.laid w) false (World.laidAll Tryz.prog os Rows.fnExactMatchesPathRow.laid) #[.agg #[.slice none 0 0, .slice none 0 0, .slice none 0 0, .slice none 0 0, .slice none 0 0], .agg #[.int .i64 0, .int .i64 0, .slice none 0 0, .slice none 0 0, .slice none 0 0], .slice none 0 0] 8 (World.laidAll_os _ _ _)
      (World.shaped_of_ZipB (by kernel_rfl) (by kernel_rfl)) (by kernel_rfl) (by kernel_rfl) (by kernel_rfl)
      (by rw [MakeChecks.laidMetH_plain _ _ _ (by kernel_rfl)]; exact laidMet_laidAll _ (by kernel_rfl) (by kernel_rfl))) ?_
  intro W base args ds gs before hval0 hW hc _ hL _
  exact lawCalls hval0 hW _ _ _

theorem said_holds : Rows.FnExactMatchesPathSaid :=
  OpenClaim.holds_of_wide 7 Tryz.f7 rfl rfl rfl rfl rfl rfl rfl ⟨rfl, rfl, rfl, rfl, rfl⟩ rfl rfl rfl rfl rfl (by kernel_rfl) Tryz.func7 (by kernel_rfl)
    (of_decide_eq_true (by kernel_rfl)) (by unfold Func.isWrapper; first | (rw [if_pos (by decide +kernel)]; kernel_rfl) | (rw [if_neg (by decide +kernel)]; exact ⟨rfl, rfl⟩))
    (fun os started H enc _ => lifted _ _ _ os started H enc)

theorem card_holds : Rows.FnExactMatchesPathCardSaid :=
  Claim7.holds_tied_plain_at .later [] [.data, .pinned] true (true, "f9decd3b936936955a915587fb4773c6e1a8f7611a93f81548b22b0ce3c75ae4") false said_holds (fun _ h => by cases h) (by kernel_rfl) (fun _ h => by cases h) fnExactMatchesPath_row_tie rfl ⟨rfl, rfl⟩ (by kernel_rfl) rfl
    (fun f fn hf hfn => by
      obtain rfl : f = 7 := Option.some.inj ((show Tryz.prog.funcNamed "loop.example/g00861/laws.FnExactMatchesPath" = some 7 by kernel_rfl).symm.trans hf) |>.symm
      obtain rfl : fn = Tryz.f7 := (Option.some.inj (Tryz.func7.symm.trans hfn)).symm
      exact ⟨by kernel_rfl, fun j t ht => by
        rw [Tryz.params7] at ht
        have hm : t ∈ [32, 35, 33] := by simpa using Array.mem_of_getElem? ht
        have hall : ([32, 35, 33].all fun u => !Tryz.prog.wantsStandIn u) = true := by kernel_rfl
        exact (show Tryz.prog.wantsStandIn t = false by simpa using List.all_eq_true.1 hall t hm)⟩)
    (by kernel_rfl)

end Go.Proofs.YthcphhbmdpepkaaGreatDoor
