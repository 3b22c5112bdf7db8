/- THE LAW laws.FnExactEffectOn, for every input: the call returns true, and its arguments read afterwards as they did. By a program of mine (hgen.py). -/
import Derived.Test.YtihkipojhdehnaaGreatDoorRows
import Derived.Test.YtihkipojhdehnaaGreatDoorCards
import Derived.Test.YtihkipojhdehnaaGreatDoorTie
import Derived.ProofKit
import Derived.OpenShut
import Derived.LaidMore
import Derived.Lay
import Derived.SevenTiedAt
import Derived.Test.YtihkipojhdehnaaGreatDoorT3
import Derived.Test.YtihkipojhdehnaaGreatDoorFw34

namespace Go.Proofs.YtihkipojhdehnaaGreatDoor
open Go.ChangeShapes Go.WideShapes Go.ChangeAt Go.RowKit
open Go.Fw

theorem own1 : ownKnob Tryz.prog.godebug = none := by kernel_rfl
theorem laidOut1 : laidOutB Tryz.prog = true := by kernel_rfl

theorem op9 : Opens Tryz.prog 9 instStr rngS := qp3 Tryz.underlying9 (by kernel_rfl)
theorem op2 : Opens Tryz.prog 2 instInt rngI := qp0 Tryz.underlying2 (by kernel_rfl)
theorem op4 : Opens Tryz.prog 4 instBool rngB := qpl Tryz.underlying4 (by kernel_rfl)
theorem op257 : Opens Tryz.prog 257 gt_TPin qjp :=
  Opens.imp (qc6 (hz := rfl) (f := fun x : qaC => (x.Name, x.Dir, x.Cap, x.Clock)) (fun p => ⟨p.1, p.2.1, p.2.2.1, p.2.2.2⟩) (fun _ => rfl) Tryz.underlying257 (by kernel_rfl) (qaf rfl op9 (qaf rfl op2 (qaf rfl op2 (qev rfl op4))))) (fun _ h => h)
theorem op168 : Opens Tryz.prog 168 (@instList qaC gt_TPin) (rngL qjp) := qd8 Tryz.underlying168 (by kernel_rfl) op257
theorem op34 : Opens Tryz.prog 34 (@instList Int instInt) (rngL rngI) := qd8 Tryz.underlying34 (by kernel_rfl) op2
theorem op283 : Opens Tryz.prog 283 gt_TTable qgR :=
  Opens.imp (qc6 (hz := rfl) (f := fun x : qJ => (x.Slews, x.Loads, x.Values)) (fun p => ⟨p.1, p.2.1, p.2.2⟩) (fun _ => rfl) Tryz.underlying283 (by kernel_rfl) (qaf rfl op34 (qaf rfl op34 (qev rfl op34)))) (fun _ h => h)
theorem op259 : Opens Tryz.prog 259 (@instList qJ gt_TTable) (rngL qgR) := qd8 Tryz.underlying259 (by kernel_rfl) op283
theorem op261 : Opens Tryz.prog 261 gt_TArc qjw :=
  Opens.imp (qc6 (hz := rfl) (f := fun x : qah => (x.Kind, x.From, x.To, x.Sense, x.Delay, x.Slew)) (fun p => ⟨p.1, p.2.1, p.2.2.1, p.2.2.2.1, p.2.2.2.2.1, p.2.2.2.2.2⟩) (fun _ => rfl) Tryz.underlying261 (by kernel_rfl) (qaf rfl op2 (qaf rfl op2 (qaf rfl op2 (qaf rfl op2 (qaf rfl op259 (qev rfl op259))))))) (fun _ h => h)
theorem op169 : Opens Tryz.prog 169 (@instList qah gt_TArc) (rngL qjw) := qd8 Tryz.underlying169 (by kernel_rfl) op261
theorem op171 : Opens Tryz.prog 171 gt_TCell qiG :=
  Opens.imp (qc6 (hz := rfl) (f := fun x : qE => (x.Name, x.Kind, x.Pins, x.Arcs, x.Truth, x.Leak, x.Energy)) (fun p => ⟨p.1, p.2.1, p.2.2.1, p.2.2.2.1, p.2.2.2.2.1, p.2.2.2.2.2.1, p.2.2.2.2.2.2⟩) (fun _ => rfl) Tryz.underlying171 (by kernel_rfl) (qaf rfl op9 (qaf rfl op2 (qaf rfl op168 (qaf rfl op169 (qaf rfl op34 (qaf rfl op2 (qev rfl op2)))))))) (fun _ h => h)
theorem op22 : Opens Tryz.prog 22 (@instList qE gt_TCell) (rngL qiG) := qd8 Tryz.underlying22 (by kernel_rfl) op171
theorem op24 : Opens Tryz.prog 24 gt_TLibrary qiN :=
  Opens.imp (qc6 (hz := rfl) (f := fun x : qw => x.Cells) (fun p => ⟨p⟩) (fun _ => rfl) Tryz.underlying24 (by kernel_rfl) (qev rfl op22)) (fun _ h => h)
theorem op174 : Opens Tryz.prog 174 gt_TInstance qfr :=
  Opens.imp (qc6 (hz := rfl) (f := fun x : qr => (x.Name, x.Cell, x.Nets)) (fun p => ⟨p.1, p.2.1, p.2.2⟩) (fun _ => rfl) Tryz.underlying174 (by kernel_rfl) (qaf rfl op9 (qaf rfl op2 (qev rfl op34)))) (fun _ h => h)
theorem op25 : Opens Tryz.prog 25 (@instList qr gt_TInstance) (rngL qfr) := qd8 Tryz.underlying25 (by kernel_rfl) op174
theorem op26 : Opens Tryz.prog 26 (@instList ByteArray instStr) (rngL rngS) := qd8 Tryz.underlying26 (by kernel_rfl) op9
theorem op177 : Opens Tryz.prog 177 gt_TPort qiD :=
  Opens.imp (qc6 (hz := rfl) (f := fun x : qaw => (x.Name, x.Dir, x.Net)) (fun p => ⟨p.1, p.2.1, p.2.2⟩) (fun _ => rfl) Tryz.underlying177 (by kernel_rfl) (qaf rfl op9 (qaf rfl op2 (qev rfl op2)))) (fun _ h => h)
theorem op27 : Opens Tryz.prog 27 (@instList qaw gt_TPort) (rngL qiD) := qd8 Tryz.underlying27 (by kernel_rfl) op177
theorem op29 : Opens Tryz.prog 29 gt_TDesign qjt :=
  Opens.imp (qc6 (hz := rfl) (f := fun x : ql => (x.Instances, x.Nets, x.Ports)) (fun p => ⟨p.1, p.2.1, p.2.2⟩) (fun _ => rfl) Tryz.underlying29 (by kernel_rfl) (qaf rfl op25 (qaf rfl op26 (qev rfl op27)))) (fun _ h => h)
theorem op122 : Opens Tryz.prog 122 gt_TWire qix :=
  Opens.imp (qc6 (hz := rfl) (f := fun x : qaj => (x.Parent, x.Res, x.Cap, x.Sink)) (fun p => ⟨p.1, p.2.1, p.2.2.1, p.2.2.2⟩) (fun _ => rfl) Tryz.underlying122 (by kernel_rfl) (qaf rfl op34 (qaf rfl op34 (qaf rfl op34 (qev rfl op34))))) (fun _ h => h)
theorem op30 : Opens Tryz.prog 30 (@instList qaj gt_TWire) (rngL qix) := qd8 Tryz.underlying30 (by kernel_rfl) op122
theorem op32 : Opens Tryz.prog 32 gt_TBlock qkf :=
  Opens.imp (qc6 (hz := rfl) (f := fun x : qz => (x.Library, x.Design, x.Wires)) (fun p => ⟨p.1, p.2.1, p.2.2⟩) (fun _ => rfl) Tryz.underlying32 (by kernel_rfl) (qaf rfl op24 (qaf rfl op29 (qev rfl op30)))) (fun _ h => h)
theorem op80 : Opens Tryz.prog 80 gt_TException qe0 :=
  Opens.imp (qc6 (hz := rfl) (f := fun x : qe => (x.Kind, x.Value, x.From, x.Through, x.To)) (fun p => ⟨p.1, p.2.1, p.2.2.1, p.2.2.2.1, p.2.2.2.2⟩) (fun _ => rfl) Tryz.underlying80 (by kernel_rfl) (qaf rfl op2 (qaf rfl op2 (qaf rfl op34 (qaf rfl op34 (qev rfl op34)))))) (fun _ h => h)
theorem op33 : Opens Tryz.prog 33 (@instList qe gt_TException) (rngL qe0) := qd8 Tryz.underlying33 (by kernel_rfl) op80

set_option maxRecDepth 100000 in
theorem lawCalls {H : Type} {enc : TypeId × Value → H} {W : World} {base : Nat} {args : Array Value} {ds gs : List (DataW H)} {before : List MemPlace}
    (hval : ∀ (j : Nat) t v, Tryz.f6.params[j]? = some t → args[j]? = some v → Value.okWide Tryz.prog W .any base t v) (hW : DataW.Whole enc Tryz.prog Tryz.f6.params.toList Rows.fnExactEffectOnSpec.vars false W args.toList ds gs before) (fresh handsOn again : Bool) :
    Calls Tryz.prog 6 args W fun e W' => ∃ v, e = .returned v ∧ Rows.fnExactEffectOnSpec.post enc Tryz.prog Tryz.f6 false fresh handsOn again W args v W' := by
  have hW' := hW
  obtain ⟨p, q, hA0, hV, rfl, hfz, hnd⟩ := hW
  have hA : DataW.TrodAll enc Tryz.prog W 0 (fun _ => true) true Tryz.f6.params.toList args.toList ds p := hA0
  rw [Tryz.params6] at hA hval
  obtain ⟨v0, v1, v2, d0, d1, d2, q0, q1, q2, rfl, rfl, rfl, h0, h1, h2⟩ := trodAll_three hA
  obtain ⟨rfl, rfl⟩ := trodVars_none hV
  obtain ⟨x0, cs0, rfl, hR0, hx0⟩ := qpT (A := gt_TBlock) op32 rfl Tryz.underlying32 (hval 0 32 v0 rfl rfl) h0
  obtain ⟨x1, cs1, rfl, hR1, hx1⟩ := qlD (A := (@instList qe gt_TException)) op33 rfl Tryz.underlying33 (hval 1 33 v1 rfl rfl) h1
  obtain ⟨x2, cs2, rfl, hR2, hx2⟩ := qlD (A := (@instList Int instInt)) op34 rfl Tryz.underlying34 (hval 2 34 v2 rfl rfl) h2
  obtain ⟨n, hn⟩ := (qkl hx0 hx1 hx2).at
  have hc := qi9 hR0 hR1 hR2 hn
  refine Calls.mono hc ?_
  rintro e W' ⟨v, rfl, hb, us, rfl, hvs⟩
  refine ⟨_, rfl, ?_⟩
  rw [qqr hvs]
  exact qp8 laidOut1 (by kernel_rfl) rfl Tryz.underlying4 rfl rfl rfl rfl (by simpa using hW') hb

set_option maxRecDepth 100000 in
theorem lifted (fresh handsOn again : Bool) (os : Os) (started : os.Started) (H : Type) (enc : TypeId × Value → H) :
    ReturnsInHanded {} Tryz.checked os 6 .any (fun w args => (Rows.fnExactEffectOnSpec.pre enc Tryz.prog Tryz.f6 Rows.fnExactEffectOnRow.domain false w args ∧ laidMetH Tryz.prog Rows.fnExactEffectOnRow.laid w) ∧ sizedMet enc Tryz.prog Tryz.f6 (OpenSpec.ofChange Rows.fnExactEffectOnSpec) false w args)
      (Rows.fnExactEffectOnSpec.post enc Tryz.prog Tryz.f6 false fresh handsOn again) := by
  refine returnsInHanded_of_change_and (C := Tryz.checked) (X := fun w _ => laidMetH Tryz.prog Rows.fnExactEffectOnRow.laid w) (fun _ _ _ hh h => h.of_heap hh) own1 started (by kernel_rfl) Tryz.func6
    (ChangeSpec.witness_shaped (enc := enc) (C := Tryz.checked) (os := os) (X := fun w _ => laidMetH Tryz.prog Rows.fnExactEffectOnRow.laid w) false (World.laidAll Tryz.prog os Rows.fnExactEffectOnRow.laid) #[.agg #[.slice none 0 0, .slice none 0 0, .slice none 0 0, .slice none 0 0, .slice none 0 0], .slice none 0 0, .slice none 0 0] 8 (World.laidAll_os _ _ _)
      (World.shaped_of_ZipB (by kernel_rfl) (by kernel_rfl)) (by kernel_rfl) (by kernel_rfl) (by kernel_rfl)
      (by rw [MakeChecks.laidMetH_plain _ _ _ (by kernel_rfl)]; exact laidMet_laidAll _ (by kernel_rfl) (by kernel_rfl))) ?_
  intro W base args ds gs before hval0 hW hc _ hL _
  exact lawCalls hval0 hW _ _ _

theorem j0 : (Rows.fnExactEffectOnRow.inPlace == Tryz.checked.prog.inPlace 6) = true := by kernel_rfl
theorem j1 : (Rows.fnExactEffectOnRow.unfollowed == Tryz.checked.prog.unfollowed 6) = true := by kernel_rfl
theorem j2 : (Rows.fnExactEffectOnRow.recurses == Tryz.checked.prog.recurses 6) = true := by kernel_rfl
theorem j3 : (Rows.fnExactEffectOnRow.named == Tryz.checked.prog.varsNamed 6) = true := by kernel_rfl
theorem j4 : Tryz.checked.prog.mayEnter = true := by kernel_rfl
theorem j5 : Tryz.checked.prog.stopsHeard = true := by kernel_rfl
theorem j6 : (Rows.fnExactEffectOnRow.lifted == Tryz.checked.prog.liftsFinal) = true := by kernel_rfl
theorem j7 : (Tryz.checked.prog.make == some Rows.fnExactEffectOnRow.make) = true := by kernel_rfl
theorem j8 : (Rows.fnExactEffectOnRow.plainKeys == Tryz.checked.prog.plainKeys) = true := by kernel_rfl
theorem j9 : mapsRowed Tryz.checked.prog = true := by kernel_rfl
theorem j10 : laidOutB Tryz.checked.prog = true := by kernel_rfl
theorem j11 : namedTie Tryz.checked.prog Rows.fnExactEffectOnRow.named Rows.fnExactEffectOnSpec.vars = true := by kernel_rfl
theorem j12 : Rows.fnExactEffectOnRow.wf (OpenSpec.ofChange Rows.fnExactEffectOnSpec) = true := by kernel_rfl
theorem j13 : (Rows.fnExactEffectOnRow.pinned == Rows.fnExactEffectOnRow.pinnedBy) = true := by kernel_rfl
theorem closed : joinedFacts Tryz.checked.prog 6 Tryz.f6 Rows.fnExactEffectOnSpec Rows.fnExactEffectOnRow = true := by
  unfold joinedFacts
  rw [j0, j1, j2, j3, j4, j5, j6, j7, j8, j9, j10, j11, j12, j13]
  kernel_rfl
theorem named1 : Tryz.checked.prog.funcNamed Rows.fnExactEffectOnRow.func = some 6 := by kernel_rfl
theorem instance1 : Tryz.f6.isInstance Tryz.checked.prog Rows.fnExactEffectOnRow.origin Rows.fnExactEffectOnRow.targs := of_decide_eq_true (by kernel_rfl)
theorem wrapper1 : Tryz.f6.isWrapper Tryz.checked.prog Rows.fnExactEffectOnRow.wrapper Rows.fnExactEffectOnRow.mainSum := by
  unfold Func.isWrapper
  first | (rw [if_pos (by decide +kernel)]; kernel_rfl) | (rw [if_neg (by decide +kernel)]; exact ⟨rfl, rfl⟩)

theorem said_holds : Rows.FnExactEffectOnSaid :=
  OpenClaim.holds_of_wide 6 Tryz.f6 rfl rfl rfl rfl rfl rfl rfl ⟨rfl, rfl, rfl, rfl, rfl⟩ rfl rfl rfl rfl rfl named1 Tryz.func6 closed instance1 wrapper1
    (fun os started H enc _ => lifted _ _ _ os started H enc)

theorem card_holds : Rows.FnExactEffectOnCardSaid :=
  Claim7.holds_tied_plain_at .later [] [.data, .pinned] true (true, "dcdcb1f466a722c9512d965ef6c679ce08310a47dcaef303b2c74fb2133b3734") false said_holds (fun _ h => by cases h) (by kernel_rfl) (fun _ h => by cases h) fnExactEffectOn_row_tie rfl ⟨rfl, rfl⟩ (by kernel_rfl) rfl
    (fun f fn hf hfn => by
      obtain rfl : f = 6 := Option.some.inj ((show Tryz.prog.funcNamed "loop.example/g00861/laws.FnExactEffectOn" = some 6 by kernel_rfl).symm.trans hf) |>.symm
      obtain rfl : fn = Tryz.f6 := (Option.some.inj (Tryz.func6.symm.trans hfn)).symm
      exact ⟨by kernel_rfl, fun j t ht => by
        rw [Tryz.params6] at ht
        have hm : t ∈ [32, 33, 34] := by simpa using Array.mem_of_getElem? ht
        have hall : ([32, 33, 34].all fun u => !Tryz.prog.wantsStandIn u) = true := by kernel_rfl
        exact (show Tryz.prog.wantsStandIn t = false by simpa using List.all_eq_true.1 hall t hm)⟩)
    (by kernel_rfl)

end Go.Proofs.YtihkipojhdehnaaGreatDoor
