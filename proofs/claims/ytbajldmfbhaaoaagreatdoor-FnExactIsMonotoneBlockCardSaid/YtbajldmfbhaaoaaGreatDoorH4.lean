/- THE LAW laws.FnExactIsMonotoneBlock, for every input: the call returns true, and its arguments read afterwards as they did. By a program of mine (hgen.py). -/
import Derived.Test.YtbajldmfbhaaoaaGreatDoorRows
import Derived.Test.YtbajldmfbhaaoaaGreatDoorCards
import Derived.Test.YtbajldmfbhaaoaaGreatDoorTie
import Derived.ProofKit
import Derived.OpenShut
import Derived.LaidMore
import Derived.Lay
import Derived.SevenTiedAt
import Derived.Test.YtbajldmfbhaaoaaGreatDoorY1
import Derived.Test.YtbajldmfbhaaoaaGreatDoorA2
open Option renaming bind_some → jd
open Nat renaming le_refl → je, lt_of_lt_of_le → jp, mul_le_mul_right → jq, le_of_ble_eq_true → jr, succ_mul → jx
open Go.Result renaming andThen_ok → jf
open Bool renaming and_eq_true → jg, eq_iff_iff → ji, true_and → jy, not_eq_true' → jA
open List renaming getElem?_eq_getElem → jh, length_append → jm, getElem_mem → jn, mem_cons_of_mem → jo, getElem?_append_left → js, mem_cons_self → jt, getElem?_append_right → ju, eq_nil_of_length_eq_zero → jv, getElem?_take → jw, getElem?_toArray → jz, size_toArray → jB, append_assoc → jC, map_cons → jD
open Go.Sem renaming run_bind → jj, run_pure → jk

namespace Go.Proofs.YtbajldmfbhaaoaaGreatDoor
open Go.ChangeShapes Go.WideShapes Go.ChangeAt Go.RowKit
open Go.Fw
theorem own1 : ownKnob Tryz.prog.godebug = none := by kernel_rfl
theorem laidOut1 : laidOutB Tryz.prog = true := by kernel_rfl
theorem op9 : Opens Tryz.prog 9 instStr rngS := qme Tryz.underlying9 (by kernel_rfl)
theorem op2 : Opens Tryz.prog 2 instInt rngI := qlZ Tryz.underlying2 (by kernel_rfl)
theorem op4 : Opens Tryz.prog 4 instBool rngB := qlD Tryz.underlying4 (by kernel_rfl)
theorem op327 : Opens Tryz.prog 327 gt_TPin qgu :=
 Opens.imp (qbm (hz := rfl) (f := fun x : qI => (x.Ap, x.Bf, x.Bg, x.Av)) (fun p => ⟨p.1, p.2.1, p.2.2.1, p.2.2.2⟩) (fun _ => rfl) Tryz.underlying327 (by kernel_rfl) (qC rfl op9 (qC rfl op2 (qC rfl op2 (qcr rfl op4))))) (fun _ h => h)
theorem op202 : Opens Tryz.prog 202 (@instList qI gt_TPin) (rngL qgu) := qcg Tryz.underlying202 (by kernel_rfl) op327
theorem op35 : Opens Tryz.prog 35 (@instList Int instInt) (rngL rngI) := qcg Tryz.underlying35 (by kernel_rfl) op2
theorem op386 : Opens Tryz.prog 386 gt_TTable qd4 :=
 Opens.imp (qbm (hz := rfl) (f := fun x : qb => (x.Ay, x.Aq, x.Ab)) (fun p => ⟨p.1, p.2.1, p.2.2⟩) (fun _ => rfl) Tryz.underlying386 (by kernel_rfl) (qC rfl op35 (qC rfl op35 (qcr rfl op35)))) (fun _ h => h)
theorem op329 : Opens Tryz.prog 329 (@instList qb gt_TTable) (rngL qd4) := qcg Tryz.underlying329 (by kernel_rfl) op386
theorem op331 : Opens Tryz.prog 331 gt_TArc qgs :=
 Opens.imp (qbm (hz := rfl) (f := fun x : qE => (x.Ar, x.Ba, x.To, x.Bc, x.Au, x.Bb)) (fun p => ⟨p.1, p.2.1, p.2.2.1, p.2.2.2.1, p.2.2.2.2.1, p.2.2.2.2.2⟩) (fun _ => rfl) Tryz.underlying331 (by kernel_rfl) (qC rfl op2 (qC rfl op2 (qC rfl op2 (qC rfl op2 (qC rfl op329 (qcr rfl op329))))))) (fun _ h => h)
theorem op203 : Opens Tryz.prog 203 (@instList qE gt_TArc) (rngL qgs) := qcg Tryz.underlying203 (by kernel_rfl) op331
theorem op205 : Opens Tryz.prog 205 gt_TCell qfE :=
 Opens.imp (qbm (hz := rfl) (f := fun x : ql => (x.Ap, x.Ar, x.Am, x.Af, x.Az, x.Bo, x.Be)) (fun p => ⟨p.1, p.2.1, p.2.2.1, p.2.2.2.1, p.2.2.2.2.1, p.2.2.2.2.2.1, p.2.2.2.2.2.2⟩) (fun _ => rfl) Tryz.underlying205 (by kernel_rfl) (qC rfl op9 (qC rfl op2 (qC rfl op202 (qC rfl op203 (qC rfl op35 (qC rfl op2 (qcr rfl op2)))))))) (fun _ h => h)
theorem op22 : Opens Tryz.prog 22 (@instList ql gt_TCell) (rngL qfE) := qcg Tryz.underlying22 (by kernel_rfl) op205
theorem op24 : Opens Tryz.prog 24 gt_TLibrary qf5 :=
 Opens.imp (qbm (hz := rfl) (f := fun x : qm => x.Ai) (fun p => ⟨p⟩) (fun _ => rfl) Tryz.underlying24 (by kernel_rfl) (qcr rfl op22)) (fun _ h => h)
theorem op208 : Opens Tryz.prog 208 gt_TInstance qcO :=
 Opens.imp (qbm (hz := rfl) (f := fun x : qd => (x.Ap, x.Bh, x.Ah)) (fun p => ⟨p.1, p.2.1, p.2.2⟩) (fun _ => rfl) Tryz.underlying208 (by kernel_rfl) (qC rfl op9 (qC rfl op2 (qcr rfl op35)))) (fun _ h => h)
theorem op25 : Opens Tryz.prog 25 (@instList qd gt_TInstance) (rngL qcO) := qcg Tryz.underlying25 (by kernel_rfl) op208
theorem op26 : Opens Tryz.prog 26 (@instList ByteArray instStr) (rngL rngS) := qcg Tryz.underlying26 (by kernel_rfl) op9
theorem op211 : Opens Tryz.prog 211 gt_TPort qfJ :=
 Opens.imp (qbm (hz := rfl) (f := fun x : qF => (x.Ap, x.Bf, x.Bi)) (fun p => ⟨p.1, p.2.1, p.2.2⟩) (fun _ => rfl) Tryz.underlying211 (by kernel_rfl) (qC rfl op9 (qC rfl op2 (qcr rfl op2)))) (fun _ h => h)
theorem op27 : Opens Tryz.prog 27 (@instList qF gt_TPort) (rngL qfJ) := qcg Tryz.underlying27 (by kernel_rfl) op211
theorem op29 : Opens Tryz.prog 29 gt_TDesign qgy :=
 Opens.imp (qbm (hz := rfl) (f := fun x : qc => (x.Aa, x.Ah, x.Ac)) (fun p => ⟨p.1, p.2.1, p.2.2⟩) (fun _ => rfl) Tryz.underlying29 (by kernel_rfl) (qC rfl op25 (qC rfl op26 (qcr rfl op27)))) (fun _ h => h)
theorem op152 : Opens Tryz.prog 152 gt_TWire qfC :=
 Opens.imp (qbm (hz := rfl) (f := fun x : qz => (x.Aj, x.Bj, x.Bg, x.Bd)) (fun p => ⟨p.1, p.2.1, p.2.2.1, p.2.2.2⟩) (fun _ => rfl) Tryz.underlying152 (by kernel_rfl) (qC rfl op35 (qC rfl op35 (qC rfl op35 (qcr rfl op35))))) (fun _ h => h)
theorem op30 : Opens Tryz.prog 30 (@instList qz gt_TWire) (rngL qfC) := qcg Tryz.underlying30 (by kernel_rfl) op152
theorem op32 : Opens Tryz.prog 32 gt_TBlock qhg :=
 Opens.imp (qbm (hz := rfl) (f := fun x : qq => (x.As, x.Ak, x.At)) (fun p => ⟨p.1, p.2.1, p.2.2⟩) (fun _ => rfl) Tryz.underlying32 (by kernel_rfl) (qC rfl op24 (qC rfl op29 (qcr rfl op30)))) (fun _ h => h)
set_option maxRecDepth 100000 in
theorem lawCalls {H : Type} {enc : TypeId × Value → H} {W : World} {base : Nat} {args : Array Value} {ds gs : List (DataW H)} {before : List MemPlace}
  (hval : ∀ (j : Nat) t v, Tryz.f4.params[j]? = some t → args[j]? = some v → Value.okWide Tryz.prog W .any base t v) (hW : DataW.Whole enc Tryz.prog Tryz.f4.params.toList Rows.fnExactIsMonotoneBlockSpec.vars false W args.toList ds gs before) (fresh handsOn again : Bool) :
  Calls Tryz.prog 4 args W fun e W' => ∃ v, e = .returned v ∧ Rows.fnExactIsMonotoneBlockSpec.post enc Tryz.prog Tryz.f4 false fresh handsOn again W args v W' := by
 have hW' := hW
 obtain ⟨p, q, hA0, hV, rfl, hfz, hnd⟩ := hW
 have hA : DataW.TrodAll enc Tryz.prog W 0 (fun _ => true) true Tryz.f4.params.toList args.toList ds p := hA0
 rw [Tryz.params4] at hA hval
 obtain ⟨v0, d0, rfl, rfl, h0⟩ := trodAll_one hA
 obtain ⟨rfl, rfl⟩ := trodVars_none hV
 obtain ⟨x0, cs0, rfl, hR0, hx0⟩ := qmn (A := gt_TBlock) op32 rfl Tryz.underlying32 (hval 0 32 v0 rfl rfl) h0
 obtain ⟨n, hn⟩ := (qfF hx0).at
 have hc := qeA hR0 hn
 refine Calls.mono hc ?_
 rintro e W' ⟨v, rfl, hb, us, rfl, hvs⟩
 refine ⟨_, rfl, ?_⟩
 rw [qmy hvs]
 exact qmm laidOut1 (by kernel_rfl) rfl Tryz.underlying4 rfl rfl rfl rfl (by simpa using hW') hb
set_option maxRecDepth 100000 in
theorem lifted (fresh handsOn again : Bool) (os : Os) (started : os.Started) (H : Type) (enc : TypeId × Value → H) :
  ReturnsInHanded {} Tryz.checked os 4 .any (fun w args => (Rows.fnExactIsMonotoneBlockSpec.pre enc Tryz.prog Tryz.f4 Rows.fnExactIsMonotoneBlockRow.domain false w args ∧ laidMetH Tryz.prog Rows.fnExactIsMonotoneBlockRow.laid w) ∧ sizedMet enc Tryz.prog Tryz.f4 (OpenSpec.ofChange Rows.fnExactIsMonotoneBlockSpec) false w args)
   (Rows.fnExactIsMonotoneBlockSpec.post enc Tryz.prog Tryz.f4 false fresh handsOn again) := by
 refine returnsInHanded_of_change_and (C := Tryz.checked) (X := fun w _ => laidMetH Tryz.prog Rows.fnExactIsMonotoneBlockRow.laid w) (fun _ _ _ hh h => h.of_heap hh) own1 started (by kernel_rfl) Tryz.func4
  (ChangeSpec.witness_shaped (enc := enc) (C := Tryz.checked) (os := os) (X := fun w _ => laidMetH Tryz.prog Rows.fnExactIsMonotoneBlockRow.laid w) false (World.laidAll Tryz.prog os Rows.fnExactIsMonotoneBlockRow.laid) #[.agg #[.slice none 0 0, .slice none 0 0, .slice none 0 0, .slice none 0 0, .slice none 0 0]] 8 (World.laidAll_os _ _ _)
   (World.shaped_of_ZipB (by kernel_rfl) (by kernel_rfl)) (by kernel_rfl) (by kernel_rfl) (by kernel_rfl)
   (by rw [MakeChecks.laidMetH_plain _ _ _ (by kernel_rfl)]; exact laidMet_laidAll _ (by kernel_rfl) (by kernel_rfl))) ?_
 intro W base args ds gs before hval0 hW hc _ hL _
 exact lawCalls hval0 hW _ _ _
theorem ja : ((Rows.fnExactIsMonotoneBlockRow.inPlace == Tryz.checked.prog.inPlace 4) && ((Rows.fnExactIsMonotoneBlockRow.unfollowed == Tryz.checked.prog.unfollowed 4) && ((Rows.fnExactIsMonotoneBlockRow.recurses == Tryz.checked.prog.recurses 4) && (Rows.fnExactIsMonotoneBlockRow.named == Tryz.checked.prog.varsNamed 4)))) = true := by kernel_rfl
theorem jb : (Tryz.checked.prog.mayEnter && (Tryz.checked.prog.stopsHeard && ((Rows.fnExactIsMonotoneBlockRow.lifted == Tryz.checked.prog.liftsFinal) && ((Tryz.checked.prog.make == some Rows.fnExactIsMonotoneBlockRow.make) && ((Rows.fnExactIsMonotoneBlockRow.plainKeys == Tryz.checked.prog.plainKeys) && (mapsRowed Tryz.checked.prog && laidOutB Tryz.checked.prog)))))) = true := by kernel_rfl
theorem jc : (namedTie Tryz.checked.prog Rows.fnExactIsMonotoneBlockRow.named Rows.fnExactIsMonotoneBlockSpec.vars && (Rows.fnExactIsMonotoneBlockRow.wf (OpenSpec.ofChange Rows.fnExactIsMonotoneBlockSpec) && (Rows.fnExactIsMonotoneBlockRow.pinned == Rows.fnExactIsMonotoneBlockRow.pinnedBy))) = true := by kernel_rfl
theorem andT {a b : Bool} (h : (a && b) = true) : a = true ∧ b = true := by simpa using h
theorem closed : joinedFacts Tryz.checked.prog 4 Tryz.f4 Rows.fnExactIsMonotoneBlockSpec Rows.fnExactIsMonotoneBlockRow = true := by
 obtain ⟨j0, h⟩ := andT ja
 obtain ⟨j1, h⟩ := andT h
 obtain ⟨j2, j3⟩ := andT h
 obtain ⟨j4, h⟩ := andT jb
 obtain ⟨j5, h⟩ := andT h
 obtain ⟨j6, h⟩ := andT h
 obtain ⟨j7, h⟩ := andT h
 obtain ⟨j8, h⟩ := andT h
 obtain ⟨j9, j10⟩ := andT h
 obtain ⟨j11, h⟩ := andT jc
 obtain ⟨j12, j13⟩ := andT h
 unfold joinedFacts
 rw [j0, j1, j2, j3, j4, j5, j6, j7, j8, j9, j10, j11, j12, j13]
 kernel_rfl
theorem named1 : Tryz.checked.prog.funcNamed Rows.fnExactIsMonotoneBlockRow.func = some 4 := by kernel_rfl
theorem instance1 : Tryz.f4.isInstance Tryz.checked.prog Rows.fnExactIsMonotoneBlockRow.origin Rows.fnExactIsMonotoneBlockRow.targs := of_decide_eq_true (by kernel_rfl)
theorem wrapper1 : Tryz.f4.isWrapper Tryz.checked.prog Rows.fnExactIsMonotoneBlockRow.wrapper Rows.fnExactIsMonotoneBlockRow.mainSum := by
 unfold Func.isWrapper
 first | (rw [if_pos (by decide +kernel)]; kernel_rfl) | (rw [if_neg (by decide +kernel)]; exact ⟨rfl, rfl⟩)
theorem said_holds : Rows.FnExactIsMonotoneBlockSaid :=
 OpenClaim.holds_of_wide 4 Tryz.f4 rfl rfl rfl rfl rfl rfl rfl ⟨rfl, rfl, rfl, rfl, rfl⟩ rfl rfl rfl rfl rfl named1 Tryz.func4 closed instance1 wrapper1
  (fun os started H enc _ => lifted _ _ _ os started H enc)
theorem goesNone {P : Program} (h : P.funcs.any Func.goes = false) {st : Start} (hs : st = .entering) (nm : String) : P.goesAt st nm = false := by
 subst hs
 have hf : ∀ f, P.goes f = false := fun f => by
  unfold Program.goes
  rw [h, Bool.and_false, Bool.or_false, List.any_eq_false]
  intro g _
  cases hq : P.funcs[g]? with
  | none => simp
  | some fn =>
   obtain ⟨hi, he⟩ := Array.getElem?_eq_some_iff.1 hq
   have := Array.any_eq_false.1 h g hi
   rw [he] at this
   simpa using this
 unfold Program.goesAt Program.goesFrom
 cases P.funcNamed nm with
 | none => rfl
 | some f => simp [hf f]
theorem kg0 : Tryz.checked.prog.funcs.any Func.goes = false := by kernel_rfl
theorem kg : false = Rows.fnExactIsMonotoneBlockRow.goesBy Tryz.checked.prog := (goesNone kg0 rfl _).symm
theorem kw : Rows.fnExactIsMonotoneBlockRow.wfByText (OpenSpec.ofChange Rows.fnExactIsMonotoneBlockSpec) = true := by kernel_rfl
theorem km : Tryz.checked.prog.mainIs = some (true, "99da2e745480b12dc5465538c2f0be6fe83948c1a7732d618a514760c371811a".toList) := by kernel_rfl
theorem kl : false = Tryz.checked.prog.looks [] := by kernel_rfl
theorem kn : Tryz.prog.funcNamed "loop.example/g00861/laws.FnExactIsMonotoneBlock" = some 4 := by kernel_rfl
theorem ka : ([32].all fun u => !Tryz.prog.wantsStandIn u) = true := by kernel_rfl
theorem card_holds : Rows.FnExactIsMonotoneBlockCardSaid :=
 Claim7.holds_tied_plain_at .later [] [.data, .pinned] true (true, "99da2e745480b12dc5465538c2f0be6fe83948c1a7732d618a514760c371811a") false said_holds (fun _ h => by cases h) kw (fun _ h => by cases h) fnExactIsMonotoneBlock_row_tie rfl ⟨rfl, rfl⟩ km rfl
  (fun f fn hf hfn => by
   obtain rfl : f = 4 := Option.some.inj (kn.symm.trans hf) |>.symm
   obtain rfl : fn = Tryz.f4 := (Option.some.inj (Tryz.func4.symm.trans hfn)).symm
   exact ⟨kl, fun j t ht => by
    rw [Tryz.params4] at ht
    have hm : t ∈ [32] := by simpa using Array.mem_of_getElem? ht
    exact (show Tryz.prog.wantsStandIn t = false by simpa using List.all_eq_true.1 ka t hm)⟩)
  kg
end Go.Proofs.YtbajldmfbhaaoaaGreatDoor
