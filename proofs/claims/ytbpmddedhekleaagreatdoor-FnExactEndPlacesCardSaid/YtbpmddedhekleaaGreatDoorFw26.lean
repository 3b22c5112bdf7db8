/- Functions that write into what they are handed, whose blocks may change. -/
import Derived.Test.YtbpmddedhekleaaGreatDoorFw25
namespace Go.Fw
open Go
open Go.RowKit (Below)

def RetN (P : Program) (f : FuncId) (vs : List Value) (w : World) (J : World → Prop) (r : Int) : Prop :=
  Calls P f vs.toArray w fun e w' => e = .returned (.int .i64 r) ∧ J w'

section
variable {P : Program} {T : Tab} {n : Nat} {Q : Exit → Act → World → Prop} {k : List It} {e : Env} {w0 w w' : World} {L : List Ch} {J : World → Prop}

theorem r_callN (r : Int) {all : Array Oper} {l : List Oper} {d ty : Nat} {ps : String} {af : Array Edge} {x : Operand} {args : Array Operand} {ats : Array TypeId} {f : FuncId} {fi ca : Array Value} {as vs : List Value}
    (hcall : CallOk P f) (hc : RetN P f vs w J r) (hx : opv e x = some (.func (.func f) fi ca)) (hargs : opvs e args.toList = some as) (hvs : fi.toList ++ as ++ ca.toList = vs) (hn : Nat.blt d n = true)
    (hk : ∀ w', J w' → Run P n Q (.ops all l :: k) ((d, .int .i64 r) :: e) w') : Run P n Q (.ops all (⟨some d, .call ⟨.value x, args, ats⟩, ty, ps, af, none⟩ :: l) :: k) e w := by
  subst hvs
  refine r_enter (R := fun v w' => v = .int .i64 r ∧ J w') rfl rfl hn (fun a ha => exec_call ha hcall hx hargs w) (hc.mono ?_) ?_
  · rintro e w' ⟨rfl, h⟩; exact ⟨_, rfl, rfl, h⟩
  · rintro v w' ⟨rfl, h⟩; exact hk w' h

theorem retN_of_run {f : FuncId} {fn : Func} {c : Code} {vs : List Value} {r : Int} {m : Nat} (hf : P.funcs[f]? = some fn) (hb : fn.body = some c) (hm : fn.ntmps = m) (hn : Nat.ble vs.length m = true)
    (h : Run P m (bodyPost P fn fun e w' => e = .returned (.int .i64 r) ∧ J w') [.code c] (argEnv 0 vs) w) : RetN P f vs w J r := by
  subst hm
  have hn' := Nat.le_of_ble_eq_true hn
  refine calls_of_wp hf hb ?_
  have hag : Agree fn.ntmps (argEnv 0 vs) { tmps := vs.toArray ++ Array.replicate (fn.ntmps - vs.toArray.size) undef, defers := [] } := by
    refine ⟨rfl, by simp; omega, fun i v hi => ?_⟩
    obtain ⟨_, h2⟩ := argEnv_get vs 0 i v hi
    simp only [Nat.sub_zero] at h2
    have hlt := (List.getElem?_eq_some_iff.1 h2).1
    rw [Array.getElem?_append_left (by simpa using hlt)]
    simpa using h2
  have h1 := h _ hag
  refine wp_mono h1 ?_
  intro ex a' w' hq
  cases ex <;> exact hq

theorem r_retN (hT : TabOk P T) {fn : Func} {r : Int} (h : J w) (hr : ResOk T e w fn.results.toList [.int .i64 r]) :
    Run P n (bodyPost P fn fun e w' => e = .returned (.int .i64 r) ∧ J w') (.code .ret :: k) e w :=
  r_ret fun _ ha => ⟨ha.defers, .int .i64 r, run_results' hT ha hr, rfl, h⟩
end
end Go.Fw
