/- Memory that is only read from here on: groups of readings over one set of blocks; calls whose results share memory with their arguments. -/
import Derived.Test.YtbpmddedhekleaaGreatDoorFw14
namespace Go.Fw
open Go
open Go.RowKit (Below)

/-- A reading, with its type. -/
structure Fct where
  α : Type
  inst : GoT α
  x : α
  cs : List Value
def Fct.R (f : Fct) (w : World) (S : Nat → Prop) : Prop := f.inst.R w S f.x f.cs
def fct {α : Type} [GoT α] (x : α) (cs : List Value) : Fct := ⟨α, inferInstance, x, cs⟩

/-- Blocks that are owned, elder blocks, and what reads over both. -/
def Ch.grp (D S : Nat → Prop) (fs : List Fct) : Ch where
  S := S
  D := D
  P w := ∀ f ∈ fs, f.R w (fun b => S b ∨ D b)
  loc _ _ h h' hp f hf := GoT.loc (self := f.inst) (hp f hf) (fun b hb => hb.elim (h b) (h' b))

/-- The region of what is handed back: the arguments' and what is new. -/
def reg (A : Nat → Prop) (w0 w : World) (b : Nat) : Prop := A b ∨ fresh w0 w b

section
variable {w0 w w' : World} {L : List Ch} {D S S1 S2 : Nat → Prop} {fs fs2 : List Fct} {α : Type} [GoT α] {x : α} {cs : List Value}

theorem SH.grpS (i j : Nat) (h : SH w0 w L) (hi : L[i]? = some (Ch.grp D S fs)) (hj : fs[j]? = some (fct x cs)) : GoT.R w (fun b => S b ∨ D b) x cs :=
  (h.mem hi).1 _ (List.mem_of_getElem? hj)

theorem SH.grpB {i : Nat} (h : SH w0 w L) (hi : L[i]? = some (Ch.grp D S fs)) : ∀ b, S b ∨ D b → Fw.old w b := by
  intro b hb
  rcases hb with hb | hb
  · exact ((h.mem hi).2 b hb).2
  · exact Nat.lt_of_lt_of_le (h.elder _ (List.mem_of_getElem? hi) b hb) h.below.size

theorem SH.grp (i j : Nat) (h : SH w0 w L) (hi : L[i]? = some (Ch.grp D S fs)) (hj : fs[j]? = some (fct x cs)) : GoT.R w (Fw.old w) x cs :=
  GoT.mono (h.grpS i j hi hj) (h.grpB hi)

/-- Another part in the place of the first, over blocks that it had. -/
theorem SH.swap {c c' : Ch} (h : SH w0 w (c :: L)) (hp : c'.P w) (hS : ∀ b, c'.S b → c.S b) (hD : ∀ b, c'.D b → b < w0.heap.size) : SH w0 w (c' :: L) := by
  refine ⟨h.below, fun d hd => ?_, fun d hd => ?_, ?_⟩
  · rcases List.mem_cons.1 hd with rfl | hd
    · exact ⟨hp, fun b hb => (h.holds c (List.mem_cons_self ..)).2 b (hS b hb)⟩
    · exact h.holds d (List.mem_cons_of_mem _ hd)
  · rcases List.mem_cons.1 hd with rfl | hd
    · exact hD
    · exact h.elder d (List.mem_cons_of_mem _ hd)
  · have := List.pairwise_cons.1 h.apart
    exact List.pairwise_cons.2 ⟨fun d hd b hb => this.1 d hd b (hS b hb), this.2⟩

/-- Two parts as one. -/
theorem SH.join {c d e : Ch} (h : SH w0 w (c :: d :: L)) (hp : c.P w → d.P w → e.P w) (hS : ∀ b, e.S b → c.S b ∨ d.S b) (hD : ∀ b, e.D b → b < w0.heap.size) : SH w0 w (e :: L) := by
  have hc := h.holds c (List.mem_cons_self ..)
  have hd := h.holds d (List.mem_cons_of_mem _ (List.mem_cons_self ..))
  have h1 := List.pairwise_cons.1 h.apart
  have h2 := List.pairwise_cons.1 h1.2
  refine ⟨h.below, fun f hf => ?_, fun f hf => ?_, ?_⟩
  · rcases List.mem_cons.1 hf with rfl | hf
    · exact ⟨hp hc.1 hd.1, fun b hb => (hS b hb).elim (hc.2 b) (hd.2 b)⟩
    · exact h.holds f (List.mem_cons_of_mem _ (List.mem_cons_of_mem _ hf))
  · rcases List.mem_cons.1 hf with rfl | hf
    · exact hD
    · exact h.elder f (List.mem_cons_of_mem _ (List.mem_cons_of_mem _ hf))
  · refine List.pairwise_cons.2 ⟨fun f hf b hb => ?_, h2.2⟩
    rcases hS b hb with hb | hb
    · exact h1.1 f (List.mem_cons_of_mem _ hf) b hb
    · exact h2.1 f hf b hb

/-! ### Readings over the region of what is handed back -/
theorem SH.regOld {A : Nat → Prop} (h : SH w0 w L) (hA : ∀ b, A b → Fw.old w0 b) (hr : GoT.R w0 A x cs) : GoT.R w A x cs := GoT.loc hr (fun b hb => h.below.block b (hA b hb))
end

/-! ### Calls whose results share memory -/

class GoRs (ρ : Type) where
  Rs : World → (Nat → Prop) → ρ → List Value → Prop
instance rsOne {α : Type} [GoT α] : GoRs α where
  Rs w S x vs := ∃ cs, vs = [GoT.v α cs] ∧ GoT.R w S x cs
instance (priority := high) rsCons {α β : Type} [GoT α] [GoRs β] : GoRs (α × β) where
  Rs w S x vs := ∃ cs us, vs = GoT.v α cs :: us ∧ GoT.R w S x.1 cs ∧ GoRs.Rs w S x.2 us

def RetG {ρ : Type} [GoRs ρ] (P : Program) (f : FuncId) (vs : List Value) (w : World) (A : Nat → Prop) (r : ρ) : Prop :=
  Calls P f vs.toArray w fun e w' => ∃ v, e = .returned v ∧ Below w.heap.size w w' ∧ ∃ us, v = tup us ∧ GoRs.Rs w' (reg A w w') r us

section
variable {P : Program} {T : Tab} {n : Nat} {Q : Exit → Act → World → Prop} {k : List It} {e : Env} {w0 w w' : World} {L : List Ch}

theorem r_callG {ρ : Type} [GoRs ρ] (r : ρ) {A D : Nat → Prop} {all : Array Oper} {l : List Oper} {d ty : Nat} {ps : String} {af : Array Edge} {x : Operand} {args : Array Operand} {ats : Array TypeId} {f : FuncId} {fi ca : Array Value} {as vs : List Value}
    (h : SH w0 w L) (hD : ∀ b, D b → b < w0.heap.size) (hcall : CallOk P f) (hc : RetG P f vs w A r) (hx : opv e x = some (.func (.func f) fi ca)) (hargs : opvs e args.toList = some as) (hvs : fi.toList ++ as ++ ca.toList = vs) (hn : Nat.blt d n = true)
    (hk : ∀ w' us, Below w.heap.size w w' → SH w0 w' (Ch.grp D (fresh w w') [] :: L) → GoRs.Rs w' (reg A w w') r us → Run P n Q (.ops all l :: k) ((d, tup us) :: e) w') :
    Run P n Q (.ops all (⟨some d, .call ⟨.value x, args, ats⟩, ty, ps, af, none⟩ :: l) :: k) e w := by
  subst hvs
  refine r_enter (R := fun v w' => Below w.heap.size w w' ∧ ∃ us, v = tup us ∧ GoRs.Rs w' (reg A w w') r us) rfl rfl hn (fun a ha => exec_call ha hcall hx hargs w) hc ?_
  rintro v w' ⟨hb, us, rfl, hv⟩
  exact hk w' us hb (h.add (c := Ch.grp D (fresh w w') []) hb (fun f hf => by cases hf) (fun _ hb => hb) hD) hv

theorem retG_of_run {ρ : Type} [GoRs ρ] {f : FuncId} {fn : Func} {c : Code} {vs : List Value} {A : Nat → Prop} {r : ρ} {m : Nat} (hf : P.funcs[f]? = some fn) (hb : fn.body = some c) (hm : fn.ntmps = m) (hn : Nat.ble vs.length m = true)
    (h : SH w w [] → Run P m (bodyPost P fn fun e w' => ∃ v, e = .returned v ∧ Below w.heap.size w w' ∧ ∃ us, v = tup us ∧ GoRs.Rs w' (reg A w w') r us) [.code c] (argEnv 0 vs) w) : RetG P f vs w A r := by
  subst hm
  have hn' := Nat.le_of_ble_eq_true hn
  refine calls_of_wp hf hb ?_
  have hr := h (SH.start w)
  have hag : Agree fn.ntmps (argEnv 0 vs) { tmps := vs.toArray ++ Array.replicate (fn.ntmps - vs.toArray.size) undef, defers := [] } := by
    refine ⟨rfl, by simp; omega, fun i v hi => ?_⟩
    obtain ⟨_, h2⟩ := argEnv_get vs 0 i v hi
    simp only [Nat.sub_zero] at h2
    have hlt := (List.getElem?_eq_some_iff.1 h2).1
    rw [Array.getElem?_append_left (by simpa using hlt)]
    simpa using h2
  have h1 := hr _ hag
  refine wp_mono h1 ?_
  intro ex a' w' hq
  cases ex <;> exact hq

theorem r_retG (hT : TabOk P T) {fn : Func} {ρ : Type} [GoRs ρ] {A : Nat → Prop} {r : ρ} (us : List Value) (h : SH w0 w L) (hr : ResOk T e w fn.results.toList us) (hv : GoRs.Rs w (reg A w0 w) r us) :
    Run P n (bodyPost P fn fun e w' => ∃ v, e = .returned v ∧ Below w0.heap.size w0 w' ∧ ∃ us, v = tup us ∧ GoRs.Rs w' (reg A w0 w') r us) (.code .ret :: k) e w :=
  r_ret fun _ ha => ⟨ha.defers, tup us, run_results' hT ha hr, tup us, rfl, h.below, us, rfl, hv⟩
end

end Go.Fw
