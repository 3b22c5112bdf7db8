/- Structs, results, calls, returns, regions that draw their order. -/
import Derived.Test.YtbpmddedhekleaaGreatDoorFw6
namespace Go.Fw
open Go
open Go.RowKit (Below)

/-! ### Structs: fields one behind the other -/

@[reducible] def pairT {α β : Type} (A : GoT α) (B : GoT β) : GoT (α × β) where
  k := A.k + B.k
  agg := true
  zero := (A.zero, B.zero)
  zc := A.zc ++ B.zc
  R w S x cs := ∃ c1 c2, cs = c1 ++ c2 ∧ A.R w S x.1 c1 ∧ B.R w S x.2 c2
  O w S x cs := ∃ S1 S2 : Nat → Prop, ∃ c1 c2, cs = c1 ++ c2 ∧ A.O w S1 x.1 c1 ∧ B.O w S2 x.2 c2 ∧ (∀ b, S1 b → S b ∧ ¬ S2 b) ∧ (∀ b, S2 b → S b)
  kpos := by have := A.kpos; omega
  noagg h := by cases h
  len h := by obtain ⟨c1, c2, rfl, h1, h2⟩ := h; rw [List.length_append, A.len h1, B.len h2]
  one h c hc := by
    obtain ⟨c1, c2, rfl, h1, h2⟩ := h
    rcases List.mem_append.1 hc with hc | hc
    · exact A.one h1 c hc
    · exact B.one h2 c hc
  loc h hs := by obtain ⟨c1, c2, rfl, h1, h2⟩ := h; exact ⟨c1, c2, rfl, A.loc h1 hs, B.loc h2 hs⟩
  mono h hs := by obtain ⟨c1, c2, rfl, h1, h2⟩ := h; exact ⟨c1, c2, rfl, A.mono h1 hs, B.mono h2 hs⟩
  toR h := by obtain ⟨S1, S2, c1, c2, rfl, h1, h2, h3, h4⟩ := h; exact ⟨c1, c2, rfl, A.mono (A.toR h1) (fun b hb => (h3 b hb).1), B.mono (B.toR h2) h4⟩
  locO h hs := by obtain ⟨S1, S2, c1, c2, rfl, h1, h2, h3, h4⟩ := h; exact ⟨S1, S2, c1, c2, rfl, A.locO h1 (fun b hb => hs b (h3 b hb).1), B.locO h2 (fun b hb => hs b (h4 b hb)), h3, h4⟩
  monoO h hs := by obtain ⟨S1, S2, c1, c2, rfl, h1, h2, h3, h4⟩ := h; exact ⟨S1, S2, c1, c2, rfl, h1, h2, fun b hb => ⟨hs b (h3 b hb).1, (h3 b hb).2⟩, fun b hb => hs b (h4 b hb)⟩
  zO w S := ⟨fun _ => False, fun _ => False, _, _, rfl, A.zO w _, B.zO w _, fun _ h => h.elim, fun _ h => h.elim⟩

/-- A type that reads as another one does. -/
@[reducible] def isoT {α β : Type} (A : GoT α) (f : β → α) (z : β) (hz : f z = A.zero) (ag : Bool) (hag : ag = false → A.k = 1) : GoT β where
  k := A.k
  agg := ag
  zero := z
  zc := A.zc
  R w S x cs := A.R w S (f x) cs
  O w S x cs := A.O w S (f x) cs
  kpos := A.kpos
  noagg := hag
  len h := A.len h
  one h := A.one h
  loc h hs := A.loc h hs
  mono h hs := A.mono h hs
  toR h := A.toR h
  locO h hs := A.locO h hs
  monoO h hs := A.monoO h hs
  zO w S := by rw [hz]; exact A.zO w S

theorem flat_pair {α β : Type} (A : GoT α) (B : GoT β) (ha : @Flat α A) (hb : @Flat β B) : @Flat (α × β) (pairT A B) :=
  @Flat.mk _ (pairT A B) (by
    intro w w' S S' x cs h
    obtain ⟨c1, c2, rfl, h1, h2⟩ := h
    exact ⟨fun _ => False, fun _ => False, c1, c2, rfl, ha.fl h1, hb.fl h2, fun _ h => h.elim, fun _ h => h.elim⟩) (by
    intro w w' S S' x cs cs' h h'
    obtain ⟨c1, c2, rfl, h1, h2⟩ := h
    obtain ⟨d1, d2, rfl, h3, h4⟩ := h'
    rw [ha.det h1 h3, hb.det h2 h4])

theorem flat_iso {α β : Type} (A : GoT α) (f : β → α) (z : β) (hz : f z = A.zero) (ag : Bool) (hag : ag = false → A.k = 1) (ha : @Flat α A) : @Flat β (isoT A f z hz ag hag) :=
  @Flat.mk _ (isoT A f z hz ag hag) (by intro w w' S S' x cs h; exact ha.fl h) (by intro w w' S S' x cs cs' h h'; exact ha.det h h')

/-! ### Results -/

class GoVs (ρ : Type) where
  Vs : World → (Nat → Prop) → ρ → List Value → Prop

instance vsOne {α : Type} [GoT α] : GoVs α where
  Vs w S x vs := ∃ cs, vs = [GoT.v α cs] ∧ GoT.O w S x cs

instance (priority := high) vsCons {α β : Type} [GoT α] [GoVs β] : GoVs (α × β) where
  Vs w S x vs := ∃ S1 S2 : Nat → Prop, ∃ cs us, vs = GoT.v α cs :: us ∧ GoT.O w S1 x.1 cs ∧ GoVs.Vs w S2 x.2 us ∧ (∀ b, S1 b → S b ∧ ¬ S2 b) ∧ (∀ b, S2 b → S b)

/-- One result as it is, several as a tuple. -/
def tup : List Value → Value
  | [v] => v
  | vs => .tuple vs.toArray

def RetV {ρ : Type} [GoVs ρ] (P : Program) (f : FuncId) (vs : List Value) (w : World) (r : ρ) : Prop :=
  Calls P f vs.toArray w fun e w' => ∃ v, e = .returned v ∧ Below w.heap.size w w' ∧ ∃ us, v = tup us ∧ GoVs.Vs w' (fresh w w') r us

/-- A list of parts and a set of blocks apart from it. -/
structure SHV (w0 w : World) (S : Nat → Prop) (L : List Ch) : Prop where
  sh : SH w0 w L
  fr : ∀ b, S b → fresh w0 w b
  ap : ∀ c ∈ L, ∀ b, c.S b → ¬ S b

section
variable {P : Program} {T : Tab} {n : Nat} {Q : Exit → Act → World → Prop} {k : List It} {e : Env} {w0 w w' : World} {L : List Ch} {S : Nat → Prop}

theorem SHV.push {c : Ch} {S2 : Nat → Prop} (h : SHV w0 w S L) (hp : c.P w) (hD : ∀ b, c.D b → b < w0.heap.size) (h1 : ∀ b, c.S b → S b ∧ ¬ S2 b) (h2 : ∀ b, S2 b → S b) : SHV w0 w S2 (c :: L) := by
  refine ⟨⟨h.sh.below, fun d hd => ?_, fun d hd => ?_, List.pairwise_cons.2 ⟨fun d hd b hc hdb => h.ap d hd b hdb (h1 b hc).1, h.sh.apart⟩⟩, fun b hb => h.fr b (h2 b hb), fun d hd b hdb hb => ?_⟩
  · rcases List.mem_cons.1 hd with rfl | hd
    · exact ⟨hp, fun b hb => h.fr b (h1 b hb).1⟩
    · exact h.sh.holds d hd
  · rcases List.mem_cons.1 hd with rfl | hd
    · exact hD
    · exact h.sh.elder d hd
  · rcases List.mem_cons.1 hd with rfl | hd
    · exact (h1 b hdb).2 hb
    · exact h.ap d hd b hdb (h2 b hb)

theorem SHV.cons {α β : Type} [GoT α] [GoVs β] {r : α × β} {vs : List Value} (h : SHV w0 w S L) (hv : GoVs.Vs w S r vs) :
    ∃ S1 S2 cs us, vs = GoT.v α cs :: us ∧ SHV w0 w S2 (Ch.own S1 r.1 cs :: L) ∧ GoVs.Vs w S2 r.2 us := by
  obtain ⟨S1, S2, cs, us, rfl, h1, h2, h3, h4⟩ := hv
  exact ⟨S1, S2, cs, us, rfl, h.push (c := Ch.own S1 r.1 cs) h1 (fun _ hd => hd.elim) h3 h4, h2⟩

theorem SHV.last {α : Type} [GoT α] {r : α} {vs : List Value} (h : SHV w0 w S L) (hv : (vsOne : GoVs α).Vs w S r vs) : ∃ cs, vs = [GoT.v α cs] ∧ SH w0 w (Ch.own S r cs :: L) := by
  obtain ⟨cs, rfl, h1⟩ := hv
  exact ⟨cs, rfl, (h.push (c := Ch.own S r cs) (S2 := fun _ => False) h1 (fun _ hd => hd.elim) (fun b hb => ⟨hb, fun h => h⟩) (fun _ h => h.elim)).sh⟩

theorem SHV.consI {β : Type} [GoVs β] {r : Int × β} {vs : List Value} (h : SHV w0 w S L) (hv : GoVs.Vs w S r vs) : ∃ S2 us, vs = .int .i64 r.1 :: us ∧ SHV w0 w S2 L ∧ GoVs.Vs w S2 r.2 us := by
  obtain ⟨S1, S2, cs, us, rfl, h1, h2, h3, h4⟩ := hv
  have : cs = [.int .i64 r.1] := h1
  subst this
  exact ⟨S2, us, rfl, ⟨h.sh, fun b hb => h.fr b (h4 b hb), fun c hc b hcb hb => h.ap c hc b hcb (h4 b hb)⟩, h2⟩

theorem SHV.consL {α β : Type} [GoT α] [GoVs β] {r : List α × β} {vs : List Value} (h : SHV w0 w S L) (hv : GoVs.Vs w S r vs) :
    ∃ S1 S2 p c us, vs = .slice p r.1.length c :: us ∧ SHV w0 w S2 (Ch.own S1 r.1 [.slice p r.1.length c] :: L) ∧ GoVs.Vs w S2 r.2 us := by
  obtain ⟨S1, S2, cs, us, rfl, h', h2⟩ := h.cons hv
  obtain ⟨p, c, rfl, _⟩ := (h'.sh.mem (i := 0) rfl).1
  exact ⟨S1, S2, p, c, us, rfl, h', h2⟩

theorem SHV.lastI {r : Int} {vs : List Value} (h : SHV w0 w S L) (hv : (vsOne : GoVs Int).Vs w S r vs) : vs = [.int .i64 r] ∧ SH w0 w L := by
  obtain ⟨cs, rfl, h1⟩ := hv
  have : cs = [.int .i64 r] := h1
  subst this
  exact ⟨rfl, h.sh⟩

theorem SHV.lastB {r : Bool} {vs : List Value} (h : SHV w0 w S L) (hv : (vsOne : GoVs Bool).Vs w S r vs) : vs = [.bool r] ∧ SH w0 w L := by
  obtain ⟨cs, rfl, h1⟩ := hv
  have : cs = [.bool r] := h1
  subst this
  exact ⟨rfl, h.sh⟩

theorem SHV.lastS {r : ByteArray} {vs : List Value} (h : SHV w0 w S L) (hv : (vsOne : GoVs ByteArray).Vs w S r vs) : vs = [.string r] ∧ SH w0 w L := by
  obtain ⟨cs, rfl, h1⟩ := hv
  have : cs = [.string r] := h1
  subst this
  exact ⟨rfl, h.sh⟩

theorem SHV.lastL {α : Type} [GoT α] {r : List α} {vs : List Value} (h : SHV w0 w S L) (hv : (vsOne : GoVs (List α)).Vs w S r vs) : ∃ p c, vs = [.slice p r.length c] ∧ SH w0 w (Ch.own S r [.slice p r.length c] :: L) := by
  obtain ⟨cs, rfl, h'⟩ := h.last hv
  obtain ⟨p, c, rfl, _⟩ := (h'.mem (i := 0) rfl).1
  exact ⟨p, c, rfl, h'⟩

/-! ### Calls -/

def CallOk (P : Program) (f : FuncId) : Prop := ∃ fn, P.funcs[f]? = some fn ∧ fn.body.isSome = true ∧ (fn.name == "runtime.NumGoroutine") = false

theorem exec_call {a : Act} (ha : Agree n e a) {d ty : Nat} {ps : String} {af : Array Edge} {g : Option (Nat × Bool)} {x : Operand} {args : Array Operand} {ats : Array TypeId} {f : FuncId} {fi ca : Array Value} {as : List Value}
    (hcall : CallOk P f) (hx : opv e x = some (.func (.func f) fi ca)) (hargs : opvs e args.toList = some as) (w : World) :
    (execOp a.eval ⟨some d, .call ⟨.value x, args, ats⟩, ty, ps, af, g⟩).run P w = .ok (.enter f (fi.toList ++ as ++ ca.toList).toArray) w := by
  obtain ⟨fn, hf, hb, hn⟩ := hcall
  have hb' : fn.body.isNone = false := by simpa using hb
  have harg := map_toArray_eval ha hargs
  simp only [execOp, resolve, Deferred.ofValue, Sem.run_bind, Sem.run_pure, Result.andThen_ok, ha.eval hx, invoke, callFunc, run_program, hf, hn, hb', harg, Bool.false_eq_true, if_false]
  congr 2
  apply Array.ext'
  simp

theorem r_call {ρ : Type} [GoVs ρ] (r : ρ) {all : Array Oper} {l : List Oper} {d ty : Nat} {ps : String} {af : Array Edge} {x : Operand} {args : Array Operand} {ats : Array TypeId} {f : FuncId} {fi ca : Array Value} {as vs : List Value}
    (h : SH w0 w L) (hcall : CallOk P f) (hc : RetV P f vs w r) (hx : opv e x = some (.func (.func f) fi ca)) (hargs : opvs e args.toList = some as) (hvs : fi.toList ++ as ++ ca.toList = vs) (hn : Nat.blt d n = true)
    (hk : ∀ w' S us, SHV w0 w' S L → GoVs.Vs w' S r us → Run P n Q (.ops all l :: k) ((d, tup us) :: e) w') : Run P n Q (.ops all (⟨some d, .call ⟨.value x, args, ats⟩, ty, ps, af, none⟩ :: l) :: k) e w := by
  subst hvs
  refine r_enter (R := fun v w' => Below w.heap.size w w' ∧ ∃ us, v = tup us ∧ GoVs.Vs w' (fresh w w') r us) rfl rfl hn (fun a ha => exec_call ha hcall hx hargs w) hc ?_
  rintro v w' ⟨hb, us, rfl, hv⟩
  refine hk w' _ us ⟨h.ext hb, fun b hb' => ⟨?_, hb'.2⟩, fun c hc b hcb hb' => ?_⟩ hv
  · have := hb'.1; have := h.below.size; omega
  · have := ((h.holds c hc).2 b hcb).2; have := hb'.1; omega

theorem r_callI (r : Int) {all : Array Oper} {l : List Oper} {d ty : Nat} {ps : String} {af : Array Edge} {x : Operand} {args : Array Operand} {ats : Array TypeId} {f : FuncId} {fi ca : Array Value} {as vs : List Value}
    (h : SH w0 w L) (hcall : CallOk P f) (hc : RetV P f vs w r) (hx : opv e x = some (.func (.func f) fi ca)) (hargs : opvs e args.toList = some as) (hvs : fi.toList ++ as ++ ca.toList = vs) (hn : Nat.blt d n = true)
    (hk : ∀ w', SH w0 w' L → Run P n Q (.ops all l :: k) ((d, .int .i64 r) :: e) w') : Run P n Q (.ops all (⟨some d, .call ⟨.value x, args, ats⟩, ty, ps, af, none⟩ :: l) :: k) e w :=
  r_call r h hcall hc hx hargs hvs hn (fun w' S us hv hr => by obtain ⟨rfl, h'⟩ := hv.lastI hr; exact hk w' h')

theorem r_callB (r : Bool) {all : Array Oper} {l : List Oper} {d ty : Nat} {ps : String} {af : Array Edge} {x : Operand} {args : Array Operand} {ats : Array TypeId} {f : FuncId} {fi ca : Array Value} {as vs : List Value}
    (h : SH w0 w L) (hcall : CallOk P f) (hc : RetV P f vs w r) (hx : opv e x = some (.func (.func f) fi ca)) (hargs : opvs e args.toList = some as) (hvs : fi.toList ++ as ++ ca.toList = vs) (hn : Nat.blt d n = true)
    (hk : ∀ w', SH w0 w' L → Run P n Q (.ops all l :: k) ((d, .bool r) :: e) w') : Run P n Q (.ops all (⟨some d, .call ⟨.value x, args, ats⟩, ty, ps, af, none⟩ :: l) :: k) e w :=
  r_call r h hcall hc hx hargs hvs hn (fun w' S us hv hr => by obtain ⟨rfl, h'⟩ := hv.lastB hr; exact hk w' h')

theorem r_callS (r : ByteArray) {all : Array Oper} {l : List Oper} {d ty : Nat} {ps : String} {af : Array Edge} {x : Operand} {args : Array Operand} {ats : Array TypeId} {f : FuncId} {fi ca : Array Value} {as vs : List Value}
    (h : SH w0 w L) (hcall : CallOk P f) (hc : RetV P f vs w r) (hx : opv e x = some (.func (.func f) fi ca)) (hargs : opvs e args.toList = some as) (hvs : fi.toList ++ as ++ ca.toList = vs) (hn : Nat.blt d n = true)
    (hk : ∀ w', SH w0 w' L → Run P n Q (.ops all l :: k) ((d, .string r) :: e) w') : Run P n Q (.ops all (⟨some d, .call ⟨.value x, args, ats⟩, ty, ps, af, none⟩ :: l) :: k) e w :=
  r_call r h hcall hc hx hargs hvs hn (fun w' S us hv hr => by obtain ⟨rfl, h'⟩ := hv.lastS hr; exact hk w' h')

theorem r_callL {α : Type} [GoT α] (r : List α) {all : Array Oper} {l : List Oper} {d ty : Nat} {ps : String} {af : Array Edge} {x : Operand} {args : Array Operand} {ats : Array TypeId} {f : FuncId} {fi ca : Array Value} {as vs : List Value}
    (h : SH w0 w L) (hcall : CallOk P f) (hc : RetV P f vs w r) (hx : opv e x = some (.func (.func f) fi ca)) (hargs : opvs e args.toList = some as) (hvs : fi.toList ++ as ++ ca.toList = vs) (hn : Nat.blt d n = true)
    (hk : ∀ w' S p c, SH w0 w' (Ch.own S r [.slice p r.length c] :: L) → Run P n Q (.ops all l :: k) ((d, .slice p r.length c) :: e) w') : Run P n Q (.ops all (⟨some d, .call ⟨.value x, args, ats⟩, ty, ps, af, none⟩ :: l) :: k) e w :=
  r_call r h hcall hc hx hargs hvs hn (fun w' S us hv hr => by obtain ⟨p, c, rfl, h'⟩ := hv.lastL hr; exact hk w' S p c h')

/-- A result of any type that is owned: its cells. -/
theorem r_callO {α : Type} [GoT α] (r : α) {all : Array Oper} {l : List Oper} {d ty : Nat} {ps : String} {af : Array Edge} {x : Operand} {args : Array Operand} {ats : Array TypeId} {f : FuncId} {fi ca : Array Value} {as vs : List Value}
    (h : SH w0 w L) (hcall : CallOk P f) (hc : RetV P f vs w r) (hx : opv e x = some (.func (.func f) fi ca)) (hargs : opvs e args.toList = some as) (hvs : fi.toList ++ as ++ ca.toList = vs) (hn : Nat.blt d n = true)
    (hk : ∀ w' S cs, SH w0 w' (Ch.own S r cs :: L) → Run P n Q (.ops all l :: k) ((d, GoT.v α cs) :: e) w') : Run P n Q (.ops all (⟨some d, .call ⟨.value x, args, ats⟩, ty, ps, af, none⟩ :: l) :: k) e w :=
  r_call r h hcall hc hx hargs hvs hn (fun w' S us hv hr => by obtain ⟨cs, rfl, h'⟩ := hv.last hr; exact hk w' S cs h')

/-! ### To enter, to return -/

def argEnv : Nat → List Value → Env
  | _, [] => []
  | i, v :: vs => (i, v) :: argEnv (i + 1) vs

theorem argEnv_get : ∀ (vs : List Value) (i j : Nat) (v : Value), (argEnv i vs).get j = some v → i ≤ j ∧ vs[j - i]? = some v
  | [], _, _, _, h => by cases h
  | u :: vs, i, j, v, h => by
    simp only [argEnv, Env.get] at h
    cases hb : Nat.beq i j with
    | true =>
      rw [hb] at h
      simp only [Option.some.injEq] at h
      have := beqT hb
      subst this h
      simp
    | false =>
      rw [hb] at h
      obtain ⟨h1, h2⟩ := argEnv_get vs (i + 1) j v h
      refine ⟨by omega, ?_⟩
      rw [show j - i = (j - (i + 1)) + 1 by omega, List.getElem?_cons_succ]
      exact h2

theorem retV_of_run {ρ : Type} [GoVs ρ] {f : FuncId} {fn : Func} {c : Code} {vs : List Value} {r : ρ} {m : Nat} (hf : P.funcs[f]? = some fn) (hb : fn.body = some c) (hm : fn.ntmps = m) (hn : Nat.ble vs.length m = true)
    (h : SH w w [] → Run P m (bodyPost P fn fun e w' => ∃ v, e = .returned v ∧ Below w.heap.size w w' ∧ ∃ us, v = tup us ∧ GoVs.Vs w' (fresh w w') r us) [.code c] (argEnv 0 vs) w) : RetV P f vs w r := by
  subst hm
  have hn' := Nat.le_of_ble_eq_true hn
  refine calls_of_wp hf hb ?_
  have hr := h (SH.start w)
  have hag : Agree fn.ntmps (argEnv 0 vs) { tmps := vs.toArray ++ Array.replicate (fn.ntmps - vs.toArray.size) undef, defers := [] } := by
    refine ⟨rfl, by simp; omega, fun i v hi => ?_⟩
    obtain ⟨_, h2⟩ := argEnv_get vs 0 i v hi
    simp only [Nat.sub_zero] at h2
    have hlt := (List.getElem?_eq_some_iff.1 h2).1
    rw [Array.getElem?_append_left (by simpa using hlt)]
    simpa using h2
  have h1 := hr _ hag
  refine wp_mono h1 ?_
  intro ex a' w' hq
  cases ex <;> exact hq

/-- What a function hands back: temporaries and variables. -/
def ResOk (T : Tab) (e : Env) (w : World) : List ResultVar → List Value → Prop
  | [], [] => True
  | .tmp t :: rs, v :: vs => e.get t = some v ∧ ResOk T e w rs vs
  | .cell a t :: rs, v :: vs => (∃ b cs te, e.get a = some (.pointer (some ⟨b, 0, none⟩)) ∧ T.get t = some te ∧ CellsAt w b 0 cs ∧ ld te cs 0 = some v) ∧ ResOk T e w rs vs
  | _, _ => False

def resOne (tmps : Array Value) : ResultVar → Sem Value
  | .tmp t => pure (tmps.getD t undef)
  | .cell a t => do loadVar t (← asAddr (tmps.getD a undef))

theorem results_eq (fn : Func) (tmps : Array Value) : results fn tmps = (do
    let vs ← fn.results.mapM (resOne tmps)
    pure (if h : vs.size = 1 then vs[0] else .tuple vs)) := rfl

theorem run_resList (hT : TabOk P T) {a : Act} (ha : Agree n e a) : ∀ {rs : List ResultVar} {vs : List Value}, ResOk T e w rs vs → (rs.mapM (resOne a.tmps)).run P w = .ok vs w
  | [], [], _ => rfl
  | .tmp t :: rs, v :: vs, h => by
    have h1 := ha.at_ t v h.1
    have ih := run_resList hT ha h.2
    have h0 : (resOne a.tmps (.tmp t)).run P w = .ok v w := by simp [resOne, Array.getD_eq_getD_getElem?, h1]
    simp only [List.mapM_cons, Sem.run_bind, Sem.run_pure, Result.andThen_ok, ih, h0]
  | .cell x t :: rs, v :: vs, h => by
    obtain ⟨⟨b, cs, te, hx, hte, hc, hl⟩, h2⟩ := h
    have h1 := ha.at_ x _ hx
    have ih := run_resList hT ha h2
    have hld := run_loadAt (P := P) (w := w) hT hte (o := 0) (j := 0) hc hl
    simp only [Instr.loadAt, Instr.sureAddr, Sem.run_bind, Sem.run_pure, Result.andThen_ok] at hld
    have h0 : (resOne a.tmps (.cell x t)).run P w = .ok v w := by
      simp only [resOne, Array.getD_eq_getD_getElem?, h1, Option.getD_some, asAddr, Sem.run_bind, Sem.run_pure, Result.andThen_ok]
      exact hld
    simp only [List.mapM_cons, Sem.run_bind, Sem.run_pure, Result.andThen_ok, ih, h0]
  | [], _ :: _, h => h.elim
  | .tmp _ :: _, [], h => h.elim
  | .cell _ _ :: _, [], h => h.elim

theorem run_results' (hT : TabOk P T) {a : Act} (ha : Agree n e a) {fn : Func} {us : List Value} (hr : ResOk T e w fn.results.toList us) : (results fn a.tmps).run P w = .ok (tup us) w := by
  have h1 := run_resList (w := w) hT ha hr
  rw [results_eq, Sem.run_bind]
  have h2 : (fn.results.mapM (resOne a.tmps)).run P w = .ok us.toArray w := by
    rw [← Array.toArray_toList (xs := fn.results), List.mapM_toArray]
    simp only [Sem.run_map]
    rw [h1]
    rfl
  rw [h2]
  simp only [Result.andThen_ok, Sem.run_pure]
  congr 1
  match us with
  | [] => rfl
  | [v] => simp [tup]
  | _ :: _ :: _ => simp [tup]

theorem r_retV (hT : TabOk P T) {fn : Func} {ρ : Type} [GoVs ρ] {r : ρ} (us : List Value) (h : SH w0 w L) (hr : ResOk T e w fn.results.toList us) (hv : GoVs.Vs w (fresh w0 w) r us) :
    Run P n (bodyPost P fn fun e w' => ∃ v, e = .returned v ∧ Below w0.heap.size w0 w' ∧ ∃ us, v = tup us ∧ GoVs.Vs w' (fresh w0 w') r us) (.code .ret :: k) e w :=
  r_ret fun _ ha => ⟨ha.defers, tup us, run_results' hT ha hr, tup us, rfl, h.below, us, rfl, hv⟩

/-! ### What is handed back, put together -/

theorem vs_int (r : Int) (S : Nat → Prop) : GoVs.Vs w S r [.int .i64 r] := ⟨[.int .i64 r], rfl, rfl⟩
theorem vs_bool (r : Bool) (S : Nat → Prop) : GoVs.Vs w S r [.bool r] := ⟨[.bool r], rfl, rfl⟩
theorem vs_str (r : ByteArray) (S : Nat → Prop) : GoVs.Vs w S r [.string r] := ⟨[.string r], rfl, rfl⟩

/-- Parts of a list of chunks, by their places. -/
def Within (L : List Ch) (I : List Nat) (S : Nat → Prop) : Prop := ∀ b, S b → ∃ i c, i ∈ I ∧ L[i]? = some c ∧ c.S b

/-- What is read with its own blocks among those of some chunks. -/
def PO (w : World) (L : List Ch) (I : List Nat) {α : Type} [GoT α] (r : α) (cs : List Value) : Prop := ∃ S, GoT.O w S r cs ∧ Within L I S
def PV (w : World) (L : List Ch) (I : List Nat) {ρ : Type} [GoVs ρ] (r : ρ) (us : List Value) : Prop := ∃ S, GoVs.Vs w S r us ∧ Within L I S

theorem po_own {α : Type} [GoT α] {r : α} {cs : List Value} {S : Nat → Prop} (i : Nat) (h : SH w0 w L) (hi : L[i]? = some (Ch.own S r cs)) : PO w L [i] r cs :=
  ⟨S, (h.mem hi).1, fun _ hb => ⟨i, _, by simp, hi, hb⟩⟩

theorem po_flat {α : Type} [GoT α] [Flat α] {r : α} {cs : List Value} {S : Nat → Prop} (h : GoT.R w S r cs) : PO w L [] r cs :=
  ⟨fun _ => False, Flat.fl h, fun _ h => h.elim⟩

def apartB (I J : List Nat) : Bool := I.all fun i => J.all fun j => !(Nat.beq i j)

theorem within_apart {I J : List Nat} {S1 S2 : Nat → Prop} (h : SH w0 w L) (h1 : Within L I S1) (h2 : Within L J S2) (hb : apartB I J = true) : ∀ b, S1 b → ¬ S2 b := by
  intro b hb1 hb2
  obtain ⟨i, c, hi, hic, hcb⟩ := h1 b hb1
  obtain ⟨j, d, hj, hjd, hdb⟩ := h2 b hb2
  have hne : i ≠ j := by
    intro hij
    subst hij
    have h3 := List.all_eq_true.1 hb i hi
    have h4 := List.all_eq_true.1 h3 i hj
    rw [beqR] at h4
    cases h4
  have hil := (List.getElem?_eq_some_iff.1 hic)
  have hjl := (List.getElem?_eq_some_iff.1 hjd)
  obtain ⟨hil, rfl⟩ := hil
  obtain ⟨hjl, rfl⟩ := hjl
  rcases Nat.lt_or_gt_of_ne hne with hlt | hlt
  · exact List.pairwise_iff_getElem.1 h.apart i j hil hjl hlt b hcb hdb
  · exact List.pairwise_iff_getElem.1 h.apart j i hjl hil hlt b hdb hcb

theorem po_pair {α β : Type} {A : GoT α} {B : GoT β} {a : α} {b : β} {c1 c2 : List Value} {I J : List Nat} (h : SH w0 w L) (h1 : PO w L I a c1) (h2 : PO w L J b c2) (hb : apartB I J = true) : @PO w L (I ++ J) (α × β) (pairT A B) (a, b) (c1 ++ c2) := by
  obtain ⟨S1, h1, w1⟩ := h1
  obtain ⟨S2, h2, w2⟩ := h2
  have hap := within_apart h w1 w2 hb
  refine ⟨fun x => S1 x ∨ S2 x, ⟨S1, S2, c1, c2, rfl, h1, h2, fun x hx => ⟨.inl hx, hap x hx⟩, fun x hx => .inr hx⟩, ?_⟩
  rintro x (hx | hx)
  · obtain ⟨i, c, hi, h⟩ := w1 x hx; exact ⟨i, c, by simp [hi], h⟩
  · obtain ⟨i, c, hi, h⟩ := w2 x hx; exact ⟨i, c, by simp [hi], h⟩

theorem pv_one {α : Type} [GoT α] {r : α} {cs : List Value} {I : List Nat} (h : PO w L I r cs) : PV w L I r [GoT.v α cs] := by
  obtain ⟨S, h1, h2⟩ := h
  exact ⟨S, ⟨cs, rfl, h1⟩, h2⟩

theorem pv_cons {α β : Type} [GoT α] [GoVs β] {a : α} {b : β} {cs us : List Value} {I J : List Nat} (h : SH w0 w L) (h1 : PO w L I a cs) (h2 : PV w L J b us) (hb : apartB I J = true) : PV w L (I ++ J) (a, b) (GoT.v α cs :: us) := by
  obtain ⟨S1, h1, w1⟩ := h1
  obtain ⟨S2, h2, w2⟩ := h2
  have hap := within_apart h w1 w2 hb
  refine ⟨fun x => S1 x ∨ S2 x, ⟨S1, S2, cs, us, rfl, h1, h2, fun x hx => ⟨.inl hx, hap x hx⟩, fun x hx => .inr hx⟩, ?_⟩
  rintro x (hx | hx)
  · obtain ⟨i, c, hi, h⟩ := w1 x hx; exact ⟨i, c, by simp [hi], h⟩
  · obtain ⟨i, c, hi, h⟩ := w2 x hx; exact ⟨i, c, by simp [hi], h⟩
end

class MonoVs (ρ : Type) [GoVs ρ] : Prop where
  mono : ∀ {w : World} {S S' : Nat → Prop} {r : ρ} {us : List Value}, GoVs.Vs w S r us → (∀ b, S b → S' b) → GoVs.Vs w S' r us
instance {α : Type} [GoT α] : MonoVs α := ⟨fun h hs => by obtain ⟨cs, rfl, h⟩ := h; exact ⟨cs, rfl, GoT.monoO h hs⟩⟩
instance (priority := high) {α β : Type} [GoT α] [GoVs β] : MonoVs (α × β) := ⟨fun h hs => by
  obtain ⟨S1, S2, cs, us, rfl, h1, h2, h3, h4⟩ := h
  exact ⟨S1, S2, cs, us, rfl, h1, h2, fun b hb => ⟨hs b (h3 b hb).1, (h3 b hb).2⟩, fun b hb => hs b (h4 b hb)⟩⟩

theorem PV.done {w0 w : World} {L : List Ch} {ρ : Type} [GoVs ρ] [MonoVs ρ] {r : ρ} {us : List Value} {I : List Nat} (h : SH w0 w L) (hp : PV w L I r us) : GoVs.Vs w (fresh w0 w) r us := by
  obtain ⟨S, h1, h2⟩ := hp
  refine MonoVs.mono h1 (fun b hb => ?_)
  obtain ⟨i, c, _, hic, hcb⟩ := h2 b hb
  exact (h.mem hic).2 b hcb
end Go.Fw
