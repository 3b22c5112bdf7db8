/- Guards in a region that makes memory; calls whose results share memory, on a new base; parts of slices; strings. -/
import Derived.Test.YtbpmddedhekleaaGreatDoorFw19
namespace Go.Fw
open Go
open Go.RowKit (Below)

def subS {α : Type} (xs : List α) (lo hi : Int) : Option (List α) := if 0 ≤ lo ∧ lo ≤ hi ∧ hi ≤ xs.length then some ((xs.take hi.toNat).drop lo.toNat) else none
theorem subS_some {α : Type} {xs r : List α} {lo hi : Int} (h : subS xs lo hi = some r) : 0 ≤ lo ∧ lo ≤ hi ∧ hi ≤ xs.length ∧ (xs.take hi.toNat).drop lo.toNat = r := by
  unfold subS at h
  split at h
  · rename_i hh; exact ⟨hh.1, hh.2.1, hh.2.2, Option.some.inj h⟩
  · cases h

theorem sub_len {α : Type} {xs : List α} {lo hi : Nat} (h1 : lo ≤ hi) (h2 : hi ≤ xs.length) : ((xs.take hi).drop lo).length = hi - lo := by simp; omega

section
variable {P : Program} {T : Tab} {n : Nat} {Q : Exit → Act → World → Prop} {k : List It} {e : Env} {w0 w w' w1 : World} {L : List Ch}

/-! ### Guards in a region that makes memory -/

/-! ### A new base -/

/-- What is known of a region on a base: it stood there; it is the arguments' and what came since. -/
structure Rg (A0 : Nat → Prop) (w00 : World) (B : Nat → Prop) (w0 : World) : Prop where
  below : Below w00.heap.size w00 w0
  old : ∀ b, B b → Fw.old w0 b
  fin : ∀ b, B b → reg A0 w00 w0 b

theorem Rg.start {A : Nat → Prop} (h : ∀ b, A b → Fw.old w b) : Rg A w A w := ⟨Below.refl _ _, h, fun _ hb => .inl hb⟩

/-- From one base to the next. -/
structure Up (B : Nat → Prop) (w0 w : World) (B' : Nat → Prop) (w1 : World) : Prop where
  below : Below w.heap.size w w1
  sub : ∀ b, reg B w0 w b → B' b

variable {A0 A B B' : Nat → Prop} {w00 : World} {α : Type} [GoT α] {x : α} {cs : List Value} {xs : List α} {p : Option Addr} {c : Nat}

theorem Up.heap (hg : Rg A0 w00 B w0) (h : SH w0 w L) (hu : Up B w0 w B' w1) : ∀ b, B b → w1.heap[b]? = w0.heap[b]? := fun b hb => by
  have h1 := hg.old b hb
  rw [hu.below.block b (Nat.lt_of_lt_of_le h1 h.below.size), h.below.block b h1]

theorem Up.R (hg : Rg A0 w00 B w0) (h : SH w0 w L) (hu : Up B w0 w B' w1) (hr : GoT.R w0 B x cs) : GoT.R w1 B' x cs :=
  GoT.mono (GoT.loc hr (Up.heap hg h hu)) (fun b hb => hu.sub b (.inl hb))
theorem Up.S (hg : Rg A0 w00 B w0) (h : SH w0 w L) (hu : Up B w0 w B' w1) (hr : SlR w0 B xs p c) : SlR w1 B' xs p c :=
  (hr.loc (Up.heap hg h hu)).mono (fun b hb => hu.sub b (.inl hb))
theorem Up.C {b o : Nat} (h : SH w0 w L) (hu : Up B w0 w B' w1) (hr : CellsAt w0 b o cs) : CellsAt w1 b o cs := (hr.below h.below).below hu.below
theorem Up.own {S : Nat → Prop} (i : Nat) (h : SH w0 w L) (hu : Up B w0 w B' w1) (hi : L[i]? = some (Ch.own S x cs)) : GoT.R w1 B' x cs :=
  GoT.mono (GoT.loc (GoT.toR (h.mem hi).1) (fun b hb => hu.below.block b ((h.mem hi).2 b hb).2)) (fun b hb => hu.sub b (.inr ((h.mem hi).2 b hb)))
theorem Up.box {b : Nat} {t : TypeId} (i : Nat) (h : SH w0 w L) (hu : Up B w0 w B' w1) (hi : L[i]? = some (Ch.box b cs t)) : CellsAt w1 b 0 cs := (h.box i hi).below hu.below

/-- Over the region of what a call may hand back. -/
theorem Rg.inR (hg : Rg A0 w00 B w0) (h : SH w0 w L) (hr : GoT.R w0 B x cs) : GoT.R w (reg B w0 w) x cs :=
  GoT.mono (GoT.loc hr (fun b hb => h.below.block b (hg.old b hb))) (fun _ hb => .inl hb)
theorem Rg.inS (hg : Rg A0 w00 B w0) (h : SH w0 w L) (hr : SlR w0 B xs p c) : SlR w (reg B w0 w) xs p c :=
  (hr.loc (fun b hb => h.below.block b (hg.old b hb))).mono (fun _ hb => .inl hb)
theorem Rg.ownR {S : Nat → Prop} (i : Nat) (h : SH w0 w L) (hi : L[i]? = some (Ch.own S x cs)) : GoT.R w (reg B w0 w) x cs :=
  GoT.mono (GoT.toR (h.mem hi).1) (fun b hb => .inr ((h.mem hi).2 b hb))
theorem Rg.regOld (hg : Rg A0 w00 B w0) (h : SH w0 w L) : ∀ b, reg B w0 w b → Fw.old w b := by
  rintro b (hb | hb)
  · exact Nat.lt_of_lt_of_le (hg.old b hb) h.below.size
  · exact hb.2
theorem Rg.boxR {b : Nat} {t : TypeId} {ds : List Value} (i : Nat) (h : SH w0 w L) (hi : L[i]? = some (Ch.box b ds t)) (hr : GoT.R w (reg B w0 w) x ds) : GoT.R w (reg B w0 w) (some x) [.pointer (some ⟨b, 0, none⟩)] :=
  ptr_box i h hi (.inr ((h.mem hi).2 b rfl)) hr
/-- What reads over the region that stands here reads over the arguments' and what is new. -/
theorem Rg.outR (hg : Rg A0 w00 B w0) (h : SH w0 w L) (hr : GoT.R w (reg B w0 w) x cs) : GoT.R w (reg A0 w00 w) x cs :=
  GoT.mono hr (by
    rintro b (hb | hb)
    · rcases hg.fin b hb with hb | hb
      · exact .inl hb
      · exact .inr ⟨hb.1, Nat.lt_of_lt_of_le hb.2 h.below.size⟩
    · exact .inr ⟨Nat.le_trans hg.below.size hb.1, hb.2⟩)

class MonoRs (ρ : Type) [GoRs ρ] : Prop where
  mono : ∀ {w : World} {S S' : Nat → Prop} {r : ρ} {us : List Value}, GoRs.Rs w S r us → (∀ b, S b → S' b) → GoRs.Rs w S' r us
instance {α : Type} [GoT α] : MonoRs α := ⟨fun h hs => by obtain ⟨cs, rfl, h⟩ := h; exact ⟨cs, rfl, GoT.mono h hs⟩⟩
instance (priority := high) {α β : Type} [GoT α] [GoRs β] [MonoRs β] : MonoRs (α × β) := ⟨fun h hs => by
  obtain ⟨cs, us, rfl, h1, h2⟩ := h
  exact ⟨cs, us, rfl, GoT.mono h1 hs, MonoRs.mono h2 hs⟩⟩

theorem r_callR {ρ : Type} [GoRs ρ] [MonoRs ρ] (r : ρ) {all : Array Oper} {l : List Oper} {d ty : Nat} {ps : String} {af : Array Edge} {x : Operand} {args : Array Operand} {ats : Array TypeId} {f : FuncId} {fi ca : Array Value} {as vs : List Value}
    (hg : Rg A0 w00 B w0) (h : SH w0 w L) (hcall : CallOk P f) (hc : RetG P f vs w (reg B w0 w) r) (hx : opv e x = some (.func (.func f) fi ca)) (hargs : opvs e args.toList = some as) (hvs : fi.toList ++ as ++ ca.toList = vs) (hn : Nat.blt d n = true)
    (hk : ∀ w1 us B', Rg A0 w00 B' w1 → Up B w0 w B' w1 → SH w1 w1 [] → GoRs.Rs w1 B' r us → Run P n Q (.ops all l :: k) ((d, tup us) :: e) w1) :
    Run P n Q (.ops all (⟨some d, .call ⟨.value x, args, ats⟩, ty, ps, af, none⟩ :: l) :: k) e w := by
  subst hvs
  refine r_enter (R := fun v w' => Below w.heap.size w w' ∧ ∃ us, v = tup us ∧ GoRs.Rs w' (reg (reg B w0 w) w w') r us) rfl rfl hn (fun a ha => exec_call ha hcall hx hargs w) hc ?_
  rintro v w1 ⟨hb, us, rfl, hv⟩
  have hbb : Below w0.heap.size w0 w1 := h.below.trans (hb.mono h.below.size)
  refine hk w1 us (reg B w0 w1) ⟨hg.below.trans (hbb.mono hg.below.size), ?_, ?_⟩ ⟨hb, ?_⟩ (SH.start w1) (MonoRs.mono hv ?_)
  · rintro b (hB | hB)
    · exact Nat.lt_of_lt_of_le (hg.old b hB) hbb.size
    · exact hB.2
  · rintro b (hB | hB)
    · rcases hg.fin b hB with hB | hB
      · exact .inl hB
      · exact .inr ⟨hB.1, Nat.lt_of_lt_of_le hB.2 hbb.size⟩
    · exact .inr ⟨Nat.le_trans hg.below.size hB.1, hB.2⟩
  · rintro b (hB | hB)
    · exact .inl hB
    · exact .inr ⟨hB.1, Nat.lt_of_lt_of_le hB.2 hb.size⟩
  · rintro b ((hB | hB) | hB)
    · exact .inl hB
    · exact .inr ⟨hB.1, Nat.lt_of_lt_of_le hB.2 hb.size⟩
    · exact .inr ⟨Nat.le_trans h.below.size hB.1, hB.2⟩

/-- A result of one value that shares memory. -/
theorem rs_one {w : World} {S : Nat → Prop} {r : α} {us : List Value} (h : (rsOne : GoRs α).Rs w S r us) : ∃ cs, us = [GoT.v α cs] ∧ GoT.R w S r cs := h
/-! ### Parts of slices -/

/-- Where the part begins. -/
def subP (kk : Nat) (p : Option Addr) (c : Nat) (lo : Nat) : Option Addr := if c = lo then p else p.map (·.add (lo * kk))

theorem SlR.sub {S : Nat → Prop} (h : SlR w S xs p c) {lo hi : Nat} (h1 : lo ≤ hi) (h2 : hi ≤ xs.length) : SlR w S ((xs.take hi).drop lo) (subP (GoT.k α) p c lo) (c - lo) := by
  obtain ⟨q1, q2, q3⟩ := h
  have hl : ((xs.take hi).drop lo).length = hi - lo := by simp; omega
  refine ⟨by rw [hl]; omega, by omega, ?_⟩
  rcases q3 with ⟨hp, rfl⟩ | ⟨b, o, cur, T, fr, rfl, hb, hg, hc, hx⟩
  · left
    have : hi = 0 := by simpa using h2
    have : lo = 0 := by omega
    subst this
    refine ⟨?_, by simp⟩
    rcases hp with rfl | rfl
    · left; unfold subP; split <;> rfl
    · right; rfl
  · by_cases hcl : c = lo
    · left
      exact ⟨.inr (by omega), List.eq_nil_of_length_eq_zero (by rw [hl]; omega)⟩
    · right
      have hmul : (c - lo) * GoT.k α = c * GoT.k α - lo * GoT.k α := Nat.sub_mul ..
      have hle : lo * GoT.k α ≤ c * GoT.k α := Nat.mul_le_mul_right _ (by omega)
      refine ⟨b, o + lo * GoT.k α, cur, T, fr, ?_, hb, hg, by omega, fun i y hi' => ?_⟩
      · unfold subP; rw [if_neg hcl]; simp [add_lit]
      · rw [List.getElem?_drop, List.getElem?_take] at hi'
        split at hi'
        · obtain ⟨cs, hr, hj⟩ := hx _ _ hi'
          refine ⟨cs, hr, fun j v hv => ?_⟩
          have := hj j v hv
          rw [Nat.add_mul] at this
          rw [← this]
          congr 1
          omega
        · cases hi'

theorem run_bound {x : Value} {y : Nat} {code : BoundsCode} {kd : IntKind} {i : Int} (hx : x = .int kd i) (h0 : 0 ≤ i) (h1 : i ≤ y) (w : World) : (Instr.sliceBound x y code).run P w = .ok i.toNat w := by
  subst hx
  simp [Instr.sliceBound, asIntOf, h0, h1]

/-- What the bounds of a slicing say. -/
def optI (e : Env) : Option Operand → Int → Option Int
  | none, d => some d
  | some x, _ => match opv e x with
    | some (.int _ i) => some i
    | _ => none

theorem v_slice (hT : TabOk P T) {x : Operand} {lo hi : Option Operand} {t ty d el : Nat} {ps : String} {af : Array Edge} {g : Option (Nat × Bool)} {te te' : TE} {ln m : Nat} {l h : Int}
    (hx : opv e x = some (.slice p ln c)) (hlo : optI e lo 0 = some l) (hhi : optI e hi ln = some h) (h0 : 0 ≤ l) (h1 : l ≤ h) (h2 : h ≤ ln) (h3 : ln ≤ c)
    (hte : T.get t = some te) (hk : te.kind = .slice el) (hel : T.get el = some te') (hm : te'.size = m) : Val P n e ⟨some d, .slice t x lo hi none, ty, ps, af, g⟩ w (.slice (subP m p c l.toNat) (h.toNat - l.toNat) (c - l.toNat)) := by
  intro a ha
  have hu := probe_slice (hT _ _ hte) hk
  have hs := run_sizeOf (hT _ _ hel) w
  subst hm
  have hb1 : ∀ (code : BoundsCode), (match hi.map a.eval with | some v => Instr.sliceBound v c code | none => pure ln : Sem Nat).run P w = .ok h.toNat w := by
    intro code
    cases hi with
    | none => simp only [optI, Option.some.injEq] at hhi; subst hhi; simp
    | some y =>
      simp only [optI] at hhi
      split at hhi
      · rename_i kd i hy
        simp only [Option.some.injEq] at hhi
        subst hhi
        simp only [Option.map_some]
        exact run_bound (ha.eval hy) (by omega) (by omega) w
      · cases hhi
  have hb2 : ∀ (code : BoundsCode), (match lo.map a.eval with | some v => Instr.sliceBound v h.toNat code | none => pure 0 : Sem Nat).run P w = .ok l.toNat w := by
    intro code
    cases lo with
    | none => simp only [optI, Option.some.injEq] at hlo; subst hlo; simp
    | some y =>
      simp only [optI] at hlo
      split at hlo
      · rename_i kd i hy
        simp only [Option.some.injEq] at hlo
        subst hlo
        simp only [Option.map_some]
        exact run_bound (ha.eval hy) h0 (by omega) w
      · cases hlo
  have hbs : (Instr.sliceBounds true ln c (lo.map a.eval) (hi.map a.eval) none).run P w = .ok (l.toNat, h.toNat, c) w := by
    have e1 := hb1 .sliceAcap
    have e2 := hb2 .sliceB
    unfold Instr.sliceBounds
    cases hi <;> cases lo <;> simp only [Option.map_none, Option.map_some, Sem.run_bind, Sem.run_pure, Result.andThen_ok, if_true, Option.isSome_none, Bool.false_eq_true, if_false] at e1 e2 ⊢ <;> simp_all
  simp only [execOp, ha.eval hx, Option.map_none, Instr.sliceAt, Instr.sureAddr, Instr.slice, Sem.run_bind, Sem.run_pure, run_underlying hu, Result.andThen_ok, hbs, hs, subP]

/-! ### Strings -/

def atS (s : ByteArray) (i : Int) : Option Int := if 0 ≤ i then (s[i.toNat]?).map fun b => (b.toNat : Int) else none
theorem atS_some {s : ByteArray} {i r : Int} (h : atS s i = some r) : ∃ b, (if 0 ≤ i then s[i.toNat]? else none) = some b ∧ (b.toNat : Int) = r := by
  unfold atS at h
  split at h
  · rename_i h0
    obtain ⟨b, hb, rfl⟩ := Option.map_eq_some_iff.1 h
    exact ⟨b, by rw [if_pos h0, hb], rfl⟩
  · cases h

theorem v_sindex (hT : TabOk P T) {x i : Operand} {t ty d : Nat} {ps : String} {af : Array Edge} {g : Option (Nat × Bool)} {te : TE} {s : ByteArray} {kd : IntKind} {iv r : Int}
    (hr : ∃ b, (if 0 ≤ iv then s[iv.toNat]? else none) = some b ∧ (b.toNat : Int) = r) (hx : opv e x = some (.string s)) (hi : opv e i = some (.int kd iv)) (hte : T.get t = some te) (hk : te.kind = .str) : Val P n e ⟨some d, .index t x i, ty, ps, af, g⟩ w (.int .u8 r) := by
  intro a ha
  obtain ⟨b, hb, rfl⟩ := hr
  have hu := probe_str (hT _ _ hte) hk
  simp only [execOp, ha.eval hx, ha.eval hi, Instr.index, asIntOf, Sem.run_bind, Sem.run_pure, Result.andThen_ok, run_underlying hu, hb]

/-- '+' of strings. -/
def catB (a b : ByteArray) : Option ByteArray := if ((a.size + b.size : Nat) : Int) ≤ IntKind.i64.max then some (a ++ b) else none
theorem catB_some {a b r : ByteArray} (h : catB a b = some r) : ((a.size + b.size : Nat) : Int) ≤ IntKind.i64.max ∧ a ++ b = r := by
  unfold catB at h
  split at h
  · rename_i hh; exact ⟨hh, Option.some.inj h⟩
  · cases h
theorem v_cat {x y : Operand} {t t' d ty : Nat} {ps : String} {af : Array Edge} {g : Option (Nat × Bool)} {a b : ByteArray}
    (h0 : ((a.size + b.size : Nat) : Int) ≤ IntKind.i64.max) (hx : opv e x = some (.string a)) (hy : opv e y = some (.string b)) : Val P n e ⟨some d, .binOp .add t x y t', ty, ps, af, g⟩ w (.string (a ++ b)) := by
  intro c hc
  have h1 : ¬ (((a.size + b.size : Nat) : Int) > IntKind.i64.max) := by omega
  simp only [execOp, hc.eval hx, hc.eval hy, Sem.run_bind, eqGuard_str, Result.andThen_ok, binOp, Op.stringOp, h1, if_false, Sem.run_pure]
end
end Go.Fw
