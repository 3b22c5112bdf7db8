/- Integers of the other kinds. -/
import Derived.Test.YtbpmddedhekleaaGreatDoorFw16
namespace Go.Fw
open Go

structure IntK (k : IntKind) where
  val : Int

instance gt_IntK {kd : IntKind} : GoT (IntK kd) where
  k := 1
  agg := false
  zero := ⟨0⟩
  zc := [.int kd 0]
  R _ _ x cs := cs = [.int kd x.val]
  O _ _ x cs := cs = [.int kd x.val]
  kpos := by decide
  noagg _ := rfl
  len h := by subst h; rfl
  one h := by subst h; simp [Value.oneCell']
  loc h _ := h
  mono h _ := h
  toR h := h
  locO h _ := h
  monoO h _ := h
  zO _ _ := rfl
instance fl_IntK {kd : IntKind} : Flat (IntK kd) := ⟨fun h => h, fun h h' => Eq.trans h (Eq.symm h')⟩

section
variable {P : Program} {T : Tab} {n : Nat} {Q : Exit → Act → World → Prop} {k : List It} {e : Env} {w0 w w' : World} {L : List Ch} {S : Nat → Prop}

theorem SHV.lastK {kd : IntKind} {r : IntK kd} {vs : List Value} (h : SHV w0 w S L) (hv : (vsOne : GoVs (IntK kd)).Vs w S r vs) : vs = [.int kd r.val] ∧ SH w0 w L := by
  obtain ⟨cs, rfl, h1⟩ := hv
  have : cs = [.int kd r.val] := h1
  subst this
  exact ⟨rfl, h.sh⟩

theorem SHV.consK {kd : IntKind} {β : Type} [GoVs β] {r : IntK kd × β} {vs : List Value} (h : SHV w0 w S L) (hv : GoVs.Vs w S r vs) : ∃ S2 us, vs = .int kd r.1.val :: us ∧ SHV w0 w S2 L ∧ GoVs.Vs w S2 r.2 us := by
  obtain ⟨S1, S2, cs, us, rfl, h1, h2, h3, h4⟩ := hv
  have : cs = [.int kd r.1.val] := h1
  subst this
  exact ⟨S2, us, rfl, ⟨h.sh, fun b hb => h.fr b (h4 b hb), fun c hc b hcb hb => h.ap c hc b hcb (h4 b hb)⟩, h2⟩

theorem r_callK {kd : IntKind} (r : IntK kd) {all : Array Oper} {l : List Oper} {d ty : Nat} {ps : String} {af : Array Edge} {x : Operand} {args : Array Operand} {ats : Array TypeId} {f : FuncId} {fi ca : Array Value} {as vs : List Value}
    (h : SH w0 w L) (hcall : CallOk P f) (hc : RetV P f vs w r) (hx : opv e x = some (.func (.func f) fi ca)) (hargs : opvs e args.toList = some as) (hvs : fi.toList ++ as ++ ca.toList = vs) (hn : Nat.blt d n = true)
    (hk : ∀ w', SH w0 w' L → Run P n Q (.ops all l :: k) ((d, .int kd r.val) :: e) w') : Run P n Q (.ops all (⟨some d, .call ⟨.value x, args, ats⟩, ty, ps, af, none⟩ :: l) :: k) e w :=
  r_call r h hcall hc hx hargs hvs hn (fun w' S us hv hr => by obtain ⟨rfl, h'⟩ := hv.lastK hr; exact hk w' h')

theorem vs_intK {kd : IntKind} (r : IntK kd) (S : Nat → Prop) : GoVs.Vs w S r [.int kd r.val] := ⟨[.int kd r.val], rfl, rfl⟩
end

end Go.Fw
