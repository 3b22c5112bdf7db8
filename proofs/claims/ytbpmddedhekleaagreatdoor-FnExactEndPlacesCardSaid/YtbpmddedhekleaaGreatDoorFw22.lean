/- Appends and makes with the length of what comes out; calls whose results share memory, beside what is owned. -/
import Derived.Test.YtbpmddedhekleaaGreatDoorFw21
namespace Go.Fw
open Go
open Go.RowKit (Below)

section
variable {P : Program} {T : Tab} {n : Nat} {Q : Exit → Act → World → Prop} {k : List It} {e : Env} {w0 w w' w1 : World} {L : List Ch}

theorem r_appE (hT : TabOk P T) {α : Type} [GoT α] [Flat α] {all : Array Oper} {l : List Oper} {d t ty el : Nat} {ps : String} {af : Array Edge} {x y : Operand} {S : Nat → Prop} {xs ys z : List α} {p p' : Option Addr} {ln ln' c c' : Nat} {te te' : TE} {zv : Value} (i : Nat)
    (h : SH w0 w L) (hi : L[i]? = some (Ch.own S xs [.slice p ln c])) (hs : SlR w (Fw.old w) ys p' c') (hl' : ln' = ys.length) (hx : opv e x = some (.slice p ln c)) (hy : opv e y = some (.slice p' ln' c'))
    (hte : T.get t = some te) (hk : te.kind = .slice el) (hel : T.get el = some te') (hz : te'.zero = some zv) (hzs : (cellsL zv).length = te'.size) (hsz : te'.size = GoT.k α)
    (hb : Nat.ble te'.bytes 65536 = true) (hbig : xs.length + ys.length ≤ big) (hz' : xs ++ ys = z) (hn : Nat.blt d n = true)
    (hkk : ∀ w' p2 c2 S2, SH w0 w' (L.set i (Ch.own S2 z [.slice p2 z.length c2])) → Run P n Q (.ops all l :: k) ((d, .slice p2 z.length c2) :: e) w') :
    Run P n Q (.ops all (⟨some d, .call ⟨.builtin .append, #[x, y], #[t, t]⟩, ty, ps, af, none⟩ :: l) :: k) e w := by
  subst hz'
  rw [List.length_append] at hkk
  exact r_app hT i h hi hs hl' hx hy hte hk hel hz hzs hsz hb hbig hn hkk

theorem r_appNE (hT : TabOk P T) {α : Type} [GoT α] {all : Array Oper} {l : List Oper} {d t ty el : Nat} {ps : String} {af : Array Edge} {x y : Operand} {S S1 : Nat → Prop} {xs ys z : List α} {p p' : Option Addr} {ln ln' c c' : Nat} {te te' : TE} {zv : Value}
    (h : SH w0 w (Ch.own S1 ys [.slice p' ln' c'] :: Ch.own S xs [.slice p ln c] :: L)) (hx : opv e x = some (.slice p ln c)) (hy : opv e y = some (.slice p' ln' c'))
    (hte : T.get t = some te) (hk : te.kind = .slice el) (hel : T.get el = some te') (hz : te'.zero = some zv) (hzs : (cellsL zv).length = te'.size) (hsz : te'.size = GoT.k α)
    (hb : Nat.ble te'.bytes 65536 = true) (hbig : xs.length + ys.length ≤ big) (hz' : xs ++ ys = z) (hn : Nat.blt d n = true)
    (hkk : ∀ w' p2 c2 S2, SH w0 w' (Ch.own S2 z [.slice p2 z.length c2] :: L) → Run P n Q (.ops all l :: k) ((d, .slice p2 z.length c2) :: e) w') :
    Run P n Q (.ops all (⟨some d, .call ⟨.builtin .append, #[x, y], #[t, t]⟩, ty, ps, af, none⟩ :: l) :: k) e w := by
  subst hz'
  rw [List.length_append] at hkk
  exact r_appN hT h hx hy hte hk hel hz hzs hsz hb hbig hn hkk

theorem r_makeE (hT : TabOk P T) (α : Type) [GoT α] {all : Array Oper} {l : List Oper} {d t ty el : Nat} {ps : String} {af : Array Edge} {te te' : TE} {x y : Operand} {kd kd' : IntKind} {nv : Int} {zv : Value} {z : List α}
    (h : SH w0 w L) (hx : opv e x = some (.int kd nv)) (hy : opv e y = some (.int kd' nv)) (hte : T.get t = some te) (hk : te.kind = .slice el) (hel : T.get el = some te') (hz : te'.zero = some zv) (hzc : cellsL zv = GoT.zc α) (hsz : te'.size = GoT.k α)
    (hb : Nat.ble te'.bytes 65536 = true) (h0 : 0 ≤ nv) (hbig : nv ≤ big) (hz' : List.replicate nv.toNat (GoT.zero : α) = z) (hn : Nat.blt d n = true)
    (hkk : ∀ w' S p, SH w0 w' (Ch.own S z [.slice p z.length z.length] :: L) → Run P n Q (.ops all l :: k) ((d, .slice p z.length z.length) :: e) w') :
    Run P n Q (.ops all (⟨some d, .makeSlice t x y, ty, ps, af, none⟩ :: l) :: k) e w := by
  subst hz'
  rw [List.length_replicate] at hkk
  exact r_make hT α h hx hy hte hk hel hz hzc hsz hb h0 hbig hn hkk

/-- A variable, as what is pointed at, over the new base. -/
theorem Up.boxP {A0 B B' : Nat → Prop} {w00 : World} {α : Type} [GoT α] {x : α} {ds : List Value} {b : Nat} {t : TypeId} (hg : Rg A0 w00 B w0) (i : Nat) (h : SH w0 w L) (hu : Up B w0 w B' w1) (hi : L[i]? = some (Ch.box b ds t)) (hr : GoT.R w (reg B w0 w) x ds) :
    GoT.R w1 B' (some x) [.pointer (some ⟨b, 0, none⟩)] :=
  GoT.mono (GoT.loc (Rg.boxR i h hi hr) (fun a ha => hu.below.block a (hg.regOld h a ha))) hu.sub

/-! ### A call whose result shares memory with what is on the base alone: what is owned stays -/

variable {A0 B : Nat → Prop} {w00 : World} {α : Type} [GoT α] {x : α} {cs : List Value} {xs : List α} {p : Option Addr} {c : Nat} {fs : List Fct} {S : Nat → Prop}

theorem Rg.atB (hg : Rg A0 w00 B w0) (h : SH w0 w L) : ∀ b, B b → Fw.old w b := fun b hb => Nat.lt_of_lt_of_le (hg.old b hb) h.below.size
theorem Rg.inBR (hg : Rg A0 w00 B w0) (h : SH w0 w L) (hr : GoT.R w0 B x cs) : GoT.R w B x cs := GoT.loc hr (fun b hb => h.below.block b (hg.old b hb))
theorem r_callP {ρ : Type} [GoRs ρ] [MonoRs ρ] (r : ρ) {all : Array Oper} {l : List Oper} {d ty : Nat} {ps : String} {af : Array Edge} {x : Operand} {args : Array Operand} {ats : Array TypeId} {f : FuncId} {fi ca : Array Value} {as vs : List Value}
    (hg : Rg A0 w00 B w0) (h : SH w0 w L) (hcall : CallOk P f) (hc : RetG P f vs w B r) (hx : opv e x = some (.func (.func f) fi ca)) (hargs : opvs e args.toList = some as) (hvs : fi.toList ++ as ++ ca.toList = vs) (hn : Nat.blt d n = true)
    (hk : ∀ w1 us S, SH w0 w1 (Ch.grp B S [] :: L) → GoRs.Rs w1 (fun b => S b ∨ B b) r us → Run P n Q (.ops all l :: k) ((d, tup us) :: e) w1) :
    Run P n Q (.ops all (⟨some d, .call ⟨.value x, args, ats⟩, ty, ps, af, none⟩ :: l) :: k) e w :=
  r_callG r h hg.old hcall hc hx hargs hvs hn (fun w1 us _ h1 hr => hk w1 us _ h1 (MonoRs.mono hr (fun b hb => hb.symm)))

theorem SH.grpAdd (i : Nat) (h : SH w0 w L) (hi : L[i]? = some (Ch.grp B S fs)) (hr : GoT.R w (fun b => S b ∨ B b) x cs) : SH w0 w (L.set i (Ch.grp B S (fct x cs :: fs))) :=
  h.say hi (fun hp f hf => by
    rcases List.mem_cons.1 hf with rfl | hf
    · exact hr
    · exact hp f hf) (fun _ h => h) (h.elder (Ch.grp B S fs) (List.mem_of_getElem? hi))
end
end Go.Fw
