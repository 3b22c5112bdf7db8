/- Appends and makes with the length of what comes out; calls whose results share memory, beside what is owned. -/
import Derived.Test.YtihkipojhdehnaaGreatDoorFw21

namespace Go.Fw
open Go
open Go.RowKit (Below)

section
variable {P : Program} {T : Tab} {n : Nat} {Q : Exit → Act → World → Prop} {k : List It} {e : Env} {w0 w w' w1 : World} {L : List Ch}

theorem qeC (hT : TabOk P T) {α : Type} [GoT α] [Flat α] {all : Array Oper} {l : List Oper} {d t ty el : Nat} {ps : String} {af : Array Edge} {x y : Operand} {S : Nat → Prop} {xs ys z : List α} {p p' : Option Addr} {ln ln' c c' : Nat} {te te' : TE} {zv : Value} (i : Nat)
    (h : SH w0 w L) (hi : L[i]? = some (Ch.own S xs [.slice p ln c])) (hs : SlR w (Fw.old w) ys p' c') (hl' : ln' = ys.length) (hx : opv e x = some (.slice p ln c)) (hy : opv e y = some (.slice p' ln' c'))
    (hte : T.get t = some te) (hk : te.kind = .slice el) (hel : T.get el = some te') (hz : te'.zero = some zv) (hzs : (cellsL zv).length = te'.size) (hsz : te'.size = GoT.k α)
    (hb : Nat.ble te'.bytes 65536 = true) (hbig : xs.length + ys.length ≤ big) (hz' : xs ++ ys = z) (hn : Nat.blt d n = true)
    (hkk : ∀ w' p2 c2 S2, SH w0 w' (L.set i (Ch.own S2 z [.slice p2 z.length c2])) → Run P n Q (.ops all l :: k) ((d, .slice p2 z.length c2) :: e) w') :
    Run P n Q (.ops all (⟨some d, .call ⟨.builtin .append, #[x, y], #[t, t]⟩, ty, ps, af, none⟩ :: l) :: k) e w := by
  subst hz'
  rw [List.length_append] at hkk
  exact qqH hT i h hi hs hl' hx hy hte hk hel hz hzs hsz hb hbig hn hkk

theorem qrH (hT : TabOk P T) {α : Type} [GoT α] {all : Array Oper} {l : List Oper} {d t ty el : Nat} {ps : String} {af : Array Edge} {x y : Operand} {S S1 : Nat → Prop} {xs ys z : List α} {p p' : Option Addr} {ln ln' c c' : Nat} {te te' : TE} {zv : Value}
    (h : SH w0 w (Ch.own S1 ys [.slice p' ln' c'] :: Ch.own S xs [.slice p ln c] :: L)) (hx : opv e x = some (.slice p ln c)) (hy : opv e y = some (.slice p' ln' c'))
    (hte : T.get t = some te) (hk : te.kind = .slice el) (hel : T.get el = some te') (hz : te'.zero = some zv) (hzs : (cellsL zv).length = te'.size) (hsz : te'.size = GoT.k α)
    (hb : Nat.ble te'.bytes 65536 = true) (hbig : xs.length + ys.length ≤ big) (hz' : xs ++ ys = z) (hn : Nat.blt d n = true)
    (hkk : ∀ w' p2 c2 S2, SH w0 w' (Ch.own S2 z [.slice p2 z.length c2] :: L) → Run P n Q (.ops all l :: k) ((d, .slice p2 z.length c2) :: e) w') :
    Run P n Q (.ops all (⟨some d, .call ⟨.builtin .append, #[x, y], #[t, t]⟩, ty, ps, af, none⟩ :: l) :: k) e w := by
  subst hz'
  rw [List.length_append] at hkk
  exact qsb hT h hx hy hte hk hel hz hzs hsz hb hbig hn hkk

theorem qeJ (hT : TabOk P T) (α : Type) [GoT α] {all : Array Oper} {l : List Oper} {d t ty el : Nat} {ps : String} {af : Array Edge} {te te' : TE} {x y : Operand} {kd kd' : IntKind} {nv : Int} {zv : Value} {z : List α}
    (h : SH w0 w L) (hx : opv e x = some (.int kd nv)) (hy : opv e y = some (.int kd' nv)) (hte : T.get t = some te) (hk : te.kind = .slice el) (hel : T.get el = some te') (hz : te'.zero = some zv) (hzc : cellsL zv = GoT.zc α) (hsz : te'.size = GoT.k α)
    (hb : Nat.ble te'.bytes 65536 = true) (h0 : 0 ≤ nv) (hbig : nv ≤ big) (hz' : List.replicate nv.toNat (GoT.zero : α) = z) (hn : Nat.blt d n = true)
    (hkk : ∀ w' S p, SH w0 w' (Ch.own S z [.slice p z.length z.length] :: L) → Run P n Q (.ops all l :: k) ((d, .slice p z.length z.length) :: e) w') :
    Run P n Q (.ops all (⟨some d, .makeSlice t x y, ty, ps, af, none⟩ :: l) :: k) e w := by
  subst hz'
  rw [List.length_replicate] at hkk
  exact qsa hT α h hx hy hte hk hel hz hzc hsz hb h0 hbig hn hkk

/-- A variable, as what is pointed at, over the new base. -/
theorem Up.boxP {A0 B B' : Nat → Prop} {w00 : World} {α : Type} [GoT α] {x : α} {ds : List Value} {b : Nat} {t : TypeId} (hg : Rg A0 w00 B w0) (i : Nat) (h : SH w0 w L) (hu : Up B w0 w B' w1) (hi : L[i]? = some (Ch.box b ds t)) (hr : GoT.R w (reg B w0 w) x ds) :
    GoT.R w1 B' (some x) [.pointer (some ⟨b, 0, none⟩)] :=
  GoT.mono (GoT.loc (Rg.boxR i h hi hr) (fun a ha => hu.below.block a (hg.regOld h a ha))) hu.sub

/-! ### A call whose result shares memory with what is on the base alone: what is owned stays -/

variable {A0 B : Nat → Prop} {w00 : World} {α : Type} [GoT α] {x : α} {cs : List Value} {xs : List α} {p : Option Addr} {c : Nat} {fs : List Fct} {S : Nat → Prop}

theorem Rg.atB (hg : Rg A0 w00 B w0) (h : SH w0 w L) : ∀ b, B b → Fw.old w b := fun b hb => Nat.lt_of_lt_of_le (hg.old b hb) h.below.size
theorem Rg.inBR (hg : Rg A0 w00 B w0) (h : SH w0 w L) (hr : GoT.R w0 B x cs) : GoT.R w B x cs := GoT.loc hr (fun b hb => h.below.block b (hg.old b hb))
theorem Rg.inBS (hg : Rg A0 w00 B w0) (h : SH w0 w L) (hr : SlR w0 B xs p c) : SlR w B xs p c := hr.loc (fun b hb => h.below.block b (hg.old b hb))

theorem ql9 {ρ : Type} [GoRs ρ] [MonoRs ρ] (r : ρ) {all : Array Oper} {l : List Oper} {d ty : Nat} {ps : String} {af : Array Edge} {x : Operand} {args : Array Operand} {ats : Array TypeId} {f : FuncId} {fi ca : Array Value} {as vs : List Value}
    (hg : Rg A0 w00 B w0) (h : SH w0 w L) (hcall : qn P f) (hc : RetG P f vs w B r) (hx : opv e x = some (.func (.func f) fi ca)) (hargs : opvs e args.toList = some as) (hvs : fi.toList ++ as ++ ca.toList = vs) (hn : Nat.blt d n = true)
    (hk : ∀ w1 us S, SH w0 w1 (Ch.grp B S [] :: L) → GoRs.Rs w1 (fun b => S b ∨ B b) r us → Run P n Q (.ops all l :: k) ((d, tup us) :: e) w1) :
    Run P n Q (.ops all (⟨some d, .call ⟨.value x, args, ats⟩, ty, ps, af, none⟩ :: l) :: k) e w :=
  qrp r h hg.old hcall hc hx hargs hvs hn (fun w1 us _ h1 hr => hk w1 us _ h1 (MonoRs.mono hr (fun _ hb => hb.symm)))

theorem SH.grpAdd (i : Nat) (h : SH w0 w L) (hi : L[i]? = some (Ch.grp B S fs)) (hr : GoT.R w (fun b => S b ∨ B b) x cs) : SH w0 w (L.set i (Ch.grp B S (fct x cs :: fs))) :=
  h.say hi (fun hp f hf => by
    rcases List.mem_cons.1 hf with rfl | hf
    · exact hr
    · exact hp f hf) (fun _ h => h) (h.elder (Ch.grp B S fs) (List.mem_of_getElem? hi))
theorem SH.grpKeep (is : List Nat) (i : Nat) (h : SH w0 w L) (hi : L[i]? = some (Ch.grp B S fs)) : SH w0 w (L.set i (Ch.grp B S (pickF fs is))) :=
  h.say hi (fun hp f hf => hp f (qld hf)) (fun _ h => h) (h.elder (Ch.grp B S fs) (List.mem_of_getElem? hi))
end
end Go.Fw


namespace Go.Fw
open Go
open Go.RowKit (Below)

section
variable {P : Program} {T : Tab} {n : Nat} {Q : Exit → Act → World → Prop} {k : List It} {e : Env} {w0 w w' w1 : World} {L : List Ch}

/-- Whatever the order, one comes to what 'J' says; from there on once. -/
theorem qpB {ops : Array Oper} {st : List Nat} {C : World → Prop} {fuel : Nat} {listed : Array Bool} (J : Env → World → Prop) (fuel' : Nat) (listed' : Array Bool)
    (h1 : (∀ e w, J e w → RunA P n Q k ops st C fuel' listed' e w) → RunA P n Q k ops st C fuel listed e w) (h2 : ∀ e w, J e w → RunA P n Q k ops st C fuel' listed' e w) : RunA P n Q k ops st C fuel listed e w := h1 h2

theorem qpG {ops : Array Oper} {st : List Nat} {C : World → Prop} {fuel : Nat} {listed : Array Bool} (e' : Env) (hs : subEnv e e') (h : RunA P n Q k ops st C fuel listed e' w) : RunA P n Q k ops st C fuel listed e w :=
  fun a ha => h a (ha.sub hs)
end
end Go.Fw


namespace Go.Fw
open Go

section
variable {α β : Type} {f g : Nat → Option α} {a b r s : α} {c : Bool}

theorem Ev.iff (h1 : c = true → Ev f a) (h2 : c = false → Ev g b) : Ev (fun n => bif c then f n else g n) (bif c then a else b) := by
  cases c
  · exact h2 rfl
  · exact h1 rfl
theorem Ev.bindB {f : Nat → Option β} {g : Nat → β → Option α} {u v : β} (h : Ev f (bif c then u else v)) (h1 : c = true → Ev (fun n => g n u) a) (h2 : c = false → Ev (fun n => g n v) b) : Ev (fun n => (f n).bind (g n)) (bif c then a else b) := by
  cases c
  · exact Ev.bind h (h2 rfl)
  · exact Ev.bind h (h1 rfl)
theorem Ev.cast (h : Ev f r) (e : r = s) : Ev f s := e ▸ h
/-- An answer of two ways, each shown where it is taken. -/
theorem Ev.two (h1 : c = true → Ev f a) (h2 : c = false → Ev f b) : Ev f (bif c then a else b) := by
  cases c
  · exact h2 rfl
  · exact h1 rfl
end

/-- Up to 'n', 'f' holds. -/
def allN (f : Nat → Bool) (n : Nat) : Bool := (List.range n).all f
theorem qa1 {f : Nat → Bool} {n : Nat} : allN f n = true ↔ ∀ j, j < n → f j = true := by simp [allN, List.all_eq_true]
theorem qjv {f : Nat → Bool} {n : Nat} : allN f n = false ↔ ∃ j, j < n ∧ f j = false := by
  rw [← Bool.not_eq_true, qa1]
  constructor
  · intro h
    exact Classical.byContradiction fun hn => h (fun j hj => by
      cases hf : f j with
      | true => rfl
      | false => exact absurd ⟨j, hj, hf⟩ hn)
  · rintro ⟨j, hj, hf⟩ h
    rw [h j hj] at hf
    cases hf
theorem qgK {f g : Nat → Bool} {n : Nat} (h : ∀ j, j < n → f j = g j) : allN f n = allN g n := by
  rw [Bool.eq_iff_iff, qa1, qa1]
  exact ⟨fun hf j hj => h j hj ▸ hf j hj, fun hg j hj => (h j hj).symm ▸ hg j hj⟩
theorem qit {f g : Nat → Bool} {n : Nat} : allN (fun j => f j && g j) n = (allN f n && allN g n) := by
  rw [Bool.eq_iff_iff, Bool.and_eq_true, qa1, qa1, qa1]
  simp only [Bool.and_eq_true]
  exact ⟨fun h => ⟨fun j hj => (h j hj).1, fun j hj => (h j hj).2⟩, fun h j hj => ⟨h.1 j hj, h.2 j hj⟩⟩

/-- A loop that checks, from some place on. -/
theorem qnL {ρ σ : Type} {Lf : Nat → Int → Option (Flow ρ σ)} {len i0 : Nat} {f : Nat → Bool} {bad : ρ} {fin : Flow ρ σ} (h0 : i0 ≤ len) (hend : Ev (fun n => Lf n (len : Int)) fin)
    (hstep : ∀ j, i0 ≤ j → j < len → ∀ X, Ev (fun n => Lf n ((j + 1 : Nat) : Int)) X → Ev (fun n => Lf n (j : Int)) (bif f j then X else .ret bad)) :
    Ev (fun n => Lf n (i0 : Int)) (bif allN (fun j => f (i0 + j)) (len - i0) then fin else .ret bad) := by
  obtain ⟨m, rfl⟩ : ∃ m, len = i0 + m := ⟨len - i0, by omega⟩
  rw [show i0 + m - i0 = m by omega]
  clear h0
  induction m generalizing i0 with
  | zero => exact hend
  | succ m ih =>
    have h1 := @ih (i0 + 1) (by rw [show i0 + 1 + m = i0 + (m + 1) by omega]; exact hend) (fun j h2 h3 X hX => hstep j (by omega) (by omega) X hX)
    refine (hstep i0 (Nat.le_refl _) (by omega) _ h1).cast ?_
    have : allN (fun j => f (i0 + j)) (m + 1) = (f i0 && allN (fun j => f (i0 + 1 + j)) m) := by
      rw [Bool.eq_iff_iff, Bool.and_eq_true, qa1, qa1]
      constructor
      · intro h
        exact ⟨by simpa using h 0 (by omega), fun j hj => by have := h (j + 1) (by omega); rwa [show i0 + (j + 1) = i0 + 1 + j by omega] at this⟩
      · rintro ⟨h1, h2⟩ j hj
        cases j with
        | zero => simpa using h1
        | succ j => have := h2 j (by omega); rwa [show i0 + 1 + j = i0 + (j + 1) by omega] at this
    rw [this]
    cases f i0 <;> rfl

theorem qe1 {ρ σ : Type} {Lf : Nat → Int → Option (Flow ρ σ)} {len : Nat} {f : Nat → Bool} {bad : ρ} {fin : Flow ρ σ} (hend : Ev (fun n => Lf n (len : Int)) fin)
    (hstep : ∀ j, j < len → ∀ X, Ev (fun n => Lf n ((j + 1 : Nat) : Int)) X → Ev (fun n => Lf n (j : Int)) (bif f j then X else .ret bad)) :
    Ev (fun n => Lf n 0) (bif allN f len then fin else .ret bad) := by
  have := qnL (i0 := 0) (Nat.zero_le _) hend (fun j _ hj X hX => hstep j hj X hX)
  simpa using this

theorem qaJ {α : Type} {xs : List α} {j : Nat} {x : α} (h : xs[j]? = some x) : idx xs (j : Int) = some x := by
  unfold idx
  rw [if_pos (by omega), Int.toNat_natCast, h]
theorem qgN {α : Type} {xs : List α} {j : Nat} (h : j < xs.length) : idx xs (j : Int) = some xs[j] := qaJ (List.getElem?_eq_getElem h)

def inI (x lo hi : Int) : Bool := decide (lo ≤ x) && decide (x ≤ hi)
theorem qc5 {x lo hi : Int} : inI x lo hi = true ↔ lo ≤ x ∧ x ≤ hi := by simp [inI]
theorem qqm {x lo hi : Int} : inI x lo hi = false ↔ ¬ (lo ≤ x ∧ x ≤ hi) := by rw [← qc5, Bool.not_eq_true]

/-- The number at a place. -/
def at0 (xs : List Int) (j : Nat) : Int := xs.getD j 0
theorem qsh {xs : List Int} {j : Nat} (h : j < xs.length) : at0 xs j = xs[j] := by simp [at0, h]
theorem qbp {xs : List Int} {j : Nat} (h : j < xs.length) : idx xs (j : Int) = some (at0 xs j) := by rw [qgN h, qsh h]

theorem qbA {α : Type} {c : Bool} {x y : α} : (bif !c then x else y) = bif c then y else x := by cases c <;> rfl
theorem qk1 {c d : Bool} : (bif c then d else false) = (c && d) := by cases c <;> rfl
end Go.Fw


namespace Go.Fw
open Go

theorem qrX {α : Type} {a : List α} {wt : α → Nat} {Lf : Nat → Int → Int → Option (Flow Int (Int × Int))} {el : Nat → α → Int → Option Int}
    (hel : ∀ x, x ∈ a → ∀ left : Int, 0 ≤ left → left ≤ 1048576 → Sz (fun n => el n x left) (fun r => r = left - (wt x : Int)))
    (hend : ∀ (acc : Int) n, Lf (n + 1) acc (a.length : Int) = some (.nxt (acc, (a.length : Int))))
    (hstep : ∀ (acc : Int) (n j : Nat) (x : α), a[j]? = some x → Lf (n + 1) acc (j : Int) = (el n x acc).bind fun r => bif decide (r < 0) then some (.ret (-1)) else Lf n r ((j + 1 : Nat) : Int)) :
    ∀ left : Int, 0 ≤ left → left ≤ 1048576 → ∃ o, Ev (fun n => Lf n left 0) o ∧ (o = .ret (-1) ∨ ∃ r : Int, 0 ≤ r ∧ r = left - ((a.map wt).sum : Nat) ∧ o = .nxt (r, (a.length : Int))) := by
  have main : ∀ k j, j + k = a.length → ∀ left : Int, 0 ≤ left → left ≤ 1048576 → ∃ o, Ev (fun n => Lf n left (j : Int)) o ∧ (o = .ret (-1) ∨ ∃ r : Int, 0 ≤ r ∧ r = left - (((a.drop j).map wt).sum : Nat) ∧ o = .nxt (r, (a.length : Int))) := by
    intro k
    induction k with
    | zero =>
      intro j hj left h0 h1
      obtain rfl : j = a.length := by omega
      exact ⟨_, Ev.step (hend left) .done, .inr ⟨left, h0, by simp, rfl⟩⟩
    | succ k ih =>
      intro j hj left h0 h1
      have hlt : j < a.length := by omega
      have hx : a[j]? = some a[j] := List.getElem?_eq_getElem hlt
      obtain ⟨r, hr, hq⟩ := hel a[j] (List.getElem_mem hlt) left h0 h1
      have hd : a.drop j = a[j] :: a.drop (j + 1) := List.drop_eq_getElem_cons hlt
      by_cases hn : r < 0
      · exact ⟨.ret (-1), Ev.step (fun n => hstep left n j a[j] hx) (Ev.bind hr (Ev.tt (by simpa using hn) .done)), .inl rfl⟩
      · rcases hq with hq | ⟨hq0, hq⟩
        · exact absurd hq hn
        · obtain ⟨o, ho, hc⟩ := ih (j + 1) (by omega) r hq0 (by omega)
          refine ⟨o, Ev.step (fun n => hstep left n j a[j] hx) (Ev.bind hr (Ev.ff (by simpa using hn) ho)), hc.imp id ?_⟩
          rintro ⟨r', h2, h3, h4⟩
          refine ⟨r', h2, ?_, h4⟩
          rw [hd, List.map_cons, List.sum_cons, h3, hq]
          omega
  intro left h0 h1
  have := main a.length 0 (by omega) left h0 h1
  simpa using this

theorem Sz.list {α : Type} {a : List α} {wt : α → Nat} {Lf : Nat → Int → Int → Option (Flow Int (Int × Int))} {el : Nat → α → Int → Option Int} {left : Int} (h0 : 0 ≤ left) (h1 : left ≤ 1048576) (hl : a.length ≤ 9223372036854775807)
    (hel : ∀ x, x ∈ a → ∀ left : Int, 0 ≤ left → left ≤ 1048576 → Sz (fun n => el n x left) (fun r => r = left - (wt x : Int)))
    (hend : ∀ (acc : Int) n, Lf (n + 1) acc (a.length : Int) = some (.nxt (acc, (a.length : Int))))
    (hstep : ∀ (acc : Int) (n j : Nat) (x : α), a[j]? = some x → Lf (n + 1) acc (j : Int) = (el n x acc).bind fun r => bif decide (r < 0) then some (.ret (-1)) else Lf n r ((j + 1 : Nat) : Int))
    {F : Nat → Option Int} (hF : ∀ n, F n = bif decide (W64 (left - (a.length : Int)) < 0) then some (-1) else (Lf n (W64 (left - (a.length : Int))) 0).bind fun o => match o with | .ret r => some r | .nxt (i1, _) => some i1) :
    Sz F (fun r => r = left - ((a.length + (a.map wt).sum : Nat) : Int)) := by
  have hw : W64 (left - (a.length : Int)) = left - (a.length : Int) := qfi (by omega) (by omega)
  by_cases hn : left - (a.length : Int) < 0
  · exact ⟨-1, Ev.congr hF (Ev.tt (by rw [hw]; simpa using hn) .done), .inl (by decide)⟩
  · obtain ⟨o, ho, hc⟩ := qrX hel hend hstep (left - (a.length : Int)) (by omega) (by omega)
    rcases hc with rfl | ⟨r, hr0, hr, rfl⟩
    · refine ⟨-1, Ev.congr hF (Ev.ff (by rw [hw]; simpa using hn) ?_), .inl (by decide)⟩
      rw [hw]
      exact Ev.bind ho .done
    · refine ⟨r, Ev.congr hF (Ev.ff (by rw [hw]; simpa using hn) ?_), .inr ⟨hr0, by omega⟩⟩
      rw [hw]
      exact Ev.bind ho .done

theorem Sz.str {s : ByteArray} {left : Int} (h : s.size ≤ 9223372036854775807) (h0 : 0 ≤ left) (h1 : left ≤ 1048576) : Sz (fun _ => some (W64 (left - (s.size : Int)))) (fun r => r = left - (s.size : Int)) := by
  rw [qfi (by omega) (by omega)]
  refine ⟨_, .done, ?_⟩
  by_cases hn : left - (s.size : Int) < 0
  · exact .inl hn
  · exact .inr ⟨by omega, rfl⟩
theorem Sz.strStep {s : ByteArray} {left : Int} {g : Nat → Option Int} {Q' : Int → Prop} (h : s.size ≤ 9223372036854775807) (h0 : 0 ≤ left) (h1 : left ≤ 1048576) (hg : 0 ≤ W64 (left - (s.size : Int)) → W64 (left - (s.size : Int)) = left - (s.size : Int) → Sz (fun n => g n) Q')
    : Sz (fun n => bif decide (W64 (left - (s.size : Int)) < 0) then some (-1) else g n) Q' := by
  have hw : W64 (left - (s.size : Int)) = left - (s.size : Int) := qfi (by omega) (by omega)
  by_cases hn : W64 (left - (s.size : Int)) < 0
  · exact ⟨-1, Ev.tt (by simpa using hn) .done, .inl (by decide)⟩
  · obtain ⟨r, hr, hq⟩ := hg (by omega) hw
    exact ⟨r, Ev.ff (by simpa using hn) hr, hq⟩

theorem qhQ {α : Type} {a : List α} {z : α} {Lf : Nat → List α → Int → Option (List α × Int)} {cp : Nat → α → Option α} (hcp : ∀ x, x ∈ a → Ev (fun n => cp n x) x)
    (hend : ∀ acc n, Lf (n + 1) acc (a.length : Int) = some (acc, (a.length : Int)))
    (hstep : ∀ (acc : List α) (n j : Nat) (x y : α), a[j]? = some x → acc[j]? = some y → Lf (n + 1) acc (j : Int) = (cp n x).bind fun r => Lf n (setS acc (j : Int) r) ((j + 1 : Nat) : Int)) :
    Ev (fun n => Lf n (padS a z 0) 0) (a, (a.length : Int)) := by
  refine down (P := fun j => Ev (fun n => Lf n (padS a z j) (j : Int)) (a, (a.length : Int))) a.length ?_ (fun j hj ih => ?_)
  · refine Ev.step (fun n => hend _ n) ?_
    rw [qp1]
    exact .done
  · have hx : a[j]? = some a[j] := List.getElem?_eq_getElem hj
    have hlt : j < (padS a z j).length := by rw [qq9 (by omega)]; exact hj
    refine Ev.step (fun n => hstep _ n j _ _ hx (List.getElem?_eq_getElem hlt)) (Ev.bind (hcp _ (List.getElem_mem hj)) ?_)
    rw [qq6 hj]
    exact ih

theorem qhS {α : Type} {a : List α} {Lf : Nat → Int → Option (Flow Bool Int)} {eqf : Nat → α → α → Option Bool} (heq : ∀ x, x ∈ a → Ev (fun n => eqf n x x) true)
    (hend : ∀ n, Lf (n + 1) (a.length : Int) = some (.nxt (a.length : Int)))
    (hstep : ∀ (n j : Nat) (x : α), a[j]? = some x → Lf (n + 1) (j : Int) = (eqf n x x).bind fun r => bif (!r) then some (.ret false) else Lf n ((j + 1 : Nat) : Int)) :
    Ev (fun n => Lf n 0) (.nxt (a.length : Int)) := by
  refine down (P := fun j => Ev (fun n => Lf n (j : Int)) (.nxt (a.length : Int))) a.length ?_ (fun j hj ih => ?_)
  · exact Ev.step (fun n => hend n) .done
  · exact Ev.step (fun n => hstep n j _ (List.getElem?_eq_getElem hj)) (Ev.bind (heq _ (List.getElem_mem hj)) (Ev.ff rfl ih))

/-! ### Lists that are not too long -/

def okI (x : Int) : Prop := -9223372036854775808 ≤ x ∧ x ≤ 9223372036854775807
def okS (s : ByteArray) : Prop := s.size ≤ 1048576
def okL {α : Type} (ok : α → Prop) (xs : List α) : Prop := xs.length ≤ 1048576 ∧ ∀ x, x ∈ xs → ok x
def okT (_ : Bool) : Prop := True
theorem okL.len {α : Type} {ok : α → Prop} {xs : List α} (h : okL ok xs) : xs.length ≤ 1048576 := h.1
theorem okL.get {α : Type} {ok : α → Prop} {xs : List α} (h : okL ok xs) {j : Nat} {x : α} (hx : xs[j]? = some x) : ok x := h.2 x (List.mem_of_getElem? hx)
theorem okL.at {α : Type} {ok : α → Prop} {xs : List α} (h : okL ok xs) {j : Nat} (hj : j < xs.length) : ok xs[j] := h.2 _ (List.getElem_mem hj)

theorem qdV {α : Type} {wt : α → Nat} {xs : List α} {x : α} (h : x ∈ xs) : wt x ≤ (xs.map wt).sum := by
  induction xs with
  | nil => cases h
  | cons y ys ih =>
    rw [List.map_cons, List.sum_cons]
    rcases List.mem_cons.1 h with rfl | h
    · omega
    · have := ih h; omega
end Go.Fw


namespace Go.Fw
open Go
open Go.RowKit (Below)

section
variable {P : Program} {T : Tab} {n : Nat} {Q : Exit → Act → World → Prop} {k : List It} {e : Env} {w0 w w' : World} {L : List Ch} {J : World → Prop}

end
end Go.Fw


namespace Go.Fw
open Go

theorem qjI {α : Type} {c : Bool} {x y : α} : (bif c then some x else some y) = some (bif c then x else y) := by cases c <;> rfl

/-- The place of the first element with a property, or -1. -/
def ixL {α : Type} (p : α → Bool) (xs : List α) : Int := match xs.findIdx? p with | some j => (j : Int) | none => -1

theorem qia {α : Type} {p : α → Bool} {xs : List α} : decide (ixL p xs ≥ 0) = xs.any p := by
  unfold ixL
  cases h : xs.findIdx? p with
  | some j =>
    have := List.findIdx?_eq_some_iff_getElem.1 h
    obtain ⟨hj, hp, _⟩ := this
    have h2 : xs.any p = true := List.any_eq_true.2 ⟨_, List.getElem_mem hj, hp⟩
    rw [h2]; simp
  | none =>
    have := List.findIdx?_eq_none_iff.1 h
    have h2 : xs.any p = false := by rw [List.any_eq_false]; intro x hx; simp [this x hx]
    rw [h2]; rfl

theorem qpW {α σ : Type} {xs : List α} {p : α → Bool} {Lf : Nat → Int → Option (Flow Int σ)} {pf : Nat → α → Option Bool} {fin : σ} (hp : ∀ x, x ∈ xs → Ev (fun n => pf n x) (p x))
    (hend : ∀ n, Lf (n + 1) (xs.length : Int) = some (.nxt fin))
    (hstep : ∀ (n j : Nat) (x : α), xs[j]? = some x → Lf (n + 1) (j : Int) = (pf n x).bind fun r => bif r then some (.ret (j : Int)) else Lf n ((j + 1 : Nat) : Int)) :
    Ev (fun n => Lf n 0) (match xs.findIdx? p with | some j => .ret (j : Int) | none => .nxt fin) := by
  have main : ∀ k j, j + k = xs.length → Ev (fun n => Lf n (j : Int)) (match (xs.drop j).findIdx? p with | some i => .ret ((j + i : Nat) : Int) | none => .nxt fin) := by
    intro k
    induction k with
    | zero =>
      intro j hj
      obtain rfl : j = xs.length := by omega
      rw [List.drop_eq_nil_of_le (Nat.le_refl _)]
      exact Ev.step hend .done
    | succ k ih =>
      intro j hj
      have hlt : j < xs.length := by omega
      have hd : xs.drop j = xs[j] :: xs.drop (j + 1) := List.drop_eq_getElem_cons hlt
      refine Ev.step (fun n => hstep n j _ (List.getElem?_eq_getElem hlt)) (Ev.bind (hp _ (List.getElem_mem hlt)) ?_)
      rw [hd, List.findIdx?_cons]
      cases hc : p xs[j] with
      | true => exact Ev.tt rfl .done
      | false =>
        refine Ev.ff rfl ((ih (j + 1) (by omega)).cast ?_)
        cases (xs.drop (j + 1)).findIdx? p with
        | none => rfl
        | some i => simp only [Bool.false_eq_true, if_false, Option.map_some]; congr 2; omega
  have := main xs.length 0 (by omega)
  simp only [List.drop_zero, Nat.zero_add] at this
  exact this

theorem qei {α σ : Type} {xs : List α} {p : α → Bool} {Lf : Nat → Int → Option (Flow Int σ)} {pf : Nat → α → Option Bool} {fin : σ} (hp : ∀ x, x ∈ xs → Ev (fun n => pf n x) (p x))
    (hend : ∀ n, Lf (n + 1) (xs.length : Int) = some (.nxt fin))
    (hstep : ∀ (n j : Nat) (x : α), xs[j]? = some x → Lf (n + 1) (j : Int) = (pf n x).bind fun r => bif r then some (.ret (j : Int)) else Lf n ((j + 1 : Nat) : Int))
    {F : Nat → Option Int} (hF : ∀ n, F n = (Lf n 0).bind fun o => match o with | .ret r => some r | .nxt _ => some (-1)) : Ev F (ixL p xs) := by
  refine Ev.congr hF (Ev.bind (qpW hp hend hstep) ?_)
  unfold ixL
  cases xs.findIdx? p <;> exact .done

theorem qoi {α : Type} {p : α → Bool} {xs : List α} {d : α} : xs.any p = !allN (fun j => !p (xs.getD j d)) xs.length := by
  rw [Bool.eq_iff_iff, List.any_eq_true, Bool.not_eq_true', qjv]
  constructor
  · rintro ⟨x, hx, hp⟩
    obtain ⟨j, hj, rfl⟩ := List.getElem_of_mem hx
    exact ⟨j, hj, by simp [hj, hp]⟩
  · rintro ⟨j, hj, hp⟩
    exact ⟨xs[j], List.getElem_mem hj, by simpa [hj] using hp⟩

theorem qgu {α : Type} {p : α → Bool} {xs : List α} {d : α} : xs.all p = allN (fun j => p (xs.getD j d)) xs.length := by
  rw [Bool.eq_iff_iff, List.all_eq_true, qa1]
  constructor
  · intro h j hj
    simpa [hj] using h xs[j] (List.getElem_mem hj)
  · intro h x hx
    obtain ⟨j, hj, rfl⟩ := List.getElem_of_mem hx
    simpa [hj] using h j hj

theorem qk2 {α : Type} {p : α → Bool} {xs : List α} : (!xs.any fun x => !p x) = xs.all p := by
  rw [Bool.eq_iff_iff]; simp [List.all_eq_true]

/-- A loop over the elements that checks. -/
theorem qj1 {α ρ σ : Type} {xs : List α} {p : α → Bool} {Lf : Nat → Int → Option (Flow ρ σ)} {bad : ρ} {fin : σ}
    (hend : ∀ n, Lf (n + 1) (xs.length : Int) = some (.nxt fin))
    (hstep : ∀ j, ∀ h : j < xs.length, ∀ X, Ev (fun n => Lf n ((j + 1 : Nat) : Int)) X → Ev (fun n => Lf (n + 1) (j : Int)) (bif p xs[j] then X else .ret bad)) :
    Ev (fun n => Lf n 0) (bif xs.all p then .nxt fin else .ret bad) := by
  have main : ∀ k j, j + k = xs.length → Ev (fun n => Lf n (j : Int)) (bif (xs.drop j).all p then .nxt fin else .ret bad) := by
    intro k
    induction k with
    | zero =>
      intro j hj
      obtain rfl : j = xs.length := by omega
      rw [List.drop_eq_nil_of_le (Nat.le_refl _)]
      exact Ev.step hend .done
    | succ k ih =>
      intro j hj
      have hlt : j < xs.length := by omega
      have hd : xs.drop j = xs[j] :: xs.drop (j + 1) := List.drop_eq_getElem_cons hlt
      refine (Ev.succ (hstep j hlt _ (ih (j + 1) (by omega)))).cast ?_
      rw [hd, List.all_cons]
      cases p xs[j] <;> rfl
  have := main xs.length 0 (by omega)
  simpa using this

/-- A loop over the elements that builds. -/
theorem qln {α ρ τ : Type} {xs : List α} {Lf : Nat → τ → Int → Option ρ} {step : τ → α → τ} {fin : τ → ρ} (i0 : Nat) (t0 : τ) (Inv : Nat → τ → Prop) (hi0 : i0 ≤ xs.length) (h0 : Inv i0 t0)
    (hinv : ∀ j t, ∀ h : j < xs.length, Inv j t → Inv (j + 1) (step t xs[j]))
    (hend : ∀ n t, Lf (n + 1) t (xs.length : Int) = some (fin t))
    (hstep : ∀ j t, ∀ h : j < xs.length, Inv j t → ∀ X, Ev (fun n => Lf n (step t xs[j]) ((j + 1 : Nat) : Int)) X → Ev (fun n => Lf (n + 1) t (j : Int)) X) :
    Ev (fun n => Lf n t0 (i0 : Int)) (fin ((xs.drop i0).foldl step t0)) ∧ Inv xs.length ((xs.drop i0).foldl step t0) := by
  have main : ∀ k j t, j + k = xs.length → Inv j t → Ev (fun n => Lf n t (j : Int)) (fin ((xs.drop j).foldl step t)) ∧ Inv xs.length ((xs.drop j).foldl step t) := by
    intro k
    induction k with
    | zero =>
      intro j t hj hi
      obtain rfl : j = xs.length := by omega
      rw [List.drop_eq_nil_of_le (Nat.le_refl _)]
      exact ⟨Ev.step (fun n => hend n t) .done, hi⟩
    | succ k ih =>
      intro j t hj hi
      have hlt : j < xs.length := by omega
      have hd : xs.drop j = xs[j] :: xs.drop (j + 1) := List.drop_eq_getElem_cons hlt
      obtain ⟨h1, h2⟩ := ih (j + 1) (step t xs[j]) (by omega) (hinv j t hlt hi)
      rw [hd, List.foldl_cons]
      exact ⟨Ev.succ (hstep j t hlt hi _ h1), h2⟩
  exact main (xs.length - i0) i0 t0 (by omega) h0

theorem qp6 {α ρ τ : Type} {xs : List α} {Lf : Nat → τ → Int → Option ρ} {step : τ → α → τ} {fin : τ → ρ} (t0 : τ) (Inv : Nat → τ → Prop) (h0 : Inv 0 t0)
    (hinv : ∀ j t, ∀ h : j < xs.length, Inv j t → Inv (j + 1) (step t xs[j]))
    (hend : ∀ n t, Lf (n + 1) t (xs.length : Int) = some (fin t))
    (hstep : ∀ j t, ∀ h : j < xs.length, Inv j t → ∀ X, Ev (fun n => Lf n (step t xs[j]) ((j + 1 : Nat) : Int)) X → Ev (fun n => Lf (n + 1) t (j : Int)) X) :
    Ev (fun n => Lf n t0 0) (fin (xs.foldl step t0)) ∧ Inv xs.length (xs.foldl step t0) := by
  have := qln (i0 := 0) t0 Inv (Nat.zero_le _) h0 hinv hend hstep
  simpa using this

theorem qdS {α : Type} {xs ys : List α} (h : xs.length + ys.length ≤ 2147483648) : appS xs ys = some (xs ++ ys) := by
  unfold appS big; rw [if_pos h]
end Go.Fw


namespace Go.Fw
open Go

section
variable {α β : Type} {f g : Nat → Option Bool} {a b : Bool} {k : Nat → Option α} {X B : α}

theorem Ev.and (h1 : Ev f a) (h2 : a = true → Ev g b) : Ev (fun n => (f n).bind fun r => bif r then g n else some false) (a && b) := by
  refine Ev.bind h1 ?_
  cases a
  · exact .done
  · exact Ev.tt rfl (h2 rfl)
theorem Ev.andP (h2 : a = true → Ev g b) : Ev (fun n => bif a then g n else some false) (a && b) := by
  cases a
  · exact .done
  · exact Ev.tt rfl (h2 rfl)
theorem Ev.last (h1 : Ev f a) : Ev (fun n => (f n).bind fun r => some r) a := Ev.bind h1 .done
theorem Ev.neg (h1 : Ev f a) : Ev (fun n => (f n).bind fun r => some (!r)) (!a) := Ev.bind h1 .done
/-- An alternative that guards. -/
theorem Ev.or (h1 : Ev f a) (h2 : a = true → Ev g (!b)) : Ev (fun n => (f n).bind fun r => bif (!r) then some true else g n) (!(a && b)) := by
  refine Ev.bind h1 ?_
  cases a
  · exact .done
  · exact Ev.ff rfl (h2 rfl)
theorem Ev.guard {c : α} (h1 : Ev f (!a)) (h2 : a = true → Ev k (bif b then X else c)) : Ev (fun n => (f n).bind fun r => bif r then some c else k n) (bif a && b then X else c) := by
  refine Ev.bind h1 ?_
  cases a
  · exact .done
  · exact Ev.ff rfl (h2 rfl)
/-- The same for an answer that is a truth value. -/
theorem Ev.guardB (h1 : Ev f (!a)) (h2 : a = true → Ev g b) : Ev (fun n => (f n).bind fun r => bif r then some false else g n) (a && b) := by
  refine Ev.bind h1 ?_
  cases a
  · exact .done
  · exact Ev.ff rfl (h2 rfl)
theorem Ev.chk (h1 : Ev f a) (h2 : a = true → Ev k (bif b then X else B)) : Ev (fun n => (f n).bind fun r => bif (!r) then some B else k n) (bif a && b then X else B) := by
  refine Ev.bind h1 ?_
  cases a
  · exact .done
  · exact Ev.ff rfl (h2 rfl)
theorem Ev.chkT (h1 : Ev f (!a)) (h2 : a = true → Ev k (bif b then X else B)) : Ev (fun n => (f n).bind fun r => bif r then some B else k n) (bif a && b then X else B) := Ev.guard h1 h2
theorem Ev.chkT1 (h1 : Ev f (!a)) (h2 : a = true → Ev k X) : Ev (fun n => (f n).bind fun r => bif r then some B else k n) (bif a then X else B) := by
  refine Ev.bind h1 ?_
  cases a
  · exact .done
  · exact Ev.ff rfl (h2 rfl)
theorem Ev.chk1 (h1 : Ev f a) (h2 : a = true → Ev k X) : Ev (fun n => (f n).bind fun r => bif (!r) then some B else k n) (bif a then X else B) := by
  refine Ev.bind h1 ?_
  cases a
  · exact .done
  · exact Ev.ff rfl (h2 rfl)
theorem Ev.chkP1 (h2 : a = false → Ev k X) : Ev (fun n => bif a then some B else k n) (bif !a then X else B) := by
  cases a
  · exact Ev.ff rfl (h2 rfl)
  · exact .done
theorem Ev.ok (h1 : Ev f a) (h2 : a = true → Ev k (bif b then X else B)) : Ev (fun n => (f n).bind fun r => bif r then k n else some B) (bif a && b then X else B) := by
  refine Ev.bind h1 ?_
  cases a
  · exact .done
  · exact Ev.tt rfl (h2 rfl)
theorem Ev.ok1 (h1 : Ev f a) (h2 : a = true → Ev k X) : Ev (fun n => (f n).bind fun r => bif r then k n else some B) (bif a then X else B) := by
  refine Ev.bind h1 ?_
  cases a
  · exact .done
  · exact Ev.tt rfl (h2 rfl)
theorem Ev.okP (h2 : a = true → Ev k (bif b then X else B)) : Ev (fun n => bif a then k n else some B) (bif a && b then X else B) := by
  cases a
  · exact .done
  · exact Ev.tt rfl (h2 rfl)
theorem Ev.okP1 (h2 : a = true → Ev k X) : Ev (fun n => bif a then k n else some B) (bif a then X else B) := by
  cases a
  · exact .done
  · exact Ev.tt rfl (h2 rfl)
/-- A guard in the form of an alternative, turned. -/
theorem Ev.orB (h1 : Ev f a) (h2 : a = true → Ev g (!b)) : Ev (fun n => (f n).bind fun r => bif r then g n else some true) (!(a && b)) := by
  refine Ev.bind h1 ?_
  cases a
  · exact .done
  · exact Ev.tt rfl (h2 rfl)
theorem Ev.orBP (h2 : a = true → Ev g (!b)) : Ev (fun n => bif a then g n else some true) (!(a && b)) := by
  cases a
  · exact .done
  · exact Ev.tt rfl (h2 rfl)
end

/-- A place of a list. -/
def gt {α : Type} [Inhabited α] (xs : List α) (j : Nat) : α := xs.getD j default
theorem qiF {α : Type} [Inhabited α] {xs : List α} {j : Nat} (h : j < xs.length) : gt xs j = xs[j] := by simp [gt, h]
theorem qaq {α : Type} [Inhabited α] {xs : List α} {j : Nat} (h : j < xs.length) : idx xs (j : Int) = some (gt xs j) := by rw [qgN h, qiF h]
theorem qig {α : Type} [Inhabited α] {ok : α → Prop} {xs : List α} (h : okL ok xs) {j : Nat} (hj : j < xs.length) : ok (gt xs j) := by rw [qiF hj]; exact h.at hj
theorem qrw {α : Type} [Inhabited α] {xs : List α} {j i : Nat} (h : i < j) : gt (xs.take j) i = gt xs i := by simp [gt, List.getD_eq_getElem?_getD, h]
theorem qhI {α : Type} [Inhabited α] {p : α → Bool} {xs : List α} : xs.all p = allN (fun j => p (gt xs j)) xs.length := qgu
theorem qq8 {α : Type} [Inhabited α] {p : α → Bool} {xs : List α} : xs.any p = !allN (fun j => !p (gt xs j)) xs.length := qoi
theorem qqM {α : Type} [Inhabited α] {p : α → Bool} {xs : List α} {j : Nat} (h : j ≤ xs.length) : (xs.take j).any p = !allN (fun i => !p (gt xs i)) j := by
  rw [qq8, List.length_take, Nat.min_eq_left h]
  congr 1
  exact qgK (fun i hi => by rw [qrw hi])
theorem qfu {α β : Type} [Inhabited α] {xs : List α} {g : α → β} {j : Nat} (h : j < xs.length) : (xs.take j).map g ++ [g (gt xs j)] = (xs.take (j + 1)).map g := by
  rw [qiF h, List.take_succ_eq_append_getElem h, List.map_append, List.map_cons, List.map_nil]
theorem qrB {j m : Nat} (_ : j < m) : ((j : Int) == W64 ((m : Int) - 1)) = decide (j + 1 = m) ∨ 9223372036854775807 < m := by
  by_cases hm : m ≤ 9223372036854775807
  · refine .inl ?_
    rw [qfi (by omega) (by omega), Bool.eq_iff_iff]
    simp
    omega
  · exact .inr (by omega)

/-- A loop that checks, with a state that is known at every turn. -/
theorem loopN {ρ σ τ : Type} {Lf : Nat → τ → Int → Option (Flow ρ σ)} (S : Nat → τ) (p : Nat → Bool) {len : Nat} {bad : ρ} {fin : σ}
    (hend : ∀ n, Lf (n + 1) (S len) (len : Int) = some (.nxt fin))
    (hstep : ∀ j, j < len → (∀ i, i < j → p i = true) → ∀ X, (p j = true → Ev (fun n => Lf n (S (j + 1)) ((j + 1 : Nat) : Int)) X) → Ev (fun n => Lf (n + 1) (S j) (j : Int)) (bif p j then X else .ret bad)) :
    Ev (fun n => Lf n (S 0) 0) (bif allN p len then .nxt fin else .ret bad) := by
  have main : ∀ k j, j + k = len → (∀ i, i < j → p i = true) → Ev (fun n => Lf n (S j) (j : Int)) (bif allN p len then .nxt fin else .ret bad) := by
    intro k
    induction k with
    | zero =>
      intro j hj hp
      obtain rfl : j = len := by omega
      rw [show allN p j = true from qa1.2 hp]
      exact Ev.step hend .done
    | succ k ih =>
      intro j hj hp
      refine (Ev.succ (hstep j (by omega) hp _ (fun hc => ih (j + 1) (by omega) (fun i hi => by
        rcases Nat.lt_succ_iff_lt_or_eq.1 hi with h | rfl
        · exact hp i h
        · exact hc)))).cast ?_
      cases hc : p j with
      | true => rfl
      | false =>
        rw [show allN p len = false from qjv.2 ⟨j, by omega, hc⟩]
        rfl
  have := main len 0 (by omega) (fun i hi => absurd hi (Nat.not_lt_zero _))
  exact this

/-- A loop that builds, with a state that is known at every turn. -/
theorem loopF {ρ τ : Type} {Lf : Nat → τ → Int → Option ρ} (S : Nat → τ) {len : Nat} {fin : ρ}
    (hend : ∀ n, Lf (n + 1) (S len) (len : Int) = some fin)
    (hstep : ∀ j, j < len → ∀ X, Ev (fun n => Lf n (S (j + 1)) ((j + 1 : Nat) : Int)) X → Ev (fun n => Lf (n + 1) (S j) (j : Int)) X) :
    Ev (fun n => Lf n (S 0) 0) fin :=
  down (P := fun j => Ev (fun n => Lf n (S j) (j : Int)) fin) len (Ev.step hend .done) (fun j hj ih => Ev.succ (hstep j hj _ ih))

/-! ### Counts -/

def cntP (q : Nat → Bool) : Nat → Nat
  | 0 => 0
  | n + 1 => cntP q n + (bif q n then 1 else 0)
theorem qeR {q : Nat → Bool} {n : Nat} : cntP q n ≤ n := by
  induction n with
  | zero => exact Nat.le_refl _
  | succ n ih => unfold cntP; cases q n <;> simp only [cond_true, cond_false] <;> omega
theorem qpj {q r : Nat → Bool} {n : Nat} (h : ∀ j, j < n → q j = r j) : cntP q n = cntP r n := by
  induction n with
  | zero => rfl
  | succ n ih => unfold cntP; rw [ih (fun j hj => h j (by omega)), h n (by omega)]
theorem qnf {q : Nat → Bool} {n : Nat} : cntP q n = 0 ↔ ∀ j, j < n → q j = false := by
  induction n with
  | zero => simp [cntP]
  | succ n ih =>
    unfold cntP
    constructor
    · intro h j hj
      have h1 : cntP q n = 0 := by omega
      rcases Nat.lt_succ_iff_lt_or_eq.1 hj with h2 | rfl
      · exact ih.1 h1 j h2
      · cases hq : q j with
        | false => rfl
        | true => rw [hq] at h; simp at h
    · intro h
      rw [ih.2 (fun j hj => h j (by omega)), h n (by omega)]
      rfl
theorem qor {q : Nat → Bool} {n : Nat} : decide (0 < cntP q n) = !allN (fun j => !q j) n := by
  rw [Bool.eq_iff_iff, decide_eq_true_iff, Bool.not_eq_true', qjv, Nat.pos_iff_ne_zero, Ne, qnf]
  simp
/-- The counts of one key at a time. -/
def vecC (c : Nat → Nat) (m : Nat) : List Int := (List.range m).map fun k => (c k : Int)
theorem qj4 {c : Nat → Nat} {m : Nat} : (vecC c m).length = m := by simp [vecC]
theorem qoD {c : Nat → Nat} {m k : Nat} (h : k < m) : at0 (vecC c m) k = (c k : Int) := by simp [at0, vecC, h]
theorem qiy {c : Nat → Nat} {m k : Nat} (h : k < m) : idx (vecC c m) (k : Int) = some (c k : Int) := by rw [qbp (by rw [qj4]; exact h), qoD h]
theorem qiB {c d : Nat → Nat} {m : Nat} (h : ∀ k, k < m → c k = d k) : vecC c m = vecC d m := by
  unfold vecC
  refine List.map_congr_left (fun k hk => ?_)
  rw [h k (List.mem_range.1 hk)]
theorem qj9 {m : Nat} (h : m ≤ 2147483648) : mkS (m : Int) (0 : Int) = some (vecC (fun _ => 0) m) := by
  unfold mkS big
  rw [if_pos ⟨by omega, by omega⟩]
  congr 1
  refine List.ext_getElem (by simp [vecC]) (fun k h1 h2 => ?_)
  simp [vecC]
theorem qng {c : Nat → Nat} {m k : Nat} (hc : c k < 9223372036854775807) : setS (vecC c m) (k : Int) (W64 ((c k : Int) + 1)) = vecC (fun i => c i + (bif decide (k = i) then 1 else 0)) m := by
  rw [qq hc]
  unfold setS
  refine List.ext_getElem (by simp [vecC]) (fun i h1 h2 => ?_)
  rw [List.getElem_set]
  show (if k = i then _ else _) = _
  by_cases hk : k = i
  · subst hk; simp [vecC]
  · simp [vecC, hk]
theorem qkF {x : Int} (h : 0 ≤ x) : x = (x.toNat : Int) := by omega
/-- A part of a list from its beginning. -/
theorem qpO {α : Type} {xs : List α} {j : Nat} (h : j ≤ xs.length) : subS xs 0 (j : Int) = some (xs.take j) := by
  unfold subS
  rw [if_pos ⟨by omega, by omega, by omega⟩]
  simp
theorem qbX {m : Nat} (h : m ≤ 9223372036854775807) : W64 ((m : Int) - 1) = (m : Int) - 1 := qfi (by omega) (by omega)
end Go.Fw


namespace Go.Fw
open Go
open Go.ChangeShapes Go.WideShapes Go.ChangeAt Go.RowKit

theorem qnR {P : Program} {w : World} {r : Reach} {b : Nat} {t e : TypeId} {cs : Array Value} (ht : P.underlying t = some (.slice e)) : ¬ Value.okWide P w r b t (.agg cs) := by
  intro h
  unfold Value.okWide at h
  rw [ht] at h
  simp [Cell.okWide, Cell.ok, ht] at h
/-- An argument that is no aggregate. -/
theorem qpL {P : Program} {H : Type} {enc : TypeId × Value → H} {W : World} {t : TypeId} {v : Value} {d : DataW H} {p : List MemPlace} {α : Type} [A : GoT α] {ρ : α → Prop} (ho : Opens P t A ρ) (hag : A.agg = false) (hn : ∀ cs, v ≠ .agg cs)
    (h : DataW.Trod enc P W 0 (fun _ => true) true t v d p) : ∃ x : α, ∃ cs, v = GoT.v α cs ∧ A.R W (old W) x cs ∧ ρ x := by
  obtain ⟨fuel, hf⟩ := h
  obtain ⟨x, hR, hx⟩ := ho.2 hf
  have hc : v.cells = #[v] := by
    unfold Value.cells
    cases v <;> first | rfl | exact absurd rfl (hn _)
  refine ⟨x, _, ?_, hR, hx⟩
  unfold GoT.v mkV
  rw [hag, hc]
  rfl
/-- An argument that is one. -/
theorem qpT {P : Program} {H : Type} {enc : TypeId × Value → H} {W : World} {t : TypeId} {v : Value} {d : DataW H} {p : List MemPlace} {α : Type} [A : GoT α] {ρ : α → Prop} (ho : Opens P t A ρ) (hag : A.agg = true) {fs : Array Field} (ht : P.underlying t = some (.struct fs)) {r : Reach} {b : Nat} (hok : Value.okWide P W r b t v)
    (h : DataW.Trod enc P W 0 (fun _ => true) true t v d p) : ∃ x : α, ∃ cs, v = GoT.v α cs ∧ A.R W (old W) x cs ∧ ρ x := by
  unfold Value.okWide at hok
  rw [ht] at hok
  obtain ⟨cs, rfl, _⟩ := hok
  obtain ⟨fuel, hf⟩ := h
  obtain ⟨x, hR, hx⟩ := ho.2 hf
  refine ⟨x, _, ?_, hR, hx⟩
  unfold GoT.v mkV
  rw [hag]
  simp [Value.cells]
theorem qlD {P : Program} {H : Type} {enc : TypeId × Value → H} {W : World} {t e : TypeId} {v : Value} {d : DataW H} {p : List MemPlace} {α : Type} [A : GoT α] {ρ : α → Prop} (ho : Opens P t A ρ) (hag : A.agg = false) (ht : P.underlying t = some (.slice e)) {r : Reach} {b : Nat} (hok : Value.okWide P W r b t v)
    (h : DataW.Trod enc P W 0 (fun _ => true) true t v d p) : ∃ x : α, ∃ cs, v = GoT.v α cs ∧ A.R W (old W) x cs ∧ ρ x :=
  qpL ho hag (fun _ hc => qnR ht (hc ▸ hok)) h
section
variable {P : Program} {H : Type} {enc : TypeId × Value → H}
theorem qmP (hl : laidOutB P = true) {W W' : World} (hb : Below W.heap.size W W') : ∀ {ts : List TypeId} {vs : List Value} {ds : List (DataW H)} {ps : List MemPlace}, (∀ t ∈ ts, P.readableRec t = true ∧ t < P.types.size) →
    DataW.TrodAll enc P W 0 (fun _ => true) true ts vs ds ps → (∀ x ∈ ps, x.block < W.heap.size) →
    DataW.TrodAll enc P W' 0 (fun b => decide (b < W.heap.size)) true ts vs ds ps ∧ DataW.TrodAll enc P W' 0 (fun _ => true) true ts vs ds ps := by
  intro ts
  induction ts with
  | nil =>
    intro vs ds ps _ h _
    obtain ⟨rfl, rfl, rfl⟩ := trodAll_nil h
    exact ⟨rfl, rfl⟩
  | cons t ts ih =>
    intro vs ds ps hr h hlt
    obtain ⟨v, vs', d, ds', p, q, rfl, rfl, rfl, hd, hrest⟩ := trodAll_cons h
    obtain ⟨h1, h2⟩ := ih (fun u hu => hr u (List.mem_cons_of_mem _ hu)) hrest (fun x hx => hlt x (List.mem_append.2 (.inr hx)))
    obtain ⟨r1, r2⟩ := hr t (List.mem_cons_self ..)
    have hlt1 : ∀ x ∈ p, x.block < W.heap.size := fun x hx => hlt x (List.mem_append.2 (.inl hx))
    exact ⟨⟨p, q, Below.trod hl r1 r2 hd hb hlt1, h1, rfl⟩, ⟨p, q, WideElems.Trod_stays hl r1 r2 hd (fun x hx => hb.same (hlt1 x hx)) (fun _ _ => rfl), h2, rfl⟩⟩
end

/-- What is left of a law behind its opening. -/
theorem qp8 {P : Program} {H : Type} {enc : TypeId × Value → H} {fn : Func} {s : ChangeSpec} {apart fresh handsOn again : Bool} {W W' : World} {tb : TypeId} {args : Array Value} {ds : List (DataW H)} {p : List MemPlace}
    (hl : laidOutB P = true) (hrr : (fn.params.toList.all fun t => P.readableRec t && decide (t < P.types.size)) = true) (hres : fn.resultTypes = #[tb]) (htb : P.underlying tb = some .bool) (hvars : s.vars = [])
    (hr : (s.fn H (ds ++ [])).results = [.lit (.bool true)]) (ha : (s.fn H (ds ++ [])).args = ds) (hv : (s.fn H (ds ++ [])).vars = [])
    (hW : DataW.Whole enc P fn.params.toList s.vars apart W args.toList ds [] p) (hb : Below W.heap.size W W') :
    s.post enc P fn apart fresh handsOn again W args (.bool true) W' := by
  have hW0 := hW
  obtain ⟨p0, q0, hA, hV, rfl, hz, hn⟩ := hW
  rw [hvars] at hV
  obtain rfl : q0 = [] := hV
  simp only [List.append_nil] at hW0 hz hn
  have hlt : ∀ x ∈ p0, x.block < W.heap.size := fun x hx => hW0.lt x hx
  obtain ⟨h0', h1'⟩ := qmP hl hb (fun t ht => by
    have := List.all_eq_true.1 hrr t ht
    simpa using this) hA hlt
  have hR : ∀ (b : Nat) (sp : Nat → Bool) (hd : Bool), DataW.TrodAll enc P W' b sp hd fn.resultTypes.toList ((Value.bool true).resultList fn.resultTypes.size) (s.fn H (ds ++ [])).results [] := by
    intro b sp hd
    rw [hres, hr]
    exact trodAll_mk1 (shut_bool htb true)
  have hR2 : (Value.bool true).resultList fn.resultTypes.size = [.bool true] := by rw [hres]; rfl
  refine ⟨ds, [], p0, [], p0, [], hW0, hR _ _ _, ?_, ?_, hb.frame _, fun _ => ?_⟩
  · rw [ha]
    exact h0'
  · rw [hvars, hv]
    exact rfl
  · refine ⟨ok_one hres rfl (okWide_bool_mk htb true), .lit (.bool true) :: ds, [], p0, ⟨p0, [], ?_, ?_, by simp, ?_, ?_⟩, fun x hx _ => hx⟩
    · rw [hR2, hres]
      exact ⟨[], p0, shut_bool htb true, h1', by simp⟩
    · rw [hvars]; exact rfl
    · intro b off hm
      rw [hb.frozen (hlt _ hm)]
      exact hz b off hm
    · intro hap
      exact hn hap
end Go.Fw


namespace Go.Fw
open Go

/-- A loop that builds: something holds of its state at every turn. -/
theorem loopE {ρ τ : Type} {Lf : Nat → τ → Int → Option ρ} {fin : τ → ρ} (Inv : Nat → τ → Prop) {len : Nat} (hend : ∀ n t, Lf (n + 1) t (len : Int) = some (fin t))
    (hstep : ∀ j t, j < len → Inv j t → ∃ t', Inv (j + 1) t' ∧ ∀ X, Ev (fun n => Lf n t' ((j + 1 : Nat) : Int)) X → Ev (fun n => Lf (n + 1) t (j : Int)) X)
    (i0 : Nat) (hi : i0 ≤ len) (t : τ) (h0 : Inv i0 t) : ∃ t', Inv len t' ∧ Ev (fun n => Lf n t (i0 : Int)) (fin t') := by
  have main : ∀ k j t, j + k = len → Inv j t → ∃ t', Inv len t' ∧ Ev (fun n => Lf n t (j : Int)) (fin t') := by
    intro k
    induction k with
    | zero =>
      intro j t hj h
      obtain rfl : j = len := by omega
      exact ⟨t, h, Ev.step (fun n => hend n t) .done⟩
    | succ k ih =>
      intro j t hj h
      obtain ⟨t', h1, h2⟩ := hstep j t (by omega) h
      obtain ⟨t2, h3, h4⟩ := ih (j + 1) t' (by omega) h1
      exact ⟨t2, h3, Ev.succ (h2 _ h4)⟩
  exact main (len - i0) i0 t (by omega) h0

/-- The same, downwards to 1. -/
theorem loopDn {ρ τ : Type} {Lf : Nat → τ → Int → Option ρ} {fin : τ → ρ} (Inv : τ → Prop) (m : Nat) (hend : ∀ n t, Lf (n + 1) t (0 : Int) = some (fin t))
    (hstep : ∀ j : Nat, ∀ t, 0 < j → j ≤ m → Inv t → ∃ t', Inv t' ∧ ∀ X, Ev (fun n => Lf n t' ((j - 1 : Nat) : Int)) X → Ev (fun n => Lf (n + 1) t (j : Int)) X) : ∀ t, Inv t → ∃ t', Inv t' ∧ Ev (fun n => Lf n t (m : Int)) (fin t') := by
  have : ∀ j, j ≤ m → ∀ t, Inv t → ∃ t', Inv t' ∧ Ev (fun n => Lf n t (j : Int)) (fin t') := by
    intro j
    induction j with
    | zero => exact fun _ t h => ⟨t, h, Ev.step (fun n => hend n t) .done⟩
    | succ j ih =>
      intro hj t h
      obtain ⟨t', h1, h2⟩ := hstep (j + 1) t (by omega) hj h
      obtain ⟨t2, h3, h4⟩ := ih (by omega) t' h1
      exact ⟨t2, h3, Ev.succ (h2 _ h4)⟩
  exact this m (Nat.le_refl _)

/-- The first place of a list with a property: a search that answers a place or -1. -/
theorem qpK {α : Type} {p : α → Bool} {xs : List α} {j : Nat} (hj : j < xs.length) (hp : p xs[j] = true) (hlt : ∀ i, ∀ h : i < j, p (xs[i]'(by omega)) = false) : ixL p xs = (j : Int) := by
  unfold ixL
  have : xs.findIdx? p = some j := List.findIdx?_eq_some_iff_getElem.2 ⟨hj, hp, fun i hi => by have := hlt i hi; simp [this]⟩
  rw [this]
theorem qqL {α : Type} [Inhabited α] {p : α → Bool} {xs : List α} {j : Nat} (hj : j < xs.length) (hp : p (gt xs j) = true) (hu : ∀ i, i < xs.length → p (gt xs i) = true → i = j) : ixL p xs = (j : Int) := by
  refine qpK hj (by rwa [qiF hj] at hp) (fun i hi => ?_)
  cases hc : p (xs[i]'(by omega)) with
  | false => rfl
  | true => exact absurd (hu i (by omega) (by rw [qiF (by omega)]; exact hc)) (by omega)
theorem qlr {α : Type} [Inhabited α] {xs ys : List α} {j : Nat} : gt (xs ++ ys) j = if j < xs.length then gt xs j else gt ys (j - xs.length) := by
  unfold gt
  rw [List.getD_eq_getElem?_getD, List.getElem?_append]
  by_cases h : j < xs.length
  · simp only [h, if_true]; rfl
  · simp only [h, if_false]; rfl
theorem qow {α : Type} [Inhabited α] {f : Nat → α} {n j : Nat} (h : j < n) : gt ((List.range n).map f) j = f j := by
  unfold gt; simp [List.getD_eq_getElem?_getD, h]
end Go.Fw


namespace Go.Fw
open Go

/-! ### Graphs: nodes 0 .. m-1, for each the list of those to which edges lead -/

section
variable {sc : Nat → List Int} {m : Nat}

/-- A list of nodes into which every edge comes from an earlier place. -/
inductive Topo (sc : Nat → List Int) (m : Nat) : List Nat → Prop
  | nil : Topo sc m []
  | snoc {l : List Nat} {k : Nat} : Topo sc m l → k < m → k ∉ l → (∀ u, u < m → (k : Int) ∈ sc u → u ∈ l) → Topo sc m (l ++ [k])

/-- No further node can follow. -/
def Stuck (sc : Nat → List Int) (m : Nat) (l : List Nat) : Prop := ∀ k, k < m → k ∉ l → ∃ u, u < m ∧ (k : Int) ∈ sc u ∧ u ∉ l

theorem Topo.lt {l : List Nat} (h : Topo sc m l) : ∀ k, k ∈ l → k < m := by
  induction h with
  | nil => intro k hk; cases hk
  | snoc _ hk _ _ ih =>
    intro j hj
    rcases List.mem_append.1 hj with hj | hj
    · exact ih j hj
    · rw [List.mem_singleton.1 hj]; exact hk
theorem Topo.nodup {l : List Nat} (h : Topo sc m l) : l.Nodup := by
  induction h with
  | nil => exact List.nodup_nil
  | snoc _ _ hn _ ih =>
    rw [List.nodup_append]
    refine ⟨ih, by simp, fun a ha b hb => ?_⟩
    rw [List.mem_singleton.1 hb]
    rintro rfl
    exact hn ha
theorem Topo.sub {l l' : List Nat} (h : Topo sc m l) (hs : Stuck sc m l') : ∀ k, k ∈ l → k ∈ l' := by
  induction h with
  | nil => intro k hk; cases hk
  | @snoc l k _ hk _ hp ih =>
    intro j hj
    rcases List.mem_append.1 hj with hj | hj
    · exact ih j hj
    · rw [List.mem_singleton.1 hj]
      by_cases hc : k ∈ l'
      · exact hc
      · obtain ⟨u, hu, he, hn⟩ := hs k hk hc
        exact absurd (ih u (hp u hu he)) hn
theorem qqF {l l' : List Nat} (hn : l.Nodup) (h : ∀ k, k ∈ l → k ∈ l') : l.length ≤ l'.length := by
  induction l generalizing l' with
  | nil => exact Nat.zero_le _
  | cons a l ih =>
    obtain ⟨h1, h2⟩ := List.nodup_cons.1 hn
    have hm : a ∈ l' := h a (List.mem_cons_self ..)
    have := ih (l' := l'.erase a) h2 (fun k hk => (List.mem_erase_of_ne (fun e => h1 (by rw [← e]; exact hk))).2 (h k (List.mem_cons_of_mem _ hk)))
    rw [List.length_erase_of_mem hm] at this
    have : 0 < l'.length := List.length_pos_of_mem hm
    simp only [List.length_cons]
    omega
theorem Topo.len {l : List Nat} (h : Topo sc m l) : l.length ≤ m := by
  have := qqF (l' := List.range m) h.nodup (fun k hk => List.mem_range.2 (h.lt k hk))
  simpa using this
/-- A prefix of such a list is one. -/
theorem Topo.pre {l l' : List Nat} (h : Topo sc m (l ++ l')) : Topo sc m l := by
  generalize he : l ++ l' = x at h
  induction h generalizing l' with
  | nil => simp at he; rw [he.1]; exact .nil
  | @snoc y k ht hk hn hp ih =>
    rcases List.eq_nil_or_concat l' with rfl | ⟨l2, b, rfl⟩
    · rw [List.append_nil] at he; subst he; exact .snoc ht hk hn hp
    · rw [List.concat_eq_append, ← List.append_assoc] at he
      have := List.append_inj' he rfl
      exact ih this.1
theorem Topo.at {l l' : List Nat} {k : Nat} (h : Topo sc m (l ++ k :: l')) : k < m ∧ k ∉ l ∧ ∀ u, u < m → (k : Int) ∈ sc u → u ∈ l := by
  have : Topo sc m ((l ++ [k]) ++ l') := by simpa using h
  have h1 := this.pre
  generalize he : l ++ [k] = x at h1
  cases h1 with
  | nil => simp at he
  | snoc _ a b c =>
    have := List.append_inj' he rfl
    obtain ⟨rfl, e⟩ := this
    obtain rfl : k = _ := by simpa using e
    exact ⟨a, b, c⟩

end

/-- Every element is that of a list's place. -/
def qrc (xs : List Int) (m : Nat) : Prop := ∀ y, y ∈ xs → ∃ k : Nat, k < m ∧ y = (k : Int)
theorem qrc.at {xs : List Int} {m j : Nat} (h : qrc xs m) (hj : j < xs.length) : ∃ k : Nat, k < m ∧ idx xs (j : Int) = some (k : Int) ∧ xs[j]? = some (k : Int) := by
  obtain ⟨k, hk, e⟩ := h _ (List.getElem_mem hj)
  exact ⟨k, hk, by rw [qgN hj, e], by rw [List.getElem?_eq_getElem hj, e]⟩

end Go.Fw


namespace Go.Fw
open Go

/-- The places that are chosen, in order. -/
def selN (q : Nat → Bool) (m : Nat) : List Nat := (List.range m).filter q
theorem qpU {q : Nat → Bool} {j : Nat} : selN q (j + 1) = selN q j ++ (bif q j then [j] else []) := by
  unfold selN
  rw [List.range_succ, List.filter_append]
  cases h : q j <;> simp [h]
theorem qqR {q : Nat → Bool} {j : Nat} : (selN q j).length ≤ j := by
  unfold selN
  exact Nat.le_trans (List.length_filter_le _ _) (by rw [List.length_range]; exact Nat.le_refl _)
theorem qqQ {q : Nat → Bool} {j k : Nat} : k ∈ selN q j ↔ k < j ∧ q k = true := by
  unfold selN; rw [List.mem_filter, List.mem_range]
section
variable {sc : Nat → List Int} {m : Nat}

end
end Go.Fw


namespace Go.Fw
open Go
open Go.RowKit (Below)

section
variable {w0 w : World} {L : List Ch}
theorem SH.rowS {α : Type} [GoT α] {S : Nat → Prop} {xs : List α} {p : Option Addr} {c : Nat} (i : Nat) (h : SH w0 w L) (hi : L[i]? = some (Ch.rowD w0 S xs p c)) : SlR w (Fw.old w) xs p c := by
  obtain ⟨h1, h2, h3⟩ := (h.mem hi).1
  refine ⟨h1, h2, ?_⟩
  rcases h3 with ⟨a, b, _⟩ | ⟨b, cur, T, rfl, hb, hg, hc, hx⟩
  · exact .inl ⟨.inl a, b⟩
  · refine .inr ⟨b, 0, cur, T, (0, 0), rfl, ((h.mem hi).2 b hb).2, hg, by omega, fun i x hi => ?_⟩
    obtain ⟨cs, hR, hj⟩ := hx i x hi
    exact ⟨cs, h.old hR, by simpa using hj⟩
end
end Go.Fw


namespace Go.Fw
open Go
open Go.RowKit (Below)

section
variable {P : Program} {T : Tab} {n : Nat} {Q : Exit → Act → World → Prop} {k : List It} {e : Env} {w0 w : World} {L : List Ch}
variable {α : Type} [GoT α] {S S1 : Nat → Prop} {xs ys : List α} {p p' : Option Addr} {c c' : Nat}

/-- Cells that read as the elements of a list, in the world at the beginning. -/
def Rd (w0 : World) (xs : List α) (rs : List (Raw α)) : Prop := rs.length = xs.length ∧ ∀ (i : Nat) (x : α) (r : Raw α), xs[i]? = some x → rs[i]? = some r → GoT.R w0 (Fw.old w0) x r.cs

theorem qoj (h : (Ch.rowD w0 S xs p c).P w) : ∃ rs : List (Raw α), Rd w0 xs rs ∧ (Ch.own S rs [.slice p rs.length c]).P w := by
  obtain ⟨h1, h2, h3⟩ := h
  rcases h3 with ⟨rfl, rfl, rfl⟩ | ⟨b, cur, T, rfl, hb, hg, hcur, hx⟩
  · exact ⟨[], ⟨rfl, fun i x r hx => by simp at hx⟩, none, 0, rfl, by simp, by simp, .inl ⟨rfl, rfl, rfl⟩⟩
  · obtain ⟨rs, hl, hr⟩ := qrU (p := fun i x (r : Raw α) => GoT.R w0 (Fw.old w0) x r.cs ∧ ∀ j v, r.cs[j]? = some v → cur[i * GoT.k α + j]? = some v) xs (fun i x hi => by
      obtain ⟨cs, h1, h2⟩ := hx i x hi
      exact ⟨⟨cs⟩, h1, h2⟩)
    refine ⟨rs, ⟨hl, fun i x r hi hr' => (hr i x r hi hr').1⟩, some ⟨b, 0, none⟩, c, rfl, by rw [hl]; exact h1, h2, .inr ⟨b, cur, T, fun _ _ => False, rfl, hb, hg, hcur, fun _ _ h => h.elim, fun _ _ _ _ h => h.elim, fun i r hi => ?_⟩⟩
    have hi' : i < xs.length := by have := (List.getElem?_eq_some_iff.1 hi).1; omega
    obtain ⟨q1, q2⟩ := hr i xs[i] r (List.getElem?_eq_getElem hi') hi
    exact ⟨r.cs, ⟨rfl, GoT.len q1, GoT.one q1⟩, q2⟩

theorem qq0 {rs : List (Raw α)} {ln : Nat} (hd : Rd w0 xs rs) (h : (Ch.own S rs [.slice p ln c]).P w) : (Ch.rowD w0 S xs p c).P w := by
  obtain ⟨p', c', he, h1, h2, h3⟩ := h
  simp only [List.cons.injEq, Value.slice.injEq, and_true] at he
  obtain ⟨rfl, rfl, rfl⟩ := he
  refine ⟨by rw [← hd.1]; exact h1, h2, ?_⟩
  rcases h3 with ⟨rfl, hn, rfl⟩ | ⟨b, cur, T, F, rfl, hb, hg, hcur, _, _, hx⟩
  · exact .inl ⟨rfl, List.eq_nil_of_length_eq_zero (by rw [← hd.1, hn]; rfl), rfl⟩
  · refine .inr ⟨b, cur, T, rfl, hb, hg, hcur, fun i x hi => ?_⟩
    have hi' : i < rs.length := by have := (List.getElem?_eq_some_iff.1 hi).1; rw [hd.1]; exact this
    obtain ⟨cs, ⟨e1, _, _⟩, hj⟩ := hx i rs[i] (List.getElem?_eq_getElem hi')
    subst e1
    exact ⟨_, hd.2 i x rs[i] hi (List.getElem?_eq_getElem hi'), hj⟩

theorem Rd.app {rs qs : List (Raw α)} (h1 : Rd w0 xs rs) (h2 : Rd w0 ys qs) : Rd w0 (xs ++ ys) (rs ++ qs) := by
  refine ⟨by simp [h1.1, h2.1], fun i x r hx hr => ?_⟩
  by_cases hi : i < xs.length
  · rw [List.getElem?_append_left hi] at hx
    rw [List.getElem?_append_left (by rw [h1.1]; exact hi)] at hr
    exact h1.2 i x r hx hr
  · rw [List.getElem?_append_right (by omega)] at hx
    rw [List.getElem?_append_right (by rw [h1.1]; omega), h1.1] at hr
    exact h2.2 _ x r hx hr

theorem SH.nilD (h : SH w0 w L) : SH w0 w (Ch.rowD w0 (fun _ => False) ([] : List α) none 0 :: L) :=
  h.cons (c := Ch.rowD w0 (fun _ => False) ([] : List α) none 0) ⟨by simp, by simp, .inl ⟨rfl, rfl, rfl⟩⟩ (fun _ h => h) (fun _ h => h)

theorem SH.tail {d : Ch} (h : SH w0 w (d :: L)) : SH w0 w L :=
  ⟨h.below, fun c hc => h.holds c (List.mem_cons_of_mem _ hc), fun c hc => h.elder c (List.mem_cons_of_mem _ hc), (List.pairwise_cons.1 h.apart).2⟩

/-- The world at which a list of parts stands. -/
abbrev SH.wc (_ : SH w0 w L) : World := w

/-- Back to an elder base: what was owned there is owned again. -/
theorem SH.back {w1 : World} {L2 : List Ch} (hL : SH w0 w1 L) (h : SH w1 w L2) (hD : NoD L2) : SH w0 w (L2 ++ L) := by
  have hu := h.unbase hL.below hD
  have hlt : ∀ c ∈ L, ∀ b, c.S b → b < w1.heap.size := fun c hc b hb => ((hL.holds c hc).2 b hb).2
  refine ⟨hu.below, fun c hc => ?_, fun c hc => ?_, List.pairwise_append.2 ⟨h.apart, hL.apart, fun c hc d hd b hb hb2 => ?_⟩⟩
  · rcases List.mem_append.1 hc with hc | hc
    · exact hu.holds c hc
    · refine ⟨c.loc w1 w (fun b hb => h.below.block b (hlt c hc b hb)) (fun b hb => h.below.block b (Nat.lt_of_lt_of_le (hL.elder c hc b hb) hL.below.size)) (hL.holds c hc).1, fun b hb => ?_⟩
      have := (hL.holds c hc).2 b hb
      exact ⟨this.1, Nat.lt_of_lt_of_le this.2 h.below.size⟩
  · rcases List.mem_append.1 hc with hc | hc
    · exact hu.elder c hc
    · exact hL.elder c hc
  · have h1 := ((h.holds c hc).2 b hb).1
    have h2 := hlt d hd b hb2
    omega

theorem qr9 (hT : TabOk P T) {all : Array Oper} {l : List Oper} {d t ty el : Nat} {ps : String} {af : Array Edge} {x y : Operand} {z : List α} {ln ln' : Nat} {te te' : TE} {zv : Value}
    (h : SH w0 w (Ch.rowD w0 S1 ys p' c' :: Ch.rowD w0 S xs p c :: L)) (hl : ln = xs.length) (hl' : ln' = ys.length) (hx : opv e x = some (.slice p ln c)) (hy : opv e y = some (.slice p' ln' c'))
    (hte : T.get t = some te) (hk : te.kind = .slice el) (hel : T.get el = some te') (hz : te'.zero = some zv) (hzs : (cellsL zv).length = te'.size) (hsz : te'.size = GoT.k α)
    (hb : Nat.ble te'.bytes 65536 = true) (hbig : xs.length + ys.length ≤ big) (hz' : xs ++ ys = z) (hn : Nat.blt d n = true)
    (hkk : ∀ w' p2 c2 S2, SH w0 w' (Ch.rowD w0 S2 z p2 c2 :: L) → Run P n Q (.ops all l :: k) ((d, .slice p2 z.length c2) :: e) w') :
    Run P n Q (.ops all (⟨some d, .call ⟨.builtin .append, #[x, y], #[t, t]⟩, ty, ps, af, none⟩ :: l) :: k) e w := by
  subst hz' hl hl'
  obtain ⟨rs, hd, hp⟩ := qoj (h.mem (i := 1) rfl).1
  obtain ⟨qs, hq, hp'⟩ := qoj (h.mem (i := 0) rfl).1
  have h1 := h.say (i := 1) (c' := Ch.own S rs [.slice p rs.length c]) rfl (fun _ => hp) (fun _ h => h) (fun _ h => h.elim)
  have h2 := h1.say (i := 0) (c' := Ch.own S1 qs [.slice p' qs.length c']) rfl (fun _ => hp') (fun _ h => h) (fun _ h => h.elim)
  have hs := (h2.sl 0 rfl).1
  refine qqH hT (α := Raw α) 1 h2 rfl hs hq.1.symm (by rw [hd.1]; exact hx) hy hte hk hel hz hzs hsz hb (by rw [hd.1, hq.1]; exact hbig) hn (fun w' p2 c2 S2 h3 => ?_)
  have h4 : SH w0 w' (Ch.own S2 (rs ++ qs) [.slice p2 (rs.length + qs.length) c2] :: L) := SH.tail h3
  have h5 := h4.say (i := 0) (c' := Ch.rowD w0 S2 (xs ++ ys) p2 c2) rfl (fun hp => qq0 (hd.app hq) hp) (fun _ h => h) (fun _ h => h.elim)
  have := hkk w' p2 c2 S2 h5
  rw [List.length_append] at this
  rw [hd.1, hq.1]
  exact this

end
end Go.Fw
