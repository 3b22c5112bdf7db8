/- Appends and makes with the length of what comes out; calls whose results share memory, beside what is owned. -/
import Derived.Test.YthcphhbmdpepkaaGreatDoorFw21

namespace Go.Fw
open Go
open Go.RowKit (Below)

section
variable {P : Program} {T : Tab} {n : Nat} {Q : Exit → Act → World → Prop} {k : List It} {e : Env} {w0 w w' w1 : World} {L : List Ch}

theorem r_appE (hT : TabOk P T) {α : Type} [GoT α] [Flat α] {all : Array Oper} {l : List Oper} {d t ty el : Nat} {ps : String} {af : Array Edge} {x y : Operand} {S : Nat → Prop} {xs ys z : List α} {p p' : Option Addr} {ln ln' c c' : Nat} {te te' : TE} {zv : Value} (i : Nat)
    (h : SH w0 w L) (hi : L[i]? = some (Ch.own S xs [.slice p ln c])) (hs : SlR w (Fw.old w) ys p' c') (hl' : ln' = ys.length) (hx : opv e x = some (.slice p ln c)) (hy : opv e y = some (.slice p' ln' c'))
    (hte : T.get t = some te) (hk : te.kind = .slice el) (hel : T.get el = some te') (hz : te'.zero = some zv) (hzs : (cellsL zv).length = te'.size) (hsz : te'.size = GoT.k α)
    (hb : Nat.ble te'.bytes 65536 = true) (hbig : xs.length + ys.length ≤ big) (hz' : xs ++ ys = z) (hn : Nat.blt d n = true)
    (hkk : ∀ w' p2 c2 S2, SH w0 w' (L.set i (Ch.own S2 z [.slice p2 z.length c2])) → Run P n Q (.ops all l :: k) ((d, .slice p2 z.length c2) :: e) w') :
    Run P n Q (.ops all (⟨some d, .call ⟨.builtin .append, #[x, y], #[t, t]⟩, ty, ps, af, none⟩ :: l) :: k) e w := by
  subst hz'
  rw [List.length_append] at hkk
  exact r_app hT i h hi hs hl' hx hy hte hk hel hz hzs hsz hb hbig hn hkk

theorem r_appNE (hT : TabOk P T) {α : Type} [GoT α] {all : Array Oper} {l : List Oper} {d t ty el : Nat} {ps : String} {af : Array Edge} {x y : Operand} {S S1 : Nat → Prop} {xs ys z : List α} {p p' : Option Addr} {ln ln' c c' : Nat} {te te' : TE} {zv : Value}
    (h : SH w0 w (Ch.own S1 ys [.slice p' ln' c'] :: Ch.own S xs [.slice p ln c] :: L)) (hx : opv e x = some (.slice p ln c)) (hy : opv e y = some (.slice p' ln' c'))
    (hte : T.get t = some te) (hk : te.kind = .slice el) (hel : T.get el = some te') (hz : te'.zero = some zv) (hzs : (cellsL zv).length = te'.size) (hsz : te'.size = GoT.k α)
    (hb : Nat.ble te'.bytes 65536 = true) (hbig : xs.length + ys.length ≤ big) (hz' : xs ++ ys = z) (hn : Nat.blt d n = true)
    (hkk : ∀ w' p2 c2 S2, SH w0 w' (Ch.own S2 z [.slice p2 z.length c2] :: L) → Run P n Q (.ops all l :: k) ((d, .slice p2 z.length c2) :: e) w') :
    Run P n Q (.ops all (⟨some d, .call ⟨.builtin .append, #[x, y], #[t, t]⟩, ty, ps, af, none⟩ :: l) :: k) e w := by
  subst hz'
  rw [List.length_append] at hkk
  exact r_appN hT h hx hy hte hk hel hz hzs hsz hb hbig hn hkk

theorem r_makeE (hT : TabOk P T) (α : Type) [GoT α] {all : Array Oper} {l : List Oper} {d t ty el : Nat} {ps : String} {af : Array Edge} {te te' : TE} {x y : Operand} {kd kd' : IntKind} {nv : Int} {zv : Value} {z : List α}
    (h : SH w0 w L) (hx : opv e x = some (.int kd nv)) (hy : opv e y = some (.int kd' nv)) (hte : T.get t = some te) (hk : te.kind = .slice el) (hel : T.get el = some te') (hz : te'.zero = some zv) (hzc : cellsL zv = GoT.zc α) (hsz : te'.size = GoT.k α)
    (hb : Nat.ble te'.bytes 65536 = true) (h0 : 0 ≤ nv) (hbig : nv ≤ big) (hz' : List.replicate nv.toNat (GoT.zero : α) = z) (hn : Nat.blt d n = true)
    (hkk : ∀ w' S p, SH w0 w' (Ch.own S z [.slice p z.length z.length] :: L) → Run P n Q (.ops all l :: k) ((d, .slice p z.length z.length) :: e) w') :
    Run P n Q (.ops all (⟨some d, .makeSlice t x y, ty, ps, af, none⟩ :: l) :: k) e w := by
  subst hz'
  rw [List.length_replicate] at hkk
  exact r_make hT α h hx hy hte hk hel hz hzc hsz hb h0 hbig hn hkk

/-! ### A call whose result shares memory with what is on the base alone: what is owned stays -/

variable {A0 B : Nat → Prop} {w00 : World} {α : Type} [GoT α] {x : α} {cs : List Value} {xs : List α} {p : Option Addr} {c : Nat} {fs : List Fct} {S : Nat → Prop}

end
end Go.Fw


namespace Go.Fw
open Go
open Go.RowKit (Below)

section
variable {P : Program} {T : Tab} {n : Nat} {Q : Exit → Act → World → Prop} {k : List It} {e : Env} {w0 w w' w1 : World} {L : List Ch}

/-- Whatever the order, one comes to what 'J' says; from there on once. -/
theorem a_merge {ops : Array Oper} {st : List Nat} {C : World → Prop} {fuel : Nat} {listed : Array Bool} (J : Env → World → Prop) (fuel' : Nat) (listed' : Array Bool)
    (h1 : (∀ e w, J e w → RunA P n Q k ops st C fuel' listed' e w) → RunA P n Q k ops st C fuel listed e w) (h2 : ∀ e w, J e w → RunA P n Q k ops st C fuel' listed' e w) : RunA P n Q k ops st C fuel listed e w := h1 h2

theorem a_sub {ops : Array Oper} {st : List Nat} {C : World → Prop} {fuel : Nat} {listed : Array Bool} (e' : Env) (hs : subEnv e e') (h : RunA P n Q k ops st C fuel listed e' w) : RunA P n Q k ops st C fuel listed e w :=
  fun a ha => h a (ha.sub hs)
end
end Go.Fw


namespace Go.Fw
open Go

section
variable {α β : Type} {f g : Nat → Option α} {a b r s : α} {c : Bool}

theorem Ev.iff (h1 : c = true → Ev f a) (h2 : c = false → Ev g b) : Ev (fun n => bif c then f n else g n) (bif c then a else b) := by
  cases c
  · exact h2 rfl
  · exact h1 rfl
theorem Ev.bindB {f : Nat → Option β} {g : Nat → β → Option α} {u v : β} (h : Ev f (bif c then u else v)) (h1 : c = true → Ev (fun n => g n u) a) (h2 : c = false → Ev (fun n => g n v) b) : Ev (fun n => (f n).bind (g n)) (bif c then a else b) := by
  cases c
  · exact Ev.bind h (h2 rfl)
  · exact Ev.bind h (h1 rfl)
theorem Ev.cast (h : Ev f r) (e : r = s) : Ev f s := e ▸ h
/-- An answer of two ways, each shown where it is taken. -/
theorem Ev.two (h1 : c = true → Ev f a) (h2 : c = false → Ev f b) : Ev f (bif c then a else b) := by
  cases c
  · exact h2 rfl
  · exact h1 rfl
end

/-- Up to 'n', 'f' holds. -/
def allN (f : Nat → Bool) (n : Nat) : Bool := (List.range n).all f
theorem allN_iff {f : Nat → Bool} {n : Nat} : allN f n = true ↔ ∀ j, j < n → f j = true := by simp [allN, List.all_eq_true]
theorem allN_false {f : Nat → Bool} {n : Nat} : allN f n = false ↔ ∃ j, j < n ∧ f j = false := by
  rw [← Bool.not_eq_true, allN_iff]
  constructor
  · intro h
    exact Classical.byContradiction fun hn => h (fun j hj => by
      cases hf : f j with
      | true => rfl
      | false => exact absurd ⟨j, hj, hf⟩ hn)
  · rintro ⟨j, hj, hf⟩ h
    rw [h j hj] at hf
    cases hf
theorem allN_congr {f g : Nat → Bool} {n : Nat} (h : ∀ j, j < n → f j = g j) : allN f n = allN g n := by
  rw [Bool.eq_iff_iff, allN_iff, allN_iff]
  exact ⟨fun hf j hj => h j hj ▸ hf j hj, fun hg j hj => (h j hj).symm ▸ hg j hj⟩
theorem allN_and {f g : Nat → Bool} {n : Nat} : allN (fun j => f j && g j) n = (allN f n && allN g n) := by
  rw [Bool.eq_iff_iff, Bool.and_eq_true, allN_iff, allN_iff, allN_iff]
  simp only [Bool.and_eq_true]
  exact ⟨fun h => ⟨fun j hj => (h j hj).1, fun j hj => (h j hj).2⟩, fun h j hj => ⟨h.1 j hj, h.2 j hj⟩⟩

/-- A loop that checks, from some place on. -/
theorem ev_from {ρ σ : Type} {Lf : Nat → Int → Option (Flow ρ σ)} {len i0 : Nat} {f : Nat → Bool} {bad : ρ} {fin : Flow ρ σ} (h0 : i0 ≤ len) (hend : Ev (fun n => Lf n (len : Int)) fin)
    (hstep : ∀ j, i0 ≤ j → j < len → ∀ X, Ev (fun n => Lf n ((j + 1 : Nat) : Int)) X → Ev (fun n => Lf n (j : Int)) (bif f j then X else .ret bad)) :
    Ev (fun n => Lf n (i0 : Int)) (bif allN (fun j => f (i0 + j)) (len - i0) then fin else .ret bad) := by
  obtain ⟨m, rfl⟩ : ∃ m, len = i0 + m := ⟨len - i0, by omega⟩
  rw [show i0 + m - i0 = m by omega]
  clear h0
  induction m generalizing i0 with
  | zero => exact hend
  | succ m ih =>
    have h1 := @ih (i0 + 1) (by rw [show i0 + 1 + m = i0 + (m + 1) by omega]; exact hend) (fun j h2 h3 X hX => hstep j (by omega) (by omega) X hX)
    refine (hstep i0 (Nat.le_refl _) (by omega) _ h1).cast ?_
    have : allN (fun j => f (i0 + j)) (m + 1) = (f i0 && allN (fun j => f (i0 + 1 + j)) m) := by
      rw [Bool.eq_iff_iff, Bool.and_eq_true, allN_iff, allN_iff]
      constructor
      · intro h
        exact ⟨by simpa using h 0 (by omega), fun j hj => by have := h (j + 1) (by omega); rwa [show i0 + (j + 1) = i0 + 1 + j by omega] at this⟩
      · rintro ⟨h1, h2⟩ j hj
        cases j with
        | zero => simpa using h1
        | succ j => have := h2 j (by omega); rwa [show i0 + 1 + j = i0 + (j + 1) by omega] at this
    rw [this]
    cases f i0 <;> rfl

theorem ev_all {ρ σ : Type} {Lf : Nat → Int → Option (Flow ρ σ)} {len : Nat} {f : Nat → Bool} {bad : ρ} {fin : Flow ρ σ} (hend : Ev (fun n => Lf n (len : Int)) fin)
    (hstep : ∀ j, j < len → ∀ X, Ev (fun n => Lf n ((j + 1 : Nat) : Int)) X → Ev (fun n => Lf n (j : Int)) (bif f j then X else .ret bad)) :
    Ev (fun n => Lf n 0) (bif allN f len then fin else .ret bad) := by
  have := ev_from (i0 := 0) (Nat.zero_le _) hend (fun j _ hj X hX => hstep j hj X hX)
  simpa using this

theorem idx_at {α : Type} {xs : List α} {j : Nat} {x : α} (h : xs[j]? = some x) : idx xs (j : Int) = some x := by
  unfold idx
  rw [if_pos (by omega), Int.toNat_natCast, h]
theorem idx_lt {α : Type} {xs : List α} {j : Nat} (h : j < xs.length) : idx xs (j : Int) = some xs[j] := idx_at (List.getElem?_eq_getElem h)

def inI (x lo hi : Int) : Bool := decide (lo ≤ x) && decide (x ≤ hi)
theorem inI_iff {x lo hi : Int} : inI x lo hi = true ↔ lo ≤ x ∧ x ≤ hi := by simp [inI]
theorem inI_false {x lo hi : Int} : inI x lo hi = false ↔ ¬ (lo ≤ x ∧ x ≤ hi) := by rw [← inI_iff, Bool.not_eq_true]

/-- The number at a place. -/
def at0 (xs : List Int) (j : Nat) : Int := xs.getD j 0
theorem at0_eq {xs : List Int} {j : Nat} (h : j < xs.length) : at0 xs j = xs[j] := by simp [at0, h]
theorem idx_at0 {xs : List Int} {j : Nat} (h : j < xs.length) : idx xs (j : Int) = some (at0 xs j) := by rw [idx_lt h, at0_eq h]

theorem bnot_bif {α : Type} {c : Bool} {x y : α} : (bif !c then x else y) = bif c then y else x := by cases c <;> rfl
theorem bif_and {c d : Bool} : (bif c then d else false) = (c && d) := by cases c <;> rfl
end Go.Fw


namespace Go.Fw
open Go

theorem sz_loop {α : Type} {a : List α} {wt : α → Nat} {Lf : Nat → Int → Int → Option (Flow Int (Int × Int))} {el : Nat → α → Int → Option Int}
    (hel : ∀ x, x ∈ a → ∀ left : Int, 0 ≤ left → left ≤ 1048576 → Sz (fun n => el n x left) (fun r => r = left - (wt x : Int)))
    (hend : ∀ (acc : Int) n, Lf (n + 1) acc (a.length : Int) = some (.nxt (acc, (a.length : Int))))
    (hstep : ∀ (acc : Int) (n j : Nat) (x : α), a[j]? = some x → Lf (n + 1) acc (j : Int) = (el n x acc).bind fun r => bif decide (r < 0) then some (.ret (-1)) else Lf n r ((j + 1 : Nat) : Int)) :
    ∀ left : Int, 0 ≤ left → left ≤ 1048576 → ∃ o, Ev (fun n => Lf n left 0) o ∧ (o = .ret (-1) ∨ ∃ r : Int, 0 ≤ r ∧ r = left - ((a.map wt).sum : Nat) ∧ o = .nxt (r, (a.length : Int))) := by
  have main : ∀ k j, j + k = a.length → ∀ left : Int, 0 ≤ left → left ≤ 1048576 → ∃ o, Ev (fun n => Lf n left (j : Int)) o ∧ (o = .ret (-1) ∨ ∃ r : Int, 0 ≤ r ∧ r = left - (((a.drop j).map wt).sum : Nat) ∧ o = .nxt (r, (a.length : Int))) := by
    intro k
    induction k with
    | zero =>
      intro j hj left h0 h1
      obtain rfl : j = a.length := by omega
      exact ⟨_, Ev.step (hend left) .done, .inr ⟨left, h0, by simp, rfl⟩⟩
    | succ k ih =>
      intro j hj left h0 h1
      have hlt : j < a.length := by omega
      have hx : a[j]? = some a[j] := List.getElem?_eq_getElem hlt
      obtain ⟨r, hr, hq⟩ := hel a[j] (List.getElem_mem hlt) left h0 h1
      have hd : a.drop j = a[j] :: a.drop (j + 1) := List.drop_eq_getElem_cons hlt
      by_cases hn : r < 0
      · exact ⟨.ret (-1), Ev.step (fun n => hstep left n j a[j] hx) (Ev.bind hr (Ev.tt (by simpa using hn) .done)), .inl rfl⟩
      · rcases hq with hq | ⟨hq0, hq⟩
        · exact absurd hq hn
        · obtain ⟨o, ho, hc⟩ := ih (j + 1) (by omega) r hq0 (by omega)
          refine ⟨o, Ev.step (fun n => hstep left n j a[j] hx) (Ev.bind hr (Ev.ff (by simpa using hn) ho)), hc.imp id ?_⟩
          rintro ⟨r', h2, h3, h4⟩
          refine ⟨r', h2, ?_, h4⟩
          rw [hd, List.map_cons, List.sum_cons, h3, hq]
          omega
  intro left h0 h1
  have := main a.length 0 (by omega) left h0 h1
  simpa using this

theorem Sz.list {α : Type} {a : List α} {wt : α → Nat} {Lf : Nat → Int → Int → Option (Flow Int (Int × Int))} {el : Nat → α → Int → Option Int} {left : Int} (h0 : 0 ≤ left) (h1 : left ≤ 1048576) (hl : a.length ≤ 9223372036854775807)
    (hel : ∀ x, x ∈ a → ∀ left : Int, 0 ≤ left → left ≤ 1048576 → Sz (fun n => el n x left) (fun r => r = left - (wt x : Int)))
    (hend : ∀ (acc : Int) n, Lf (n + 1) acc (a.length : Int) = some (.nxt (acc, (a.length : Int))))
    (hstep : ∀ (acc : Int) (n j : Nat) (x : α), a[j]? = some x → Lf (n + 1) acc (j : Int) = (el n x acc).bind fun r => bif decide (r < 0) then some (.ret (-1)) else Lf n r ((j + 1 : Nat) : Int))
    {F : Nat → Option Int} (hF : ∀ n, F n = bif decide (W64 (left - (a.length : Int)) < 0) then some (-1) else (Lf n (W64 (left - (a.length : Int))) 0).bind fun o => match o with | .ret r => some r | .nxt (i1, _) => some i1) :
    Sz F (fun r => r = left - ((a.length + (a.map wt).sum : Nat) : Int)) := by
  have hw : W64 (left - (a.length : Int)) = left - (a.length : Int) := w64_of (by omega) (by omega)
  by_cases hn : left - (a.length : Int) < 0
  · exact ⟨-1, Ev.congr hF (Ev.tt (by rw [hw]; simpa using hn) .done), .inl (by decide)⟩
  · obtain ⟨o, ho, hc⟩ := sz_loop hel hend hstep (left - (a.length : Int)) (by omega) (by omega)
    rcases hc with rfl | ⟨r, hr0, hr, rfl⟩
    · refine ⟨-1, Ev.congr hF (Ev.ff (by rw [hw]; simpa using hn) ?_), .inl (by decide)⟩
      rw [hw]
      exact Ev.bind ho .done
    · refine ⟨r, Ev.congr hF (Ev.ff (by rw [hw]; simpa using hn) ?_), .inr ⟨hr0, by omega⟩⟩
      rw [hw]
      exact Ev.bind ho .done

theorem Sz.str {s : ByteArray} {left : Int} (h : s.size ≤ 9223372036854775807) (h0 : 0 ≤ left) (h1 : left ≤ 1048576) : Sz (fun _ => some (W64 (left - (s.size : Int)))) (fun r => r = left - (s.size : Int)) := by
  rw [w64_of (by omega) (by omega)]
  refine ⟨_, .done, ?_⟩
  by_cases hn : left - (s.size : Int) < 0
  · exact .inl hn
  · exact .inr ⟨by omega, rfl⟩
theorem Sz.strStep {s : ByteArray} {left : Int} {g : Nat → Option Int} {Q' : Int → Prop} (h : s.size ≤ 9223372036854775807) (h0 : 0 ≤ left) (h1 : left ≤ 1048576) (hg : 0 ≤ W64 (left - (s.size : Int)) → W64 (left - (s.size : Int)) = left - (s.size : Int) → Sz (fun n => g n) Q')
    : Sz (fun n => bif decide (W64 (left - (s.size : Int)) < 0) then some (-1) else g n) Q' := by
  have hw : W64 (left - (s.size : Int)) = left - (s.size : Int) := w64_of (by omega) (by omega)
  by_cases hn : W64 (left - (s.size : Int)) < 0
  · exact ⟨-1, Ev.tt (by simpa using hn) .done, .inl (by decide)⟩
  · obtain ⟨r, hr, hq⟩ := hg (by omega) hw
    exact ⟨r, Ev.ff (by simpa using hn) hr, hq⟩

theorem to_loop {α : Type} {a : List α} {z : α} {Lf : Nat → List α → Int → Option (List α × Int)} {cp : Nat → α → Option α} (hcp : ∀ x, x ∈ a → Ev (fun n => cp n x) x)
    (hend : ∀ acc n, Lf (n + 1) acc (a.length : Int) = some (acc, (a.length : Int)))
    (hstep : ∀ (acc : List α) (n j : Nat) (x y : α), a[j]? = some x → acc[j]? = some y → Lf (n + 1) acc (j : Int) = (cp n x).bind fun r => Lf n (setS acc (j : Int) r) ((j + 1 : Nat) : Int)) :
    Ev (fun n => Lf n (padS a z 0) 0) (a, (a.length : Int)) := by
  refine down (P := fun j => Ev (fun n => Lf n (padS a z j) (j : Int)) (a, (a.length : Int))) a.length ?_ (fun j hj ih => ?_)
  · refine Ev.step (fun n => hend _ n) ?_
    rw [padS_full]
    exact .done
  · have hx : a[j]? = some a[j] := List.getElem?_eq_getElem hj
    have hlt : j < (padS a z j).length := by rw [padS_len (by omega)]; exact hj
    refine Ev.step (fun n => hstep _ n j _ _ hx (List.getElem?_eq_getElem hlt)) (Ev.bind (hcp _ (List.getElem_mem hj)) ?_)
    rw [padS_set hj]
    exact ih

theorem eq_loop {α : Type} {a : List α} {Lf : Nat → Int → Option (Flow Bool Int)} {eqf : Nat → α → α → Option Bool} (heq : ∀ x, x ∈ a → Ev (fun n => eqf n x x) true)
    (hend : ∀ n, Lf (n + 1) (a.length : Int) = some (.nxt (a.length : Int)))
    (hstep : ∀ (n j : Nat) (x : α), a[j]? = some x → Lf (n + 1) (j : Int) = (eqf n x x).bind fun r => bif (!r) then some (.ret false) else Lf n ((j + 1 : Nat) : Int)) :
    Ev (fun n => Lf n 0) (.nxt (a.length : Int)) := by
  refine down (P := fun j => Ev (fun n => Lf n (j : Int)) (.nxt (a.length : Int))) a.length ?_ (fun j hj ih => ?_)
  · exact Ev.step (fun n => hend n) .done
  · exact Ev.step (fun n => hstep n j _ (List.getElem?_eq_getElem hj)) (Ev.bind (heq _ (List.getElem_mem hj)) (Ev.ff rfl ih))

/-! ### Lists that are not too long -/

def okI (x : Int) : Prop := -9223372036854775808 ≤ x ∧ x ≤ 9223372036854775807
def okS (s : ByteArray) : Prop := s.size ≤ 1048576
def okL {α : Type} (ok : α → Prop) (xs : List α) : Prop := xs.length ≤ 1048576 ∧ ∀ x, x ∈ xs → ok x
def okT (_ : Bool) : Prop := True
theorem okL.len {α : Type} {ok : α → Prop} {xs : List α} (h : okL ok xs) : xs.length ≤ 1048576 := h.1
theorem okL.get {α : Type} {ok : α → Prop} {xs : List α} (h : okL ok xs) {j : Nat} {x : α} (hx : xs[j]? = some x) : ok x := h.2 x (List.mem_of_getElem? hx)
theorem okL.at {α : Type} {ok : α → Prop} {xs : List α} (h : okL ok xs) {j : Nat} (hj : j < xs.length) : ok xs[j] := h.2 _ (List.getElem_mem hj)

theorem sum_le {α : Type} {wt : α → Nat} {xs : List α} {x : α} (h : x ∈ xs) : wt x ≤ (xs.map wt).sum := by
  induction xs with
  | nil => cases h
  | cons y ys ih =>
    rw [List.map_cons, List.sum_cons]
    rcases List.mem_cons.1 h with rfl | h
    · omega
    · have := ih h; omega
end Go.Fw


namespace Go.Fw
open Go
open Go.RowKit (Below)

section
variable {P : Program} {T : Tab} {n : Nat} {Q : Exit → Act → World → Prop} {k : List It} {e : Env} {w0 w w' : World} {L : List Ch} {J : World → Prop}

end
end Go.Fw
