/- The prover's own layer over the model: typed readings of memory, a small separation list, and a run with a stack of code that is left. -/
import Derived.WalkKit
import Derived.KernelRfl
namespace Go.Fw
open Go

/-- Typed readings: 'R' reads (memory may be shared), 'O' owns (memory is apart). -/
class GoT (α : Type) where
  k : Nat
  agg : Bool
  zero : α
  zc : List Value
  R : World → (Nat → Prop) → α → List Value → Prop
  O : World → (Nat → Prop) → α → List Value → Prop
  kpos : 0 < k
  noagg : agg = false → k = 1
  len : ∀ {w S x cs}, R w S x cs → cs.length = k
  one : ∀ {w S x cs}, R w S x cs → ∀ c ∈ cs, c.oneCell' = true
  loc : ∀ {w w' S x cs}, R w S x cs → (∀ b, S b → w'.heap[b]? = w.heap[b]?) → R w' S x cs
  mono : ∀ {w S S' x cs}, R w S x cs → (∀ b, S b → S' b) → R w S' x cs
  toR : ∀ {w S x cs}, O w S x cs → R w S x cs
  locO : ∀ {w w' S x cs}, O w S x cs → (∀ b, S b → w'.heap[b]? = w.heap[b]?) → O w' S x cs
  monoO : ∀ {w S S' x cs}, O w S x cs → (∀ b, S b → S' b) → O w S' x cs
  zO : ∀ w S, O w S zero zc

def mkV (agg : Bool) (cs : List Value) : Value :=
  match agg with
  | true => .agg cs.toArray
  | false => cs.headD undef

/-- The value of the cells of a reading. -/
abbrev GoT.v (α : Type) [GoT α] (cs : List Value) : Value := mkV (GoT.agg α) cs

instance instInt : GoT Int where
  k := 1
  agg := false
  zero := 0
  zc := [.int .i64 0]
  R _ _ x cs := cs = [.int .i64 x]
  O _ _ x cs := cs = [.int .i64 x]
  kpos := by decide
  noagg _ := rfl
  len h := by subst h; rfl
  one h := by subst h; simp [Value.oneCell']
  loc h _ := h
  mono h _ := h
  toR h := h
  locO h _ := h
  monoO h _ := h
  zO _ _ := rfl

instance instBool : GoT Bool where
  k := 1
  agg := false
  zero := false
  zc := [.bool false]
  R _ _ x cs := cs = [.bool x]
  O _ _ x cs := cs = [.bool x]
  kpos := by decide
  noagg _ := rfl
  len h := by subst h; rfl
  one h := by subst h; simp [Value.oneCell']
  loc h _ := h
  mono h _ := h
  toR h := h
  locO h _ := h
  monoO h _ := h
  zO _ _ := rfl

instance instStr : GoT ByteArray where
  k := 1
  agg := false
  zero := ByteArray.empty
  zc := [.string ByteArray.empty]
  R _ _ x cs := cs = [.string x]
  O _ _ x cs := cs = [.string x]
  kpos := by decide
  noagg _ := rfl
  len h := by subst h; rfl
  one h := by subst h; simp [Value.oneCell']
  loc h _ := h
  mono h _ := h
  toR h := h
  locO h _ := h
  monoO h _ := h
  zO _ _ := rfl

/-- A type whose reading does not look into memory. -/
class Flat (α : Type) [GoT α] : Prop where
  fl : ∀ {w w' : World} {S S' : Nat → Prop} {x : α} {cs : List Value}, GoT.R w S x cs → GoT.O w' S' x cs
  det : ∀ {w w' : World} {S S' : Nat → Prop} {x : α} {cs cs' : List Value}, GoT.R w S x cs → GoT.R w' S' x cs' → cs = cs'
instance : Flat Int := ⟨fun h => h, fun h h' => Eq.trans h (Eq.symm h')⟩
instance : Flat Bool := ⟨fun h => h, fun h h' => Eq.trans h (Eq.symm h')⟩
instance : Flat ByteArray := ⟨fun h => h, fun h h' => Eq.trans h (Eq.symm h')⟩

section
variable {α : Type} [GoT α]

/-- A slice's reading: nil, or a place in a row of cells. -/
def SlR (w : World) (S : Nat → Prop) (xs : List α) (p : Option Addr) (c : Nat) : Prop :=
  xs.length ≤ c ∧ c ≤ maxLen ∧
  (((p = none ∨ c = 0) ∧ xs = []) ∨
   ∃ b o cur T fr, p = some ⟨b, o, none⟩ ∧ S b ∧ w.heap[b]? = some (.cells cur T fr) ∧ o + c * GoT.k α ≤ cur.size ∧
     ∀ i x, xs[i]? = some x → ∃ cs, GoT.R w S x cs ∧ ∀ j v, cs[j]? = some v → cur[o + i * GoT.k α + j]? = some v)

/-- A slice that is owned: nil, or a whole block. -/
def SlO (w : World) (S : Nat → Prop) (xs : List α) (p : Option Addr) (c : Nat) : Prop :=
  xs.length ≤ c ∧ c ≤ maxLen ∧
  ((p = none ∧ xs = [] ∧ c = 0) ∨
   ∃ b cur T, ∃ F : Nat → Nat → Prop, p = some ⟨b, 0, none⟩ ∧ S b ∧ w.heap[b]? = some (.cells cur T (0, 0)) ∧ cur.size = c * GoT.k α ∧
     (∀ i a, F i a → S a ∧ a ≠ b) ∧ (∀ i j a, i ≠ j → F i a → ¬ F j a) ∧
     ∀ i x, xs[i]? = some x → ∃ cs, GoT.O w (F i) x cs ∧ ∀ j v, cs[j]? = some v → cur[i * GoT.k α + j]? = some v)

theorem SlR.loc {w w' : World} {S : Nat → Prop} {xs : List α} {p c} (h : SlR w S xs p c) (hs : ∀ b, S b → w'.heap[b]? = w.heap[b]?) : SlR w' S xs p c := by
  obtain ⟨h1, h2, h3⟩ := h
  refine ⟨h1, h2, ?_⟩
  rcases h3 with h3 | ⟨b, o, cur, T, fr, rfl, hb, hg, hc, hx⟩
  · exact .inl h3
  · refine .inr ⟨b, o, cur, T, fr, rfl, hb, by rw [hs b hb]; exact hg, hc, fun i x hi => ?_⟩
    obtain ⟨cs, hr, hj⟩ := hx i x hi
    exact ⟨cs, GoT.loc hr hs, hj⟩

theorem SlR.mono {w : World} {S S' : Nat → Prop} {xs : List α} {p c} (h : SlR w S xs p c) (hs : ∀ b, S b → S' b) : SlR w S' xs p c := by
  obtain ⟨h1, h2, h3⟩ := h
  refine ⟨h1, h2, ?_⟩
  rcases h3 with h3 | ⟨b, o, cur, T, fr, rfl, hb, hg, hc, hx⟩
  · exact .inl h3
  · refine .inr ⟨b, o, cur, T, fr, rfl, hs b hb, hg, hc, fun i x hi => ?_⟩
    obtain ⟨cs, hr, hj⟩ := hx i x hi
    exact ⟨cs, GoT.mono hr hs, hj⟩

theorem SlO.toR {w : World} {S : Nat → Prop} {xs : List α} {p c} (h : SlO w S xs p c) : SlR w S xs p c := by
  obtain ⟨h1, h2, h3⟩ := h
  refine ⟨h1, h2, ?_⟩
  rcases h3 with ⟨h3, h4, _⟩ | ⟨b, cur, T, F, rfl, hb, hg, hc, hF, hd, hx⟩
  · exact .inl ⟨.inl h3, h4⟩
  · refine .inr ⟨b, 0, cur, T, (0, 0), rfl, hb, hg, by omega, fun i x hi => ?_⟩
    obtain ⟨cs, hr, hj⟩ := hx i x hi
    exact ⟨cs, GoT.mono (GoT.toR hr) (fun a ha => (hF i a ha).1), by simpa using hj⟩

theorem SlO.loc {w w' : World} {S : Nat → Prop} {xs : List α} {p c} (h : SlO w S xs p c) (hs : ∀ b, S b → w'.heap[b]? = w.heap[b]?) : SlO w' S xs p c := by
  obtain ⟨h1, h2, h3⟩ := h
  refine ⟨h1, h2, ?_⟩
  rcases h3 with h3 | ⟨b, cur, T, F, rfl, hb, hg, hc, hF, hd, hx⟩
  · exact .inl h3
  · refine .inr ⟨b, cur, T, F, rfl, hb, by rw [hs b hb]; exact hg, hc, hF, hd, fun i x hi => ?_⟩
    obtain ⟨cs, hr, hj⟩ := hx i x hi
    exact ⟨cs, GoT.locO hr (fun a ha => hs a (hF i a ha).1), hj⟩

theorem SlO.mono {w : World} {S S' : Nat → Prop} {xs : List α} {p c} (h : SlO w S xs p c) (hs : ∀ b, S b → S' b) : SlO w S' xs p c := by
  obtain ⟨h1, h2, h3⟩ := h
  refine ⟨h1, h2, ?_⟩
  rcases h3 with h3 | ⟨b, cur, T, F, rfl, hb, hg, hc, hF, hd, hx⟩
  · exact .inl h3
  · exact .inr ⟨b, cur, T, F, rfl, hs b hb, hg, hc, fun i a ha => ⟨hs a (hF i a ha).1, (hF i a ha).2⟩, hd, hx⟩
end

instance instList {α : Type} [GoT α] : GoT (List α) where
  k := 1
  agg := false
  zero := []
  zc := [.slice none 0 0]
  R w S xs cs := ∃ p c, cs = [.slice p xs.length c] ∧ SlR w S xs p c
  O w S xs cs := ∃ p c, cs = [.slice p xs.length c] ∧ SlO w S xs p c
  kpos := by decide
  noagg _ := rfl
  len h := by obtain ⟨p, c, rfl, _⟩ := h; rfl
  one h := by obtain ⟨p, c, rfl, _⟩ := h; simp [Value.oneCell']
  loc h hs := by obtain ⟨p, c, rfl, h⟩ := h; exact ⟨p, c, rfl, h.loc hs⟩
  mono h hs := by obtain ⟨p, c, rfl, h⟩ := h; exact ⟨p, c, rfl, h.mono hs⟩
  toR h := by obtain ⟨p, c, rfl, h⟩ := h; exact ⟨p, c, rfl, h.toR⟩
  locO h hs := by obtain ⟨p, c, rfl, h⟩ := h; exact ⟨p, c, rfl, h.loc hs⟩
  monoO h hs := by obtain ⟨p, c, rfl, h⟩ := h; exact ⟨p, c, rfl, h.mono hs⟩
  zO w S := ⟨none, 0, rfl, by simp, by simp, .inl ⟨rfl, rfl, rfl⟩⟩

/-- A pointer to a variable: 'none' is nil. -/
instance instPtr {α : Type} [GoT α] : GoT (Option α) where
  k := 1
  agg := false
  zero := none
  zc := [.pointer none]
  R w S p cs := match p with
    | none => cs = [.pointer none]
    | some x => ∃ b o cur T fr ds, cs = [.pointer (some ⟨b, o, none⟩)] ∧ S b ∧ w.heap[b]? = some (.cells cur T fr) ∧ GoT.R w S x ds ∧ ∀ j v, ds[j]? = some v → cur[o + j]? = some v
  O w S p cs := match p with
    | none => cs = [.pointer none]
    | some x => ∃ b cur T, ∃ S' : Nat → Prop, cs = [.pointer (some ⟨b, 0, none⟩)] ∧ S b ∧ w.heap[b]? = some (.cells (List.toArray cur) T (0, 0)) ∧ GoT.O w S' x cur ∧ ∀ a, S' a → S a ∧ a ≠ b
  kpos := by decide
  noagg _ := rfl
  len {w S p cs} h := by
    cases p with
    | none => subst h; rfl
    | some x => obtain ⟨b, o, cur, T, fr, ds, rfl, _⟩ := h; rfl
  one {w S p cs} h := by
    cases p with
    | none => subst h; simp [Value.oneCell']
    | some x => obtain ⟨b, o, cur, T, fr, ds, rfl, _⟩ := h; simp [Value.oneCell']
  loc {w w' S p cs} h hs := by
    cases p with
    | none => exact h
    | some x =>
      obtain ⟨b, o, cur, T, fr, ds, rfl, hb, hg, hr, hj⟩ := h
      exact ⟨b, o, cur, T, fr, ds, rfl, hb, by rw [hs b hb]; exact hg, GoT.loc hr hs, hj⟩
  mono {w S S' p cs} h hs := by
    cases p with
    | none => exact h
    | some x =>
      obtain ⟨b, o, cur, T, fr, ds, rfl, hb, hg, hr, hj⟩ := h
      exact ⟨b, o, cur, T, fr, ds, rfl, hs b hb, hg, GoT.mono hr hs, hj⟩
  toR {w S p cs} h := by
    cases p with
    | none => exact h
    | some x =>
      obtain ⟨b, cur, T, S', rfl, hb, hg, hr, hj⟩ := h
      exact ⟨b, 0, cur.toArray, T, (0, 0), cur, rfl, hb, hg, GoT.mono (GoT.toR hr) (fun a ha => (hj a ha).1), by simp⟩
  locO {w w' S p cs} h hs := by
    cases p with
    | none => exact h
    | some x =>
      obtain ⟨b, cur, T, S', rfl, hb, hg, hr, hj⟩ := h
      exact ⟨b, cur, T, S', rfl, hb, by rw [hs b hb]; exact hg, GoT.locO hr (fun a ha => hs a (hj a ha).1), hj⟩
  monoO {w S S' p cs} h hs := by
    cases p with
    | none => exact h
    | some x =>
      obtain ⟨b, cur, T, S', rfl, hb, hg, hr, hj⟩ := h
      exact ⟨b, cur, T, S', rfl, hs b hb, hg, hr, fun a ha => ⟨hs a (hj a ha).1, (hj a ha).2⟩⟩
  zO _ _ := rfl

/-! ### The separation list -/

/-- A part of memory: which blocks, and what is said of them. -/
structure Ch where
  S : Nat → Prop
  D : Nat → Prop
  P : World → Prop
  loc : ∀ w w', (∀ b, S b → w'.heap[b]? = w.heap[b]?) → (∀ b, D b → w'.heap[b]? = w.heap[b]?) → P w → P w'

/-- A variable: one block, its cells. -/
def Ch.box (b : Nat) (cs : List Value) (T : TypeId) : Ch where
  S a := a = b
  D _ := False
  P w := w.heap[b]? = some (.cells cs.toArray T (0, 0))
  loc w w' h _ hp := by rw [h b rfl]; exact hp

/-- What is owned. -/
def Ch.own {α : Type} [GoT α] (S : Nat → Prop) (x : α) (cs : List Value) : Ch where
  S := S
  D _ := False
  P w := GoT.O w S x cs
  loc _ _ h _ hp := GoT.locO hp h

/-- The blocks that stood in a world. -/
def old (w : World) (b : Nat) : Prop := b < w.heap.size
/-- The blocks that came between two worlds. -/
def fresh (w w' : World) (b : Nat) : Prop := w.heap.size ≤ b ∧ b < w'.heap.size

open Go.RowKit (Below)

structure SH (w0 w : World) (L : List Ch) : Prop where
  below : Below w0.heap.size w0 w
  holds : ∀ c ∈ L, c.P w ∧ ∀ b, c.S b → fresh w0 w b
  elder : ∀ c ∈ L, ∀ b, c.D b → b < w0.heap.size
  apart : L.Pairwise fun c d => ∀ b, c.S b → ¬ d.S b

theorem SH.start (w : World) : SH w w [] := ⟨Below.refl _ _, by simp, by simp, .nil⟩

section
variable {w0 w w' : World} {L : List Ch}

theorem SH.mem {c : Ch} {i : Nat} (h : SH w0 w L) (hi : L[i]? = some c) : c.P w ∧ ∀ b, c.S b → fresh w0 w b :=
  h.holds c (List.mem_of_getElem? hi)

theorem SH.ext (h : SH w0 w L) (hb : Below w.heap.size w w') : SH w0 w' L := by
  refine ⟨h.below.trans (hb.mono h.below.size), fun c hc => ?_, h.elder, h.apart⟩
  obtain ⟨h1, h2⟩ := h.holds c hc
  refine ⟨c.loc w w' (fun b hS => hb.block b (h2 b hS).2) (fun b hD => hb.block b (Nat.lt_of_lt_of_le (h.elder c hc b hD) h.below.size)) h1, fun b hS => ⟨(h2 b hS).1, ?_⟩⟩
  have := (h2 b hS).2
  have := hb.size
  omega

theorem SH.add {c : Ch} (h : SH w0 w L) (hb : Below w.heap.size w w') (hp : c.P w') (hS : ∀ b, c.S b → fresh w w' b) (hD : ∀ b, c.D b → b < w0.heap.size) : SH w0 w' (c :: L) := by
  have h' := h.ext hb
  refine ⟨h'.below, fun d hd => ?_, fun d hd => ?_, ?_⟩
  · rcases List.mem_cons.1 hd with rfl | hd
    · refine ⟨hp, fun b hb' => ⟨?_, (hS b hb').2⟩⟩
      have := (hS b hb').1
      have := h.below.size
      omega
    · exact h'.holds d hd
  · rcases List.mem_cons.1 hd with rfl | hd
    · exact hD
    · exact h.elder d hd
  · refine List.pairwise_cons.2 ⟨fun d hd b hcb hdb => ?_, h.apart⟩
    have h1 := (hS b hcb).1
    have h2 := ((h.holds d hd).2 b hdb).2
    omega

theorem SH.alloc (h : SH w0 w L) (cs : List Value) (T : TypeId) : SH w0 (w.alloc (.cells cs.toArray T)) (Ch.box w.heap.size cs T :: L) := by
  refine h.add ((Below.refl _ _).alloc (Nat.le_refl _) _) ?_ ?_ (fun _ hd => hd.elim)
  · exact heap_alloc_new w _
  · intro b hb
    have : b = w.heap.size := hb
    subst this
    exact ⟨Nat.le_refl _, by simp⟩

/-- One part changes: the world elsewhere stays. -/
theorem SH.upd {c c' : Ch} {i : Nat} (h : SH w0 w L) (hi : L[i]? = some c) (hos : w'.os = w.os) (htape : w'.tape = w.tape) (hout : w'.output = w.output) (hsize : w.heap.size ≤ w'.heap.size)
    (hb : ∀ b, b < w.heap.size → ¬ c.S b → w'.heap[b]? = w.heap[b]?) (hp : c'.P w') (hS : ∀ b, c'.S b → c.S b ∨ fresh w w' b) (hD : ∀ b, c'.D b → b < w0.heap.size) : SH w0 w' (L.set i c') := by
  obtain ⟨hcP, hcS⟩ := h.mem hi
  have hother : ∀ (j : Nat) (d : Ch), L[j]? = some d → j ≠ i → ∀ b, d.S b → ¬ c.S b := by
    intro j d hj hne b hdb hcb
    have hpw := List.pairwise_iff_getElem.1 h.apart
    obtain ⟨hil, hic⟩ := List.getElem?_eq_some_iff.1 hi
    obtain ⟨hjl, hjd⟩ := List.getElem?_eq_some_iff.1 hj
    rcases Nat.lt_or_gt_of_ne hne with hlt | hlt
    · have := hpw j i hjl hil hlt
      rw [hic, hjd] at this
      exact this b hdb hcb
    · have := hpw i j hil hjl hlt
      rw [hic, hjd] at this
      exact this b hcb hdb
  refine ⟨⟨hos.trans h.below.os, htape.trans h.below.tape, hout.trans h.below.output, Nat.le_trans h.below.size hsize, fun k hk => ?_⟩, ?_, ?_, ?_⟩
  · rw [hb k (Nat.lt_of_lt_of_le hk h.below.size) (fun hk' => by have := (hcS k hk').1; omega)]
    exact h.below.block k hk
  · intro d hd
    obtain ⟨j, hj, hjd⟩ := List.getElem_of_mem hd
    have hjL : j < L.length := by simpa using hj
    rw [List.getElem_set] at hjd
    split at hjd
    · subst hjd
      refine ⟨hp, fun b hb' => ?_⟩
      rcases hS b hb' with h1 | h1
      · exact ⟨(hcS b h1).1, Nat.lt_of_lt_of_le (hcS b h1).2 hsize⟩
      · exact ⟨Nat.le_trans h.below.size h1.1, h1.2⟩
    · rename_i hne
      have hjd' : L[j]? = some d := by rw [List.getElem?_eq_getElem hjL, hjd]
      obtain ⟨h1, h2⟩ := h.mem hjd'
      refine ⟨d.loc w w' (fun b hdb => hb b (h2 b hdb).2 (hother j d hjd' (Ne.symm hne) b hdb)) (fun b hdb => ?_) h1, fun b hdb => ⟨(h2 b hdb).1, Nat.lt_of_lt_of_le (h2 b hdb).2 hsize⟩⟩
      have hlt := h.elder d (List.mem_of_getElem? hjd') b hdb
      exact hb b (Nat.lt_of_lt_of_le hlt h.below.size) (fun hk' => by have := (hcS b hk').1; omega)
  · intro d hd
    obtain ⟨j, hj, hjd⟩ := List.getElem_of_mem hd
    have hjL : j < L.length := by simpa using hj
    rw [List.getElem_set] at hjd
    split at hjd
    · subst hjd; exact hD
    · exact h.elder d (hjd ▸ List.getElem_mem hjL)
  · rw [List.pairwise_iff_getElem]
    intro a b ha hb' hab x hax hbx
    have haL : a < L.length := by simpa using ha
    have hbL : b < L.length := by simpa using hb'
    rw [List.getElem_set] at hax hbx
    split at hax
    · rename_i hai
      split at hbx
      · omega
      · have hbd : L[b]? = some L[b] := List.getElem?_eq_getElem hbL
        rcases hS x hax with h1 | h1
        · exact hother b _ hbd (by omega) x hbx h1
        · have := ((h.mem hbd).2 x hbx).2
          have := h1.1
          omega
    · rename_i hai
      have had : L[a]? = some L[a] := List.getElem?_eq_getElem haL
      split at hbx
      · rename_i hbi
        rcases hS x hbx with h1 | h1
        · exact hother a _ had (by omega) x hax h1
        · have := ((h.mem had).2 x hax).2
          have := h1.1
          omega
      · exact List.pairwise_iff_getElem.1 h.apart a b haL hbL hab x hax hbx

/-- Fewer parts, in another order. -/
theorem SH.sub {M : List Ch} (h : SH w0 w L) (hs : M.Sublist L) : SH w0 w M :=
  ⟨h.below, fun c hc => h.holds c (hs.subset hc), fun c hc => h.elder c (hs.subset hc), h.apart.sublist hs⟩

theorem SH.old {α : Type} [GoT α] {x : α} {cs : List Value} (h : SH w0 w L) (hr : GoT.R w0 (old w0) x cs) : GoT.R w (Fw.old w) x cs :=
  GoT.mono (GoT.loc hr (fun b hb => h.below.block b hb)) (fun _ hb => Nat.lt_of_lt_of_le hb h.below.size)

theorem SH.own {α : Type} [GoT α] {x : α} {cs : List Value} {S : Nat → Prop} (i : Nat) (h : SH w0 w L) (hi : L[i]? = some (Ch.own S x cs)) : GoT.R w (Fw.old w) x cs :=
  GoT.mono (GoT.toR (h.mem hi).1) (fun b hb => ((h.mem hi).2 b hb).2)

/-- Some of the parts, in an order of one's own. -/
def pickL (L : List Ch) : List Nat → List Ch
  | [] => []
  | i :: is => match L[i]? with
    | some c => c :: pickL L is
    | none => pickL L is

def nodupB : List Nat → Bool
  | [] => true
  | i :: is => is.all (fun j => !(Nat.beq i j)) && nodupB is

theorem mem_pickL {c : Ch} : ∀ {is : List Nat}, c ∈ pickL L is → ∃ i ∈ is, L[i]? = some c
  | [], h => by cases h
  | i :: is, h => by
    simp only [pickL] at h
    split at h
    · rename_i d hd
      rcases List.mem_cons.1 h with rfl | h
      · exact ⟨i, by simp, hd⟩
      · obtain ⟨j, hj, hc⟩ := mem_pickL h; exact ⟨j, by simp [hj], hc⟩
    · obtain ⟨j, hj, hc⟩ := mem_pickL h; exact ⟨j, by simp [hj], hc⟩

theorem SH.pick (is : List Nat) (h : SH w0 w L) (hn : nodupB is = true) : SH w0 w (pickL L is) := by
  refine ⟨h.below, fun c hc => ?_, fun c hc => ?_, ?_⟩
  · obtain ⟨i, _, hi⟩ := mem_pickL hc; exact h.mem hi
  · obtain ⟨i, _, hi⟩ := mem_pickL hc; exact h.elder c (List.mem_of_getElem? hi)
  · induction is with
    | nil => exact .nil
    | cons i is ih =>
      simp only [nodupB, Bool.and_eq_true, List.all_eq_true, Bool.not_eq_true'] at hn
      have ih := ih hn.2
      simp only [pickL]
      split
      · rename_i c hc
        refine List.pairwise_cons.2 ⟨fun d hd b hcb hdb => ?_, ih⟩
        obtain ⟨j, hj, hjd⟩ := mem_pickL hd
        have hne : i ≠ j := by
          intro hij
          have := hn.1 j hj
          rw [hij, Nat.beq_refl] at this
          cases this
        obtain ⟨hil, rfl⟩ := List.getElem?_eq_some_iff.1 hc
        obtain ⟨hjl, rfl⟩ := List.getElem?_eq_some_iff.1 hjd
        rcases Nat.lt_or_gt_of_ne hne with hlt | hlt
        · exact List.pairwise_iff_getElem.1 h.apart i j hil hjl hlt b hcb hdb
        · exact List.pairwise_iff_getElem.1 h.apart j i hjl hil hlt b hdb hcb
      · exact ih

end
end Go.Fw
