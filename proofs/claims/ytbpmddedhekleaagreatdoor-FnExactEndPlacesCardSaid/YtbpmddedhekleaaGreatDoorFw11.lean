/- From the form's readings to typed readings, and the frame of a law of one argument. -/
import Derived.Test.YtbpmddedhekleaaGreatDoorFw10
import Derived.ProofKit
import Derived.ReadAgain
namespace Go.Fw
open Go
open Go.ChangeShapes Go.WideShapes Go.ChangeAt Go.RowKit

theorem list_of_each {β : Type} {p : Nat → β → Prop} : ∀ (n : Nat), (∀ i, i < n → ∃ y, p i y) → ∃ ys : List β, ys.length = n ∧ ∀ i y, ys[i]? = some y → p i y
  | 0, _ => ⟨[], rfl, fun i y h => by simp at h⟩
  | n + 1, h => by
    obtain ⟨ys, hl, hy⟩ := list_of_each n (fun i hi => h i (by omega))
    obtain ⟨y, hp⟩ := h n (by omega)
    refine ⟨ys ++ [y], by simp [hl], fun i z hz => ?_⟩
    by_cases hi : i < n
    · rw [List.getElem?_append_left (by omega)] at hz
      exact hy i z hz
    · rw [List.getElem?_append_right (by omega)] at hz
      have : i - ys.length = 0 := by
        have := (List.getElem?_eq_some_iff.1 hz).1
        simp at this
        omega
      rw [this] at hz
      simp only [List.getElem?_cons_zero, Option.some.injEq] at hz
      subst hz
      rw [show i = n by omega]
      exact hp

/-- What the form reads as a datum of type 't' reads as a value of 'α' with 'ρ'. -/
def Opens (P : Program) (t : TypeId) {α : Type} (A : GoT α) (ρ : α → Prop) : Prop :=
  P.cellsOf t = A.k ∧ ∀ {H : Type} {enc : TypeId × Value → H} {w : World} {fuel : Nat} {cs : List Value} {x : DataW H × List MemPlace},
    DataW.trod enc P w 0 (fun _ => true) true fuel t cs = some x → ∃ y : α, A.R w (old w) y cs ∧ ρ y

def rngI (x : Int) : Prop := -9223372036854775808 ≤ x ∧ x ≤ 9223372036854775807
def rngL {α : Type} (ρ : α → Prop) (xs : List α) : Prop := xs.length ≤ 9223372036854775807 ∧ ∀ x ∈ xs, ρ x
def rngS (s : ByteArray) : Prop := s.size ≤ 9223372036854775807
def rngB (_ : Bool) : Prop := True
section
variable {P : Program} {t e : TypeId}

theorem opens_int (ht : P.underlying t = some (.int .i64)) (hc : P.cellsOf t = 1) : Opens P t instInt rngI :=
  ⟨hc, fun h => by
    obtain ⟨n, rfl, _, hw⟩ := DataW.trod_int ht h
    exact ⟨n, rfl, by simp only [Lit.wf, IntKind.min, IntKind.max, Bool.and_eq_true] at hw; simp [IntKind.bits, IntKind.signed] at hw; unfold rngI; omega⟩⟩
theorem opens_bool (ht : P.underlying t = some .bool) (hc : P.cellsOf t = 1) : Opens P t instBool rngB :=
  ⟨hc, fun h => by obtain ⟨n, rfl, _⟩ := DataW.trod_bool ht h; exact ⟨n, rfl, trivial⟩⟩
theorem opens_str (ht : P.underlying t = some .string) (hc : P.cellsOf t = 1) : Opens P t instStr rngS :=
  ⟨hc, fun h => by obtain ⟨n, rfl, _, hw⟩ := DataW.trod_string ht h; exact ⟨n, rfl, hw⟩⟩

theorem cells?_at {w : World} {a : Addr} {n : Nat} {cs : List Value} (h : w.cells? 0 a n = some cs) {j : Nat} {v : Value} (hj : cs[j]? = some v) : w.cell? (a.add j) = some v := by
  obtain ⟨_, hl, hc⟩ := World.cells?_some h
  rw [hc j (by have := (List.getElem?_eq_some_iff.1 hj).1; omega), hj]

theorem cell?_open {w : World} {a : Addr} {v : Value} (h : w.cell? a = some v) : ∃ b o cur T fr, a = ⟨b, o, none⟩ ∧ b < w.heap.size ∧ w.heap[b]? = some (.cells cur T fr) ∧ cur[o]? = some v := by
  have hlt := World.block_lt_of_cell? w a h
  have hs := World.cell?_spot h
  obtain ⟨b, o, s⟩ := a
  simp only at hs
  subst hs
  unfold World.cell? at h
  split at h
  · rename_i c T fr hg
    exact ⟨b, o, c, T, fr, rfl, hlt, hg, by simpa using h⟩
  · cases h

theorem opens_slice {α : Type} {A : GoT α} {ρ : α → Prop} (ht : P.underlying t = some (.slice e)) (hc : P.cellsOf t = 1) (h : Opens P e A ρ) : Opens P t (@instList α A) (rngL ρ) := by
  refine ⟨hc, fun {H enc w fuel cs x} hx => ?_⟩
  obtain ⟨hk, hr⟩ := h
  have hkp : 0 < A.k := A.kpos
  rcases DataW.trod_slice ht hx with ⟨rfl, _⟩ | ⟨a, len, cap, elems, rest, n, rfl, rfl, _, _, hlc, hcm, hel, h1, h2, _⟩
  · exact ⟨[], ⟨none, 0, rfl, by simp, by simp, .inl ⟨.inl rfl, rfl⟩⟩, by simp, by simp⟩
  · obtain ⟨hrl, h2⟩ := h2 rfl
    -- the cells of element i, of the slice or of what is spare
    have hcell : ∀ i, i < cap → ∃ cs, w.cells? 0 (a.add (i * A.k)) A.k = some cs := by
      intro i hi
      by_cases hil : i < len
      · have := h1 i hil
        rw [List.getElem?_eq_getElem (by omega)] at this
        obtain ⟨cs, hcs, _⟩ := Option.bind_eq_some_iff.1 this
        rw [hk] at hcs
        exact ⟨cs, hcs⟩
      · have := h2 (i - len) (by omega)
        rw [List.getElem?_eq_getElem (by omega)] at this
        obtain ⟨cs, hcs, _⟩ := Option.bind_eq_some_iff.1 this
        rw [hk, show len + (i - len) = i by omega] at hcs
        exact ⟨cs, hcs⟩
    obtain ⟨ys, hyl, hy⟩ := list_of_each (p := fun i (y : α) => ∃ cs, w.cells? 0 (a.add (i * A.k)) A.k = some cs ∧ A.R w (old w) y cs ∧ ρ y) len (fun i hi => by
      have := h1 i hi
      rw [List.getElem?_eq_getElem (by omega)] at this
      obtain ⟨cs, hcs, hd⟩ := Option.bind_eq_some_iff.1 this
      rw [hk] at hcs
      obtain ⟨y, hy1, hy2⟩ := hr hd
      exact ⟨y, cs, hcs, hy1, hy2⟩)
    have hrng : rngL ρ ys := ⟨by rw [hyl]; unfold maxLen at hcm; omega, fun y hm => by
      obtain ⟨i, hi⟩ := List.mem_iff_getElem?.1 hm
      obtain ⟨_, _, _, h⟩ := hy i y hi
      exact h⟩
    refine ⟨ys, ⟨some a, cap, by rw [hyl], by omega, hcm, ?_⟩, hrng⟩
    by_cases hcap : cap = 0
    · exact .inl ⟨.inr hcap, List.eq_nil_of_length_eq_zero (by omega)⟩
    · -- the block
      obtain ⟨c0, hc0⟩ := hcell 0 (by omega)
      obtain ⟨_, hl0, _⟩ := World.cells?_some hc0
      have e0 := cells?_at hc0 (j := 0) (List.getElem?_eq_getElem (by omega))
      have ha0 : (a.add (0 * A.k)).add 0 = a := by simp [Addr.add]
      rw [ha0] at e0
      obtain ⟨b, o, cur, T, fr, rfl, hb, hg, _⟩ := cell?_open e0
      have hin : ∀ i, i < cap → ∀ j cs v, w.cells? 0 ((⟨b, o, none⟩ : Addr).add (i * A.k)) A.k = some cs → cs[j]? = some v → cur[o + i * A.k + j]? = some v := by
        intro i hi j cs v hcs hj
        have := cells?_at hcs hj
        rw [add_lit, add_lit] at this
        simp only [World.cell?, hg] at this
        simpa using this
      refine .inr ⟨b, o, cur, T, fr, rfl, hb, hg, ?_, fun i y hi => ?_⟩
      · obtain ⟨cl, hcl⟩ := hcell (cap - 1) (by omega)
        obtain ⟨_, hll, _⟩ := World.cells?_some hcl
        have := hin (cap - 1) (by omega) (A.k - 1) cl _ hcl (List.getElem?_eq_getElem (by omega))
        have hlt := (Array.getElem?_eq_some_iff.1 this).1
        have hmul : cap * A.k = (cap - 1) * A.k + A.k := by
          have : cap = (cap - 1) + 1 := by omega
          conv => lhs; rw [this]
          rw [Nat.succ_mul]
        show o + cap * A.k ≤ cur.size
        omega
      · obtain ⟨cs, hcs, hyR, _⟩ := hy i y hi
        have hi' := (List.getElem?_eq_some_iff.1 hi).1
        exact ⟨cs, hyR, fun j v hj => hin i (by omega) j cs v hcs hj⟩

/-- The fields of a struct from one place on. -/
structure OpensF (P : Program) (fs : List Field) (off : Nat) {α : Type} (A : GoT α) (ρ : α → Prop) : Prop where
  get : ∀ {H : Type} {enc : TypeId × Value → H} {w : World} {fuel : Nat} {cs : List Value}, cs.length = off + A.k →
    (∀ f ∈ fs, ∃ x, DataW.trod enc P w 0 (fun _ => true) true fuel f.type ((cs.drop f.offset).take (P.cellsOf f.type)) = some x) → ∃ y : α, A.R w (old w) y (cs.drop off) ∧ ρ y

theorem opensF_one {f : Field} {off : Nat} {α : Type} {A : GoT α} {ρ : α → Prop} (ho : f.offset = off) (h : Opens P f.type A ρ) : OpensF P [f] off A ρ := by
  refine ⟨?_⟩
  intro H enc w fuel cs hl hf
  obtain ⟨x, hx⟩ := hf f (by simp)
  rw [h.1, ho, List.take_of_length_le (by simp; omega)] at hx
  exact h.2 hx

theorem opensF_cons {f : Field} {fs : List Field} {off : Nat} {α β : Type} {A : GoT α} {B : GoT β} {ρ : α → Prop} {σ : β → Prop} (ho : f.offset = off) (h : Opens P f.type A ρ) (hs : OpensF P fs (off + A.k) B σ) :
    OpensF P (f :: fs) off (pairT A B) (fun p => ρ p.1 ∧ σ p.2) := by
  refine ⟨?_⟩
  intro H enc w fuel cs hl hf
  obtain ⟨x, hx⟩ := hf f (by simp)
  rw [h.1, ho] at hx
  obtain ⟨y, hy1, hy2⟩ := h.2 hx
  obtain ⟨z, hz1, hz2⟩ := hs.get (by rw [hl]; show off + (A.k + B.k) = _; omega) (fun g hg => hf g (List.mem_cons_of_mem _ hg))
  exact ⟨(y, z), ⟨_, _, by rw [← List.drop_drop, List.take_append_drop], hy1, hz1⟩, hy2, hz2⟩

theorem opens_struct {fs : Array Field} {α β : Type} {A : GoT α} {ρ : α → Prop} {f : β → α} {z : β} {hz : f z = A.zero} {ag : Bool} {hag : ag = false → A.k = 1} (g : α → β) (hg : ∀ a, f (g a) = a)
    (ht : P.underlying t = some (.struct fs)) (hc : P.cellsOf t = A.k) (h : OpensF P fs.toList 0 A ρ) : Opens P t (isoT A f z hz ag hag) (fun y => ρ (f y)) := by
  refine ⟨hc, fun {H enc w fuel cs x} hx => ?_⟩
  obtain ⟨xs, n, rfl, _, hl, hxl, hf⟩ := DataW.trod_struct ht hx
  obtain ⟨y, hy1, hy2⟩ := h.get (by rw [hl, hc]; omega) (fun fl hm => by
    obtain ⟨i, hi⟩ := List.mem_iff_getElem?.1 hm
    have hi' : fs[i]? = some fl := by simpa using hi
    have hlt := (Array.getElem?_eq_some_iff.1 hi').1
    have := hf i fl hi'
    rw [List.getElem?_eq_getElem (by omega)] at this
    exact ⟨_, this⟩)
  refine ⟨g y, ?_, ?_⟩
  · show A.R w (old w) (f (g y)) cs
    rw [hg]
    simpa using hy1
  · show ρ (f (g y))
    rw [hg]
    exact hy2
end

theorem Opens.imp {P : Program} {t : TypeId} {α : Type} {A : GoT α} {ρ σ : α → Prop} (h : Opens P t A ρ) (hi : ∀ y, ρ y → σ y) : Opens P t A σ :=
  ⟨h.1, fun hx => by obtain ⟨y, h1, h2⟩ := h.2 hx; exact ⟨y, h1, hi y h2⟩⟩

theorem tup_bool {w : World} {S : Nat → Prop} {us : List Value} (h : (vsOne : GoVs Bool).Vs w S true us) : tup us = .bool true := by
  obtain ⟨cs, rfl, h1⟩ := h
  have : cs = [.bool true] := h1
  subst this
  rfl

end Go.Fw
