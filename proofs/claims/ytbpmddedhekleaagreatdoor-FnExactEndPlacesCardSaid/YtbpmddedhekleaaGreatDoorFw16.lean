/- Lists of what is not flat: the cells of an element as a flat value. -/
import Derived.Test.YtbpmddedhekleaaGreatDoorFw15
namespace Go.Fw
open Go
open Go.RowKit (Below)

/-- The cells of one element. -/
structure Raw (α : Type) where
  cs : List Value

instance gt_Raw {α : Type} [GoT α] : GoT (Raw α) where
  k := GoT.k α
  agg := GoT.agg α
  zero := ⟨GoT.zc α⟩
  zc := GoT.zc α
  R _ _ x cs := cs = x.cs ∧ cs.length = GoT.k α ∧ ∀ c ∈ cs, c.oneCell' = true
  O _ _ x cs := cs = x.cs ∧ cs.length = GoT.k α ∧ ∀ c ∈ cs, c.oneCell' = true
  kpos := GoT.kpos
  noagg := GoT.noagg
  len h := h.2.1
  one h := h.2.2
  loc h _ := h
  mono h _ := h
  toR h := h
  locO h _ := h
  monoO h _ := h
  zO _ _ := ⟨rfl, GoT.len (GoT.toR (GoT.zO (α := α) default (fun _ => False))), GoT.one (GoT.toR (GoT.zO (α := α) default (fun _ => False)))⟩
instance fl_Raw {α : Type} [GoT α] : Flat (Raw α) := ⟨fun h => h, fun h h' => h.1.trans h'.1.symm⟩

section
variable {w0 w w' : World} {L : List Ch} {S : Nat → Prop} {α : Type} [GoT α]

end

/-! ### What is done with the elements -/
section
variable {w0 w w' : World} {L : List Ch} {S Se : Nat → Prop} {α : Type} [GoT α]

theorem SH.cons {c : Ch} (h : SH w0 w L) (hp : c.P w) (hS : ∀ b, ¬ c.S b) (hD : ∀ b, ¬ c.D b) : SH w0 w (c :: L) := by
  refine ⟨h.below, fun d hd => ?_, fun d hd => ?_, List.pairwise_cons.2 ⟨fun _ _ b hb => absurd hb (hS b), h.apart⟩⟩
  · rcases List.mem_cons.1 hd with rfl | hd
    · exact ⟨hp, fun b hb => absurd hb (hS b)⟩
    · exact h.holds d hd
  · rcases List.mem_cons.1 hd with rfl | hd
    · exact fun b hb => absurd hb (hD b)
    · exact h.elder d hd

end

end Go.Fw
