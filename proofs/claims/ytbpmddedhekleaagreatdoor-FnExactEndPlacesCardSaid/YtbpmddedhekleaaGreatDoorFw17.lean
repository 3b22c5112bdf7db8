/- Integers of the other kinds. -/
import Derived.Test.YtbpmddedhekleaaGreatDoorFw16
namespace Go.Fw
open Go

structure IntK (k : IntKind) where
  val : Int

instance gt_IntK {kd : IntKind} : GoT (IntK kd) where
  k := 1
  agg := false
  zero := ⟨0⟩
  zc := [.int kd 0]
  R _ _ x cs := cs = [.int kd x.val]
  O _ _ x cs := cs = [.int kd x.val]
  kpos := by decide
  noagg _ := rfl
  len h := by subst h; rfl
  one h := by subst h; simp [Value.oneCell']
  loc h _ := h
  mono h _ := h
  toR h := h
  locO h _ := h
  monoO h _ := h
  zO _ _ := rfl
instance fl_IntK {kd : IntKind} : Flat (IntK kd) := ⟨fun h => h, fun h h' => Eq.trans h (Eq.symm h')⟩

section
variable {P : Program} {T : Tab} {n : Nat} {Q : Exit → Act → World → Prop} {k : List It} {e : Env} {w0 w w' : World} {L : List Ch} {S : Nat → Prop}

end

end Go.Fw
