/- Orders of a region that come together again. -/
import Derived.Test.YtbpmddedhekleaaGreatDoorFw22
namespace Go.Fw
open Go
open Go.RowKit (Below)

section
variable {P : Program} {T : Tab} {n : Nat} {Q : Exit → Act → World → Prop} {k : List It} {e : Env} {w0 w w' w1 : World} {L : List Ch}

/-- Whatever the order, one comes to what 'J' says; from there on once. -/
theorem a_merge {ops : Array Oper} {st : List Nat} {C : World → Prop} {fuel : Nat} {listed : Array Bool} (J : Env → World → Prop) (fuel' : Nat) (listed' : Array Bool)
    (h1 : (∀ e w, J e w → RunA P n Q k ops st C fuel' listed' e w) → RunA P n Q k ops st C fuel listed e w) (h2 : ∀ e w, J e w → RunA P n Q k ops st C fuel' listed' e w) : RunA P n Q k ops st C fuel listed e w := h1 h2

theorem a_sub {ops : Array Oper} {st : List Nat} {C : World → Prop} {fuel : Nat} {listed : Array Bool} (e' : Env) (hs : subEnv e e') (h : RunA P n Q k ops st C fuel listed e' w) : RunA P n Q k ops st C fuel listed e w :=
  fun a ha => h a (ha.sub hs)
end
end Go.Fw
