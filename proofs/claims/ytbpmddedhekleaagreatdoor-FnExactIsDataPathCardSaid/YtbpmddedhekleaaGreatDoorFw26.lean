/- Functions that write into what they are handed, whose blocks may change. -/
import Derived.Test.YtbpmddedhekleaaGreatDoorFw25
namespace Go.Fw
open Go
open Go.RowKit (Below)

section
variable {P : Program} {T : Tab} {n : Nat} {Q : Exit → Act → World → Prop} {k : List It} {e : Env} {w0 w w' : World} {L : List Ch} {J : World → Prop}

end
end Go.Fw
