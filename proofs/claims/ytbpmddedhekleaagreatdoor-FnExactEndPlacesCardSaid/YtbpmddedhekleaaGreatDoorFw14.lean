/- Comparisons with nil; slices.Clone. -/
import Derived.Test.YtbpmddedhekleaaGreatDoorFw13
namespace Go.Fw
open Go
open Go.RowKit (Below)

section
variable {P : Program} {T : Tab} {n : Nat} {e : Env} {w : World}

theorem run_equalIn_nilS (d : Nat) {t el : TypeId} (hu : P.underlying t = some (.slice el)) (p : Option Addr) (l c : Nat) (w : World) : (Op.equalIn (d + 1) t (.slice p l c) (.slice none 0 0)).run P w = .ok p.isNone w := by
  cases p <;> simp [Op.equalIn, run_underlying hu]
theorem run_eql_nilS {t el : TypeId} (hu : P.underlying t = some (.slice el)) (p : Option Addr) (l c : Nat) (w : World) : (Op.equal t (.slice p l c) (.slice none 0 0)).run P w = .ok p.isNone w := by
  simp only [Op.equal, Op.maxDepth]
  exact run_equalIn_nilS 9999 hu p l c w
theorem eqGuard_slice (op : BinOp) (t : TypeId) (x y : Operand) (p q : Option Addr) (a b c d : Nat) (w : World) : (eqGuard op t x y (.slice p a b) (.slice q c d)).run P w = .ok () w := by
  unfold eqGuard; split <;> rfl
theorem v_eqnilS (hT : TabOk P T) {x y : Operand} {t t' d ty el : Nat} {ps : String} {af : Array Edge} {g : Option (Nat × Bool)} {te : TE} {p : Option Addr} {l c : Nat}
    (ht : T.get t = some te) (hk : te.kind = .slice el) (hx : opv e x = some (.slice p l c)) (hy : opv e y = some (.slice none 0 0)) {r : Bool} (hr : p.isNone = r) : Val P n e ⟨some d, .binOp .eql t x y t', ty, ps, af, g⟩ w (.bool r) := by
  intro a ha
  subst hr
  have hu := probe_slice (hT t te ht) hk
  simp only [execOp, ha.eval hx, ha.eval hy, Sem.run_bind, eqGuard_slice, Result.andThen_ok, binOp, run_eql_nilS hu, Sem.run_pure]

theorem slr_none {α : Type} [GoT α] {S : Nat → Prop} {xs : List α} {c : Nat} (h : SlR w S xs none c) : xs = [] := by
  obtain ⟨_, _, h3⟩ := h
  rcases h3 with ⟨_, h⟩ | ⟨b, o, cur, T, fr, h, _⟩
  · exact h
  · cases h
end

end Go.Fw
