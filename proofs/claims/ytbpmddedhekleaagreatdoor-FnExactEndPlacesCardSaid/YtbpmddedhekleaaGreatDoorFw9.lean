/- The words of the plain functions, and small laws for the walk. -/
import Derived.Test.YtbpmddedhekleaaGreatDoorFw8
namespace Go.Fw
open Go
open Go.RowKit (Below)

abbrev W64 (x : Int) : Int := IntKind.i64.wrap x

/-- How a piece of code ends: it returned, or it went on. -/
inductive Flow (ρ σ : Type) where
  | ret (r : ρ)
  | nxt (s : σ)

def mkS {α : Type} (n : Int) (z : α) : Option (List α) := if 0 ≤ n ∧ n ≤ big then some (List.replicate n.toNat z) else none
theorem mkS_some {α : Type} {n : Int} {z : α} {r : List α} (h : mkS n z = some r) : 0 ≤ n ∧ n ≤ big ∧ List.replicate n.toNat z = r := by
  unfold mkS at h
  split at h
  · rename_i hh; simp only [Option.some.injEq] at h; exact ⟨hh.1, hh.2, h⟩
  · cases h

def appS {α : Type} (xs ys : List α) : Option (List α) := if xs.length + ys.length ≤ big then some (xs ++ ys) else none
theorem appS_some {α : Type} {xs ys r : List α} (h : appS xs ys = some r) : xs.length + ys.length ≤ big ∧ xs ++ ys = r := by
  unfold appS at h
  split at h
  · rename_i hh; simp only [Option.some.injEq] at h; exact ⟨hh, h⟩
  · cases h

/-- 'xs[i]' may be written. -/
def setS {α : Type} (xs : List α) (i : Int) (y : α) : List α := xs.set i.toNat y

theorem bifT {α : Type} {c : Bool} {a b : Option α} {r : α} (hc : c = true) (h : (bif c then a else b) = some r) : a = some r := by rw [hc] at h; exact h
theorem bifF {α : Type} {c : Bool} {a b : Option α} {r : α} (hc : c = false) (h : (bif c then a else b) = some r) : b = some r := by rw [hc] at h; exact h
theorem bindS {α β : Type} {x : Option α} {f : α → Option β} {r : β} (h : x.bind f = some r) : ∃ a, x = some a ∧ f a = some r := Option.bind_eq_some_iff.1 h
/-- What is bound, with a name for what follows. -/
theorem bindE {α β : Type} {x : Option α} {f : α → Option β} {r : β} (h : x.bind f = some r) : ∃ g : α → Option β, g = f ∧ ∃ a, x = some a ∧ g a = some r := by
  obtain ⟨a, h1, h2⟩ := bindS h
  exact ⟨f, rfl, a, h1, h2⟩
/-- A condition, with the plain side. -/
theorem r_if {P : Program} {n : Nat} {Q : Exit → Act → World → Prop} {kk : List It} {e : Env} {w : World} {α : Type} {c : Operand} {x y : Code} {b : Bool} {f g : Option α} {r : α} (hc : opv e c = some (.bool b)) (hF : (bif b then f else g) = some r)
    (ht : f = some r → Run P n Q (.code x :: kk) e w) (hf : g = some r → Run P n Q (.code y :: kk) e w) : Run P n Q (.code (.cond c x y) :: kk) e w :=
  r_cond hc (fun h => ht (bifT h hF)) (fun h => hf (bifF h hF))
/-- A truth value, a number handed back. -/
theorem r_rB {P : Program} {T : Tab} {n : Nat} {k : List It} {e : Env} {w0 w : World} {L : List Ch} (hT : TabOk P T) {fn : Func} {x r : Bool} (h : SH w0 w L) (hF : some x = some r) (hr : ResOk T e w fn.results.toList [.bool x]) :
    Run P n (bodyPost P fn fun e w' => ∃ v, e = .returned v ∧ Below w0.heap.size w0 w' ∧ ∃ us, v = tup us ∧ GoVs.Vs w' (fresh w0 w') r us) (.code .ret :: k) e w :=
  Option.some.inj hF ▸ r_retV hT (ρ := Bool) [_] h hr (vs_bool _ _)
theorem r_rI {P : Program} {T : Tab} {n : Nat} {k : List It} {e : Env} {w0 w : World} {L : List Ch} (hT : TabOk P T) {fn : Func} {x r : Int} (h : SH w0 w L) (hF : some x = some r) (hr : ResOk T e w fn.results.toList [.int .i64 x]) :
    Run P n (bodyPost P fn fun e w' => ∃ v, e = .returned v ∧ Below w0.heap.size w0 w' ∧ ∃ us, v = tup us ∧ GoVs.Vs w' (fresh w0 w') r us) (.code .ret :: k) e w :=
  Option.some.inj hF ▸ r_retV hT (ρ := Int) [_] h hr (vs_int _ _)
abbrev tt : Bool := true
abbrev ff : Bool := false
theorem someI {α : Type} {a r : α} (h : some a = some r) : a = r := Option.some.inj h

theorem lt_ln {iv : Int} {l m : Nat} (h : iv < (m : Int)) (e : l = m) : iv < (l : Int) := e ▸ h

section
variable {P : Program} {T : Tab} {n : Nat} {Q : Exit → Act → World → Prop} {k : List It} {e : Env} {w0 w w' : World} {L : List Ch}

theorem slr_nil {α : Type} [GoT α] {S : Nat → Prop} : SlR w S ([] : List α) none 0 := ⟨by simp, by simp, .inl ⟨.inl rfl, rfl⟩⟩
theorem po_nil {α : Type} [GoT α] : PO w L [] ([] : List α) [.slice none 0 0] := ⟨fun _ => False, ⟨none, 0, rfl, by simp, by simp, .inl ⟨rfl, rfl, rfl⟩⟩, fun _ h => h.elim⟩

theorem r_setT {t : Nat} {b : Bool} (hb : b = true) (ht : e.get t = some (.bool b)) (hk : Run P n Q k ((t, .bool true) :: e) w) : Run P n Q k e w := by
  subst hb
  intro a ha
  refine hk a ⟨ha.defers, ha.size, fun i v hi => ?_⟩
  simp only [Env.get] at hi
  cases hbb : Nat.beq t i with
  | true => rw [hbb] at hi; simp only [Option.some.injEq] at hi; subst hi; have := beqT hbb; subst this; exact ha.at_ _ _ ht
  | false => rw [hbb] at hi; exact ha.at_ _ _ hi

theorem r_setF {t : Nat} {b : Bool} (hb : b = false) (ht : e.get t = some (.bool b)) (hk : Run P n Q k ((t, .bool false) :: e) w) : Run P n Q k e w := by
  subst hb
  intro a ha
  refine hk a ⟨ha.defers, ha.size, fun i v hi => ?_⟩
  simp only [Env.get] at hi
  cases hbb : Nat.beq t i with
  | true => rw [hbb] at hi; simp only [Option.some.injEq] at hi; subst hi; have := beqT hbb; subst this; exact ha.at_ _ _ ht
  | false => rw [hbb] at hi; exact ha.at_ _ _ hi

theorem d_setT {all : Array Oper} {l : List Oper} {t : Nat} {b : Bool} (hb : b = true) (ht : e.get t = some (.bool b)) (hk : RunD P n Q k all w l ((t, .bool true) :: e)) : RunD P n Q k all w l e := by
  subst hb
  intro a ha
  refine hk a ⟨ha.defers, ha.size, fun i v hi => ?_⟩
  simp only [Env.get] at hi
  cases hbb : Nat.beq t i with
  | true => rw [hbb] at hi; simp only [Option.some.injEq] at hi; subst hi; have := beqT hbb; subst this; exact ha.at_ _ _ ht
  | false => rw [hbb] at hi; exact ha.at_ _ _ hi

theorem d_setF {all : Array Oper} {l : List Oper} {t : Nat} {b : Bool} (hb : b = false) (ht : e.get t = some (.bool b)) (hk : RunD P n Q k all w l ((t, .bool false) :: e)) : RunD P n Q k all w l e := by
  subst hb
  intro a ha
  refine hk a ⟨ha.defers, ha.size, fun i v hi => ?_⟩
  simp only [Env.get] at hi
  cases hbb : Nat.beq t i with
  | true => rw [hbb] at hi; simp only [Option.some.injEq] at hi; subst hi; have := beqT hbb; subst this; exact ha.at_ _ _ ht
  | false => rw [hbb] at hi; exact ha.at_ _ _ hi

/-- '1 << i' and the like: a shift by what is not negative. -/
theorem v_shl {x y : Operand} {t t' d ty : Nat} {ps : String} {af : Array Edge} {g : Option (Nat × Bool)} {kd kd' : IntKind} {a b : Int}
    (h0 : 0 ≤ b) (hx : opv e x = some (.int kd a)) (hy : opv e y = some (.int kd' b)) : Val P n e ⟨some d, .binOp .shl t x y t', ty, ps, af, g⟩ w (.int kd (kd.wrap (a * 2 ^ (min b.toNat kd.bits)))) := by
  intro c hc
  have h1 : ¬ b < 0 := by omega
  simp only [execOp, hc.eval hx, hc.eval hy, Sem.run_bind, eqGuard_int, Result.andThen_ok, binOp, Op.shift, h1, if_false, Sem.run_pure]

/-! ### A row of the run's own whose elements read what stood before -/

end
end Go.Fw
