/- By a program of mine (lawgen2.py): what the laws own helpers do. -/
import Derived.Test.YtbpmddedhekleaaGreatDoorC1
import Derived.Test.YtbpmddedhekleaaGreatDoorAL
namespace Go.Fw
open Go

def rng_Coupling (x : TCoupling) : Prop := rngI x.A ∧ rngI x.B ∧ rngI x.Delta
def w_Coupling (_ : TCoupling) : Nat := 0
structure ok_Coupling (x : TCoupling) : Prop where
  A : okI x.A
  B : okI x.B
  Delta : okI x.Delta
theorem okof_Coupling {x : TCoupling} (h : rng_Coupling x) : ok_Coupling x := ⟨h.1, h.2.1, h.2.2⟩
theorem eq_Coupling {a : TCoupling} : Ev (fun n => laws_eqCoupling n a a) true := by
  unfold laws_eqCoupling
  exact Ev.ff not_ne_self (Ev.ff not_ne_self (Ev.ff not_ne_self (.done)))

def w_CouplingS (a : (List TCoupling)) : Nat := a.length
theorem okof_CouplingS {a : (List TCoupling)} (h : (rngL rng_Coupling) a) (w : w_CouplingS a ≤ 1048576) : (okL ok_Coupling) a :=
  ⟨by simp only [w_CouplingS] at w; omega, fun x hx => okof_Coupling (h.2 x hx)⟩
theorem eq_CouplingS {a : (List TCoupling)} (h : w_CouplingS a ≤ 1048576) : Ev (fun n => laws_eqCouplingS n a a) true := by
  have hl : a.length ≤ 1048576 := by simp only [w_CouplingS] at h; omega
  unfold laws_eqCouplingS
  exact Ev.ff (by simp) (Ev.bind (b := .nxt (a.length : Int)) (eq_loop (eqf := laws_eqCoupling) (fun x hx => eq_Coupling)
    (fun n => by simp only [laws_eqCouplingS_L1, lt_nat_f (Nat.le_refl _), cond_false])
    (fun n j x hx => by
      have hj := (List.getElem?_eq_some_iff.1 hx).1
      simp only [laws_eqCouplingS_L1, lt_nat_t hj, cond_true, idx_at hx, Option.bind_some, Bool.not_not, w64_succ (show j < 9223372036854775807 by omega)])) .done)

theorem sz_CouplingS {a : (List TCoupling)} {left : Int} (h : (rngL rng_Coupling) a) (h0 : 0 ≤ left) (h1 : left ≤ 1048576) : Sz (fun n => laws_szCouplingS n a left) (fun r => r = left - (w_CouplingS a : Int)) :=
  Sz.less h0 h1 (by omega) (by have := h.1; omega) (fun _ => rfl)

theorem to_Coupling {a : TCoupling} : Ev (fun n => laws_toCoupling n a) a := by
  unfold laws_toCoupling
  exact .done

theorem to_CouplingS {a : (List TCoupling)} (h : w_CouplingS a ≤ 1048576) : Ev (fun n => laws_toCouplingS n a) a := by
  have hl : a.length ≤ 1048576 := by simp only [w_CouplingS] at h; omega
  unfold laws_toCouplingS
  exact Ev.bindN (mkS_len (by omega)) (Ev.bind (b := (a, (a.length : Int))) (to_loop (cp := laws_toCoupling) (fun x hx => to_Coupling)
    (fun acc n => by simp only [laws_toCouplingS_L1, lt_nat_f (Nat.le_refl _), cond_false])
    (fun acc n j x y hx hy => by
      have hj := (List.getElem?_eq_some_iff.1 hx).1
      simp only [laws_toCouplingS_L1, lt_nat_t hj, cond_true, idx_at hx, idx_at hy, Option.bind_some, w64_succ (show j < 9223372036854775807 by omega)])) .done)

end Go.Fw
