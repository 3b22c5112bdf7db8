/- Plain laws: loops with a state of which something is known. -/
import Derived.Test.YtbpmddedhekleaaGreatDoorFw29
namespace Go.Fw
open Go

/-- A loop that builds: something holds of its state at every turn. -/
theorem loopE {ρ τ : Type} {Lf : Nat → τ → Int → Option ρ} {fin : τ → ρ} (Inv : Nat → τ → Prop) {len : Nat} (hend : ∀ n t, Lf (n + 1) t (len : Int) = some (fin t))
    (hstep : ∀ j t, j < len → Inv j t → ∃ t', Inv (j + 1) t' ∧ ∀ X, Ev (fun n => Lf n t' ((j + 1 : Nat) : Int)) X → Ev (fun n => Lf (n + 1) t (j : Int)) X)
    (i0 : Nat) (hi : i0 ≤ len) (t : τ) (h0 : Inv i0 t) : ∃ t', Inv len t' ∧ Ev (fun n => Lf n t (i0 : Int)) (fin t') := by
  have main : ∀ k j t, j + k = len → Inv j t → ∃ t', Inv len t' ∧ Ev (fun n => Lf n t (j : Int)) (fin t') := by
    intro k
    induction k with
    | zero =>
      intro j t hj h
      obtain rfl : j = len := by omega
      exact ⟨t, h, Ev.step (fun n => hend n t) .done⟩
    | succ k ih =>
      intro j t hj h
      obtain ⟨t', h1, h2⟩ := hstep j t (by omega) h
      obtain ⟨t2, h3, h4⟩ := ih (j + 1) t' (by omega) h1
      exact ⟨t2, h3, Ev.succ (h2 _ h4)⟩
  exact main (len - i0) i0 t (by omega) h0

/-- The same, downwards to 1. -/
theorem loopDn {ρ τ : Type} {Lf : Nat → τ → Int → Option ρ} {fin : τ → ρ} (Inv : τ → Prop) (m : Nat) (hend : ∀ n t, Lf (n + 1) t (0 : Int) = some (fin t))
    (hstep : ∀ j : Nat, ∀ t, 0 < j → j ≤ m → Inv t → ∃ t', Inv t' ∧ ∀ X, Ev (fun n => Lf n t' ((j - 1 : Nat) : Int)) X → Ev (fun n => Lf (n + 1) t (j : Int)) X) : ∀ t, Inv t → ∃ t', Inv t' ∧ Ev (fun n => Lf n t (m : Int)) (fin t') := by
  have : ∀ j, j ≤ m → ∀ t, Inv t → ∃ t', Inv t' ∧ Ev (fun n => Lf n t (j : Int)) (fin t') := by
    intro j
    induction j with
    | zero => exact fun _ t h => ⟨t, h, Ev.step (fun n => hend n t) .done⟩
    | succ j ih =>
      intro hj t h
      obtain ⟨t', h1, h2⟩ := hstep (j + 1) t (by omega) hj h
      obtain ⟨t2, h3, h4⟩ := ih (by omega) t' h1
      exact ⟨t2, h3, Ev.succ (h2 _ h4)⟩
  exact this m (Nat.le_refl _)

theorem gt_append {α : Type} [Inhabited α] {xs ys : List α} {j : Nat} : gt (xs ++ ys) j = if j < xs.length then gt xs j else gt ys (j - xs.length) := by
  unfold gt
  rw [List.getD_eq_getElem?_getD, List.getElem?_append]
  by_cases h : j < xs.length
  · simp only [h, if_true]; rfl
  · simp only [h, if_false]; rfl
theorem gt_range {α : Type} [Inhabited α] {f : Nat → α} {n j : Nat} (h : j < n) : gt ((List.range n).map f) j = f j := by
  unfold gt; simp [List.getD_eq_getElem?_getD, h]
end Go.Fw
