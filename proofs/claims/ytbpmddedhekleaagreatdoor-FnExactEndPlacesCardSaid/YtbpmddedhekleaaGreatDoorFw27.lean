/- Plain laws: searches. -/
import Derived.Test.YtbpmddedhekleaaGreatDoorFw26
namespace Go.Fw
open Go

theorem bif_some {α : Type} {c : Bool} {x y : α} : (bif c then some x else some y) = some (bif c then x else y) := by cases c <;> rfl

/-- The place of the first element with a property, or -1. -/
def ixL {α : Type} (p : α → Bool) (xs : List α) : Int := match xs.findIdx? p with | some j => (j : Int) | none => -1

theorem ixL_ge {α : Type} {p : α → Bool} {xs : List α} : decide (ixL p xs ≥ 0) = xs.any p := by
  unfold ixL
  cases h : xs.findIdx? p with
  | some j =>
    have := List.findIdx?_eq_some_iff_getElem.1 h
    obtain ⟨hj, hp, _⟩ := this
    have h2 : xs.any p = true := List.any_eq_true.2 ⟨_, List.getElem_mem hj, hp⟩
    rw [h2]; simp
  | none =>
    have := List.findIdx?_eq_none_iff.1 h
    have h2 : xs.any p = false := by rw [List.any_eq_false]; intro x hx; simp [this x hx]
    rw [h2]; rfl

theorem find_loop {α σ : Type} {xs : List α} {p : α → Bool} {Lf : Nat → Int → Option (Flow Int σ)} {pf : Nat → α → Option Bool} {fin : σ} (hp : ∀ x, x ∈ xs → Ev (fun n => pf n x) (p x))
    (hend : ∀ n, Lf (n + 1) (xs.length : Int) = some (.nxt fin))
    (hstep : ∀ (n j : Nat) (x : α), xs[j]? = some x → Lf (n + 1) (j : Int) = (pf n x).bind fun r => bif r then some (.ret (j : Int)) else Lf n ((j + 1 : Nat) : Int)) :
    Ev (fun n => Lf n 0) (match xs.findIdx? p with | some j => .ret (j : Int) | none => .nxt fin) := by
  have main : ∀ k j, j + k = xs.length → Ev (fun n => Lf n (j : Int)) (match (xs.drop j).findIdx? p with | some i => .ret ((j + i : Nat) : Int) | none => .nxt fin) := by
    intro k
    induction k with
    | zero =>
      intro j hj
      obtain rfl : j = xs.length := by omega
      rw [List.drop_eq_nil_of_le (Nat.le_refl _)]
      exact Ev.step hend .done
    | succ k ih =>
      intro j hj
      have hlt : j < xs.length := by omega
      have hd : xs.drop j = xs[j] :: xs.drop (j + 1) := List.drop_eq_getElem_cons hlt
      refine Ev.step (fun n => hstep n j _ (List.getElem?_eq_getElem hlt)) (Ev.bind (hp _ (List.getElem_mem hlt)) ?_)
      rw [hd, List.findIdx?_cons]
      cases hc : p xs[j] with
      | true => exact Ev.tt rfl .done
      | false =>
        refine Ev.ff rfl ((ih (j + 1) (by omega)).cast ?_)
        cases (xs.drop (j + 1)).findIdx? p with
        | none => rfl
        | some i => simp only [Bool.false_eq_true, if_false, Option.map_some]; congr 2; omega
  have := main xs.length 0 (by omega)
  simp only [List.drop_zero, Nat.zero_add] at this
  exact this

theorem index_ev {α σ : Type} {xs : List α} {p : α → Bool} {Lf : Nat → Int → Option (Flow Int σ)} {pf : Nat → α → Option Bool} {fin : σ} (hp : ∀ x, x ∈ xs → Ev (fun n => pf n x) (p x))
    (hend : ∀ n, Lf (n + 1) (xs.length : Int) = some (.nxt fin))
    (hstep : ∀ (n j : Nat) (x : α), xs[j]? = some x → Lf (n + 1) (j : Int) = (pf n x).bind fun r => bif r then some (.ret (j : Int)) else Lf n ((j + 1 : Nat) : Int))
    {F : Nat → Option Int} (hF : ∀ n, F n = (Lf n 0).bind fun o => match o with | .ret r => some r | .nxt _ => some (-1)) : Ev F (ixL p xs) := by
  refine Ev.congr hF (Ev.bind (find_loop hp hend hstep) ?_)
  unfold ixL
  cases xs.findIdx? p <;> exact .done

theorem any_allN {α : Type} {p : α → Bool} {xs : List α} {d : α} : xs.any p = !allN (fun j => !p (xs.getD j d)) xs.length := by
  rw [Bool.eq_iff_iff, List.any_eq_true, Bool.not_eq_true', allN_false]
  constructor
  · rintro ⟨x, hx, hp⟩
    obtain ⟨j, hj, rfl⟩ := List.getElem_of_mem hx
    exact ⟨j, hj, by simp [hj, hp]⟩
  · rintro ⟨j, hj, hp⟩
    exact ⟨xs[j], List.getElem_mem hj, by simpa [hj] using hp⟩

theorem all_allN {α : Type} {p : α → Bool} {xs : List α} {d : α} : xs.all p = allN (fun j => p (xs.getD j d)) xs.length := by
  rw [Bool.eq_iff_iff, List.all_eq_true, allN_iff]
  constructor
  · intro h j hj
    simpa [hj] using h xs[j] (List.getElem_mem hj)
  · intro h x hx
    obtain ⟨j, hj, rfl⟩ := List.getElem_of_mem hx
    simpa [hj] using h j hj

theorem not_any {α : Type} {p : α → Bool} {xs : List α} : (!xs.any fun x => !p x) = xs.all p := by
  rw [Bool.eq_iff_iff]; simp [List.all_eq_true]

/-- A loop over the elements that checks. -/
theorem all_loop {α ρ σ : Type} {xs : List α} {p : α → Bool} {Lf : Nat → Int → Option (Flow ρ σ)} {bad : ρ} {fin : σ}
    (hend : ∀ n, Lf (n + 1) (xs.length : Int) = some (.nxt fin))
    (hstep : ∀ j, ∀ h : j < xs.length, ∀ X, Ev (fun n => Lf n ((j + 1 : Nat) : Int)) X → Ev (fun n => Lf (n + 1) (j : Int)) (bif p xs[j] then X else .ret bad)) :
    Ev (fun n => Lf n 0) (bif xs.all p then .nxt fin else .ret bad) := by
  have main : ∀ k j, j + k = xs.length → Ev (fun n => Lf n (j : Int)) (bif (xs.drop j).all p then .nxt fin else .ret bad) := by
    intro k
    induction k with
    | zero =>
      intro j hj
      obtain rfl : j = xs.length := by omega
      rw [List.drop_eq_nil_of_le (Nat.le_refl _)]
      exact Ev.step hend .done
    | succ k ih =>
      intro j hj
      have hlt : j < xs.length := by omega
      have hd : xs.drop j = xs[j] :: xs.drop (j + 1) := List.drop_eq_getElem_cons hlt
      refine (Ev.succ (hstep j hlt _ (ih (j + 1) (by omega)))).cast ?_
      rw [hd, List.all_cons]
      cases p xs[j] <;> rfl
  have := main xs.length 0 (by omega)
  simpa using this

/-- A loop over the elements that builds. -/
theorem fold_from {α ρ τ : Type} {xs : List α} {Lf : Nat → τ → Int → Option ρ} {step : τ → α → τ} {fin : τ → ρ} (i0 : Nat) (t0 : τ) (Inv : Nat → τ → Prop) (hi0 : i0 ≤ xs.length) (h0 : Inv i0 t0)
    (hinv : ∀ j t, ∀ h : j < xs.length, Inv j t → Inv (j + 1) (step t xs[j]))
    (hend : ∀ n t, Lf (n + 1) t (xs.length : Int) = some (fin t))
    (hstep : ∀ j t, ∀ h : j < xs.length, Inv j t → ∀ X, Ev (fun n => Lf n (step t xs[j]) ((j + 1 : Nat) : Int)) X → Ev (fun n => Lf (n + 1) t (j : Int)) X) :
    Ev (fun n => Lf n t0 (i0 : Int)) (fin ((xs.drop i0).foldl step t0)) ∧ Inv xs.length ((xs.drop i0).foldl step t0) := by
  have main : ∀ k j t, j + k = xs.length → Inv j t → Ev (fun n => Lf n t (j : Int)) (fin ((xs.drop j).foldl step t)) ∧ Inv xs.length ((xs.drop j).foldl step t) := by
    intro k
    induction k with
    | zero =>
      intro j t hj hi
      obtain rfl : j = xs.length := by omega
      rw [List.drop_eq_nil_of_le (Nat.le_refl _)]
      exact ⟨Ev.step (fun n => hend n t) .done, hi⟩
    | succ k ih =>
      intro j t hj hi
      have hlt : j < xs.length := by omega
      have hd : xs.drop j = xs[j] :: xs.drop (j + 1) := List.drop_eq_getElem_cons hlt
      obtain ⟨h1, h2⟩ := ih (j + 1) (step t xs[j]) (by omega) (hinv j t hlt hi)
      rw [hd, List.foldl_cons]
      exact ⟨Ev.succ (hstep j t hlt hi _ h1), h2⟩
  exact main (xs.length - i0) i0 t0 (by omega) h0

theorem appS_ok {α : Type} {xs ys : List α} (h : xs.length + ys.length ≤ 2147483648) : appS xs ys = some (xs ++ ys) := by
  unfold appS big; rw [if_pos h]
end Go.Fw
