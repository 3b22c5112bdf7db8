/- Plain laws: evaluation with an answer that is built on the way; loops that check. -/
import Derived.Test.YtbpmddedhekleaaGreatDoorFw23
namespace Go.Fw
open Go

section
variable {α β : Type} {f g : Nat → Option α} {a b r s : α} {c : Bool}

theorem Ev.iff (h1 : c = true → Ev f a) (h2 : c = false → Ev g b) : Ev (fun n => bif c then f n else g n) (bif c then a else b) := by
  cases c
  · exact h2 rfl
  · exact h1 rfl
theorem Ev.bindB {f : Nat → Option β} {g : Nat → β → Option α} {u v : β} (h : Ev f (bif c then u else v)) (h1 : c = true → Ev (fun n => g n u) a) (h2 : c = false → Ev (fun n => g n v) b) : Ev (fun n => (f n).bind (g n)) (bif c then a else b) := by
  cases c
  · exact Ev.bind h (h2 rfl)
  · exact Ev.bind h (h1 rfl)
theorem Ev.cast (h : Ev f r) (e : r = s) : Ev f s := e ▸ h
/-- An answer of two ways, each shown where it is taken. -/
theorem Ev.two (h1 : c = true → Ev f a) (h2 : c = false → Ev f b) : Ev f (bif c then a else b) := by
  cases c
  · exact h2 rfl
  · exact h1 rfl
end

/-- Up to 'n', 'f' holds. -/
def allN (f : Nat → Bool) (n : Nat) : Bool := (List.range n).all f
theorem allN_iff {f : Nat → Bool} {n : Nat} : allN f n = true ↔ ∀ j, j < n → f j = true := by simp [allN, List.all_eq_true]
theorem allN_false {f : Nat → Bool} {n : Nat} : allN f n = false ↔ ∃ j, j < n ∧ f j = false := by
  rw [← Bool.not_eq_true, allN_iff]
  constructor
  · intro h
    exact Classical.byContradiction fun hn => h (fun j hj => by
      cases hf : f j with
      | true => rfl
      | false => exact absurd ⟨j, hj, hf⟩ hn)
  · rintro ⟨j, hj, hf⟩ h
    rw [h j hj] at hf
    cases hf
theorem allN_congr {f g : Nat → Bool} {n : Nat} (h : ∀ j, j < n → f j = g j) : allN f n = allN g n := by
  rw [Bool.eq_iff_iff, allN_iff, allN_iff]
  exact ⟨fun hf j hj => h j hj ▸ hf j hj, fun hg j hj => (h j hj).symm ▸ hg j hj⟩
theorem allN_and {f g : Nat → Bool} {n : Nat} : allN (fun j => f j && g j) n = (allN f n && allN g n) := by
  rw [Bool.eq_iff_iff, Bool.and_eq_true, allN_iff, allN_iff, allN_iff]
  simp only [Bool.and_eq_true]
  exact ⟨fun h => ⟨fun j hj => (h j hj).1, fun j hj => (h j hj).2⟩, fun h j hj => ⟨h.1 j hj, h.2 j hj⟩⟩

/-- A loop that checks, from some place on. -/
theorem ev_from {ρ σ : Type} {Lf : Nat → Int → Option (Flow ρ σ)} {len i0 : Nat} {f : Nat → Bool} {bad : ρ} {fin : Flow ρ σ} (h0 : i0 ≤ len) (hend : Ev (fun n => Lf n (len : Int)) fin)
    (hstep : ∀ j, i0 ≤ j → j < len → ∀ X, Ev (fun n => Lf n ((j + 1 : Nat) : Int)) X → Ev (fun n => Lf n (j : Int)) (bif f j then X else .ret bad)) :
    Ev (fun n => Lf n (i0 : Int)) (bif allN (fun j => f (i0 + j)) (len - i0) then fin else .ret bad) := by
  obtain ⟨m, rfl⟩ : ∃ m, len = i0 + m := ⟨len - i0, by omega⟩
  rw [show i0 + m - i0 = m by omega]
  clear h0
  induction m generalizing i0 with
  | zero => exact hend
  | succ m ih =>
    have h1 := @ih (i0 + 1) (by rw [show i0 + 1 + m = i0 + (m + 1) by omega]; exact hend) (fun j h2 h3 X hX => hstep j (by omega) (by omega) X hX)
    refine (hstep i0 (Nat.le_refl _) (by omega) _ h1).cast ?_
    have : allN (fun j => f (i0 + j)) (m + 1) = (f i0 && allN (fun j => f (i0 + 1 + j)) m) := by
      rw [Bool.eq_iff_iff, Bool.and_eq_true, allN_iff, allN_iff]
      constructor
      · intro h
        exact ⟨by simpa using h 0 (by omega), fun j hj => by have := h (j + 1) (by omega); rwa [show i0 + (j + 1) = i0 + 1 + j by omega] at this⟩
      · rintro ⟨h1, h2⟩ j hj
        cases j with
        | zero => simpa using h1
        | succ j => have := h2 j (by omega); rwa [show i0 + 1 + j = i0 + (j + 1) by omega] at this
    rw [this]
    cases f i0 <;> rfl

theorem ev_all {ρ σ : Type} {Lf : Nat → Int → Option (Flow ρ σ)} {len : Nat} {f : Nat → Bool} {bad : ρ} {fin : Flow ρ σ} (hend : Ev (fun n => Lf n (len : Int)) fin)
    (hstep : ∀ j, j < len → ∀ X, Ev (fun n => Lf n ((j + 1 : Nat) : Int)) X → Ev (fun n => Lf n (j : Int)) (bif f j then X else .ret bad)) :
    Ev (fun n => Lf n 0) (bif allN f len then fin else .ret bad) := by
  have := ev_from (i0 := 0) (Nat.zero_le _) hend (fun j _ hj X hX => hstep j hj X hX)
  simpa using this

theorem idx_at {α : Type} {xs : List α} {j : Nat} {x : α} (h : xs[j]? = some x) : idx xs (j : Int) = some x := by
  unfold idx
  rw [if_pos (by omega), Int.toNat_natCast, h]
theorem idx_lt {α : Type} {xs : List α} {j : Nat} (h : j < xs.length) : idx xs (j : Int) = some xs[j] := idx_at (List.getElem?_eq_getElem h)

def inI (x lo hi : Int) : Bool := decide (lo ≤ x) && decide (x ≤ hi)
theorem inI_iff {x lo hi : Int} : inI x lo hi = true ↔ lo ≤ x ∧ x ≤ hi := by simp [inI]
theorem inI_false {x lo hi : Int} : inI x lo hi = false ↔ ¬ (lo ≤ x ∧ x ≤ hi) := by rw [← inI_iff, Bool.not_eq_true]

/-- The number at a place. -/
def at0 (xs : List Int) (j : Nat) : Int := xs.getD j 0
theorem at0_eq {xs : List Int} {j : Nat} (h : j < xs.length) : at0 xs j = xs[j] := by simp [at0, h]
theorem idx_at0 {xs : List Int} {j : Nat} (h : j < xs.length) : idx xs (j : Int) = some (at0 xs j) := by rw [idx_lt h, at0_eq h]

theorem bnot_bif {α : Type} {c : Bool} {x y : α} : (bif !c then x else y) = bif c then y else x := by cases c <;> rfl
theorem bif_and {c d : Bool} : (bif c then d else false) = (c && d) := by cases c <;> rfl
end Go.Fw
