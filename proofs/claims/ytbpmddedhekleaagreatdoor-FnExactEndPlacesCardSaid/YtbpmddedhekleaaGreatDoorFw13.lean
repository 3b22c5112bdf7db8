/- Plain laws: loops over lists, and what the laws' own helpers do with them. -/
import Derived.Test.YtbpmddedhekleaaGreatDoorFw12
namespace Go.Fw
open Go

theorem down {P : Nat → Prop} (len : Nat) (hend : P len) (hstep : ∀ j, j < len → P (j + 1) → P j) : P 0 := by
  have : ∀ k, k ≤ len → P (len - k) := by
    intro k
    induction k with
    | zero => intro _; exact hend
    | succ k ih =>
      intro h
      refine hstep _ (by omega) ?_
      rw [show len - (k + 1) + 1 = len - k by omega]
      exact ih (by omega)
  have h := this len (Nat.le_refl _)
  rwa [Nat.sub_self] at h

/-- A list that is filled from the left. -/
def padS {α : Type} (a : List α) (z : α) (j : Nat) : List α := a.take j ++ List.replicate (a.length - j) z
theorem padS_len {α : Type} {a : List α} {z : α} {j : Nat} (h : j ≤ a.length) : (padS a z j).length = a.length := by simp [padS]; omega
theorem padS_zero {α : Type} {a : List α} {z : α} : padS a z 0 = List.replicate a.length z := by simp [padS]
theorem padS_full {α : Type} {a : List α} {z : α} : padS a z a.length = a := by simp [padS]
theorem padS_set {α : Type} {a : List α} {z : α} {j : Nat} (h : j < a.length) : setS (padS a z j) (j : Int) a[j] = padS a z (j + 1) := by
  unfold setS padS
  rw [Int.toNat_natCast]
  refine List.ext_getElem? fun i => ?_
  have hl : (a.take j).length = j := by simp; omega
  by_cases hij : i = j
  · subst hij
    rw [List.getElem?_set_self (by simp; omega), List.getElem?_append_left (by simp; omega), List.getElem?_take, if_pos (by omega), List.getElem?_eq_getElem h]
  · rw [List.getElem?_set_ne (fun e => hij e.symm)]
    by_cases hlt : i < j
    · rw [List.getElem?_append_left (by omega), List.getElem?_append_left (by simp; omega), List.getElem?_take, List.getElem?_take, if_pos hlt, if_pos (by omega)]
    · rw [List.getElem?_append_right (by omega), List.getElem?_append_right (by simp; omega), List.getElem?_replicate, List.getElem?_replicate, hl]
      have : (a.take (j + 1)).length = j + 1 := by simp; omega
      rw [this]
      by_cases hi : i - j < a.length - j
      · rw [if_pos hi, if_pos (by omega)]
      · rw [if_neg hi, if_neg (by omega)]
theorem mkS_len {α : Type} {a : List α} {z : α} (h : a.length ≤ 2147483648) : mkS (a.length : Int) z = some (padS a z 0) := by
  unfold mkS big
  rw [if_pos ⟨by omega, by omega⟩, padS_zero]
  simp

theorem setS_len {α : Type} {xs : List α} {i : Int} {y : α} : (setS xs i y).length = xs.length := by simp [setS]
theorem setS_self {α : Type} {xs : List α} {j : Nat} {y : α} (h : j < xs.length) : (setS xs (j : Int) y)[j]'(by rw [setS_len]; exact h) = y := by simp [setS]
/-- The law's comparison of a list with itself, and the like: a loop that goes on to the end. -/
theorem not_ne_self {x : Int} : (x != x) = false := by simp
theorem not_ne_selfB {x : Bool} : (!(x == x)) = false := by simp
theorem not_ne_selfS {x : ByteArray} : (x.toList != x.toList) = false := by simp

end Go.Fw
