/- Plain laws: chains of conditions, loops with a known state, counts. -/
import Derived.Test.YtbpmddedhekleaaGreatDoorFw27
namespace Go.Fw
open Go

section
variable {α β : Type} {f g : Nat → Option Bool} {a b : Bool} {k : Nat → Option α} {X B : α}

theorem Ev.and (h1 : Ev f a) (h2 : a = true → Ev g b) : Ev (fun n => (f n).bind fun r => bif r then g n else some false) (a && b) := by
  refine Ev.bind h1 ?_
  cases a
  · exact .done
  · exact Ev.tt rfl (h2 rfl)
theorem Ev.andP (h2 : a = true → Ev g b) : Ev (fun n => bif a then g n else some false) (a && b) := by
  cases a
  · exact .done
  · exact Ev.tt rfl (h2 rfl)
theorem Ev.last (h1 : Ev f a) : Ev (fun n => (f n).bind fun r => some r) a := Ev.bind h1 .done
theorem Ev.neg (h1 : Ev f a) : Ev (fun n => (f n).bind fun r => some (!r)) (!a) := Ev.bind h1 .done
/-- An alternative that guards. -/
theorem Ev.or (h1 : Ev f a) (h2 : a = true → Ev g (!b)) : Ev (fun n => (f n).bind fun r => bif (!r) then some true else g n) (!(a && b)) := by
  refine Ev.bind h1 ?_
  cases a
  · exact .done
  · exact Ev.ff rfl (h2 rfl)
theorem Ev.guard {c : α} (h1 : Ev f (!a)) (h2 : a = true → Ev k (bif b then X else c)) : Ev (fun n => (f n).bind fun r => bif r then some c else k n) (bif a && b then X else c) := by
  refine Ev.bind h1 ?_
  cases a
  · exact .done
  · exact Ev.ff rfl (h2 rfl)
/-- The same for an answer that is a truth value. -/
theorem Ev.guardB (h1 : Ev f (!a)) (h2 : a = true → Ev g b) : Ev (fun n => (f n).bind fun r => bif r then some false else g n) (a && b) := by
  refine Ev.bind h1 ?_
  cases a
  · exact .done
  · exact Ev.ff rfl (h2 rfl)
theorem Ev.chk (h1 : Ev f a) (h2 : a = true → Ev k (bif b then X else B)) : Ev (fun n => (f n).bind fun r => bif (!r) then some B else k n) (bif a && b then X else B) := by
  refine Ev.bind h1 ?_
  cases a
  · exact .done
  · exact Ev.ff rfl (h2 rfl)
theorem Ev.chkT (h1 : Ev f (!a)) (h2 : a = true → Ev k (bif b then X else B)) : Ev (fun n => (f n).bind fun r => bif r then some B else k n) (bif a && b then X else B) := Ev.guard h1 h2
theorem Ev.chkT1 (h1 : Ev f (!a)) (h2 : a = true → Ev k X) : Ev (fun n => (f n).bind fun r => bif r then some B else k n) (bif a then X else B) := by
  refine Ev.bind h1 ?_
  cases a
  · exact .done
  · exact Ev.ff rfl (h2 rfl)
theorem Ev.chk1 (h1 : Ev f a) (h2 : a = true → Ev k X) : Ev (fun n => (f n).bind fun r => bif (!r) then some B else k n) (bif a then X else B) := by
  refine Ev.bind h1 ?_
  cases a
  · exact .done
  · exact Ev.ff rfl (h2 rfl)
theorem Ev.chkP1 (h2 : a = false → Ev k X) : Ev (fun n => bif a then some B else k n) (bif !a then X else B) := by
  cases a
  · exact Ev.ff rfl (h2 rfl)
  · exact .done
theorem Ev.ok (h1 : Ev f a) (h2 : a = true → Ev k (bif b then X else B)) : Ev (fun n => (f n).bind fun r => bif r then k n else some B) (bif a && b then X else B) := by
  refine Ev.bind h1 ?_
  cases a
  · exact .done
  · exact Ev.tt rfl (h2 rfl)
theorem Ev.okP (h2 : a = true → Ev k (bif b then X else B)) : Ev (fun n => bif a then k n else some B) (bif a && b then X else B) := by
  cases a
  · exact .done
  · exact Ev.tt rfl (h2 rfl)
theorem Ev.okP1 (h2 : a = true → Ev k X) : Ev (fun n => bif a then k n else some B) (bif a then X else B) := by
  cases a
  · exact .done
  · exact Ev.tt rfl (h2 rfl)
/-- A guard in the form of an alternative, turned. -/
theorem Ev.orB (h1 : Ev f a) (h2 : a = true → Ev g (!b)) : Ev (fun n => (f n).bind fun r => bif r then g n else some true) (!(a && b)) := by
  refine Ev.bind h1 ?_
  cases a
  · exact .done
  · exact Ev.tt rfl (h2 rfl)
theorem Ev.orBP (h2 : a = true → Ev g (!b)) : Ev (fun n => bif a then g n else some true) (!(a && b)) := by
  cases a
  · exact .done
  · exact Ev.tt rfl (h2 rfl)
end

/-- A place of a list. -/
def gt {α : Type} [Inhabited α] (xs : List α) (j : Nat) : α := xs.getD j default
theorem gt_eq {α : Type} [Inhabited α] {xs : List α} {j : Nat} (h : j < xs.length) : gt xs j = xs[j] := by simp [gt, h]
theorem idx_gt {α : Type} [Inhabited α] {xs : List α} {j : Nat} (h : j < xs.length) : idx xs (j : Int) = some (gt xs j) := by rw [idx_lt h, gt_eq h]
theorem gt_ok {α : Type} [Inhabited α] {ok : α → Prop} {xs : List α} (h : okL ok xs) {j : Nat} (hj : j < xs.length) : ok (gt xs j) := by rw [gt_eq hj]; exact h.at hj
theorem gt_take {α : Type} [Inhabited α] {xs : List α} {j i : Nat} (h : i < j) : gt (xs.take j) i = gt xs i := by simp [gt, List.getD_eq_getElem?_getD, List.getElem?_take, h]
theorem all_gt {α : Type} [Inhabited α] {p : α → Bool} {xs : List α} : xs.all p = allN (fun j => p (gt xs j)) xs.length := all_allN
theorem any_gt {α : Type} [Inhabited α] {p : α → Bool} {xs : List α} : xs.any p = !allN (fun j => !p (gt xs j)) xs.length := any_allN
theorem any_take {α : Type} [Inhabited α] {p : α → Bool} {xs : List α} {j : Nat} (h : j ≤ xs.length) : (xs.take j).any p = !allN (fun i => !p (gt xs i)) j := by
  rw [any_gt, List.length_take, Nat.min_eq_left h]
  congr 1
  exact allN_congr (fun i hi => by rw [gt_take hi])
theorem take_succ_gt {α β : Type} [Inhabited α] {xs : List α} {g : α → β} {j : Nat} (h : j < xs.length) : (xs.take j).map g ++ [g (gt xs j)] = (xs.take (j + 1)).map g := by
  rw [gt_eq h, List.take_succ_eq_append_getElem h, List.map_append, List.map_cons, List.map_nil]
theorem last_eq {j m : Nat} (h : j < m) : ((j : Int) == W64 ((m : Int) - 1)) = decide (j + 1 = m) ∨ 9223372036854775807 < m := by
  by_cases hm : m ≤ 9223372036854775807
  · refine .inl ?_
    rw [w64_of (by omega) (by omega), Bool.eq_iff_iff]
    simp
    omega
  · exact .inr (by omega)

/-- A loop that checks, with a state that is known at every turn. -/
theorem loopN {ρ σ τ : Type} {Lf : Nat → τ → Int → Option (Flow ρ σ)} (S : Nat → τ) (p : Nat → Bool) {len : Nat} {bad : ρ} {fin : σ}
    (hend : ∀ n, Lf (n + 1) (S len) (len : Int) = some (.nxt fin))
    (hstep : ∀ j, j < len → (∀ i, i < j → p i = true) → ∀ X, (p j = true → Ev (fun n => Lf n (S (j + 1)) ((j + 1 : Nat) : Int)) X) → Ev (fun n => Lf (n + 1) (S j) (j : Int)) (bif p j then X else .ret bad)) :
    Ev (fun n => Lf n (S 0) 0) (bif allN p len then .nxt fin else .ret bad) := by
  have main : ∀ k j, j + k = len → (∀ i, i < j → p i = true) → Ev (fun n => Lf n (S j) (j : Int)) (bif allN p len then .nxt fin else .ret bad) := by
    intro k
    induction k with
    | zero =>
      intro j hj hp
      obtain rfl : j = len := by omega
      rw [show allN p j = true from allN_iff.2 hp]
      exact Ev.step hend .done
    | succ k ih =>
      intro j hj hp
      refine (Ev.succ (hstep j (by omega) hp _ (fun hc => ih (j + 1) (by omega) (fun i hi => by
        rcases Nat.lt_succ_iff_lt_or_eq.1 hi with h | rfl
        · exact hp i h
        · exact hc)))).cast ?_
      cases hc : p j with
      | true => rfl
      | false =>
        rw [show allN p len = false from allN_false.2 ⟨j, by omega, hc⟩]
        rfl
  have := main len 0 (by omega) (fun i hi => absurd hi (Nat.not_lt_zero _))
  exact this

/-- A loop that builds, with a state that is known at every turn. -/
theorem loopF {ρ τ : Type} {Lf : Nat → τ → Int → Option ρ} (S : Nat → τ) {len : Nat} {fin : ρ}
    (hend : ∀ n, Lf (n + 1) (S len) (len : Int) = some fin)
    (hstep : ∀ j, j < len → ∀ X, Ev (fun n => Lf n (S (j + 1)) ((j + 1 : Nat) : Int)) X → Ev (fun n => Lf (n + 1) (S j) (j : Int)) X) :
    Ev (fun n => Lf n (S 0) 0) fin :=
  down (P := fun j => Ev (fun n => Lf n (S j) (j : Int)) fin) len (Ev.step hend .done) (fun j hj ih => Ev.succ (hstep j hj _ ih))

/-! ### Counts -/

def cntP (q : Nat → Bool) : Nat → Nat
  | 0 => 0
  | n + 1 => cntP q n + (bif q n then 1 else 0)
theorem cntP_le {q : Nat → Bool} {n : Nat} : cntP q n ≤ n := by
  induction n with
  | zero => exact Nat.le_refl _
  | succ n ih => unfold cntP; cases q n <;> simp only [cond_true, cond_false] <;> omega
theorem cntP_zero {q : Nat → Bool} {n : Nat} : cntP q n = 0 ↔ ∀ j, j < n → q j = false := by
  induction n with
  | zero => simp [cntP]
  | succ n ih =>
    unfold cntP
    constructor
    · intro h j hj
      have h1 : cntP q n = 0 := by omega
      rcases Nat.lt_succ_iff_lt_or_eq.1 hj with h2 | rfl
      · exact ih.1 h1 j h2
      · cases hq : q j with
        | false => rfl
        | true => rw [hq] at h; simp at h
    · intro h
      rw [ih.2 (fun j hj => h j (by omega)), h n (by omega)]
      rfl
theorem cntP_pos {q : Nat → Bool} {n : Nat} : decide (0 < cntP q n) = !allN (fun j => !q j) n := by
  rw [Bool.eq_iff_iff, decide_eq_true_iff, Bool.not_eq_true', allN_false, Nat.pos_iff_ne_zero, Ne, cntP_zero]
  simp
/-- The counts of one key at a time. -/
def vecC (c : Nat → Nat) (m : Nat) : List Int := (List.range m).map fun k => (c k : Int)
theorem vecC_len {c : Nat → Nat} {m : Nat} : (vecC c m).length = m := by simp [vecC]
theorem vecC_at0 {c : Nat → Nat} {m k : Nat} (h : k < m) : at0 (vecC c m) k = (c k : Int) := by simp [at0, vecC, h]
theorem vecC_idx {c : Nat → Nat} {m k : Nat} (h : k < m) : idx (vecC c m) (k : Int) = some (c k : Int) := by rw [idx_at0 (by rw [vecC_len]; exact h), vecC_at0 h]
theorem vecC_congr {c d : Nat → Nat} {m : Nat} (h : ∀ k, k < m → c k = d k) : vecC c m = vecC d m := by
  unfold vecC
  refine List.map_congr_left (fun k hk => ?_)
  rw [h k (List.mem_range.1 hk)]
theorem vecC_zero {m : Nat} (h : m ≤ 2147483648) : mkS (m : Int) (0 : Int) = some (vecC (fun _ => 0) m) := by
  unfold mkS big
  rw [if_pos ⟨by omega, by omega⟩]
  congr 1
  refine List.ext_getElem (by simp [vecC]) (fun k h1 h2 => ?_)
  simp [vecC]
theorem vecC_bump {c : Nat → Nat} {m k : Nat} (hc : c k < 9223372036854775807) : setS (vecC c m) (k : Int) (W64 ((c k : Int) + 1)) = vecC (fun i => c i + (bif decide (k = i) then 1 else 0)) m := by
  rw [w64_succ hc]
  unfold setS
  refine List.ext_getElem (by simp [vecC]) (fun i h1 h2 => ?_)
  rw [List.getElem_set]
  show (if k = i then _ else _) = _
  by_cases hk : k = i
  · subst hk; simp [vecC]
  · simp [vecC, hk]
theorem nat_of {x : Int} (h : 0 ≤ x) : x = (x.toNat : Int) := by omega
/-- A part of a list from its beginning. -/
theorem subS_take {α : Type} {xs : List α} {j : Nat} (h : j ≤ xs.length) : subS xs 0 (j : Int) = some (xs.take j) := by
  unfold subS
  rw [if_pos ⟨by omega, by omega, by omega⟩]
  simp
theorem w64_pred {m : Nat} (h : m ≤ 9223372036854775807) : W64 ((m : Int) - 1) = (m : Int) - 1 := w64_of (by omega) (by omega)
end Go.Fw
