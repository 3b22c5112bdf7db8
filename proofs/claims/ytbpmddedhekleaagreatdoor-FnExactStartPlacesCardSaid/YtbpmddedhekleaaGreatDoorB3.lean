/- Plain laws: tables. -/
import Derived.Test.YtbpmddedhekleaaGreatDoorB2
namespace Go.Fw
open Go
set_option maxRecDepth 100000

theorem areWithin1_eq {n : Nat} {x lo hi : Int} : impl_areWithin_1 n x lo hi = some (!inI x lo hi) := by simp only [impl_areWithin_1, within_eq, Option.bind_some]

theorem areWithin_ev {xs : List Int} {lo hi : Int} (hl : xs.length ≤ 1048576) : Ev (fun n => impl_areWithin n xs lo hi) (xs.all fun x => inI x lo hi) := by
  have h1 : Ev (fun n => slices_IndexFunc_int64_impl_areWithin_1 n xs lo hi) (ixL (fun x => !inI x lo hi) xs) :=
    index_ev (fin := (xs.length : Int)) (Lf := slices_IndexFunc_int64_impl_areWithin_1_L1 xs lo hi) (pf := fun _ x => some (!inI x lo hi)) (fun _ _ => .done)
      (fun n => by simp only [slices_IndexFunc_int64_impl_areWithin_1_L1, lt_nat_f (Nat.le_refl _), cond_false])
      (fun n j x hx => by
        have hj := (List.getElem?_eq_some_iff.1 hx).1
        simp only [slices_IndexFunc_int64_impl_areWithin_1_L1, lt_nat_t hj, cond_true, idx_at hx, Option.bind_some, areWithin1_eq, w64_succ (show j < 9223372036854775807 by omega)])
      (fun n => by unfold slices_IndexFunc_int64_impl_areWithin_1; congr 1; funext o; cases o <;> rfl)
  unfold impl_areWithin slices_ContainsFunc_int64_impl_areWithin_1
  refine Ev.bind (Ev.bind h1 (Ev.now rfl)) (Ev.now ?_)
  rw [ixL_ge, not_any]

def stepB (xs : List Int) (j : Nat) : Bool := decide (j = 0) || decide (at0 xs (j - 1) < at0 xs j)
def incB (xs : List Int) : Bool := allN (stepB xs) xs.length

theorem isIncreasing_ev {xs : List Int} (hl : xs.length ≤ 1048576) : Ev (fun n => impl_isIncreasing n xs) (incB xs) := by
  have hL : Ev (fun n => impl_isIncreasing_L1 xs n 1) (bif incB xs then .nxt (max 1 xs.length : Int) else .ret false) := by
    by_cases h0 : xs.length = 0
    · have hb : incB xs = true := by unfold incB; rw [h0]; rfl
      rw [hb]
      refine Ev.succ ?_
      have : decide ((1 : Int) < (xs.length : Int)) = false := by rw [h0]; decide
      simp only [impl_isIncreasing_L1, this, cond_false]
      exact Ev.now (by rw [h0]; rfl)
    · have := ev_from (Lf := impl_isIncreasing_L1 xs) (len := xs.length) (i0 := 1) (f := stepB xs) (bad := false) (fin := .nxt (max 1 xs.length : Int)) (by omega)
        (Ev.succ (by
          simp only [impl_isIncreasing_L1, lt_nat_f (Nat.le_refl _), cond_false]
          exact Ev.now (by congr 2; omega)))
        (fun j h1 hj X hX => Ev.succ (by
          simp only [impl_isIncreasing_L1, lt_nat_t hj, cond_true, w64_succ (show j < 9223372036854775807 by omega), show (j : Int) - 1 = ((j - 1 : Nat) : Int) by omega, w64_of (show -9223372036854775808 ≤ ((j - 1 : Nat) : Int) by omega) (by omega), idx_at0 (show j - 1 < xs.length by omega), idx_at0 hj, Option.bind_some]
          unfold stepB
          by_cases hc : at0 xs (j - 1) < at0 xs j
          · have e1 : decide (at0 xs (j - 1) ≥ at0 xs j) = false := by simp; omega
            rw [e1]; simp only [hc, decide_true, Bool.or_true, cond_true, cond_false]; exact hX
          · have e1 : decide (at0 xs (j - 1) ≥ at0 xs j) = true := by simp; omega
            have e2 : decide (j = 0) = false := by simp; omega
            rw [e1, e2]; simp only [hc, decide_false, Bool.or_self, cond_true, cond_false]; exact .done))
      have e : allN (fun j => stepB xs (1 + j)) (xs.length - 1) = incB xs := by
        unfold incB
        rw [Bool.eq_iff_iff, allN_iff, allN_iff]
        constructor
        · intro h j hj
          cases j with
          | zero => rfl
          | succ j => have := h j (by omega); rwa [Nat.add_comm] at this
        · intro h j hj
          exact h (1 + j) (by omega)
      rw [e] at this
      exact this
  unfold impl_isIncreasing
  refine Ev.bind hL ?_
  cases incB xs <;> exact .done

def lenB {α : Type} (xs : List α) (lo hi : Nat) : Bool := decide (lo ≤ xs.length) && decide (xs.length ≤ hi)
theorem lenB_in {α : Type} {xs : List α} {lo hi : Nat} : inI (xs.length : Int) (lo : Int) (hi : Int) = lenB xs lo hi := by
  unfold inI lenB; rw [Bool.eq_iff_iff]; simp
def axisB (xs : List Int) : Bool := lenB xs 1 4 && ((xs.all fun x => inI x 0 100000) && incB xs)

theorem isAxis_ev {xs : List Int} (hl : xs.length ≤ 1048576) : Ev (fun n => impl_isAxis n xs) (axisB xs) := by
  simp only [impl_isAxis, impl_length_int64, Option.bind_some, within_eq, show inI (xs.length : Int) 1 4 = lenB xs 1 4 from lenB_in (lo := 1) (hi := 4)]
  unfold axisB
  cases lenB xs 1 4
  · exact .done
  · refine Ev.tt rfl (Ev.bind (areWithin_ev hl) ?_)
    cases (xs.all fun x => inI x 0 100000)
    · exact .done
    · exact Ev.tt rfl (Ev.bind (isIncreasing_ev hl) .done)

theorem l02Axis_ev {xs : List Int} (hl : xs.length ≤ 1048576) : Ev (fun n => spec_l02Axis n xs) (axisB xs) := by
  have hL : Ev (fun n => spec_l02Axis_L1 xs n 0) (bif allN (fun j => inI (at0 xs j) 0 100000 && stepB xs j) xs.length then .nxt (xs.length : Int) else .ret false) := by
    refine ev_all ?_ (fun j hj X hX => Ev.succ ?_)
    · exact Ev.succ (by simp only [spec_l02Axis_L1, lt_nat_f (Nat.le_refl _), cond_false]; exact .done)
    · simp only [spec_l02Axis_L1, lt_nat_t hj, cond_true, idx_at0 hj, Option.bind_some, l01In_eq, w64_succ (show j < 9223372036854775807 by omega)]
      cases inI (at0 xs j) 0 100000
      · exact .done
      · simp only [Bool.not_true, cond_false, Bool.true_and]
        unfold stepB
        by_cases h0 : j = 0
        · subst h0
          exact Ev.ff (by decide) hX
        · simp only [show (j : Int) - 1 = ((j - 1 : Nat) : Int) by omega, w64_of (show -9223372036854775808 ≤ ((j - 1 : Nat) : Int) by omega) (by omega), idx_at0 (show j - 1 < xs.length by omega), Option.bind_some]
          have e2 : decide (j = 0) = false := by simp; omega
          have e3 : decide ((j : Int) > 0) = true := by simp; omega
          rw [e2, e3]
          simp only [cond_true, Bool.false_or]
          by_cases hc : at0 xs (j - 1) < at0 xs j
          · have e1 : decide (at0 xs (j - 1) ≥ at0 xs j) = false := by simp; omega
            rw [e1]; simp only [hc, decide_true, cond_true, cond_false]; exact hX
          · have e1 : decide (at0 xs (j - 1) ≥ at0 xs j) = true := by simp; omega
            rw [e1]; simp only [hc, decide_false, cond_true, cond_false]; exact .done
  have e : axisB xs = (allN (fun j => inI (at0 xs j) 0 100000 && stepB xs j) xs.length && lenB xs 1 4) := by
    unfold axisB incB
    rw [allN_and, all_allN (d := 0), Bool.and_comm]
    rfl
  rw [e]
  unfold spec_l02Axis
  refine Ev.bind hL ?_
  cases allN (fun j => inI (at0 xs j) 0 100000 && stepB xs j) xs.length
  · exact .done
  · simp only [cond_true, bif_some, bif_and, Bool.true_and]
    exact Ev.now (by congr 1; unfold lenB; rw [Bool.eq_iff_iff]; simp; omega)

def tableB (t : TTable) : Bool := axisB t.Slews && (axisB t.Loads && (decide (t.Values.length = t.Slews.length * t.Loads.length) && (t.Values.all fun x => inI x (-1000000) 1000000)))

theorem mul_w64 {a b : Nat} (ha : a ≤ 1048576) (hb : b ≤ 1048576) : W64 ((a : Int) * (b : Int)) = ((a * b : Nat) : Int) := by
  have h : a * b ≤ 1048576 * 1048576 := Nat.mul_le_mul ha hb
  have e : (a : Int) * (b : Int) = ((a * b : Nat) : Int) := by simp
  rw [e]
  exact w64_of (by omega) (by omega)

theorem IsTable_ev {t : TTable} (h : ok_Table t) : Ev (fun n => impl_IsTable n t) (tableB t) := by
  unfold impl_IsTable tableB
  refine Ev.bind (isAxis_ev h.Slews.len) ?_
  cases axisB t.Slews
  · exact .done
  · refine Ev.tt rfl (Ev.bind (isAxis_ev h.Loads.len) ?_)
    cases axisB t.Loads
    · exact .done
    · rw [mul_w64 h.Slews.len h.Loads.len]
      have e : (((t.Values.length : Nat) : Int) == ((t.Slews.length * t.Loads.length : Nat) : Int)) = decide (t.Values.length = t.Slews.length * t.Loads.length) := by rw [Bool.eq_iff_iff]; simp [Int.natCast_inj]; omega
      rw [e]
      cases decide (t.Values.length = t.Slews.length * t.Loads.length)
      · exact .done
      · exact Ev.tt rfl (Ev.tt rfl (Ev.bind (areWithin_ev h.Values.len) .done))

theorem sIsTable_ev {t : TTable} (h : ok_Table t) : Ev (fun n => spec_IsTable n t) (tableB t) := by
  have hl := h.Values.len
  have hL : Ev (fun n => spec_IsTable_L1 t n 0) (bif (t.Values.all fun x => inI x (-1000000) 1000000) then .nxt (t.Values.length : Int) else .ret false) :=
    all_loop (fun n => by simp only [spec_IsTable_L1, lt_nat_f (Nat.le_refl _), cond_false]) (fun j hj X hX => by
      simp only [spec_IsTable_L1, lt_nat_t hj, cond_true, idx_lt hj, Option.bind_some, l01In_eq, w64_succ (show j < 9223372036854775807 by omega)]
      cases inI t.Values[j] (-1000000) 1000000
      · exact .done
      · exact hX)
  unfold spec_IsTable tableB
  refine Ev.bind (b := !(axisB t.Slews && (axisB t.Loads && decide (t.Values.length = t.Slews.length * t.Loads.length)))) ?_ ?_
  · refine Ev.bind (l02Axis_ev h.Slews.len) ?_
    cases axisB t.Slews
    · exact .done
    · refine Ev.ff rfl (Ev.bind (l02Axis_ev h.Loads.len) ?_)
      cases axisB t.Loads
      · exact .done
      · refine Ev.ff rfl (Ev.now ?_)
        rw [mul_w64 h.Slews.len h.Loads.len]
        congr 1
        rw [Bool.eq_iff_iff]; simp [Int.natCast_inj]; omega
  · cases axisB t.Slews
    · exact .done
    · cases axisB t.Loads
      · exact .done
      · cases decide (t.Values.length = t.Slews.length * t.Loads.length)
        · exact .done
        · refine Ev.ff rfl (Ev.bind hL ?_)
          cases (t.Values.all fun x => inI x (-1000000) 1000000) <;> exact .done
end Go.Fw
