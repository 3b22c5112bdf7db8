import Derived.Test.YtlkocmcfefnolaaC2
import Derived.Test.YtlkocmcfefnolaaFw13
namespace Go.Fw
open Go

/-! ### Is it a system? -/
def inR (x lo hi : Int) : Bool := decide (x ≥ lo) && decide (x ≤ hi)
theorem l01In_eq (n : Nat) (x lo hi : Int) : spec_l01In n x lo hi = some (inR x lo hi) := by
  unfold spec_l01In inR
  cases decide (x ≥ lo) <;> rfl
theorem within_eq (n : Nat) (x lo hi : Int) : impl_within n x lo hi = some (inR x lo hi) := by
  unfold impl_within inR
  cases decide (x ≥ lo) <;> rfl
theorem inR_iff {x lo hi : Int} : inR x lo hi = true ↔ lo ≤ x ∧ x ≤ hi := by simp [inR]

def okLatch (y : TLatch) : Bool := inR y.Open 0 100000 && inR y.Close y.Open 100000
def okLink (nl : Nat) (y : TLatchLink) : Bool := inR y.From 0 ((nl : Int) - 1) && (inR y.To 0 ((nl : Int) - 1) && (inR y.Delay 0 100000 && inR y.Shift 0 100000))
def okSys (s : TLatchSystem) : Bool := s.Latches.all okLatch && (s.Links.all (okLink s.Latches.length) && (decide ((s.Latches.length : Int) ≤ 12) && decide ((s.Links.length : Int) ≤ 60)))

theorem drop_all {α : Type} {p : α → Bool} {xs : List α} {j : Nat} (h : j < xs.length) : (xs.drop j).all p = (p xs[j] && (xs.drop (j + 1)).all p) := by rw [List.drop_eq_getElem_cons h]; rfl

theorem spec_ok1 {s : TLatchSystem} (hl : s.Latches.length ≤ 1048576) : Ev (fun n => spec_IsLatchSystem_L1 s n 0) (bif s.Latches.all okLatch then .nxt (s.Latches.length : Int) else .ret false) := by
  have := down (P := fun j => Ev (fun n => spec_IsLatchSystem_L1 s n (j : Int)) (bif (s.Latches.drop j).all okLatch then .nxt (s.Latches.length : Int) else .ret false)) s.Latches.length ?_ (fun j hj ih => ?_)
  · simpa using this
  · refine Ev.succ ?_
    simp only [spec_IsLatchSystem_L1, List.drop_length]
    exact Ev.ff (lt_nat_f (Nat.le_refl _)) .done
  · refine Ev.succ ?_
    simp only [spec_IsLatchSystem_L1, l01In_eq, Option.bind_some]
    refine Ev.tt (lt_nat_t hj) (Ev.bindN (idx_nat hj) ?_)
    rw [drop_all hj, w64_succ (by omega)]
    unfold okLatch
    cases inR s.Latches[j].Open 0 100000
    · exact .done
    · cases inR s.Latches[j].Close s.Latches[j].Open 100000
      · exact .done
      · exact ih

theorem impl_ok1 {s : TLatchSystem} (hl : s.Latches.length ≤ 1048576) : Ev (fun n => impl_IsLatchSystem_L1 s n 0) (bif s.Latches.all okLatch then .nxt (s.Latches.length : Int) else .ret false) := by
  have := down (P := fun j => Ev (fun n => impl_IsLatchSystem_L1 s n (j : Int)) (bif (s.Latches.drop j).all okLatch then .nxt (s.Latches.length : Int) else .ret false)) s.Latches.length ?_ (fun j hj ih => ?_)
  · simpa using this
  · refine Ev.succ ?_
    simp only [impl_IsLatchSystem_L1, List.drop_length]
    exact Ev.ff (lt_nat_f (Nat.le_refl _)) .done
  · refine Ev.succ ?_
    simp only [impl_IsLatchSystem_L1]
    refine Ev.tt (lt_nat_t hj) (Ev.bindN (idx_nat hj) ?_)
    rw [drop_all hj, w64_succ (by omega)]
    by_cases h : okLatch s.Latches[j] = true
    · rw [h]
      simp only [okLatch, Bool.and_eq_true, inR_iff] at h
      exact Ev.ff (by simp; omega) (Ev.ff (by simp; omega) (Ev.ff (by simp; omega) ih))
    · rw [Bool.not_eq_true] at h
      rw [h]
      refine Ev.bif (fun _ => .done) (fun h1 => Ev.bif (fun _ => .done) (fun h2 => Ev.bif (fun _ => .done) (fun h3 => ?_)))
      exfalso
      rw [← Bool.not_eq_true, okLatch, Bool.and_eq_true, inR_iff, inR_iff] at h
      simp only [decide_eq_false_iff_not] at h1 h2 h3
      omega

theorem spec_ok2 {s : TLatchSystem} (h0 : s.Latches.length ≤ 1048576) (hl : s.Links.length ≤ 1048576) : Ev (fun n => spec_IsLatchSystem_L2 s n 0) (bif s.Links.all (okLink s.Latches.length) then .nxt (s.Links.length : Int) else .ret false) := by
  have e : W64 ((s.Latches.length : Int) - 1) = (s.Latches.length : Int) - 1 := w64_of (by omega) (by omega)
  have := down (P := fun j => Ev (fun n => spec_IsLatchSystem_L2 s n (j : Int)) (bif (s.Links.drop j).all (okLink s.Latches.length) then .nxt (s.Links.length : Int) else .ret false)) s.Links.length ?_ (fun j hj ih => ?_)
  · simpa using this
  · refine Ev.succ ?_
    simp only [spec_IsLatchSystem_L2, List.drop_length]
    exact Ev.ff (lt_nat_f (Nat.le_refl _)) .done
  · refine Ev.succ ?_
    simp only [spec_IsLatchSystem_L2, l01In_eq, Option.bind_some, e]
    refine Ev.tt (lt_nat_t hj) (Ev.bindN (idx_nat hj) ?_)
    rw [drop_all hj, w64_succ (by omega)]
    unfold okLink
    cases inR s.Links[j].From 0 ((s.Latches.length : Int) - 1)
    · exact .done
    cases inR s.Links[j].To 0 ((s.Latches.length : Int) - 1)
    · exact .done
    cases inR s.Links[j].Delay 0 100000
    · exact .done
    cases inR s.Links[j].Shift 0 100000
    · exact .done
    · exact ih

theorem impl_ok2_eq (s : TLatchSystem) (n : Nat) (i : Int) : impl_IsLatchSystem_L2 s (s.Latches.length : Int) n i = spec_IsLatchSystem_L2 s n i := by
  induction n generalizing i with
  | zero => rfl
  | succ n ih => simp only [impl_IsLatchSystem_L2, spec_IsLatchSystem_L2, l01In_eq, within_eq, ih]

theorem spec_ok {s : TLatchSystem} (h0 : s.Latches.length ≤ 1048576) (hl : s.Links.length ≤ 1048576) : Ev (fun n => spec_IsLatchSystem n s) (okSys s) := by
  unfold spec_IsLatchSystem okSys
  refine Ev.bind (spec_ok1 h0) ?_
  cases s.Latches.all okLatch
  · exact .done
  · refine Ev.bind (spec_ok2 h0 hl) ?_
    cases s.Links.all (okLink s.Latches.length)
    · exact .done
    · simp only [cond_true, Bool.true_and]
      cases decide ((s.Latches.length : Int) ≤ 12) <;> exact .done

theorem impl_ok {s : TLatchSystem} (h0 : s.Latches.length ≤ 1048576) (hl : s.Links.length ≤ 1048576) : Ev (fun n => impl_IsLatchSystem n s) (okSys s) := by
  unfold impl_IsLatchSystem okSys
  simp only [impl_length_impl_Latch, Option.bind_some, impl_ok2_eq]
  refine Ev.bind (impl_ok1 h0) ?_
  cases s.Latches.all okLatch
  · exact .done
  · refine Ev.bind (spec_ok2 h0 hl) ?_
    cases s.Links.all (okLink s.Latches.length)
    · exact .done
    · simp only [cond_true, Bool.true_and]
      cases decide ((s.Latches.length : Int) ≤ 12) <;> exact .done

end Go.Fw
