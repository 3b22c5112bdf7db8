/- By a program of mine (lawgen.py): what the laws own helpers do. -/
import Derived.Test.YtlkocmcfefnolaaB2
import Derived.Test.YtlkocmcfefnolaaFw13
namespace Go.Fw
open Go

def w_Int64S (a : (List Int)) : Nat := a.length
theorem eq_Int64S {a : (List Int)} (h : w_Int64S a ≤ 1048576) : Ev (fun n => laws_eqInt64S n a a) true := by
  simp only [w_Int64S] at h
  unfold laws_eqInt64S
  refine Ev.ff (by simp) (Ev.bind (b := .nxt (a.length : Int)) ?_ .done)
  refine down (P := fun j => Ev (fun n => laws_eqInt64S_L1 a a n (j : Int)) (.nxt (a.length : Int))) a.length ?_ (fun j hj ih => ?_)
  · refine Ev.succ ?_
    simp only [laws_eqInt64S_L1]
    exact Ev.ff (lt_nat_f (Nat.le_refl _)) .done
  · refine Ev.succ ?_
    simp only [laws_eqInt64S_L1]
    refine Ev.tt (lt_nat_t hj) (Ev.bindN (idx_nat hj) (Ev.bindN (idx_nat hj) (Ev.ff not_ne_self ?_)))
    rw [w64_succ (by omega)]
    exact ih

def rng_Latch (x : TLatch) : Prop := rngI x.Open ∧ rngI x.Close
def w_Latch (x : TLatch) : Nat := 0
theorem eq_Latch {a : TLatch} (h : w_Latch a ≤ 1048576) : Ev (fun n => laws_eqLatch n a a) true := by
  unfold laws_eqLatch
  exact Ev.ff not_ne_self (Ev.ff not_ne_self (.done))

def rng_LatchLink (x : TLatchLink) : Prop := rngI x.From ∧ rngI x.To ∧ rngI x.Delay ∧ rngI x.Shift
def w_LatchLink (x : TLatchLink) : Nat := 0
theorem eq_LatchLink {a : TLatchLink} (h : w_LatchLink a ≤ 1048576) : Ev (fun n => laws_eqLatchLink n a a) true := by
  unfold laws_eqLatchLink
  exact Ev.ff not_ne_self (Ev.ff not_ne_self (Ev.ff not_ne_self (Ev.ff not_ne_self (.done))))

def w_LatchLinkS (a : (List TLatchLink)) : Nat := a.length
theorem eq_LatchLinkS {a : (List TLatchLink)} (h : w_LatchLinkS a ≤ 1048576) : Ev (fun n => laws_eqLatchLinkS n a a) true := by
  simp only [w_LatchLinkS] at h
  unfold laws_eqLatchLinkS
  refine Ev.ff (by simp) (Ev.bind (b := .nxt (a.length : Int)) ?_ .done)
  refine down (P := fun j => Ev (fun n => laws_eqLatchLinkS_L1 a a n (j : Int)) (.nxt (a.length : Int))) a.length ?_ (fun j hj ih => ?_)
  · refine Ev.succ ?_
    simp only [laws_eqLatchLinkS_L1]
    exact Ev.ff (lt_nat_f (Nat.le_refl _)) .done
  · refine Ev.succ ?_
    simp only [laws_eqLatchLinkS_L1]
    refine Ev.tt (lt_nat_t hj) (Ev.bindN (idx_nat hj) (Ev.bindN (idx_nat hj) (Ev.bind (eq_LatchLink (by simp [w_LatchLink])) (Ev.ff rfl ?_))))
    rw [w64_succ (by omega)]
    exact ih

def w_LatchS (a : (List TLatch)) : Nat := a.length
theorem eq_LatchS {a : (List TLatch)} (h : w_LatchS a ≤ 1048576) : Ev (fun n => laws_eqLatchS n a a) true := by
  simp only [w_LatchS] at h
  unfold laws_eqLatchS
  refine Ev.ff (by simp) (Ev.bind (b := .nxt (a.length : Int)) ?_ .done)
  refine down (P := fun j => Ev (fun n => laws_eqLatchS_L1 a a n (j : Int)) (.nxt (a.length : Int))) a.length ?_ (fun j hj ih => ?_)
  · refine Ev.succ ?_
    simp only [laws_eqLatchS_L1]
    exact Ev.ff (lt_nat_f (Nat.le_refl _)) .done
  · refine Ev.succ ?_
    simp only [laws_eqLatchS_L1]
    refine Ev.tt (lt_nat_t hj) (Ev.bindN (idx_nat hj) (Ev.bindN (idx_nat hj) (Ev.bind (eq_Latch (by simp [w_Latch])) (Ev.ff rfl ?_))))
    rw [w64_succ (by omega)]
    exact ih

def rng_LatchSystem (x : TLatchSystem) : Prop := (rngL rng_Latch) x.Latches ∧ (rngL rng_LatchLink) x.Links
def w_LatchSystem (x : TLatchSystem) : Nat := w_LatchS x.Latches + w_LatchLinkS x.Links
theorem eq_LatchSystem {a : TLatchSystem} (h : w_LatchSystem a ≤ 1048576) : Ev (fun n => laws_eqLatchSystem n a a) true := by
  unfold laws_eqLatchSystem
  simp only [w_LatchSystem] at h
  exact Ev.bind (eq_LatchS (by omega)) (Ev.ff rfl (Ev.bind (eq_LatchLinkS (by omega)) (Ev.ff rfl (.done))))

theorem mark_Int64S {a : (List Int)} {k : Int} (h : w_Int64S a ≤ 1048576) (h0 : 1 ≤ k) (h1 : k ≤ 1000000000) : Ev (fun n => laws_markInt64S n a k) (k + (w_Int64S a : Int), count k (w_Int64S a)) := by
  simp only [w_Int64S] at h ⊢
  unfold laws_markInt64S
  refine Ev.bind (b := (count k a.length, k + (a.length : Int), (a.length : Int))) ?_ .done
  have := down (P := fun j => Ev (fun n => laws_markInt64S_L1 a n (mixS (fun (i : Nat) => k + (i : Int)) a j) (k + (j : Int)) (j : Int)) (count k a.length, k + (a.length : Int), (a.length : Int))) a.length ?_ (fun j hj ih => ?_)
  · simpa [mixS_zero] using this
  · refine Ev.succ ?_
    simp only [laws_markInt64S_L1, mixS_full]
    exact Ev.ff (lt_nat_f (Nat.le_refl _)) .done
  · refine Ev.succ ?_
    simp only [laws_markInt64S_L1]
    refine Ev.tt (lt_nat_t hj) (Ev.bindN (mixS_at hj) ?_)
    have e := mixS_set (f := fun (i : Nat) => k + (i : Int)) hj
    rw [w64_succ (by omega), e, w64_of (by omega) (by omega), show k + (j : Int) + 1 = k + ((j + 1 : Nat) : Int) by omega]
    exact ih
theorem held_Int64S {k : Int} {m : Nat} (h : m ≤ 1048576) (h0 : 1 ≤ k) (h1 : k ≤ 1000000000) : Ev (fun n => laws_heldInt64S n (count k m) k) (k + (m : Int)) := by
  unfold laws_heldInt64S
  refine Ev.bind (b := .nxt (k + (m : Int), (m : Int))) ?_ .done
  have := down (P := fun j => Ev (fun n => laws_heldInt64S_L1 (count k m) n (k + (j : Int)) (j : Int)) (.nxt (k + (m : Int), (m : Int)))) m ?_ (fun j hj ih => ?_)
  · simpa using this
  · refine Ev.succ ?_
    simp only [laws_heldInt64S_L1, count_len]
    exact Ev.ff (lt_nat_f (Nat.le_refl _)) .done
  · refine Ev.succ ?_
    simp only [laws_heldInt64S_L1, count_len]
    refine Ev.tt (lt_nat_t hj) (Ev.bindN (count_at hj) (Ev.ff not_ne_self ?_))
    rw [w64_succ (by omega), w64_of (by omega) (by omega), show k + (j : Int) + 1 = k + ((j + 1 : Nat) : Int) by omega]
    exact ih

theorem mark_LatchLinkS {a : (List TLatchLink)} {k : Int} (h : w_LatchLinkS a ≤ 1048576) (h0 : 1 ≤ k) (h1 : k ≤ 1000000000) : EvQ (fun n => laws_markLatchLinkS n a k) (fun r => k ≤ r.1 ∧ r.1 ≤ k + 4 * w_LatchLinkS a) := by
  simp only [w_LatchLinkS] at h
  unfold laws_markLatchLinkS
  have := down (P := fun j => ∀ (x : (List TLatchLink)) (k : Int), x.length = a.length → 1 ≤ k → k ≤ 1000000000 + 4 * (j : Int) → EvQ (fun n => laws_markLatchLinkS_L1 a n x k (j : Int)) (fun r => k ≤ r.2.1 ∧ r.2.1 ≤ k + 4 * ((a.length : Int) - j))) a.length ?_ ?_
  · exact EvQ.bind (this a k rfl h0 (by omega)) (fun ⟨_, _, _⟩ hr => EvQ.done (by dsimp only at hr ⊢; simp only [w_LatchLinkS]; omega))
  · intro x k hx _ _
    refine EvQ.succ ?_
    simp only [laws_markLatchLinkS_L1]
    exact EvQ.ff (lt_nat_f (Nat.le_refl _)) (EvQ.done (by dsimp only; omega))
  · intro j hj ih x k hx p1 p2
    have e1 : W64 (k + 1) = k + 1 := w64_of (by omega) (by omega)
    have e2 : W64 (k + 1 + 1) = k + 1 + 1 := w64_of (by omega) (by omega)
    have e3 : W64 (k + 1 + 1 + 1) = k + 1 + 1 + 1 := w64_of (by omega) (by omega)
    have e4 : W64 (k + 1 + 1 + 1 + 1) = k + 1 + 1 + 1 + 1 := w64_of (by omega) (by omega)
    refine EvQ.succ ?_
    simp only [laws_markLatchLinkS_L1]
    refine EvQ.tt (lt_nat_t hj) (EvQ.bindN (idx_nat (by first | omega | (simp only [setS_len]; omega))) (EvQ.bindN (idx_nat (by first | omega | (simp only [setS_len]; omega))) (EvQ.bindN (idx_nat (by first | omega | (simp only [setS_len]; omega))) (EvQ.bindN (idx_nat (by first | omega | (simp only [setS_len]; omega))) (?_)))))
    rw [w64_succ (by omega), e1, e2, e3, e4]
    refine EvQ.mono (ih _ _ ?_ (by omega) (by omega)) (fun r hr => by omega)
    simp only [setS_len]
    exact hx

theorem mark_LatchS {a : (List TLatch)} {k : Int} (h : w_LatchS a ≤ 1048576) (h0 : 1 ≤ k) (h1 : k ≤ 1000000000) : EvQ (fun n => laws_markLatchS n a k) (fun r => k ≤ r.1 ∧ r.1 ≤ k + 2 * w_LatchS a) := by
  simp only [w_LatchS] at h
  unfold laws_markLatchS
  have := down (P := fun j => ∀ (x : (List TLatch)) (k : Int), x.length = a.length → 1 ≤ k → k ≤ 1000000000 + 2 * (j : Int) → EvQ (fun n => laws_markLatchS_L1 a n x k (j : Int)) (fun r => k ≤ r.2.1 ∧ r.2.1 ≤ k + 2 * ((a.length : Int) - j))) a.length ?_ ?_
  · exact EvQ.bind (this a k rfl h0 (by omega)) (fun ⟨_, _, _⟩ hr => EvQ.done (by dsimp only at hr ⊢; simp only [w_LatchS]; omega))
  · intro x k hx _ _
    refine EvQ.succ ?_
    simp only [laws_markLatchS_L1]
    exact EvQ.ff (lt_nat_f (Nat.le_refl _)) (EvQ.done (by dsimp only; omega))
  · intro j hj ih x k hx p1 p2
    have e1 : W64 (k + 1) = k + 1 := w64_of (by omega) (by omega)
    have e2 : W64 (k + 1 + 1) = k + 1 + 1 := w64_of (by omega) (by omega)
    refine EvQ.succ ?_
    simp only [laws_markLatchS_L1]
    refine EvQ.tt (lt_nat_t hj) (EvQ.bindN (idx_nat (by first | omega | (simp only [setS_len]; omega))) (EvQ.bindN (idx_nat (by first | omega | (simp only [setS_len]; omega))) (?_)))
    rw [w64_succ (by omega), e1, e2]
    refine EvQ.mono (ih _ _ ?_ (by omega) (by omega)) (fun r hr => by omega)
    simp only [setS_len]
    exact hx

theorem mark_LatchSystem {a : TLatchSystem} {k : Int} (h : w_LatchSystem a ≤ 1048576) (h0 : 1 ≤ k) (h1 : k ≤ 100000000) : EvQ (fun n => laws_markLatchSystem n a k) (fun r => k ≤ r.1 ∧ r.1 ≤ k + 16 * w_LatchSystem a) := by
  simp only [w_LatchSystem] at h ⊢
  unfold laws_markLatchSystem
  refine EvQ.bind (mark_LatchS (by omega) (by omega) (by omega)) (fun ⟨k0, x0⟩ q0 => ?_)
  dsimp only at q0 ⊢
  refine EvQ.bind (mark_LatchLinkS (by omega) (by omega) (by omega)) (fun ⟨k1, x1⟩ q1 => ?_)
  dsimp only at q1 ⊢
  exact EvQ.done (by omega)

theorem sz_LatchLinkS {a : (List TLatchLink)} {left : Int} (h : (rngL rng_LatchLink) a) (h0 : 0 ≤ left) (h1 : left ≤ 1048576) : Sz (fun n => laws_szLatchLinkS n a left) (fun r => r = left - (w_LatchLinkS a : Int)) :=
  Sz.less h0 h1 (by omega) (by have := h.1; omega) (fun _ => rfl)

theorem sz_LatchS {a : (List TLatch)} {left : Int} (h : (rngL rng_Latch) a) (h0 : 0 ≤ left) (h1 : left ≤ 1048576) : Sz (fun n => laws_szLatchS n a left) (fun r => r = left - (w_LatchS a : Int)) :=
  Sz.less h0 h1 (by omega) (by have := h.1; omega) (fun _ => rfl)

theorem sz_LatchSystem {a : TLatchSystem} {left : Int} (h : rng_LatchSystem a) (h0 : 0 ≤ left) (h1 : left ≤ 1048576) : Sz (fun n => laws_szLatchSystem n a left) (fun r => r = left - (w_LatchSystem a : Int)) := by
  unfold laws_szLatchSystem
  obtain ⟨h_0, h_1⟩ := h
  exact Sz.step (sz_LatchS h_0 (by omega) (by omega)) fun r0 p0 q0 => Sz.step (sz_LatchLinkS h_1 (by omega) (by omega)) fun r1 p1 q1 => Sz.done p1 (by simp only [w_LatchSystem]; omega)

theorem to_Latch {a : TLatch} (h : w_Latch a ≤ 1048576) : Ev (fun n => laws_toLatch n a) a := by
  unfold laws_toLatch
  exact .done

theorem to_LatchLink {a : TLatchLink} (h : w_LatchLink a ≤ 1048576) : Ev (fun n => laws_toLatchLink n a) a := by
  unfold laws_toLatchLink
  exact .done

theorem to_LatchLinkS {a : (List TLatchLink)} (h : w_LatchLinkS a ≤ 1048576) : Ev (fun n => laws_toLatchLinkS n a) a := by
  simp only [w_LatchLinkS] at h
  unfold laws_toLatchLinkS
  refine Ev.bindN (mkS_len (by omega)) (Ev.bind (b := (a, (a.length : Int))) ?_ .done)
  refine down (P := fun j => Ev (fun n => laws_toLatchLinkS_L1 a n (padS a (⟨0, 0, 0, 0⟩ : TLatchLink) j) (j : Int)) (a, (a.length : Int))) a.length ?_ (fun j hj ih => ?_)
  · refine Ev.succ ?_
    simp only [laws_toLatchLinkS_L1, padS_full]
    exact Ev.ff (lt_nat_f (Nat.le_refl _)) .done
  · refine Ev.succ ?_
    simp only [laws_toLatchLinkS_L1]
    refine Ev.tt (lt_nat_t hj) (Ev.bindN (idx_nat hj) (Ev.bind (to_LatchLink (by simp [w_LatchLink])) (Ev.bindN (idx_nat (by rw [padS_len (by omega)]; exact hj)) ?_)))
    rw [w64_succ (by omega), padS_set hj]
    exact ih

theorem to_LatchS {a : (List TLatch)} (h : w_LatchS a ≤ 1048576) : Ev (fun n => laws_toLatchS n a) a := by
  simp only [w_LatchS] at h
  unfold laws_toLatchS
  refine Ev.bindN (mkS_len (by omega)) (Ev.bind (b := (a, (a.length : Int))) ?_ .done)
  refine down (P := fun j => Ev (fun n => laws_toLatchS_L1 a n (padS a (⟨0, 0⟩ : TLatch) j) (j : Int)) (a, (a.length : Int))) a.length ?_ (fun j hj ih => ?_)
  · refine Ev.succ ?_
    simp only [laws_toLatchS_L1, padS_full]
    exact Ev.ff (lt_nat_f (Nat.le_refl _)) .done
  · refine Ev.succ ?_
    simp only [laws_toLatchS_L1]
    refine Ev.tt (lt_nat_t hj) (Ev.bindN (idx_nat hj) (Ev.bind (to_Latch (by simp [w_Latch])) (Ev.bindN (idx_nat (by rw [padS_len (by omega)]; exact hj)) ?_)))
    rw [w64_succ (by omega), padS_set hj]
    exact ih

theorem to_LatchSystem {a : TLatchSystem} (h : w_LatchSystem a ≤ 1048576) : Ev (fun n => laws_toLatchSystem n a) a := by
  unfold laws_toLatchSystem
  simp only [w_LatchSystem] at h
  exact Ev.bind (to_LatchS (by omega)) (Ev.bind (to_LatchLinkS (by omega)) (.done))

end Go.Fw
