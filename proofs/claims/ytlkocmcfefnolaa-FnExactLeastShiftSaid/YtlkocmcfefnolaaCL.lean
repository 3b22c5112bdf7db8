/- By a program of mine (lawgen.py): what the laws own helpers do. -/
import Derived.Test.YtlkocmcfefnolaaC2
import Derived.Test.YtlkocmcfefnolaaFw13
namespace Go.Fw
open Go

def rng_Latch (x : TLatch) : Prop := rngI x.Open ∧ rngI x.Close
def w_Latch (x : TLatch) : Nat := 0
theorem eq_Latch {a : TLatch} (h : w_Latch a ≤ 1048576) : Ev (fun n => laws_eqLatch n a a) true := by
  unfold laws_eqLatch
  exact Ev.ff not_ne_self (Ev.ff not_ne_self (.done))

def rng_LatchLink (x : TLatchLink) : Prop := rngI x.From ∧ rngI x.To ∧ rngI x.Delay ∧ rngI x.Shift
def w_LatchLink (x : TLatchLink) : Nat := 0
theorem eq_LatchLink {a : TLatchLink} (h : w_LatchLink a ≤ 1048576) : Ev (fun n => laws_eqLatchLink n a a) true := by
  unfold laws_eqLatchLink
  exact Ev.ff not_ne_self (Ev.ff not_ne_self (Ev.ff not_ne_self (Ev.ff not_ne_self (.done))))

def w_LatchLinkS (a : (List TLatchLink)) : Nat := a.length
theorem eq_LatchLinkS {a : (List TLatchLink)} (h : w_LatchLinkS a ≤ 1048576) : Ev (fun n => laws_eqLatchLinkS n a a) true := by
  simp only [w_LatchLinkS] at h
  unfold laws_eqLatchLinkS
  refine Ev.ff (by simp) (Ev.bind (b := .nxt (a.length : Int)) ?_ .done)
  refine down (P := fun j => Ev (fun n => laws_eqLatchLinkS_L1 a a n (j : Int)) (.nxt (a.length : Int))) a.length ?_ (fun j hj ih => ?_)
  · refine Ev.succ ?_
    simp only [laws_eqLatchLinkS_L1]
    exact Ev.ff (lt_nat_f (Nat.le_refl _)) .done
  · refine Ev.succ ?_
    simp only [laws_eqLatchLinkS_L1]
    refine Ev.tt (lt_nat_t hj) (Ev.bindN (idx_nat hj) (Ev.bindN (idx_nat hj) (Ev.bind (eq_LatchLink (by simp [w_LatchLink])) (Ev.ff rfl ?_))))
    rw [w64_succ (by omega)]
    exact ih

def w_LatchS (a : (List TLatch)) : Nat := a.length
theorem eq_LatchS {a : (List TLatch)} (h : w_LatchS a ≤ 1048576) : Ev (fun n => laws_eqLatchS n a a) true := by
  simp only [w_LatchS] at h
  unfold laws_eqLatchS
  refine Ev.ff (by simp) (Ev.bind (b := .nxt (a.length : Int)) ?_ .done)
  refine down (P := fun j => Ev (fun n => laws_eqLatchS_L1 a a n (j : Int)) (.nxt (a.length : Int))) a.length ?_ (fun j hj ih => ?_)
  · refine Ev.succ ?_
    simp only [laws_eqLatchS_L1]
    exact Ev.ff (lt_nat_f (Nat.le_refl _)) .done
  · refine Ev.succ ?_
    simp only [laws_eqLatchS_L1]
    refine Ev.tt (lt_nat_t hj) (Ev.bindN (idx_nat hj) (Ev.bindN (idx_nat hj) (Ev.bind (eq_Latch (by simp [w_Latch])) (Ev.ff rfl ?_))))
    rw [w64_succ (by omega)]
    exact ih

def rng_LatchSystem (x : TLatchSystem) : Prop := (rngL rng_Latch) x.Latches ∧ (rngL rng_LatchLink) x.Links
def w_LatchSystem (x : TLatchSystem) : Nat := w_LatchS x.Latches + w_LatchLinkS x.Links
theorem eq_LatchSystem {a : TLatchSystem} (h : w_LatchSystem a ≤ 1048576) : Ev (fun n => laws_eqLatchSystem n a a) true := by
  unfold laws_eqLatchSystem
  simp only [w_LatchSystem] at h
  exact Ev.bind (eq_LatchS (by omega)) (Ev.ff rfl (Ev.bind (eq_LatchLinkS (by omega)) (Ev.ff rfl (.done))))

theorem sz_LatchLinkS {a : (List TLatchLink)} {left : Int} (h : (rngL rng_LatchLink) a) (h0 : 0 ≤ left) (h1 : left ≤ 1048576) : Sz (fun n => laws_szLatchLinkS n a left) (fun r => r = left - (w_LatchLinkS a : Int)) :=
  Sz.less h0 h1 (by omega) (by have := h.1; omega) (fun _ => rfl)

theorem sz_LatchS {a : (List TLatch)} {left : Int} (h : (rngL rng_Latch) a) (h0 : 0 ≤ left) (h1 : left ≤ 1048576) : Sz (fun n => laws_szLatchS n a left) (fun r => r = left - (w_LatchS a : Int)) :=
  Sz.less h0 h1 (by omega) (by have := h.1; omega) (fun _ => rfl)

theorem sz_LatchSystem {a : TLatchSystem} {left : Int} (h : rng_LatchSystem a) (h0 : 0 ≤ left) (h1 : left ≤ 1048576) : Sz (fun n => laws_szLatchSystem n a left) (fun r => r = left - (w_LatchSystem a : Int)) := by
  unfold laws_szLatchSystem
  obtain ⟨h_0, h_1⟩ := h
  exact Sz.step (sz_LatchS h_0 (by omega) (by omega)) fun r0 p0 q0 => Sz.step (sz_LatchLinkS h_1 (by omega) (by omega)) fun r1 p1 q1 => Sz.done p1 (by simp only [w_LatchSystem]; omega)

theorem to_Latch {a : TLatch} (h : w_Latch a ≤ 1048576) : Ev (fun n => laws_toLatch n a) a := by
  unfold laws_toLatch
  exact .done

theorem to_LatchLink {a : TLatchLink} (h : w_LatchLink a ≤ 1048576) : Ev (fun n => laws_toLatchLink n a) a := by
  unfold laws_toLatchLink
  exact .done

theorem to_LatchLinkS {a : (List TLatchLink)} (h : w_LatchLinkS a ≤ 1048576) : Ev (fun n => laws_toLatchLinkS n a) a := by
  simp only [w_LatchLinkS] at h
  unfold laws_toLatchLinkS
  refine Ev.bindN (mkS_len (by omega)) (Ev.bind (b := (a, (a.length : Int))) ?_ .done)
  refine down (P := fun j => Ev (fun n => laws_toLatchLinkS_L1 a n (padS a (⟨0, 0, 0, 0⟩ : TLatchLink) j) (j : Int)) (a, (a.length : Int))) a.length ?_ (fun j hj ih => ?_)
  · refine Ev.succ ?_
    simp only [laws_toLatchLinkS_L1, padS_full]
    exact Ev.ff (lt_nat_f (Nat.le_refl _)) .done
  · refine Ev.succ ?_
    simp only [laws_toLatchLinkS_L1]
    refine Ev.tt (lt_nat_t hj) (Ev.bindN (idx_nat hj) (Ev.bind (to_LatchLink (by simp [w_LatchLink])) (Ev.bindN (idx_nat (by rw [padS_len (by omega)]; exact hj)) ?_)))
    rw [w64_succ (by omega), padS_set hj]
    exact ih

theorem to_LatchS {a : (List TLatch)} (h : w_LatchS a ≤ 1048576) : Ev (fun n => laws_toLatchS n a) a := by
  simp only [w_LatchS] at h
  unfold laws_toLatchS
  refine Ev.bindN (mkS_len (by omega)) (Ev.bind (b := (a, (a.length : Int))) ?_ .done)
  refine down (P := fun j => Ev (fun n => laws_toLatchS_L1 a n (padS a (⟨0, 0⟩ : TLatch) j) (j : Int)) (a, (a.length : Int))) a.length ?_ (fun j hj ih => ?_)
  · refine Ev.succ ?_
    simp only [laws_toLatchS_L1, padS_full]
    exact Ev.ff (lt_nat_f (Nat.le_refl _)) .done
  · refine Ev.succ ?_
    simp only [laws_toLatchS_L1]
    refine Ev.tt (lt_nat_t hj) (Ev.bindN (idx_nat hj) (Ev.bind (to_Latch (by simp [w_Latch])) (Ev.bindN (idx_nat (by rw [padS_len (by omega)]; exact hj)) ?_)))
    rw [w64_succ (by omega), padS_set hj]
    exact ih

theorem to_LatchSystem {a : TLatchSystem} (h : w_LatchSystem a ≤ 1048576) : Ev (fun n => laws_toLatchSystem n a) a := by
  unfold laws_toLatchSystem
  simp only [w_LatchSystem] at h
  exact Ev.bind (to_LatchS (by omega)) (Ev.bind (to_LatchLinkS (by omega)) (.done))

end Go.Fw
