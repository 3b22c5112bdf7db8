import Derived.Test.YtlkocmcfefnolaaM4
import Derived.Test.YtlkocmcfefnolaaBL
namespace Go.Fw
open Go

variable {s : TLatchSystem} {N : Nat}

theorem impl_times1 (H : OkS s N) {g : Nat → Int} : Ev (fun n => impl_latchTimes_L1 s (tabS N (fun v => (best g v s.Links).isSome)) n (tabS N (fun v => (best g v s.Links).getD 0)) 0) (tabS N (arrF s g), (N : Int)) := by
  have h12 := H.n12
  have hN := H.len
  have := down (P := fun j => Ev (fun n => impl_latchTimes_L1 s (tabS N (fun v => (best g v s.Links).isSome)) n (tabS N (fun v => if v < j then arrF s g v else (best g v s.Links).getD 0)) (j : Int)) (tabS N (arrF s g), (N : Int))) N ?_ (fun j hj ih => ?_)
  · simpa using this
  · refine Ev.succ ?_
    simp only [impl_latchTimes_L1, hN]
    rw [tabS_congr (g := arrF s g) (fun v hv => if_pos hv)]
    exact Ev.ff (lt_nat_f (Nat.le_refl _)) .done
  · refine Ev.succ ?_
    simp only [impl_latchTimes_L1, hN]
    refine Ev.tt (lt_nat_t hj) (Ev.bindN (idx_nat (by omega)) (Ev.bindN (tabS_idxN hj) ?_))
    rw [w64_succ (by omega)]
    cases hb : best g j s.Links with
    | none =>
      refine Ev.tt rfl (Ev.bindN (tabS_idxN hj) ?_)
      rw [tabS_set (g := fun v => if v < j + 1 then arrF s g v else (best g v s.Links).getD 0) (by omega) (by omega) ?_ ?_]
      · exact ih
      · simp only [Int.toNat_natCast]
        rw [if_pos (by omega)]
        unfold arrF
        rw [hb, Option.getD_none, openF_at H hj]
      · intro v _ hne
        rw [Int.toNat_natCast] at hne
        by_cases hv : v < j
        · rw [if_pos hv, if_pos (by omega)]
        · rw [if_neg hv, if_neg (by omega)]
    | some t =>
      refine Ev.ff rfl ?_
      rw [tabS_congr (f := fun v => if v < j then arrF s g v else (best g v s.Links).getD 0) (g := fun v => if v < j + 1 then arrF s g v else (best g v s.Links).getD 0) (fun v _ => ?_)]
      · exact ih
      · by_cases hv : v < j
        · simp only [if_pos hv, if_pos (show v < j + 1 by omega)]
        · simp only [if_neg hv]
          by_cases hv2 : v < j + 1
          · rw [if_pos hv2, show v = j by omega]
            unfold arrF
            rw [hb]
            rfl
          · rw [if_neg hv2]

/-- What the two sides come to: a code, or times. -/
theorem code_both (h0 : s.Latches.length ≤ 1048576) (hl : s.Links.length ≤ 1048576) :
    (∃ c : Int, c ≠ 0 ∧ Ev (fun n => spec_l18Code n s) ([], c) ∧ Ev (fun n => impl_latchTimes n s) ([], [], c)) ∨
    (∃ g : Nat → Int, OkS s s.Latches.length ∧ Bd s.Latches.length g 2000000 ∧ Ev (fun n => spec_l18Code n s) (tabS s.Latches.length g, 0) ∧
      Ev (fun n => impl_latchTimes n s) (tabS s.Latches.length g, tabS s.Latches.length (arrF s g), 0)) := by
  have a := spec_ok h0 hl
  have b := impl_ok h0 hl
  cases hok : okSys s with
  | false =>
    rw [hok] at a b
    refine .inl ⟨1, by decide, ?_, ?_⟩
    · unfold spec_l18Code
      exact Ev.bind a (Ev.tt rfl .done)
    · unfold impl_latchTimes
      exact Ev.bind b (Ev.tt rfl .done)
  | true =>
    rw [hok] at a b
    have H := okS_of hok
    rcases dep_both H with ⟨g, hg, d1, d2⟩ | ⟨d1, d2⟩
    · refine .inr ⟨g, H, hg, ?_, ?_⟩
      · unfold spec_l18Code
        exact Ev.bind a (Ev.ff rfl (Ev.bind d1 (Ev.ff rfl .done)))
      · unfold impl_latchTimes
        exact Ev.bind b (Ev.ff rfl (Ev.bind d2 (Ev.ff rfl (Ev.bind (impl_arr H (by decide) hg) (Ev.bind (impl_times1 H) .done)))))
    · refine .inl ⟨7, by decide, ?_, ?_⟩
      · unfold spec_l18Code
        exact Ev.bind a (Ev.ff rfl (Ev.bind d1 (Ev.tt rfl .done)))
      · unfold impl_latchTimes
        exact Ev.bind b (Ev.ff rfl (Ev.bind d2 (Ev.tt rfl .done)))

theorem arrivals_both (h0 : s.Latches.length ≤ 1048576) (hl : s.Links.length ≤ 1048576) : ∃ (x : List Int) (c : Int), x.length ≤ 12 ∧ Ev (fun n => spec_LatchArrivals n s) (x, c) ∧ Ev (fun n => impl_LatchArrivals n s) (x, c) := by
  rcases code_both h0 hl with ⟨c, hc, a, b⟩ | ⟨g, H, hg, a, b⟩
  · refine ⟨[], c, by simp, ?_, ?_⟩
    · unfold spec_LatchArrivals
      exact Ev.bind a (Ev.tt (by simpa using hc) .done)
    · unfold impl_LatchArrivals
      exact Ev.bind b .done
  · refine ⟨tabS s.Latches.length (arrF s g), 0, by rw [tabS_len]; exact H.n12, ?_, ?_⟩
    · unfold spec_LatchArrivals
      exact Ev.bind a (Ev.ff rfl (Ev.bind (spec_arr H (by decide) hg) .done))
    · unfold impl_LatchArrivals
      exact Ev.bind b .done

theorem borrow_eq (s : TLatchSystem) (r x : List Int) (n : Nat) (i : Int) : impl_BorrowedTimes_L1 s r n x i = spec_BorrowedTimes_L1 s r n x i := by
  induction n generalizing x i with
  | zero => rfl
  | succ n ih => simp only [impl_BorrowedTimes_L1, spec_BorrowedTimes_L1, ih]
theorem slack_eq (s : TLatchSystem) (r x : List Int) (n : Nat) (i : Int) : impl_LatchSlacks_L1 s r n x i = spec_l18Slacks_L1 s r n x i := by
  induction n generalizing x i with
  | zero => rfl
  | succ n ih => simp only [impl_LatchSlacks_L1, spec_l18Slacks_L1, ih]

theorem borrow_L (H : OkS s N) {r : List Int} (hr : r.length = N) : EvQ (fun n => spec_BorrowedTimes_L1 s r n r 0) (fun o => o.1.length = N) := by
  have h12 := H.n12
  have hN := H.len
  have := down (P := fun j => ∀ x : List Int, x.length = N → EvQ (fun n => spec_BorrowedTimes_L1 s r n x (j : Int)) (fun o => o.1.length = N)) N ?_ (fun j hj ih x hx => ?_)
  · exact this r hr
  · intro x hx
    refine EvQ.succ ?_
    simp only [spec_BorrowedTimes_L1, hr]
    exact EvQ.ff (lt_nat_f (Nat.le_refl _)) (EvQ.done hx)
  · refine EvQ.succ ?_
    simp only [spec_BorrowedTimes_L1, hr]
    refine EvQ.tt (lt_nat_t hj) (EvQ.bindN (idx_nat (by omega)) (EvQ.bindN (idx_nat (by omega)) (EvQ.bindN (idx_nat (by omega)) ?_)))
    rw [w64_succ (by omega)]
    exact ih _ (by rw [setS_len]; exact hx)
theorem slack_L (H : OkS s N) {r : List Int} (hr : r.length = N) : EvQ (fun n => spec_l18Slacks_L1 s r n r 0) (fun o => o.1.length = N) := by
  have h12 := H.n12
  have hN := H.len
  have := down (P := fun j => ∀ x : List Int, x.length = N → EvQ (fun n => spec_l18Slacks_L1 s r n x (j : Int)) (fun o => o.1.length = N)) N ?_ (fun j hj ih x hx => ?_)
  · exact this r hr
  · intro x hx
    refine EvQ.succ ?_
    simp only [spec_l18Slacks_L1, hr]
    exact EvQ.ff (lt_nat_f (Nat.le_refl _)) (EvQ.done hx)
  · refine EvQ.succ ?_
    simp only [spec_l18Slacks_L1, hr]
    refine EvQ.tt (lt_nat_t hj) (EvQ.bindN (idx_nat (by omega)) (EvQ.bindN (idx_nat (by omega)) (EvQ.bindN (idx_nat (by omega)) ?_)))
    rw [w64_succ (by omega)]
    exact ih _ (by rw [setS_len]; exact hx)

theorem borrowed_both (h0 : s.Latches.length ≤ 1048576) (hl : s.Links.length ≤ 1048576) : ∃ (x : List Int) (c : Int), x.length ≤ 12 ∧ Ev (fun n => spec_BorrowedTimes n s) (x, c) ∧ Ev (fun n => impl_BorrowedTimes n s) (x, c) := by
  rcases code_both h0 hl with ⟨c, hc, a, b⟩ | ⟨g, H, hg, a, b⟩
  · refine ⟨[], c, by simp, ?_, ?_⟩
    · unfold spec_BorrowedTimes
      exact Ev.bind a (Ev.tt (by simpa using hc) .done)
    · unfold impl_BorrowedTimes
      refine Ev.bind b (Ev.bind (b := (([] : List Int), (0 : Int))) (Ev.succ ?_) .done)
      simp only [impl_BorrowedTimes_L1]
      exact Ev.ff (by simp) .done
  · obtain ⟨⟨x, i⟩, h1, h2⟩ := borrow_L H (r := tabS s.Latches.length (arrF s g)) tabS_len
    refine ⟨x, 0, by have := H.n12; simp only at h2; omega, ?_, ?_⟩
    · unfold spec_BorrowedTimes
      exact Ev.bind a (Ev.ff rfl (Ev.bind (spec_arr H (by decide) hg) (Ev.bind h1 .done)))
    · unfold impl_BorrowedTimes
      simp only [borrow_eq]
      exact Ev.bind b (Ev.bind h1 .done)

theorem spec_slacks (H : OkS s N) {g : Nat → Int} (hg : Bd N g 2000000) {x : List Int} {i : Int} (h1 : Ev (fun n => spec_l18Slacks_L1 s (tabS N (arrF s g)) n (tabS N (arrF s g)) 0) (x, i)) : Ev (fun n => spec_l18Slacks n s (tabS N g)) x := by
  unfold spec_l18Slacks
  exact Ev.bind (spec_arr H (by decide) hg) (Ev.bind h1 .done)

theorem slacks_both (h0 : s.Latches.length ≤ 1048576) (hl : s.Links.length ≤ 1048576) : ∃ (x : List Int) (c : Int), x.length ≤ 12 ∧ Ev (fun n => spec_LatchSlacks n s) (x, c) ∧ Ev (fun n => impl_LatchSlacks n s) (x, c) := by
  rcases code_both h0 hl with ⟨c, hc, a, b⟩ | ⟨g, H, hg, a, b⟩
  · refine ⟨[], c, by simp, ?_, ?_⟩
    · unfold spec_LatchSlacks
      exact Ev.bind a (Ev.tt (by simpa using hc) .done)
    · unfold impl_LatchSlacks
      refine Ev.bind b (Ev.bind (b := (([] : List Int), (0 : Int))) (Ev.succ ?_) .done)
      simp only [impl_LatchSlacks_L1]
      exact Ev.ff (by simp) .done
  · obtain ⟨⟨x, i⟩, h1, h2⟩ := slack_L H (r := tabS s.Latches.length (arrF s g)) tabS_len
    refine ⟨x, 0, by have := H.n12; simp only at h2; omega, ?_, ?_⟩
    · unfold spec_LatchSlacks
      exact Ev.bind a (Ev.ff rfl (Ev.bind (spec_slacks H hg h1) .done))
    · unfold impl_LatchSlacks
      simp only [slack_eq]
      exact Ev.bind b (Ev.bind h1 .done)

theorem law_LatchArrivals {d : TLatchSystem} (h : rng_LatchSystem d) : Ev (fun n => laws_FnExactLatchArrivals n d) true := by
  unfold laws_FnExactLatchArrivals
  refine Sz.gate (sz_LatchSystem h (by decide) (by decide)) (fun r0 p0 q0 => ?_)
  have hw : w_LatchSystem d ≤ 1048576 := by omega
  have hto := to_LatchSystem hw
  have hw2 := hw
  simp only [w_LatchSystem, w_LatchS, w_LatchLinkS] at hw2
  obtain ⟨x, c, hx, hs, hi⟩ := arrivals_both (s := d) (by omega) (by omega)
  have hwx : w_Int64S x ≤ 1048576 := by simp only [w_Int64S]; omega
  have heq := eq_Int64S hwx
  obtain ⟨⟨k', m1, m2⟩, hm, hm1, hm2⟩ := mark_LatchSystem (a := d) (k := 1) hw (by decide) (by decide)
  simp only at hm1 hm2
  have hmx := mark_Int64S (a := x) (k := 1) hwx (by decide) (by decide)
  have hhx := held_Int64S (k := 1) (m := w_Int64S x) hwx (by decide) (by decide)
  refine Ev.bind hto (Ev.bind hs (Ev.bind hto (Ev.bind hi (Ev.bind (b := false) (Ev.bind heq (Ev.ff rfl (.now (by simp)))) (Ev.ff rfl ?_)))))
  refine Ev.bind hto (Ev.bind (eq_LatchSystem hw) (Ev.ff rfl (Ev.bind hm ?_)))
  refine Ev.bind (b := false) (Ev.ff (by simp; omega) (Ev.bind heq (Ev.ff rfl (.now (by simp))))) (Ev.ff rfl ?_)
  refine Ev.bind hmx (Ev.bind hhx (Ev.ff (by simp; omega) (Ev.ff (by simp) ?_)))
  refine Ev.bind hto (Ev.bind hi (Ev.bind (b := false) (Ev.bind heq (Ev.ff rfl (.now (by simp)))) (Ev.ff rfl ?_)))
  exact Ev.bind hhx (Ev.ff (by simp; omega) (Ev.ff (by simp) .done))

theorem law_BorrowedTimes {d : TLatchSystem} (h : rng_LatchSystem d) : Ev (fun n => laws_FnExactBorrowedTimes n d) true := by
  unfold laws_FnExactBorrowedTimes
  refine Sz.gate (sz_LatchSystem h (by decide) (by decide)) (fun r0 p0 q0 => ?_)
  have hw : w_LatchSystem d ≤ 1048576 := by omega
  have hto := to_LatchSystem hw
  have hw2 := hw
  simp only [w_LatchSystem, w_LatchS, w_LatchLinkS] at hw2
  obtain ⟨x, c, hx, hs, hi⟩ := borrowed_both (s := d) (by omega) (by omega)
  have hwx : w_Int64S x ≤ 1048576 := by simp only [w_Int64S]; omega
  have heq := eq_Int64S hwx
  obtain ⟨⟨k', m1, m2⟩, hm, hm1, hm2⟩ := mark_LatchSystem (a := d) (k := 1) hw (by decide) (by decide)
  simp only at hm1 hm2
  have hmx := mark_Int64S (a := x) (k := 1) hwx (by decide) (by decide)
  have hhx := held_Int64S (k := 1) (m := w_Int64S x) hwx (by decide) (by decide)
  refine Ev.bind hto (Ev.bind hs (Ev.bind hto (Ev.bind hi (Ev.bind (b := false) (Ev.bind heq (Ev.ff rfl (.now (by simp)))) (Ev.ff rfl ?_)))))
  refine Ev.bind hto (Ev.bind (eq_LatchSystem hw) (Ev.ff rfl (Ev.bind hm ?_)))
  refine Ev.bind (b := false) (Ev.ff (by simp; omega) (Ev.bind heq (Ev.ff rfl (.now (by simp))))) (Ev.ff rfl ?_)
  refine Ev.bind hmx (Ev.bind hhx (Ev.ff (by simp; omega) (Ev.ff (by simp) ?_)))
  refine Ev.bind hto (Ev.bind hi (Ev.bind (b := false) (Ev.bind heq (Ev.ff rfl (.now (by simp)))) (Ev.ff rfl ?_)))
  exact Ev.bind hhx (Ev.ff (by simp; omega) (Ev.ff (by simp) .done))

theorem law_LatchSlacks {d : TLatchSystem} (h : rng_LatchSystem d) : Ev (fun n => laws_FnExactLatchSlacks n d) true := by
  unfold laws_FnExactLatchSlacks
  refine Sz.gate (sz_LatchSystem h (by decide) (by decide)) (fun r0 p0 q0 => ?_)
  have hw : w_LatchSystem d ≤ 1048576 := by omega
  have hto := to_LatchSystem hw
  have hw2 := hw
  simp only [w_LatchSystem, w_LatchS, w_LatchLinkS] at hw2
  obtain ⟨x, c, hx, hs, hi⟩ := slacks_both (s := d) (by omega) (by omega)
  have hwx : w_Int64S x ≤ 1048576 := by simp only [w_Int64S]; omega
  have heq := eq_Int64S hwx
  obtain ⟨⟨k', m1, m2⟩, hm, hm1, hm2⟩ := mark_LatchSystem (a := d) (k := 1) hw (by decide) (by decide)
  simp only at hm1 hm2
  have hmx := mark_Int64S (a := x) (k := 1) hwx (by decide) (by decide)
  have hhx := held_Int64S (k := 1) (m := w_Int64S x) hwx (by decide) (by decide)
  refine Ev.bind hto (Ev.bind hs (Ev.bind hto (Ev.bind hi (Ev.bind (b := false) (Ev.bind heq (Ev.ff rfl (.now (by simp)))) (Ev.ff rfl ?_)))))
  refine Ev.bind hto (Ev.bind (eq_LatchSystem hw) (Ev.ff rfl (Ev.bind hm ?_)))
  refine Ev.bind (b := false) (Ev.ff (by simp; omega) (Ev.bind heq (Ev.ff rfl (.now (by simp))))) (Ev.ff rfl ?_)
  refine Ev.bind hmx (Ev.bind hhx (Ev.ff (by simp; omega) (Ev.ff (by simp) ?_)))
  refine Ev.bind hto (Ev.bind hi (Ev.bind (b := false) (Ev.bind heq (Ev.ff rfl (.now (by simp)))) (Ev.ff rfl ?_)))
  exact Ev.bind hhx (Ev.ff (by simp; omega) (Ev.ff (by simp) .done))

end Go.Fw
