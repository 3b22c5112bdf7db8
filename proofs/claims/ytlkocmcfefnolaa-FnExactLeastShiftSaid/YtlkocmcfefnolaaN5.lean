import Derived.Test.YtlkocmcfefnolaaN4
import Derived.Test.YtlkocmcfefnolaaCL
namespace Go.Fw
open Go

variable {s : TLatchSystem} {N : Nat}

theorem impl_times1 (H : OkS s N) {g : Nat → Int} : Ev (fun n => impl_latchTimes_L1 s (tabS N (fun v => (best g v s.Links).isSome)) n (tabS N (fun v => (best g v s.Links).getD 0)) 0) (tabS N (arrF s g), (N : Int)) := by
  have h12 := H.n12
  have hN := H.len
  have := down (P := fun j => Ev (fun n => impl_latchTimes_L1 s (tabS N (fun v => (best g v s.Links).isSome)) n (tabS N (fun v => if v < j then arrF s g v else (best g v s.Links).getD 0)) (j : Int)) (tabS N (arrF s g), (N : Int))) N ?_ (fun j hj ih => ?_)
  · simpa using this
  · refine Ev.succ ?_
    simp only [impl_latchTimes_L1, hN]
    rw [tabS_congr (g := arrF s g) (fun v hv => if_pos hv)]
    exact Ev.ff (lt_nat_f (Nat.le_refl _)) .done
  · refine Ev.succ ?_
    simp only [impl_latchTimes_L1, hN]
    refine Ev.tt (lt_nat_t hj) (Ev.bindN (idx_nat (by omega)) (Ev.bindN (tabS_idxN hj) ?_))
    rw [w64_succ (by omega)]
    cases hb : best g j s.Links with
    | none =>
      refine Ev.tt rfl (Ev.bindN (tabS_idxN hj) ?_)
      rw [tabS_set (g := fun v => if v < j + 1 then arrF s g v else (best g v s.Links).getD 0) (by omega) (by omega) ?_ ?_]
      · exact ih
      · simp only [Int.toNat_natCast]
        rw [if_pos (by omega)]
        unfold arrF
        rw [hb, Option.getD_none, openF_at H hj]
      · intro v _ hne
        rw [Int.toNat_natCast] at hne
        by_cases hv : v < j
        · rw [if_pos hv, if_pos (by omega)]
        · rw [if_neg hv, if_neg (by omega)]
    | some t =>
      refine Ev.ff rfl ?_
      rw [tabS_congr (f := fun v => if v < j then arrF s g v else (best g v s.Links).getD 0) (g := fun v => if v < j + 1 then arrF s g v else (best g v s.Links).getD 0) (fun v _ => ?_)]
      · exact ih
      · by_cases hv : v < j
        · simp only [if_pos hv, if_pos (show v < j + 1 by omega)]
        · simp only [if_neg hv]
          by_cases hv2 : v < j + 1
          · rw [if_pos hv2, show v = j by omega]
            unfold arrF
            rw [hb]
            rfl
          · rw [if_neg hv2]

theorem slackL (H : OkS s N) {r : List Int} (hr : r.length = N) : EvQ (fun n => spec_l18Slacks_L1 s r n r 0) (fun o => o.1.length = N) := by
  have h12 := H.n12
  have hN := H.len
  have := down (P := fun j => ∀ x : List Int, x.length = N → EvQ (fun n => spec_l18Slacks_L1 s r n x (j : Int)) (fun o => o.1.length = N)) N ?_ (fun j hj ih x hx => ?_)
  · exact this r hr
  · intro x hx
    refine EvQ.succ ?_
    simp only [spec_l18Slacks_L1, hr]
    exact EvQ.ff (lt_nat_f (Nat.le_refl _)) (EvQ.done hx)
  · refine EvQ.succ ?_
    simp only [spec_l18Slacks_L1, hr]
    refine EvQ.tt (lt_nat_t hj) (EvQ.bindN (idx_nat (by omega)) (EvQ.bindN (idx_nat (by omega)) (EvQ.bindN (idx_nat (by omega)) ?_)))
    rw [w64_succ (by omega)]
    exact ih _ (by rw [setS_len]; exact hx)

theorem okSys_of (H : OkS s N) : okSys s = true := by
  have hN := H.len
  have h12 := H.n12
  have h60 := H.m60
  simp only [okSys, Bool.and_eq_true, List.all_eq_true, decide_eq_true_eq]
  refine ⟨fun y hy => ?_, fun y hy => ?_, by omega, by omega⟩
  · obtain ⟨j, hj, rfl⟩ := List.getElem_of_mem hy
    have := H.la j hj
    simp only [okLatch, Bool.and_eq_true, inR_iff]
    omega
  · obtain ⟨j, hj, rfl⟩ := List.getElem_of_mem hy
    have := H.li j hj
    simp only [okLink, Bool.and_eq_true, inR_iff]
    omega

theorem times_both (H : OkS s N) : (Ev (fun n => spec_l18Departures n s) ([], false) ∧ Ev (fun n => impl_latchTimes n s) ([], [], 7)) ∨
    ∃ g, Bd N g 2000000 ∧ Ev (fun n => spec_l18Departures n s) (tabS N g, true) ∧ Ev (fun n => impl_latchTimes n s) (tabS N g, tabS N (arrF s g), 0) := by
  have hN := H.len
  have h12 := H.n12
  have h60 := H.m60
  have b := impl_ok (s := s) (by omega) (by omega)
  rw [okSys_of H] at b
  rcases dep_both H with ⟨g, hg, d1, d2⟩ | ⟨d1, d2⟩
  · refine .inr ⟨g, hg, d1, ?_⟩
    unfold impl_latchTimes
    exact Ev.bind b (Ev.ff rfl (Ev.bind d2 (Ev.ff rfl (Ev.bind (impl_arr H (by decide) hg) (Ev.bind (impl_times1 H) .done)))))
  · refine .inl ⟨d1, ?_⟩
    unfold impl_latchTimes
    exact Ev.bind b (Ev.ff rfl (Ev.bind d2 (Ev.tt rfl .done)))

/-! ### Is a system at ease? -/
def neg (y : Int) : Bool := decide (y < 0)

theorem fine_L {x : List Int} (hx : x.length ≤ 1048576) : Ev (fun n => spec_l18Fine_L1 x n 0) (bif x.any neg then .ret false else .nxt (x.length : Int)) := by
  have := down (P := fun j => Ev (fun n => spec_l18Fine_L1 x n (j : Int)) (bif (x.drop j).any neg then .ret false else .nxt (x.length : Int))) x.length ?_ (fun j hj ih => ?_)
  · simpa using this
  · refine Ev.succ ?_
    simp only [spec_l18Fine_L1, List.drop_length]
    exact Ev.ff (lt_nat_f (Nat.le_refl _)) .done
  · refine Ev.succ ?_
    simp only [spec_l18Fine_L1]
    refine Ev.tt (lt_nat_t hj) (Ev.bindN (idx_nat hj) ?_)
    rw [List.drop_eq_getElem_cons hj, List.any_cons, w64_succ (by omega)]
    cases hn : neg x[j]
    · exact Ev.ff hn ih
    · exact Ev.tt hn .done

theorem index_L {x : List Int} (hx : x.length ≤ 1048576) : ∀ (k j : Nat), j + k = x.length → ∃ o, Ev (fun n => slices_IndexFunc_int64_impl_LatchSystem_isRelaxed_1_L1 x n (j : Int)) o ∧
    ((∃ i : Int, 0 ≤ i ∧ o = .ret i ∧ (x.drop j).any neg = true) ∨ (∃ i, o = .nxt i ∧ (x.drop j).any neg = false)) := by
  intro k
  induction k with
  | zero =>
    intro j hj
    refine ⟨.nxt (j : Int), Ev.succ ?_, .inr ⟨_, rfl, by rw [List.drop_eq_nil_of_le (by omega)]; rfl⟩⟩
    simp only [slices_IndexFunc_int64_impl_LatchSystem_isRelaxed_1_L1]
    exact Ev.ff (lt_nat_f (by omega)) .done
  | succ k ih =>
    intro j hj
    have hlt : j < x.length := by omega
    rw [List.drop_eq_getElem_cons hlt, List.any_cons]
    have st : ∀ {o}, (neg x[j] = true → o = .ret (j : Int)) → (neg x[j] = false → Ev (fun n => slices_IndexFunc_int64_impl_LatchSystem_isRelaxed_1_L1 x n ((j + 1 : Nat) : Int)) o) → Ev (fun n => slices_IndexFunc_int64_impl_LatchSystem_isRelaxed_1_L1 x n (j : Int)) o := by
      intro o h1 h2
      refine Ev.succ ?_
      simp only [slices_IndexFunc_int64_impl_LatchSystem_isRelaxed_1_L1, impl_LatchSystem_isRelaxed_1, Option.bind_some]
      refine Ev.tt (lt_nat_t hlt) (Ev.bindN (idx_nat hlt) ?_)
      rw [w64_succ (by omega)]
      cases hn : neg x[j]
      · exact Ev.ff hn (h2 hn)
      · rw [h1 hn]
        exact Ev.tt hn .done
    cases hn : neg x[j]
    · obtain ⟨o, ho, hq⟩ := ih (j + 1) (by omega)
      exact ⟨o, st (fun h => by rw [hn] at h; cases h) (fun _ => ho), hq⟩
    · exact ⟨.ret (j : Int), st (fun _ => rfl) (fun h => by rw [hn] at h; cases h), .inl ⟨_, by omega, rfl, rfl⟩⟩

theorem contains {x : List Int} (hx : x.length ≤ 1048576) : Ev (fun n => slices_ContainsFunc_int64_impl_LatchSystem_isRelaxed_1 n x) (x.any neg) := by
  unfold slices_ContainsFunc_int64_impl_LatchSystem_isRelaxed_1 slices_IndexFunc_int64_impl_LatchSystem_isRelaxed_1
  obtain ⟨o, ho, hq⟩ := index_L hx x.length 0 (by omega)
  rw [List.drop_zero] at hq
  rcases hq with ⟨i, hi, rfl, h⟩ | ⟨i, rfl, h⟩
  · rw [h]
    exact Ev.bind (Ev.bind ho .done) (.now (by simp; omega))
  · rw [h]
    exact Ev.bind (Ev.bind ho .done) (.now (by decide))

theorem slackI_eq (s : TLatchSystem) (r x : List Int) (n : Nat) (i : Int) : impl_LatchSlacks_L1 s r n x i = spec_l18Slacks_L1 s r n x i := by
  induction n generalizing x i with
  | zero => rfl
  | succ n ih => simp only [impl_LatchSlacks_L1, spec_l18Slacks_L1, ih]

theorem fine_both (H : OkS s N) : ∃ b : Bool, Ev (fun n => spec_l18Fine n s) b ∧ Ev (fun n => impl_LatchSystem_isRelaxed n s) b := by
  have h12 := H.n12
  rcases times_both H with ⟨a, b⟩ | ⟨g, hg, a, b⟩
  · refine ⟨false, ?_, ?_⟩
    · unfold spec_l18Fine
      exact Ev.bind a (Ev.tt rfl .done)
    · unfold impl_LatchSystem_isRelaxed impl_LatchSlacks
      refine Ev.bind (Ev.bind b (Ev.bind (b := (([] : List Int), (0 : Int))) (Ev.succ ?_) .done)) (Ev.ff rfl .done)
      simp only [impl_LatchSlacks_L1]
      exact Ev.ff (by simp) .done
  · obtain ⟨⟨x, i⟩, h1, h2⟩ := slackL H (r := tabS N (arrF s g)) tabS_len
    simp only at h2
    refine ⟨!x.any neg, ?_, ?_⟩
    · unfold spec_l18Fine
      refine Ev.bind a (Ev.ff rfl (Ev.bind (b := x) ?_ (Ev.bind (fine_L (by omega)) ?_)))
      · unfold spec_l18Slacks
        exact Ev.bind (spec_arr H (by decide) hg) (Ev.bind h1 .done)
      · cases x.any neg <;> exact .done
    · unfold impl_LatchSystem_isRelaxed impl_LatchSlacks
      simp only [slackI_eq]
      exact Ev.bind (Ev.bind b (Ev.bind h1 .done)) (Ev.tt rfl (Ev.bind (contains (x := x) (by omega)) .done))

/-! ### Shifted systems -/
def shL (b : Int) (l : TLatchLink) : TLatchLink := { l with Shift := l.Shift + b }
def shS (s : TLatchSystem) (b : Int) : TLatchSystem := ⟨s.Latches, s.Links.map (shL b)⟩
def Room (s : TLatchSystem) (b : Int) : Prop := 0 ≤ b ∧ b ≤ 100000 ∧ ∀ j (h : j < s.Links.length), s.Links[j].Shift + b ≤ 100000

theorem okS_sh (H : OkS s N) {b : Int} (hb : Room s b) : OkS (shS s b) N := by
  refine ⟨H.len, H.n12, by simpa [shS] using H.m60, H.la, fun j hj => ?_⟩
  have hj' : j < s.Links.length := by simpa [shS] using hj
  have h1 := H.li j hj'
  have h2 := hb.2.2 j hj'
  have h3 := hb.1
  have e : (shS s b).Links[j] = shL b s.Links[j] := by simp [shS]
  rw [e]
  show 0 ≤ s.Links[j].From ∧ s.Links[j].From < N ∧ 0 ≤ s.Links[j].To ∧ s.Links[j].To < N ∧ 0 ≤ s.Links[j].Delay ∧ s.Links[j].Delay ≤ 100000 ∧ 0 ≤ s.Links[j].Shift + b ∧ s.Links[j].Shift + b ≤ 100000
  omega

def shF (s : TLatchSystem) (b : Int) (j : Nat) : TLatchLink := shL b (s.Links[j]?.getD ⟨0, 0, 0, 0⟩)
theorem shF_all {b : Int} : (List.range s.Links.length).map (shF s b) = s.Links.map (shL b) := by
  refine List.ext_getElem? fun i => ?_
  by_cases hi : i < s.Links.length
  · rw [List.getElem?_map, List.getElem?_range hi, List.getElem?_map, List.getElem?_eq_getElem hi]
    simp [shF, hi]
  · rw [List.getElem?_eq_none (by simp; omega), List.getElem?_eq_none (by simp; omega)]

theorem spec_sh (H : OkS s N) {b : Int} (hb : Room s b) : Ev (fun n => spec_l18Shifted n s b) (shS s b) := by
  have hN := H.len
  have h12 := H.n12
  have h60 := H.m60
  have hr1 := hb.1
  have hr2 := hb.2.1
  unfold spec_l18Shifted
  have e1 : appS ([] : List TLatch) s.Latches = some s.Latches := by unfold appS big; rw [if_pos (by simp; omega)]; rfl
  have e2 : appS ([] : List TLatchLink) s.Links = some s.Links := by unfold appS big; rw [if_pos (by simp; omega)]; rfl
  refine Ev.bindN e1 (Ev.bindN e2 (Ev.bind (b := (s.Links.map (shL b), (s.Links.length : Int))) ?_ .done))
  have := down (P := fun j => Ev (fun n => spec_l18Shifted_L1 s b n (mixS (shF s b) s.Links j) (j : Int)) (s.Links.map (shL b), (s.Links.length : Int))) s.Links.length ?_ (fun j hj ih => ?_)
  · simpa [mixS_zero] using this
  · refine Ev.succ ?_
    simp only [spec_l18Shifted_L1, mixS_full, shF_all, List.length_nil, Nat.zero_add]
    exact Ev.ff (lt_nat_f (Nat.le_refl _)) .done
  · have hl := H.li j hj
    refine Ev.succ ?_
    simp only [spec_l18Shifted_L1, List.length_nil, Nat.zero_add]
    refine Ev.tt (lt_nat_t hj) (Ev.bindN (mixS_at hj) (Ev.bindN (mixS_at hj) ?_))
    have e := mixS_set (f := shF s b) hj
    have e3 : shF s b j = { s.Links[j] with Shift := W64 (s.Links[j].Shift + b) } := by
      rw [w64_of (by omega) (by omega)]
      simp [shF, shL, hj]
    rw [e3] at e
    rw [w64_succ (by omega), e]
    exact ih

theorem impl_sh (H : OkS s N) {b : Int} (hb : Room s b) : Ev (fun n => impl_LatchSystem_shifted n s b) (shS s b) := by
  have hN := H.len
  have h12 := H.n12
  have h60 := H.m60
  have hr1 := hb.1
  have hr2 := hb.2.1
  unfold impl_LatchSystem_shifted slices_Clone_impl_Latch slices_Clone_impl_LatchLink
  have e1 : appS ([] : List TLatch) s.Latches = some s.Latches := by unfold appS big; rw [if_pos (by simp; omega)]; rfl
  have e2 : appS ([] : List TLatchLink) s.Links = some s.Links := by unfold appS big; rw [if_pos (by simp; omega)]; rfl
  refine Ev.bindN e1 (Ev.bindN e2 (Ev.bind (b := (s.Links.map (shL b), (s.Links.length : Int))) ?_ .done))
  have := down (P := fun j => Ev (fun n => impl_LatchSystem_shifted_L1 b s.Links n (mixS (shF s b) s.Links j) (j : Int)) (s.Links.map (shL b), (s.Links.length : Int))) s.Links.length ?_ (fun j hj ih => ?_)
  · simpa [mixS_zero] using this
  · refine Ev.succ ?_
    simp only [impl_LatchSystem_shifted_L1, mixS_full, shF_all]
    exact Ev.ff (lt_nat_f (Nat.le_refl _)) .done
  · have hl := H.li j hj
    refine Ev.succ ?_
    simp only [impl_LatchSystem_shifted_L1]
    refine Ev.tt (lt_nat_t hj) (Ev.bindN (mixS_at hj) (Ev.bindN (mixS_at hj) ?_))
    have e := mixS_set (f := shF s b) hj
    have e3 : shF s b j = { s.Links[j] with Shift := W64 (s.Links[j].Shift + b) } := by
      rw [w64_of (by omega) (by omega)]
      simp [shF, shL, hj]
    rw [e3] at e
    rw [w64_succ (by omega), e]
    exact ih

/-! ### How much room there is -/
theorem room_eq (s : TLatchSystem) (n : Nat) (r i : Int) : impl_LatchSystem_room_L1 s n r i = spec_l18Room_L1 s n r i := by
  induction n generalizing r i with
  | zero => rfl
  | succ n ih => simp only [impl_LatchSystem_room_L1, spec_l18Room_L1, ih]

theorem room_both (H : OkS s N) : ∃ b, Room s b ∧ Ev (fun n => spec_l18Room n s) b ∧ Ev (fun n => impl_LatchSystem_room n s) b := by
  have h60 := H.m60
  have key := down (P := fun j => ∀ r : Int, 0 ≤ r → r ≤ 100000 → (∀ i (h : i < s.Links.length), i < j → s.Links[i].Shift + r ≤ 100000) → EvQ (fun n => spec_l18Room_L1 s n r (j : Int)) (fun o => Room s o.1)) s.Links.length ?_ (fun j hj ih r h0 h1 h2 => ?_)
  · obtain ⟨⟨b, i⟩, h1, h2⟩ := key 100000 (by decide) (by decide) (fun i _ h => absurd h (Nat.not_lt_zero _))
    refine ⟨b, h2, ?_, ?_⟩
    · unfold spec_l18Room
      exact Ev.bind h1 .done
    · unfold impl_LatchSystem_room
      simp only [room_eq]
      exact Ev.bind h1 .done
  · intro r h0 h1 h2
    refine EvQ.succ ?_
    simp only [spec_l18Room_L1]
    exact EvQ.ff (lt_nat_f (Nat.le_refl _)) (EvQ.done ⟨h0, h1, fun j h => h2 j h h⟩)
  · have hl := H.li j hj
    refine EvQ.succ ?_
    simp only [spec_l18Room_L1]
    refine EvQ.tt (lt_nat_t hj) (EvQ.bindN (idx_nat hj) ?_)
    rw [w64_succ (by omega), w64_of (by omega) (by omega)]
    refine ih _ ?_ ?_ ?_
    · split <;> omega
    · split <;> omega
    · intro i hi hij
      by_cases he : i = j
      · subst he
        split <;> omega
      · have := h2 i hi (by omega)
        split <;> omega

theorem Room.less {b c : Int} (h : Room s b) (h0 : 0 ≤ c) (h1 : c ≤ b) : Room s c := ⟨h0, by have := h.2.1; omega, fun j hj => by have := h.2.2 j hj; omega⟩

theorem search_both (H : OkS s N) {b : Int} (hb : Room s b) : ∀ (k : Nat) (i j : Int), 0 ≤ i → i ≤ j → j ≤ b → j - i ≤ k →
    ∃ o, Ev (fun n => spec_LeastShift_L1 s n i j) o ∧ Ev (fun n => impl_LeastShift_L1 s n i j) o := by
  have hb2 := hb.2.1
  intro k
  induction k with
  | zero =>
    intro i j h0 h1 h2 h3
    refine ⟨(i, j), Ev.succ ?_, Ev.succ ?_⟩
    · simp only [spec_LeastShift_L1]
      exact Ev.ff (by simp; omega) .done
    · simp only [impl_LeastShift_L1]
      exact Ev.ff (by simp; omega) .done
  | succ k ih =>
    intro i j h0 h1 h2 h3
    by_cases hlt : i < j
    · have em : W64 ((W64 (i + j)).tdiv 2) = (i + j) / 2 := by
        rw [w64_of (x := i + j) (by omega) (by omega), Int.tdiv_eq_ediv_of_nonneg (by omega), w64_of (by omega) (by omega)]
      have em1 : W64 ((i + j) / 2 + 1) = (i + j) / 2 + 1 := w64_of (by omega) (by omega)
      have hr : Room s ((i + j) / 2) := hb.less (by omega) (by omega)
      obtain ⟨f, f1, f2⟩ := fine_both (okS_sh H hr)
      cases f with
      | true =>
        obtain ⟨o, o1, o2⟩ := ih i ((i + j) / 2) h0 (by omega) (by omega) (by omega)
        refine ⟨o, Ev.succ ?_, Ev.succ ?_⟩
        · simp only [spec_LeastShift_L1, em, em1]
          exact Ev.tt (by simpa using hlt) (Ev.bind (spec_sh H hr) (Ev.bind f1 (Ev.tt rfl o1)))
        · simp only [impl_LeastShift_L1, em, em1]
          exact Ev.tt (by simpa using hlt) (Ev.bind (impl_sh H hr) (Ev.bind f2 (Ev.tt rfl o2)))
      | false =>
        obtain ⟨o, o1, o2⟩ := ih ((i + j) / 2 + 1) j (by omega) (by omega) (by omega) (by omega)
        refine ⟨o, Ev.succ ?_, Ev.succ ?_⟩
        · simp only [spec_LeastShift_L1, em, em1]
          exact Ev.tt (by simpa using hlt) (Ev.bind (spec_sh H hr) (Ev.bind f1 (Ev.ff rfl o1)))
        · simp only [impl_LeastShift_L1, em, em1]
          exact Ev.tt (by simpa using hlt) (Ev.bind (impl_sh H hr) (Ev.bind f2 (Ev.ff rfl o2)))
    · refine ⟨(i, j), Ev.succ ?_, Ev.succ ?_⟩
      · simp only [spec_LeastShift_L1]
        exact Ev.ff (by simpa using hlt) .done
      · simp only [impl_LeastShift_L1]
        exact Ev.ff (by simpa using hlt) .done

theorem leastShift_both (h0 : s.Latches.length ≤ 1048576) (hl : s.Links.length ≤ 1048576) : ∃ r, Ev (fun n => spec_LeastShift n s) r ∧ Ev (fun n => impl_LeastShift n s) r := by
  have a := spec_ok h0 hl
  have b := impl_ok h0 hl
  cases hok : okSys s with
  | false =>
    rw [hok] at a b
    refine ⟨(0, 1), ?_, ?_⟩
    · unfold spec_LeastShift
      exact Ev.bind a (Ev.tt rfl .done)
    · unfold impl_LeastShift
      exact Ev.bind b (Ev.tt rfl .done)
  | true =>
    rw [hok] at a b
    have H := okS_of hok
    obtain ⟨r, hr, r1, r2⟩ := room_both H
    obtain ⟨f, f1, f2⟩ := fine_both (okS_sh H hr)
    cases f with
    | false =>
      refine ⟨(0, 4), ?_, ?_⟩
      · unfold spec_LeastShift
        exact Ev.bind a (Ev.ff rfl (Ev.bind r1 (Ev.bind (spec_sh H hr) (Ev.bind f1 (Ev.tt rfl .done)))))
      · unfold impl_LeastShift
        exact Ev.bind b (Ev.ff rfl (Ev.bind r2 (Ev.bind (impl_sh H hr) (Ev.bind f2 (Ev.tt rfl .done)))))
    | true =>
      have hr1 := hr.1
      have hr2 := hr.2.1
      obtain ⟨⟨i, j⟩, o1, o2⟩ := search_both H hr 100000 0 r (by omega) (by omega) (by omega) (by omega)
      refine ⟨(i, 0), ?_, ?_⟩
      · unfold spec_LeastShift
        exact Ev.bind a (Ev.ff rfl (Ev.bind r1 (Ev.bind (spec_sh H hr) (Ev.bind f1 (Ev.ff rfl (Ev.bind o1 .done))))))
      · unfold impl_LeastShift
        exact Ev.bind b (Ev.ff rfl (Ev.bind r2 (Ev.bind (impl_sh H hr) (Ev.bind f2 (Ev.ff rfl (Ev.bind o2 .done))))))

theorem law_LeastShift {d : TLatchSystem} (h : rng_LatchSystem d) : Ev (fun n => laws_FnExactLeastShift n d) true := by
  unfold laws_FnExactLeastShift
  refine Sz.gate (sz_LatchSystem h (by decide) (by decide)) (fun r0 p0 q0 => ?_)
  have hw : w_LatchSystem d ≤ 1048576 := by omega
  have hto := to_LatchSystem hw
  have hw2 := hw
  simp only [w_LatchSystem, w_LatchS, w_LatchLinkS] at hw2
  obtain ⟨⟨x, c⟩, hs, hi⟩ := leastShift_both (s := d) (by omega) (by omega)
  refine Ev.bind hto (Ev.bind hs (Ev.bind hto (Ev.bind hi (Ev.bind (b := false) (Ev.ff (by simp) (.now (by simp))) (Ev.ff rfl ?_)))))
  exact Ev.bind hto (Ev.bind (eq_LatchSystem hw) (Ev.ff rfl .done))

end Go.Fw
