import Derived.Test.YtlkocmcfefnolaaN3
namespace Go.Fw
open Go

variable {s : TLatchSystem} {N : Nat}

/-! ### Departures -/
/-- The times of the program's own loop: the old time, or a later arrival. -/
def impF (s : TLatchSystem) (f : Nat → Int) (v : Nat) : Int := comb (best f v s.Links) (f v)
def newer (s : TLatchSystem) (f : Nat → Int) (v : Nat) : Bool := match best f v s.Links with | none => false | some t => decide (t > f v)

theorem impF_new {f : Nat → Int} {v : Nat} : impF s f v = if newer s f v then (best f v s.Links).getD 0 else f v := by
  unfold impF newer comb
  cases best f v s.Links with
  | none => rfl
  | some t => by_cases h : t > f v <;> simp [h]

theorem impl_dep3 (h12 : N ≤ 12) (hN : s.Latches.length = N) {f : Nat → Int} :
    Ev (fun n => impl_LatchSystem_departures_L3 s (tabS N (fun v => (best f v s.Links).getD 0)) (tabS N (fun v => (best f v s.Links).isSome)) n (tabS N f) false 0) (tabS N (impF s f), (List.range N).any (newer s f), (N : Int)) := by
  have := down (P := fun j => Ev (fun n => impl_LatchSystem_departures_L3 s (tabS N (fun v => (best f v s.Links).getD 0)) (tabS N (fun v => (best f v s.Links).isSome)) n (tabS N (fun v => if v < j then impF s f v else f v)) ((List.range j).any (newer s f)) (j : Int))
    (tabS N (impF s f), (List.range N).any (newer s f), (N : Int))) N ?_ (fun j hj ih => ?_)
  · simpa using this
  · refine Ev.succ ?_
    simp only [impl_LatchSystem_departures_L3, hN, Int.toNat_natCast]
    rw [tabS_congr (g := impF s f) (fun v hv => if_pos hv)]
    exact Ev.ff (lt_nat_f (Nat.le_refl _)) .done
  · refine Ev.succ ?_
    simp only [impl_LatchSystem_departures_L3, hN, Int.toNat_natCast]
    refine Ev.tt (lt_nat_t hj) (Ev.bind (b := newer s f j) (Ev.bindN (tabS_idxN hj) ?_) ?_)
    · unfold newer
      cases hb : best f j s.Links with
      | none => exact Ev.ff rfl .done
      | some t =>
        refine Ev.tt rfl (Ev.bindN (tabS_idxN hj) (Ev.bindN (tabS_idxN hj) ?_))
        simp only [Nat.lt_irrefl, if_false, hb, Option.getD_some]
        exact .done
    · rw [w64_succ (by omega)]
      have e1 : (List.range (j + 1)).any (newer s f) = ((List.range j).any (newer s f) || newer s f j) := by rw [List.range_succ, List.any_append]; simp
      rw [e1] at ih
      cases hn : newer s f j with
      | true =>
        rw [hn, Bool.or_true] at ih
        refine Ev.tt rfl (Ev.bindN (tabS_idxN hj) (Ev.bindN (tabS_idxN hj) ?_))
        rw [tabS_set (g := fun v => if v < j + 1 then impF s f v else f v) (by omega) (by omega) ?_ ?_]
        · exact ih
        · simp only [Int.toNat_natCast]
          rw [if_pos (by omega), impF_new, if_pos hn]
        · intro v _ hne
          rw [Int.toNat_natCast] at hne
          by_cases hv : v < j
          · rw [if_pos hv, if_pos (by omega)]
          · rw [if_neg hv, if_neg (by omega)]
      | false =>
        rw [hn, Bool.or_false] at ih
        refine Ev.ff rfl ?_
        rw [tabS_congr (f := fun v => if v < j then impF s f v else f v) (g := fun v => if v < j + 1 then impF s f v else f v) (fun v _ => ?_)]
        · exact ih
        · by_cases hv : v < j
          · simp only [if_pos hv, if_pos (show v < j + 1 by omega)]
          · simp only [if_neg hv]
            by_cases hv2 : v < j + 1
            · rw [if_pos hv2, show v = j by omega, impF_new, hn]; rfl
            · rw [if_neg hv2]

theorem impl_dep1 (H : OkS s N) : Ev (fun n => impl_LatchSystem_departures_L1 s n (tabS N (fun _ => (0 : Int))) 0) (tabS N (openF s), (N : Int)) := by
  have h12 := H.n12
  have hN := H.len
  have := down (P := fun j => Ev (fun n => impl_LatchSystem_departures_L1 s n (tabS N (fun v => if v < j then openF s v else 0)) (j : Int)) (tabS N (openF s), (N : Int))) N ?_ (fun j hj ih => ?_)
  · simpa using this
  · refine Ev.succ ?_
    simp only [impl_LatchSystem_departures_L1, hN]
    rw [tabS_congr (g := openF s) (fun v hv => if_pos hv)]
    exact Ev.ff (lt_nat_f (Nat.le_refl _)) .done
  · refine Ev.succ ?_
    simp only [impl_LatchSystem_departures_L1, hN]
    refine Ev.tt (lt_nat_t hj) (Ev.bindN (idx_nat (by omega)) (Ev.bindN (tabS_idxN hj) ?_))
    rw [w64_succ (by omega), tabS_set (g := fun v => if v < j + 1 then openF s v else 0) (by omega) (by omega) ?_ ?_]
    · exact ih
    · simp only [Int.toNat_natCast]
      rw [if_pos (by omega), openF_at H hj]
    · intro v _ hne
      rw [Int.toNat_natCast] at hne
      by_cases hv : v < j
      · rw [if_pos hv, if_pos (by omega)]
      · rw [if_neg hv, if_neg (by omega)]

/-! What a round does to times that only grow. -/
def Le (N : Nat) (f g : Nat → Int) : Prop := ∀ v, v < N → f v ≤ g v
def LeO : Option Int → Option Int → Prop
  | none, none => True
  | some a, some b => a ≤ b
  | _, _ => False
theorem lv_mono {f g : Nat → Int} (h : Le N f g) {l : TLatchLink} (hl : l.From.toNat < N) : lv f l ≤ lv g l := by
  have := h _ hl
  unfold lv
  omega
theorem best_mono {f g : Nat → Int} (h : Le N f g) (v : Nat) : ∀ (ls : List TLatchLink) (o o' : Option Int), (∀ l ∈ ls, l.From.toNat < N) → LeO o o' → LeO (ls.foldl (bestStep f v) o) (ls.foldl (bestStep g v) o')
  | [], _, _, _, ho => ho
  | l :: ls, o, o', hl, ho => by
    refine best_mono h v ls _ _ (fun x hx => hl x (List.mem_cons_of_mem _ hx)) ?_
    have hm := lv_mono h (hl l (List.mem_cons_self ..))
    unfold bestStep
    split
    · cases o <;> cases o' <;> simp only [LeO] at ho ⊢
      · exact hm
      · split <;> split <;> omega
    · exact ho
theorem best_bd {f : Nat → Int} {B : Int} (hf : ∀ u, u < N → f u ≤ B) (v : Nat) : ∀ (ls : List TLatchLink) (o : Option Int), (∀ l ∈ ls, l.From.toNat < N ∧ l.Delay ≤ 100000 ∧ 0 ≤ l.Shift) → (∀ t, o = some t → t ≤ B + 100000) → ∀ t, ls.foldl (bestStep f v) o = some t → t ≤ B + 100000
  | [], _, _, ho => ho
  | l :: ls, o, hl, ho => by
    refine best_bd hf v ls _ (fun x hx => hl x (List.mem_cons_of_mem _ hx)) ?_
    intro t ht
    have h1 := hl l (List.mem_cons_self ..)
    have h2 := hf _ h1.1
    unfold bestStep at ht
    split at ht
    · simp only [Option.some.injEq] at ht
      have hlv : lv f l ≤ B + 100000 := by unfold lv; omega
      cases o with
      | none => simp only at ht; omega
      | some m =>
        have := ho m rfl
        simp only at ht
        split at ht <;> omega
    · exact ho t ht

theorem links_ok (H : OkS s N) : ∀ l ∈ s.Links, l.From.toNat < N ∧ l.Delay ≤ 100000 ∧ 0 ≤ l.Shift := by
  intro l hl
  obtain ⟨j, hj, rfl⟩ := List.getElem_of_mem hl
  have := H.li j hj
  omega

theorem stepF_mono (H : OkS s N) {f g : Nat → Int} (h : Le N f g) : Le N (stepF s f) (stepF s g) := by
  intro v _
  have := best_mono h v s.Links none none (fun l hl => (links_ok H l hl).1) trivial
  unfold stepF best comb
  revert this
  cases List.foldl (bestStep f v) none s.Links <;> cases List.foldl (bestStep g v) none s.Links <;> intro this <;> simp only [LeO] at this
  · exact Int.le_refl _
  · simp only
    split <;> split <;> omega
theorem stepF_ge {f : Nat → Int} : Le N (openF s) (stepF s f) := by
  intro v _
  unfold stepF comb
  split
  · exact Int.le_refl _
  · split <;> omega
theorem stepF_bd (H : OkS s N) {f : Nat → Int} {B : Int} (h0 : 0 ≤ B) (hf : Bd N f B) : Bd N (stepF s f) (B + 100000) := by
  intro v hv
  have h1 := openF_ge H hv
  have h2 := stepF_ge (s := s) (f := f) v hv
  refine ⟨by omega, ?_⟩
  have h3 := best_bd (N := N) (fun u hu => (hf u hu).2) v s.Links none (links_ok H) (fun t ht => by cases ht)
  unfold stepF comb best
  cases hb : List.foldl (bestStep f v) none s.Links with
  | none => simp only; omega
  | some t =>
    have := h3 t hb
    simp only
    split <;> omega

theorem imp_step {f : Nat → Int} (h1 : Le N (openF s) f) (h2 : Le N f (stepF s f)) : ∀ v, v < N → impF s f v = stepF s f v := by
  intro v hv
  have a := h1 v hv
  have b := h2 v hv
  unfold stepF at b ⊢
  unfold impF
  revert b
  cases best f v s.Links with
  | none => simp only [comb]; intro b; omega
  | some t => simp only [comb]; split <;> split <;> intro b <;> omega

theorem newer_iff {f : Nat → Int} {v : Nat} : newer s f v = true ↔ impF s f v ≠ f v := by
  unfold newer impF comb
  cases best f v s.Links with
  | none => simp
  | some t => by_cases h : t > f v <;> simp [h]; omega

theorem any_newer {f : Nat → Int} (h1 : Le N (openF s) f) (h2 : Le N f (stepF s f)) : (List.range N).any (newer s f) = !sameB N (stepF s f) f := by
  rw [Bool.eq_iff_iff]
  simp only [List.any_eq_true, List.mem_range, newer_iff, Bool.not_eq_true', ← Bool.not_eq_true, sameB_iff]
  constructor
  · rintro ⟨v, hv, hne⟩ hall
    exact hne (by rw [imp_step h1 h2 v hv]; exact hall v hv)
  · intro h
    by_cases hx : ∃ v, v < N ∧ impF s f v ≠ f v
    · exact hx
    · exact absurd (fun v hv => by
        rw [← imp_step h1 h2 v hv]
        exact Decidable.byContradiction fun hne => hx ⟨v, hv, hne⟩) h

theorem dep_loops (H : OkS s N) : ∀ (k i : Nat) (f : Nat → Int), i + k = N + 1 → Bd N f (100000 * ((i : Int) + 1)) → Le N (openF s) f → Le N f (stepF s f) →
    (∃ g, Bd N g 2000000 ∧ Ev (fun n => spec_l18Departures_L1 s n (tabS N f) (i : Int)) (.ret (tabS N g, true)) ∧ Ev (fun n => impl_LatchSystem_departures_L2 s n (tabS N f) (i : Int)) (.ret (tabS N g, true))) ∨
    (∃ a b, Ev (fun n => spec_l18Departures_L1 s n (tabS N f) (i : Int)) (.nxt a) ∧ Ev (fun n => impl_LatchSystem_departures_L2 s n (tabS N f) (i : Int)) (.nxt b)) := by
  have h12 := H.n12
  have hN := H.len
  have eN : W64 ((N : Int) + 1) = ((N + 1 : Nat) : Int) := w64_succ (by omega)
  intro k
  induction k with
  | zero =>
    intro i f hi hf h1 h2
    refine .inr ⟨(tabS N f, (i : Int)), (tabS N f, (i : Int)), Ev.succ ?_, Ev.succ ?_⟩
    · simp only [spec_l18Departures_L1, hN]
      exact Ev.ff (by simp; omega) .done
    · simp only [impl_LatchSystem_departures_L2, hN, Int.toNat_natCast, eN]
      exact Ev.ff (lt_nat_f (by omega)) .done
  | succ k ih =>
    intro i f hi hf h1 h2
    have hspec := spec_step H (B := 100000 * ((i : Int) + 1)) (by omega) hf
    have hsame := spec_same (f := stepF s f) (g := f) h12
    have hia := impl_arr H (B := 100000 * ((i : Int) + 1)) (by omega) hf
    have hi3 := impl_dep3 h12 hN (f := f)
    rw [any_newer h1 h2] at hi3
    cases hb : sameB N (stepF s f) f with
    | true =>
      rw [hb] at hsame hi3
      refine .inl ⟨f, fun v hv => ⟨(hf v hv).1, by have := (hf v hv).2; omega⟩, Ev.succ ?_, Ev.succ ?_⟩
      · simp only [spec_l18Departures_L1, hN]
        exact Ev.tt (by simp; omega) (Ev.bind hspec (Ev.bind hsame (Ev.tt rfl .done)))
      · simp only [impl_LatchSystem_departures_L2, hN, Int.toNat_natCast, eN]
        refine Ev.tt (lt_nat_t (by omega)) (Ev.bind hia (Ev.bind hi3 (Ev.tt rfl ?_)))
        rw [tabS_congr (f := impF s f) (g := f) (fun v hv => by rw [imp_step h1 h2 v hv]; exact sameB_iff.1 hb v hv)]
        exact .done
    | false =>
      rw [hb] at hsame hi3
      have e := tabS_congr (imp_step h1 h2)
      rw [e] at hi3
      have ih' := ih (i + 1) (stepF s f) (by omega) (by
        have := stepF_bd H (B := 100000 * ((i : Int) + 1)) (by omega) hf
        intro v hv
        have := this v hv
        omega) stepF_ge (stepF_mono H h2)
      have a1 : ∀ {r}, Ev (fun n => spec_l18Departures_L1 s n (tabS N (stepF s f)) ((i + 1 : Nat) : Int)) r → Ev (fun n => spec_l18Departures_L1 s n (tabS N f) (i : Int)) r := by
        intro r hr
        refine Ev.succ ?_
        simp only [spec_l18Departures_L1, hN]
        refine Ev.tt (by simp; omega) (Ev.bind hspec (Ev.bind hsame (Ev.ff rfl ?_)))
        rw [w64_succ (by omega)]
        exact hr
      have a2 : ∀ {r}, Ev (fun n => impl_LatchSystem_departures_L2 s n (tabS N (stepF s f)) ((i + 1 : Nat) : Int)) r → Ev (fun n => impl_LatchSystem_departures_L2 s n (tabS N f) (i : Int)) r := by
        intro r hr
        refine Ev.succ ?_
        simp only [impl_LatchSystem_departures_L2, hN, Int.toNat_natCast, eN]
        refine Ev.tt (lt_nat_t (by omega)) (Ev.bind hia (Ev.bind hi3 (Ev.ff rfl ?_)))
        rw [w64_succ (by omega)]
        exact hr
      rcases ih' with ⟨g, hg, b1, b2⟩ | ⟨a, b, b1, b2⟩
      · exact .inl ⟨g, hg, a1 b1, a2 b2⟩
      · exact .inr ⟨a, b, a1 b1, a2 b2⟩

theorem dep_both (H : OkS s N) : (∃ g, Bd N g 2000000 ∧ Ev (fun n => spec_l18Departures n s) (tabS N g, true) ∧ Ev (fun n => impl_LatchSystem_departures n s) (tabS N g, true)) ∨
    (Ev (fun n => spec_l18Departures n s) ([], false) ∧ Ev (fun n => impl_LatchSystem_departures n s) ([], false)) := by
  have hb : Bd N (openF s) (100000 * (((0 : Nat) : Int) + 1)) := fun v hv => by have := openF_ge H hv; omega
  rcases dep_loops H (N + 1) 0 (openF s) (by omega) hb (fun v _ => Int.le_refl _) stepF_ge with ⟨g, hg, b1, b2⟩ | ⟨a, b, b1, b2⟩
  · refine .inl ⟨g, hg, ?_, ?_⟩
    · unfold spec_l18Departures
      exact Ev.bind (spec_opens H) (Ev.bind b1 .done)
    · unfold impl_LatchSystem_departures
      exact Ev.bindN (mkS_tab (by rw [H.len]) H.n12) (Ev.bind (impl_dep1 H) (Ev.bind b2 .done))
  · refine .inr ⟨?_, ?_⟩
    · unfold spec_l18Departures
      exact Ev.bind (spec_opens H) (Ev.bind b1 .done)
    · unfold impl_LatchSystem_departures
      exact Ev.bindN (mkS_tab (by rw [H.len]) H.n12) (Ev.bind (impl_dep1 H) (Ev.bind b2 .done))

end Go.Fw
