import Derived.Test.YtlkocmcfefnolaaN2
namespace Go.Fw
open Go

variable {s : TLatchSystem} {N : Nat}

/-! ### Arrivals -/
def arrF (s : TLatchSystem) (f : Nat → Int) (v : Nat) : Int := (best f v s.Links).getD (openF s v)

theorem mkS_tab {α : Type} {m : Int} {z : α} (hm : m = (N : Int)) (h12 : N ≤ 12) : mkS m z = some (tabS N (fun _ => z)) := by
  subst hm
  unfold mkS big
  rw [if_pos ⟨by omega, by omega⟩]
  refine congrArg some (List.ext_getElem? fun v => ?_)
  by_cases hv : v < N
  · rw [tabS_at hv]; simp [hv]
  · rw [List.getElem?_eq_none (by simp; omega), List.getElem?_eq_none (by rw [tabS_len]; omega)]

theorem spec_arr (H : OkS s N) {f : Nat → Int} {B : Int} (hB : B ≤ 100000000) (hf : Bd N f B) : Ev (fun n => spec_l18Arrivals n s (tabS N f)) (tabS N (arrF s f)) := by
  unfold spec_l18Arrivals
  have h60 := H.m60
  refine Ev.bind (spec_opens H) (Ev.bindN (mkS_tab (by rw [tabS_len]) H.n12) (Ev.bind (b := (tabS N (fun v => (best f v s.Links).isSome), tabS N (arrF s f), (s.Links.length : Int))) ?_ .done))
  have := down (P := fun j => Ev (fun n => spec_l18Arrivals_L1 s (tabS N f) n (tabS N (fun v => (best f v (s.Links.take j)).isSome)) (tabS N (fun v => (best f v (s.Links.take j)).getD (openF s v))) (j : Int))
    (tabS N (fun v => (best f v s.Links).isSome), tabS N (arrF s f), (s.Links.length : Int))) s.Links.length ?_ (fun j hj ih => ?_)
  · simpa [best] using this
  · refine Ev.succ ?_
    simp only [spec_l18Arrivals_L1, List.take_length]
    exact Ev.ff (lt_nat_f (Nat.le_refl _)) .done
  · have hli := H.li j hj
    refine Ev.succ ?_
    simp only [spec_l18Arrivals_L1]
    refine Ev.tt (lt_nat_t hj) (Ev.bindN (idx_nat hj) (Ev.bindN (tabS_idx (by omega) (by omega)) (Ev.bindN (tabS_idx (by omega) (by omega)) ?_)))
    rw [w64_succ (by omega), lv_w64 H hB hf hj]
    have e1 : setS (tabS N (fun v => (best f v (s.Links.take j)).isSome)) s.Links[j].To true = tabS N (fun v => (best f v (s.Links.take (j + 1))).isSome) := by
      refine tabS_set (by omega) (by omega) ?_ (fun v _ hne => ?_)
      · rw [best_succ hj, bestStep_eq]; rfl
      · rw [best_succ hj, bestStep_ne hne]
    cases hb : best f s.Links[j].To.toNat (s.Links.take j) with
    | none =>
      refine Ev.ff rfl (Ev.bindN (tabS_idx (by omega) (by omega)) (Ev.bindN (tabS_idx (by omega) (by omega)) ?_))
      rw [e1, tabS_set (g := fun v => (best f v (s.Links.take (j + 1))).getD (openF s v)) (by omega) (by omega) ?_ ?_]
      · exact ih
      · rw [best_succ hj, bestStep_eq, hb]; rfl
      · intro v _ hne
        rw [best_succ hj, bestStep_ne hne]
    | some m =>
      refine Ev.tt rfl (Ev.bindN (tabS_idx (by omega) (by omega)) (Ev.bindN (tabS_idx (by omega) (by omega)) (Ev.bindN (tabS_idx (by omega) (by omega)) ?_)))
      rw [e1, tabS_set (g := fun v => (best f v (s.Links.take (j + 1))).getD (openF s v)) (by omega) (by omega) ?_ ?_]
      · exact ih
      · rw [best_succ hj, bestStep_eq, hb]
        simp only [Option.getD_some]
        split <;> split <;> omega
      · intro v _ hne
        rw [best_succ hj, bestStep_ne hne]

theorem impl_arr (H : OkS s N) {f : Nat → Int} {B : Int} (hB : B ≤ 100000000) (hf : Bd N f B) :
    Ev (fun n => impl_LatchSystem_arrivals n s (tabS N f)) (tabS N (fun v => (best f v s.Links).getD 0), tabS N (fun v => (best f v s.Links).isSome)) := by
  unfold impl_LatchSystem_arrivals
  have h60 := H.m60
  refine Ev.bindN (mkS_tab (by rw [tabS_len]) H.n12) (Ev.bindN (mkS_tab (by rw [tabS_len]) H.n12) (Ev.bind (b := (tabS N (fun v => (best f v s.Links).isSome), tabS N (fun v => (best f v s.Links).getD 0), (s.Links.length : Int))) ?_ .done))
  have := down (P := fun j => Ev (fun n => impl_LatchSystem_arrivals_L1 s (tabS N f) n (tabS N (fun v => (best f v (s.Links.take j)).isSome)) (tabS N (fun v => (best f v (s.Links.take j)).getD 0)) (j : Int))
    (tabS N (fun v => (best f v s.Links).isSome), tabS N (fun v => (best f v s.Links).getD 0), (s.Links.length : Int))) s.Links.length ?_ (fun j hj ih => ?_)
  · simpa [best] using this
  · refine Ev.succ ?_
    simp only [impl_LatchSystem_arrivals_L1, List.take_length]
    exact Ev.ff (lt_nat_f (Nat.le_refl _)) .done
  · have hli := H.li j hj
    refine Ev.succ ?_
    simp only [impl_LatchSystem_arrivals_L1]
    refine Ev.tt (lt_nat_t hj) (Ev.bindN (idx_nat hj) (Ev.bindN (tabS_idx (by omega) (by omega)) ?_))
    rw [w64_succ (by omega), lv_w64 H hB hf hj]
    have e1 : setS (tabS N (fun v => (best f v (s.Links.take j)).isSome)) s.Links[j].To true = tabS N (fun v => (best f v (s.Links.take (j + 1))).isSome) := by
      refine tabS_set (by omega) (by omega) ?_ (fun v _ hne => ?_)
      · rw [best_succ hj, bestStep_eq]; rfl
      · rw [best_succ hj, bestStep_ne hne]
    cases hb : best f s.Links[j].To.toNat (s.Links.take j) with
    | none =>
      refine Ev.bind (b := true) (Ev.bindN (tabS_idx (by omega) (by omega)) (Ev.tt (by rw [hb]; rfl) .done)) (Ev.tt rfl (Ev.bindN (tabS_idx (by omega) (by omega)) (Ev.bindN (tabS_idx (by omega) (by omega)) ?_)))
      rw [e1, tabS_set (g := fun v => (best f v (s.Links.take (j + 1))).getD 0) (by omega) (by omega) ?_ ?_]
      · exact ih
      · rw [best_succ hj, bestStep_eq, hb]; rfl
      · intro v _ hne
        rw [best_succ hj, bestStep_ne hne]
    | some m =>
      refine Ev.bind (b := decide (lv f s.Links[j] > m)) (Ev.bindN (tabS_idx (by omega) (by omega)) (Ev.ff (by rw [hb]; rfl) (Ev.bindN (tabS_idx (by omega) (by omega)) (by rw [hb]; exact .done)))) ?_
      by_cases hgt : lv f s.Links[j] > m
      · refine Ev.tt (by simpa using hgt) (Ev.bindN (tabS_idx (by omega) (by omega)) (Ev.bindN (tabS_idx (by omega) (by omega)) ?_))
        rw [e1, tabS_set (g := fun v => (best f v (s.Links.take (j + 1))).getD 0) (by omega) (by omega) ?_ ?_]
        · exact ih
        · rw [best_succ hj, bestStep_eq, hb]
          simp only [Option.getD_some]
          rw [if_pos hgt]
        · intro v _ hne
          rw [best_succ hj, bestStep_ne hne]
      · refine Ev.ff (by simpa using hgt) ?_
        have e2 : tabS N (fun v => (best f v (s.Links.take j)).isSome) = tabS N (fun v => (best f v (s.Links.take (j + 1))).isSome) := by
          refine tabS_congr fun v _ => ?_
          by_cases hv : v = s.Links[j].To.toNat
          · subst hv
            rw [best_succ hj, bestStep_eq, hb]; rfl
          · rw [best_succ hj, bestStep_ne hv]
        have e3 : tabS N (fun v => (best f v (s.Links.take j)).getD 0) = tabS N (fun v => (best f v (s.Links.take (j + 1))).getD 0) := by
          refine tabS_congr fun v _ => ?_
          by_cases hv : v = s.Links[j].To.toNat
          · subst hv
            rw [best_succ hj, bestStep_eq, hb]
            simp only [Option.getD_some]
            rw [if_neg hgt]
          · rw [best_succ hj, bestStep_ne hv]
        rw [e2, e3]
        exact ih

end Go.Fw
