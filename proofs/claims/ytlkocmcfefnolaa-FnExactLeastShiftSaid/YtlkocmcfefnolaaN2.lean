import Derived.Test.YtlkocmcfefnolaaN1
namespace Go.Fw
open Go

/-! ### Tables -/
def tabS {α : Type} (N : Nat) (f : Nat → α) : List α := (List.range N).map f
theorem tabS_len {α : Type} {N : Nat} {f : Nat → α} : (tabS N f).length = N := by simp [tabS]
theorem tabS_at {α : Type} {N : Nat} {f : Nat → α} {v : Nat} (h : v < N) : (tabS N f)[v]? = some (f v) := by simp [tabS, h]
theorem tabS_idx {α : Type} {N : Nat} {f : Nat → α} {i : Int} (h0 : 0 ≤ i) (h : i < N) : idx (tabS N f) i = some (f i.toNat) := by
  unfold idx
  rw [if_pos h0, tabS_at (by omega)]
theorem tabS_idxN {α : Type} {N : Nat} {f : Nat → α} {j : Nat} (h : j < N) : idx (tabS N f) (j : Int) = some (f j) := by rw [tabS_idx (by omega) (by omega)]; simp
theorem tabS_congr {α : Type} {N : Nat} {f g : Nat → α} (h : ∀ v, v < N → f v = g v) : tabS N f = tabS N g := List.map_congr_left (fun v hv => h v (List.mem_range.1 hv))
theorem tabS_inj {α : Type} {N : Nat} {f g : Nat → α} (h : tabS N f = tabS N g) {v : Nat} (hv : v < N) : f v = g v := by
  have h1 := tabS_at (f := f) hv
  rw [h, tabS_at hv] at h1
  exact (Option.some.inj h1).symm
theorem tabS_set {α : Type} {N : Nat} {f g : Nat → α} {i : Int} (h0 : 0 ≤ i) (h : i < N) {y : α} (hy : g i.toNat = y) (hg : ∀ v, v < N → v ≠ i.toNat → g v = f v) : setS (tabS N f) i y = tabS N g := by
  refine List.ext_getElem? fun v => ?_
  by_cases hv : v < N
  · rw [tabS_at hv]
    unfold setS
    by_cases hi : v = i.toNat
    · subst hi
      rw [List.getElem?_set_self (by rw [tabS_len]; omega), hy]
    · rw [List.getElem?_set_ne (fun e => hi e.symm), tabS_at hv, hg v hv hi]
  · rw [List.getElem?_eq_none (by rw [setS_len, tabS_len]; omega), List.getElem?_eq_none (by rw [tabS_len]; omega)]
theorem tabS_of {α : Type} (xs : List α) (z : α) : xs = tabS xs.length (fun v => xs[v]?.getD z) := by
  refine List.ext_getElem? fun v => ?_
  by_cases hv : v < xs.length
  · rw [tabS_at hv, List.getElem?_eq_getElem hv]; rfl
  · rw [List.getElem?_eq_none (by omega), List.getElem?_eq_none (by rw [tabS_len]; omega)]

/-! ### The system's numbers -/
structure OkS (s : TLatchSystem) (N : Nat) : Prop where
  len : s.Latches.length = N
  n12 : N ≤ 12
  m60 : s.Links.length ≤ 60
  la : ∀ j (h : j < s.Latches.length), 0 ≤ s.Latches[j].Open ∧ s.Latches[j].Open ≤ 100000 ∧ s.Latches[j].Open ≤ s.Latches[j].Close ∧ s.Latches[j].Close ≤ 100000
  li : ∀ j (h : j < s.Links.length), 0 ≤ s.Links[j].From ∧ s.Links[j].From < N ∧ 0 ≤ s.Links[j].To ∧ s.Links[j].To < N ∧ 0 ≤ s.Links[j].Delay ∧ s.Links[j].Delay ≤ 100000 ∧ 0 ≤ s.Links[j].Shift ∧ s.Links[j].Shift ≤ 100000

theorem okS_of {s : TLatchSystem} (h : okSys s = true) : OkS s s.Latches.length := by
  simp only [okSys, Bool.and_eq_true, List.all_eq_true, decide_eq_true_eq] at h
  obtain ⟨h1, h2, h3, h4⟩ := h
  refine ⟨rfl, by omega, by omega, fun j hj => ?_, fun j hj => ?_⟩
  · have := h1 _ (List.getElem_mem hj)
    simp only [okLatch, Bool.and_eq_true, inR_iff] at this
    omega
  · have := h2 _ (List.getElem_mem hj)
    simp only [okLink, Bool.and_eq_true, inR_iff] at this
    omega

def openF (s : TLatchSystem) (v : Nat) : Int := (s.Latches.map (fun y => y.Open))[v]?.getD 0
def lv (f : Nat → Int) (l : TLatchLink) : Int := f l.From.toNat + l.Delay - l.Shift
def bestStep (f : Nat → Int) (v : Nat) (o : Option Int) (l : TLatchLink) : Option Int :=
  if l.To.toNat = v then some (match o with | none => lv f l | some m => if lv f l > m then lv f l else m) else o
def best (f : Nat → Int) (v : Nat) (ls : List TLatchLink) : Option Int := ls.foldl (bestStep f v) none
theorem best_succ {f : Nat → Int} {v j : Nat} {ls : List TLatchLink} (h : j < ls.length) : best f v (ls.take (j + 1)) = bestStep f v (best f v (ls.take j)) ls[j] := by
  unfold best
  rw [List.take_succ_eq_append_getElem h, List.foldl_append]
  rfl
def comb (o : Option Int) (a : Int) : Int := match o with | none => a | some t => if t > a then t else a

variable {s : TLatchSystem} {N : Nat}

theorem openF_at (H : OkS s N) {v : Nat} (h : v < N) : openF s v = (s.Latches[v]'(by rw [H.len]; exact h)).Open := by
  have := H.len
  unfold openF
  rw [List.getElem?_map, List.getElem?_eq_getElem (by omega)]
  rfl
theorem openF_ge (H : OkS s N) {v : Nat} (h : v < N) : 0 ≤ openF s v ∧ openF s v ≤ 100000 := by
  rw [openF_at H h]
  have := H.la v (by rw [H.len]; exact h)
  omega

/-- Times that lie within a bound. -/
def Bd (N : Nat) (f : Nat → Int) (B : Int) : Prop := ∀ v, v < N → 0 ≤ f v ∧ f v ≤ B

theorem lv_w64 (H : OkS s N) {f : Nat → Int} {B : Int} (hB : B ≤ 100000000) (hf : Bd N f B) {j : Nat} (hj : j < s.Links.length) :
    W64 (W64 (f s.Links[j].From.toNat + s.Links[j].Delay) - s.Links[j].Shift) = lv f s.Links[j] := by
  have h1 := H.li j hj
  have h2 := hf s.Links[j].From.toNat (by omega)
  unfold lv
  rw [w64_of (x := f s.Links[j].From.toNat + s.Links[j].Delay) (by omega) (by omega), w64_of (by omega) (by omega)]

theorem spec_opens (H : OkS s N) : Ev (fun n => spec_l18Opens n s) (tabS N (openF s)) := by
  have hl := H.len
  have h12 := H.n12
  have ht : tabS N (openF s) = s.Latches.map (fun y => y.Open) := by
    have := tabS_of (s.Latches.map (fun y => y.Open)) 0
    rw [List.length_map, hl] at this
    exact this.symm
  rw [ht]
  unfold spec_l18Opens
  refine Ev.bind (b := (s.Latches.map (fun y => y.Open), (N : Int))) ?_ .done
  have := down (P := fun j => Ev (fun n => spec_l18Opens_L1 s n ((s.Latches.take j).map (fun y => y.Open)) (j : Int)) (s.Latches.map (fun y => y.Open), (N : Int))) s.Latches.length ?_ (fun j hj ih => ?_)
  · simpa using this
  · refine Ev.succ ?_
    simp only [spec_l18Opens_L1, List.take_length]
    rw [hl]
    exact Ev.ff (lt_nat_f (Nat.le_refl _)) .done
  · refine Ev.succ ?_
    simp only [spec_l18Opens_L1]
    refine Ev.tt (lt_nat_t hj) (Ev.bindN (idx_nat hj) (Ev.bindN (b := (s.Latches.take (j + 1)).map (fun y => y.Open)) ?_ ?_))
    · unfold appS big
      rw [if_pos (by simp; omega), List.take_succ_eq_append_getElem hj, List.map_append]
      rfl
    · rw [w64_succ (by omega)]
      exact ih

theorem bestStep_ne {f : Nat → Int} {v : Nat} {o : Option Int} {l : TLatchLink} (h : v ≠ l.To.toNat) : bestStep f v o l = o := by
  unfold bestStep
  rw [if_neg (fun e => h e.symm)]
theorem bestStep_eq {f : Nat → Int} {o : Option Int} {l : TLatchLink} : bestStep f l.To.toNat o l = some (match o with | none => lv f l | some m => if lv f l > m then lv f l else m) := by
  unfold bestStep
  rw [if_pos rfl]

def stepF (s : TLatchSystem) (f : Nat → Int) (v : Nat) : Int := comb (best f v s.Links) (openF s v)

theorem spec_step (H : OkS s N) {f : Nat → Int} {B : Int} (hB : B ≤ 100000000) (hf : Bd N f B) : Ev (fun n => spec_l18Step n s (tabS N f)) (tabS N (stepF s f)) := by
  unfold spec_l18Step
  refine Ev.bind (spec_opens H) (Ev.bind (b := (tabS N (stepF s f), (s.Links.length : Int))) ?_ .done)
  have h60 := H.m60
  have := down (P := fun j => Ev (fun n => spec_l18Step_L1 s (tabS N f) n (tabS N (fun v => comb (best f v (s.Links.take j)) (openF s v))) (j : Int)) (tabS N (stepF s f), (s.Links.length : Int))) s.Links.length ?_ (fun j hj ih => ?_)
  · simpa [best, comb] using this
  · refine Ev.succ ?_
    simp only [spec_l18Step_L1, List.take_length]
    exact Ev.ff (lt_nat_f (Nat.le_refl _)) .done
  · have hli := H.li j hj
    refine Ev.succ ?_
    simp only [spec_l18Step_L1]
    refine Ev.tt (lt_nat_t hj) (Ev.bindN (idx_nat hj) (Ev.bindN (tabS_idx (by omega) (by omega)) (Ev.bindN (tabS_idx (by omega) (by omega)) (Ev.bindN (tabS_idx (by omega) (by omega)) ?_))))
    rw [w64_succ (by omega), lv_w64 H hB hf hj]
    rw [tabS_set (g := fun v => comb (best f v (s.Links.take (j + 1))) (openF s v)) (by omega) (by omega) ?_ ?_]
    · exact ih
    · rw [best_succ hj, bestStep_eq]
      cases best f s.Links[j].To.toNat (s.Links.take j) with
      | none => simp only [comb] <;> rfl
      | some m => simp only [comb]; split <;> split <;> (try split) <;> omega
    · intro v _ hne
      rw [best_succ hj, bestStep_ne hne]

def sameB (N : Nat) (f g : Nat → Int) : Bool := (List.range N).all fun v => f v == g v
theorem sameB_iff {f g : Nat → Int} : sameB N f g = true ↔ ∀ v, v < N → f v = g v := by simp [sameB]

theorem spec_same {f g : Nat → Int} (h12 : N ≤ 12) : Ev (fun n => spec_l18Same n (tabS N f) (tabS N g)) (sameB N f g) := by
  unfold spec_l18Same
  refine Ev.ff (by simp [tabS_len]) (Ev.bind (b := bif sameB N f g then .nxt (N : Int) else .ret false) ?_ ?_)
  · have := down (P := fun j => Ev (fun n => spec_l18Same_L1 (tabS N f) (tabS N g) n (j : Int)) (bif ((List.range N).drop j).all (fun v => f v == g v) then .nxt (N : Int) else .ret false)) N ?_ (fun j hj ih => ?_)
    · simpa [sameB] using this
    · refine Ev.succ ?_
      simp only [spec_l18Same_L1, tabS_len]
      rw [List.drop_eq_nil_of_le (by simp)]
      exact Ev.ff (lt_nat_f (Nat.le_refl _)) .done
    · refine Ev.succ ?_
      simp only [spec_l18Same_L1, tabS_len]
      refine Ev.tt (lt_nat_t (by omega)) (Ev.bindN (tabS_idxN (by omega)) (Ev.bindN (tabS_idxN (by omega)) ?_))
      rw [w64_succ (by omega), drop_all (by simpa using hj)]
      simp only [List.getElem_range]
      by_cases he : f j = g j
      · refine Ev.ff (by simp [he]) ?_
        have e2 : (f j == g j) = true := by simp [he]
        rw [e2, Bool.true_and]
        exact ih
      · refine Ev.tt (by simp [he]) ?_
        have e2 : (f j == g j) = false := by simp [he]
        rw [e2, Bool.false_and]
        exact .done
  · cases sameB N f g <;> exact .done

end Go.Fw
