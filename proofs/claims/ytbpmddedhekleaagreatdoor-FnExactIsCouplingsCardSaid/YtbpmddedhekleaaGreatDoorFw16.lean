/- Lists of what is not flat: the cells of an element as a flat value. -/
import Derived.Test.YtbpmddedhekleaaGreatDoorFw15
namespace Go.Fw
open Go
open Go.RowKit (Below)

/-- The cells of one element. -/
structure Raw (α : Type) where
  cs : List Value

instance gt_Raw {α : Type} [GoT α] : GoT (Raw α) where
  k := GoT.k α
  agg := GoT.agg α
  zero := ⟨GoT.zc α⟩
  zc := GoT.zc α
  R _ _ x cs := cs = x.cs ∧ cs.length = GoT.k α ∧ ∀ c ∈ cs, c.oneCell' = true
  O _ _ x cs := cs = x.cs ∧ cs.length = GoT.k α ∧ ∀ c ∈ cs, c.oneCell' = true
  kpos := GoT.kpos
  noagg := GoT.noagg
  len h := h.2.1
  one h := h.2.2
  loc h _ := h
  mono h _ := h
  toR h := h
  locO h _ := h
  monoO h _ := h
  zO _ _ := ⟨rfl, GoT.len (GoT.toR (GoT.zO (α := α) default (fun _ => False))), GoT.one (GoT.toR (GoT.zO (α := α) default (fun _ => False)))⟩
instance fl_Raw {α : Type} [GoT α] : Flat (Raw α) := ⟨fun h => h, fun h h' => h.1.trans h'.1.symm⟩

/-- The elements of a list, each with blocks of its own. -/
def Ch.els {α : Type} [GoT α] (S : Nat → Prop) (xs : List α) (rs : List (Raw α)) : Ch where
  S := S
  D _ := False
  P w := xs.length = rs.length ∧ ∃ F : Nat → Nat → Prop, (∀ i a, F i a → S a) ∧ (∀ i j a, i ≠ j → F i a → ¬ F j a) ∧ ∀ i x r, xs[i]? = some x → rs[i]? = some r → GoT.O w (F i) x r.cs
  loc w w' h _ hp := by
    obtain ⟨h0, F, h1, h2, h3⟩ := hp
    exact ⟨h0, F, h1, h2, fun i x r hx hr => GoT.locO (h3 i x r hx hr) (fun b hb => h b (h1 i b hb))⟩

theorem list_of {α β : Type} {p : Nat → α → β → Prop} : ∀ (xs : List α), (∀ i x, xs[i]? = some x → ∃ r, p i x r) → ∃ rs : List β, rs.length = xs.length ∧ ∀ i x r, xs[i]? = some x → rs[i]? = some r → p i x r := by
  intro xs h
  obtain ⟨rs, hl, hr⟩ := list_of_each (p := fun i r => ∀ x, xs[i]? = some x → p i x r) xs.length (fun i hi => by
    obtain ⟨r, hr⟩ := h i xs[i] (List.getElem?_eq_getElem hi)
    exact ⟨r, fun x hx => by rw [List.getElem?_eq_getElem hi] at hx; obtain rfl := Option.some.inj hx; exact hr⟩)
  exact ⟨rs, hl, fun i x r hx hrr => hr i r hrr x hx⟩

section
variable {w0 w w' : World} {L : List Ch} {S : Nat → Prop} {α : Type} [GoT α]

/-- An own list: its row of cells, and its elements. -/
theorem SH.splitL {xs : List α} {p : Option Addr} {ln c : Nat} (h : SH w0 w (Ch.own S xs [.slice p ln c] :: L)) :
    ∃ S1 S2, ∃ rs : List (Raw α), rs.length = xs.length ∧ SH w0 w (Ch.own S1 rs [.slice p ln c] :: Ch.els S2 xs rs :: L) := by
  obtain ⟨hP, hS⟩ := h.holds _ (List.mem_cons_self ..)
  obtain ⟨p', c', he, h1, h2, h3⟩ := hP
  simp only [List.cons.injEq, Value.slice.injEq, and_true] at he
  obtain ⟨rfl, rfl, rfl⟩ := he
  have hpw := List.pairwise_cons.1 h.apart
  have fin : ∀ (S1 S2 : Nat → Prop) (rs : List (Raw α)), (Ch.own S1 rs [.slice p xs.length c]).P w → (Ch.els S2 xs rs).P w → (∀ b, S1 b → S b) → (∀ b, S2 b → S b) → (∀ b, S1 b → ¬ S2 b) → SH w0 w (Ch.own S1 rs [.slice p xs.length c] :: Ch.els S2 xs rs :: L) := by
    intro S1 S2 rs q1 q2 s1 s2 s3
    refine ⟨h.below, fun d hd => ?_, fun d hd => ?_, ?_⟩
    · rcases List.mem_cons.1 hd with rfl | hd
      · exact ⟨q1, fun b hb => hS b (s1 b hb)⟩
      rcases List.mem_cons.1 hd with rfl | hd
      · exact ⟨q2, fun b hb => hS b (s2 b hb)⟩
      · exact h.holds d (List.mem_cons_of_mem _ hd)
    · rcases List.mem_cons.1 hd with rfl | hd
      · exact fun _ h => h.elim
      rcases List.mem_cons.1 hd with rfl | hd
      · exact fun _ h => h.elim
      · exact h.elder d (List.mem_cons_of_mem _ hd)
    · refine List.pairwise_cons.2 ⟨fun d hd b hb => ?_, List.pairwise_cons.2 ⟨fun d hd b hb => hpw.1 d hd b (s2 b hb), hpw.2⟩⟩
      rcases List.mem_cons.1 hd with rfl | hd
      · exact s3 b hb
      · exact hpw.1 d hd b (s1 b hb)
  rcases h3 with ⟨rfl, rfl, rfl⟩ | ⟨b, cur, T, F, rfl, hb, hg, hcur, hF, hd, hx⟩
  · exact ⟨fun _ => False, fun _ => False, [], rfl, fin _ _ _ ⟨none, 0, rfl, by simp, by simp, .inl ⟨rfl, rfl, rfl⟩⟩ ⟨rfl, fun _ _ => False, fun _ _ h => h.elim, fun _ _ _ _ h => h.elim, fun i x r hx => by simp at hx⟩ (fun _ h => h.elim) (fun _ h => h.elim) (fun _ h => h.elim)⟩
  · obtain ⟨rs, hl, hr⟩ := list_of (p := fun i x (r : Raw α) => GoT.O w (F i) x r.cs ∧ ∀ j v, r.cs[j]? = some v → cur[i * GoT.k α + j]? = some v) xs (fun i x hi => by
      obtain ⟨cs, h1, h2⟩ := hx i x hi
      exact ⟨⟨cs⟩, h1, h2⟩)
    refine ⟨fun a => a = b, fun a => ∃ i, F i a, rs, hl, fin _ _ _ ?_ ⟨hl.symm, F, fun i a ha => ⟨i, ha⟩, hd, fun i x r hx hrr => (hr i x r hx hrr).1⟩ (fun a ha => ha ▸ hb) (fun a ⟨i, ha⟩ => (hF i a ha).1) (fun a ha ⟨i, hi⟩ => (hF i a hi).2 ha)⟩
    refine ⟨some ⟨b, 0, none⟩, c, by rw [hl], by rw [hl]; exact h1, h2, .inr ⟨b, cur, T, fun _ _ => False, rfl, rfl, hg, hcur, fun _ _ h => h.elim, fun _ _ _ _ h => h.elim, fun i r hi => ?_⟩⟩
    have hi' : i < xs.length := by have := (List.getElem?_eq_some_iff.1 hi).1; omega
    obtain ⟨q1, q2⟩ := hr i xs[i] r (List.getElem?_eq_getElem hi') hi
    exact ⟨r.cs, ⟨rfl, GoT.len (GoT.toR q1), GoT.one (GoT.toR q1)⟩, q2⟩

/-- And back. -/
theorem SH.joinL {S1 S2 : Nat → Prop} {xs : List α} {rs : List (Raw α)} {p : Option Addr} {ln c : Nat} (h : SH w0 w (Ch.own S1 rs [.slice p ln c] :: Ch.els S2 xs rs :: L)) :
    SH w0 w (Ch.own (fun b => S1 b ∨ S2 b) xs [.slice p ln c] :: L) := by
  have hap := (List.pairwise_cons.1 h.apart).1 (Ch.els S2 xs rs) (List.mem_cons_self ..)
  refine h.join (e := Ch.own (fun b => S1 b ∨ S2 b) xs [.slice p ln c]) (fun h1 h2 => ?_) (fun _ hb => hb) (fun _ h => h.elim)
  obtain ⟨p', c', he, q1, q2, q3⟩ := h1
  obtain ⟨hl, F, f1, f2, f3⟩ := h2
  simp only [List.cons.injEq, Value.slice.injEq, and_true] at he
  obtain ⟨rfl, rfl, rfl⟩ := he
  refine ⟨p, c, by rw [hl], by rw [hl]; exact q1, q2, ?_⟩
  rcases q3 with ⟨rfl, hnil, rfl⟩ | ⟨b, cur, T, G, rfl, hb, hg, hcur, hG, hd, hx⟩
  · exact .inl ⟨rfl, List.eq_nil_of_length_eq_zero (by rw [hl, hnil]; rfl), rfl⟩
  · refine .inr ⟨b, cur, T, F, rfl, .inl hb, hg, hcur, fun i a ha => ⟨.inr (f1 i a ha), fun hab => hap b hb (hab ▸ f1 i a ha)⟩, f2, fun i x hi => ?_⟩
    have hi' : i < rs.length := by have := (List.getElem?_eq_some_iff.1 hi).1; omega
    obtain ⟨cs, ⟨e1, _, _⟩, hj⟩ := hx i rs[i] (List.getElem?_eq_getElem hi')
    subst e1
    exact ⟨_, f3 i x rs[i] hi (List.getElem?_eq_getElem hi'), hj⟩
end

/-! ### What is done with the elements -/
/-- The elements but one. -/
def Ch.elsB {α : Type} [GoT α] (S : Nat → Prop) (k : Nat) (xs : List α) (rs : List (Raw α)) : Ch where
  S := S
  D _ := False
  P w := xs.length = rs.length ∧ ∃ F : Nat → Nat → Prop, (∀ i a, F i a → S a) ∧ (∀ i j a, i ≠ j → F i a → ¬ F j a) ∧ (∀ a, ¬ F k a) ∧ ∀ i x r, i ≠ k → xs[i]? = some x → rs[i]? = some r → GoT.O w (F i) x r.cs
  loc w w' h _ hp := by
    obtain ⟨h0, F, h1, h2, h4, h3⟩ := hp
    exact ⟨h0, F, h1, h2, h4, fun i x r hi hx hr => GoT.locO (h3 i x r hi hx hr) (fun b hb => h b (h1 i b hb))⟩

section
variable {w0 w w' : World} {L : List Ch} {S Se : Nat → Prop} {α : Type} [GoT α]

theorem SH.cons {c : Ch} (h : SH w0 w L) (hp : c.P w) (hS : ∀ b, ¬ c.S b) (hD : ∀ b, ¬ c.D b) : SH w0 w (c :: L) := by
  refine ⟨h.below, fun d hd => ?_, fun d hd => ?_, List.pairwise_cons.2 ⟨fun _ _ b hb => absurd hb (hS b), h.apart⟩⟩
  · rcases List.mem_cons.1 hd with rfl | hd
    · exact ⟨hp, fun b hb => absurd hb (hS b)⟩
    · exact h.holds d hd
  · rcases List.mem_cons.1 hd with rfl | hd
    · exact fun b hb => absurd hb (hD b)
    · exact h.elder d hd

theorem SH.elsNil (h : SH w0 w L) : SH w0 w (Ch.els (fun _ => False) ([] : List α) [] :: L) :=
  h.cons (c := Ch.els (fun _ => False) ([] : List α) []) ⟨rfl, fun _ _ => False, fun _ _ h => h.elim, fun _ _ _ _ h => h.elim, fun i x r hx => by simp at hx⟩ (fun _ h => h) (fun _ h => h)

theorem SH.elsZero (h : SH w0 w L) (m : Nat) : SH w0 w (Ch.els (fun _ => False) (List.replicate m (GoT.zero : α)) (List.replicate m (GoT.zero : Raw α)) :: L) :=
  h.cons (c := Ch.els (fun _ => False) (List.replicate m (GoT.zero : α)) (List.replicate m (GoT.zero : Raw α))) ⟨by simp, fun _ _ => False, fun _ _ h => h.elim, fun _ _ _ _ h => h.elim, fun i x r hx hr => by
    rw [List.getElem?_replicate] at hx hr
    split at hx
    · rw [if_pos (by assumption)] at hr
      obtain rfl := Option.some.inj hx
      obtain rfl := Option.some.inj hr
      exact GoT.zO w _
    · cases hx⟩ (fun _ h => h) (fun _ h => h)

/-- One element in the place of another. -/
theorem SH.elsSet {x : α} {cs : List Value} {xs : List α} {rs : List (Raw α)} (k : Nat) (h : SH w0 w (Ch.own Se x cs :: Ch.els S xs rs :: L)) :
    SH w0 w (Ch.els (fun b => Se b ∨ S b) (xs.set k x) (rs.set k ⟨cs⟩) :: L) := by
  have hap := (List.pairwise_cons.1 h.apart).1 (Ch.els S xs rs) (List.mem_cons_self ..)
  refine h.join (e := Ch.els (fun b => Se b ∨ S b) (xs.set k x) (rs.set k ⟨cs⟩)) (fun h1 h2 => ?_) (fun _ hb => hb) (fun _ h => h.elim)
  obtain ⟨hl, F, f1, f2, f3⟩ := h2
  refine ⟨by simp [hl], fun i a => if i = k then Se a else F i a, fun i a ha => ?_, fun i j a hne ha hb => ?_, fun i y r hy hr => ?_⟩
  · by_cases hi : i = k
    · simp only [if_pos hi] at ha; exact .inl ha
    · simp only [if_neg hi] at ha; exact .inr (f1 i a ha)
  · by_cases hi : i = k
    · simp only [if_pos hi] at ha
      by_cases hj : j = k
      · omega
      · simp only [if_neg hj] at hb; exact hap a ha (f1 j a hb)
    · simp only [if_neg hi] at ha
      by_cases hj : j = k
      · simp only [if_pos hj] at hb; exact hap a hb (f1 i a ha)
      · simp only [if_neg hj] at hb; exact f2 i j a hne ha hb
  · by_cases hi : i = k
    · subst hi
      have hlt : i < xs.length := by have := (List.getElem?_eq_some_iff.1 hy).1; simpa using this
      rw [List.getElem?_set_self hlt] at hy
      rw [List.getElem?_set_self (by omega)] at hr
      obtain rfl := Option.some.inj hy
      obtain rfl := Option.some.inj hr
      simp only [if_true]
      exact h1
    · rw [List.getElem?_set_ne (fun e => hi e.symm)] at hy hr
      simpa [hi] using f3 i y r hy hr

/-- One element more. -/
theorem SH.elsSnoc {x : α} {cs : List Value} {xs : List α} {rs : List (Raw α)} (h : SH w0 w (Ch.own Se x cs :: Ch.els S xs rs :: L)) :
    SH w0 w (Ch.els (fun b => Se b ∨ S b) (xs ++ [x]) (rs ++ [⟨cs⟩]) :: L) := by
  have hap := (List.pairwise_cons.1 h.apart).1 (Ch.els S xs rs) (List.mem_cons_self ..)
  refine h.join (e := Ch.els (fun b => Se b ∨ S b) (xs ++ [x]) (rs ++ [⟨cs⟩])) (fun h1 h2 => ?_) (fun _ hb => hb) (fun _ h => h.elim)
  obtain ⟨hl, F, f1, f2, f3⟩ := h2
  refine ⟨by simp [hl], fun i a => (i = xs.length ∧ Se a) ∨ (i < xs.length ∧ F i a), fun i a ha => ?_, fun i j a hne ha hb => ?_, fun i y r hy hr => ?_⟩
  · rcases ha with ⟨_, ha⟩ | ⟨_, ha⟩
    · exact .inl ha
    · exact .inr (f1 i a ha)
  · rcases ha with ⟨h3, ha⟩ | ⟨_, ha⟩ <;> rcases hb with ⟨h4, hb⟩ | ⟨_, hb⟩
    · omega
    · exact hap a ha (f1 j a hb)
    · exact hap a hb (f1 i a ha)
    · exact f2 i j a hne ha hb
  · by_cases hi : i < xs.length
    · rw [List.getElem?_append_left hi] at hy
      rw [List.getElem?_append_left (by omega)] at hr
      exact GoT.monoO (f3 i y r hy hr) (fun a ha => .inr ⟨hi, ha⟩)
    · have hi2 : i = xs.length := by have := (List.getElem?_eq_some_iff.1 hy).1; simp at this; omega
      subst hi2
      rw [List.getElem?_append_right (Nat.le_refl _), Nat.sub_self] at hy
      rw [List.getElem?_append_right (by omega), hl, Nat.sub_self] at hr
      simp only [List.getElem?_cons_zero, Option.some.injEq] at hy hr
      subst hy; subst hr
      exact GoT.monoO h1 (fun a ha => .inl ⟨rfl, ha⟩)

/-- One element taken out, to be written. -/
theorem SH.elsTake {xs : List α} {rs : List (Raw α)} {k : Nat} {x : α} {r : Raw α} (h : SH w0 w (Ch.els S xs rs :: L)) (hx : xs[k]? = some x) (hr : rs[k]? = some r) :
    ∃ S1 S2, SH w0 w (Ch.own S1 x r.cs :: Ch.elsB S2 k xs rs :: L) := by
  obtain ⟨hP, hS⟩ := h.holds _ (List.mem_cons_self ..)
  obtain ⟨hl, F, f1, f2, f3⟩ := hP
  have hpw := List.pairwise_cons.1 h.apart
  refine ⟨F k, fun a => ∃ i, i ≠ k ∧ F i a, h.below, fun d hd => ?_, fun d hd => ?_, ?_⟩
  · rcases List.mem_cons.1 hd with rfl | hd
    · exact ⟨f3 k x r hx hr, fun b hb => hS b (f1 k b hb)⟩
    rcases List.mem_cons.1 hd with rfl | hd
    · refine ⟨⟨hl, fun i a => i ≠ k ∧ F i a, fun i a ha => ⟨i, ha⟩, fun i j a hne ha hb => f2 i j a hne ha.2 hb.2, fun a ha => ha.1 rfl, fun i y q hi hy hq => GoT.monoO (f3 i y q hy hq) (fun a ha => ⟨hi, ha⟩)⟩, fun b hb => ?_⟩
      obtain ⟨i, _, hi⟩ := hb
      exact hS b (f1 i b hi)
    · exact h.holds d (List.mem_cons_of_mem _ hd)
  · rcases List.mem_cons.1 hd with rfl | hd
    · exact fun _ h => h.elim
    rcases List.mem_cons.1 hd with rfl | hd
    · exact fun _ h => h.elim
    · exact h.elder d (List.mem_cons_of_mem _ hd)
  · refine List.pairwise_cons.2 ⟨fun d hd b hb => ?_, List.pairwise_cons.2 ⟨fun d hd b hb => ?_, hpw.2⟩⟩
    · rcases List.mem_cons.1 hd with rfl | hd
      · rintro ⟨i, hi, hb2⟩
        exact f2 k i b (fun e => hi e.symm) hb hb2
      · exact hpw.1 d hd b (f1 k b hb)
    · obtain ⟨i, _, hi⟩ := hb
      exact hpw.1 d hd b (f1 i b hi)

/-- And put back, with another value in the same cells. -/
theorem SH.elsPut {xs : List α} {rs : List (Raw α)} {k : Nat} {x : α} {r : Raw α} {S1 S2 : Nat → Prop} (h : SH w0 w (Ch.own S1 x r.cs :: Ch.elsB S2 k xs rs :: L)) (hr : rs[k]? = some r) :
    SH w0 w (Ch.els (fun b => S1 b ∨ S2 b) (xs.set k x) rs :: L) := by
  have hap := (List.pairwise_cons.1 h.apart).1 (Ch.elsB S2 k xs rs) (List.mem_cons_self ..)
  refine h.join (e := Ch.els (fun b => S1 b ∨ S2 b) (xs.set k x) rs) (fun h1 h2 => ?_) (fun _ hb => hb) (fun _ h => h.elim)
  obtain ⟨hl, F, f1, f2, f4, f3⟩ := h2
  refine ⟨by simp [hl], fun i a => if i = k then S1 a else F i a, fun i a ha => ?_, fun i j a hne ha hb => ?_, fun i y q hy hq => ?_⟩
  · by_cases hi : i = k
    · simp only [if_pos hi] at ha; exact .inl ha
    · simp only [if_neg hi] at ha; exact .inr (f1 i a ha)
  · by_cases hi : i = k
    · simp only [if_pos hi] at ha
      by_cases hj : j = k
      · omega
      · simp only [if_neg hj] at hb; exact hap a ha (f1 j a hb)
    · simp only [if_neg hi] at ha
      by_cases hj : j = k
      · simp only [if_pos hj] at hb; exact hap a hb (f1 i a ha)
      · simp only [if_neg hj] at hb; exact f2 i j a hne ha hb
  · by_cases hi : i = k
    · subst hi
      have hlt : i < xs.length := by have := (List.getElem?_eq_some_iff.1 hy).1; simpa using this
      rw [List.getElem?_set_self hlt] at hy
      rw [hr] at hq
      obtain rfl := Option.some.inj hy
      obtain rfl := Option.some.inj hq
      simp only [if_true]
      exact h1
    · rw [List.getElem?_set_ne (fun e => hi e.symm)] at hy
      simpa [hi] using f3 i y q hi hy hq
end

end Go.Fw
