/- Own lists of what is not flat, as a whole: gathering, stores, appends, literals, an element taken out; readings that are learned; pointers; a new base. -/
import Derived.Test.YtbpmddedhekleaaGreatDoorFw17
namespace Go.Fw
open Go
open Go.RowKit (Below)

section
variable {P : Program} {T : Tab} {n : Nat} {Q : Exit → Act → World → Prop} {k : List It} {e : Env} {w0 w w' w1 : World} {L : List Ch}

/-! ### What lies in several parts, as one part -/

/-- Two parts side by side, as one. -/
def Ch.two (c d : Ch) : Ch where
  S b := c.S b ∨ d.S b
  D b := c.D b ∨ d.D b
  P w := c.P w ∧ d.P w ∧ ∀ b, c.S b → ¬ d.S b
  loc w w' h h' hp := ⟨c.loc w w' (fun b hb => h b (.inl hb)) (fun b hb => h' b (.inl hb)) hp.1, d.loc w w' (fun b hb => h b (.inr hb)) (fun b hb => h' b (.inr hb)) hp.2.1, hp.2.2⟩

theorem SH.fuse {c d : Ch} (h : SH w0 w (c :: d :: L)) : SH w0 w (Ch.two c d :: L) := by
  have hap := (List.pairwise_cons.1 h.apart).1 d (List.mem_cons_self ..)
  exact h.join (e := Ch.two c d) (fun h1 h2 => ⟨h1, h2, hap⟩) (fun _ hb => hb) (fun b hb => hb.elim (h.elder c (List.mem_cons_self ..) b) (h.elder d (List.mem_cons_of_mem _ (List.mem_cons_self ..)) b))

theorem mul_le_slot {i c m : Nat} (h : i < c) : i * m + m ≤ c * m := by
  have : (i + 1) * m ≤ c * m := Nat.mul_le_mul_right _ h
  rw [Nat.succ_mul] at this
  exact this

theorem slot_ne {i j m r q : Nat} (hne : i ≠ j) (hr : r < m) (_ : q < m) : i * m + r < j * m ∨ j * m + m ≤ i * m + r := by
  rcases Nat.lt_or_gt_of_ne hne with h | h
  · left
    have : (i + 1) * m ≤ j * m := Nat.mul_le_mul_right _ h
    rw [Nat.succ_mul] at this
    omega
  · right
    have : (j + 1) * m ≤ i * m := Nat.mul_le_mul_right _ h
    rw [Nat.succ_mul] at this
    omega

/-- The cells of an element, put in the place of another's. -/
theorem splice_self {cur : List Value} {q : Nat} {vs : List Value} (hfit : q + vs.length ≤ cur.length) {j : Nat} {v : Value} (hj : vs[j]? = some v) : (splice cur q vs)[q + j]? = some v := by
  have hjl := (List.getElem?_eq_some_iff.1 hj).1
  rw [getElem?_splice hfit, if_neg (by omega), if_pos (by omega), show q + j - q = j by omega]
  exact hj

theorem splice_ne {cur : List Value} {q : Nat} {vs : List Value} (hfit : q + vs.length ≤ cur.length) {j : Nat} (hne : j < q ∨ q + vs.length ≤ j) : (splice cur q vs)[j]? = cur[j]? := by
  rw [getElem?_splice hfit]
  rcases hne with h | h
  · rw [if_pos h]
  · rw [if_neg (by omega), if_neg (by omega)]

/-! ### A store of what is owned into an own list -/

theorem own_setN {α : Type} [GoT α] {S S1 : Nat → Prop} {xs : List α} {p : Option Addr} {ln c b o q : Nat} {iv : Int} {y y' : α} {cs : List Value}
    (h : SH w0 w (Ch.own S1 y' cs :: Ch.own S xs [.slice p ln c] :: L)) (hy : idx xs iv = some y) (hp : p = some ⟨b, o, none⟩) (hq : q = o + iv.toNat * GoT.k α) :
    ∃ cur t, w.heap[b]? = some (.cells cur t (0, 0)) ∧ q + cs.length ≤ cur.size ∧ cs.length = GoT.k α ∧ (∀ v ∈ cs, v.oneCell' = true) ∧
      SH w0 (w.setRow b (splice cur.toList q cs).toArray) (Ch.own (fun b => S1 b ∨ S b) (setS xs iv y') [.slice p ln c] :: L) := by
  have hf := h.fuse
  obtain ⟨⟨hO1, hO2, hap⟩, hS⟩ := hf.holds _ (List.mem_cons_self ..)
  obtain ⟨h0, hlt, hxi⟩ := idx_some hy
  obtain ⟨p', c', he, h1, h2, h3⟩ := hO2
  simp only [List.cons.injEq, Value.slice.injEq, and_true] at he
  obtain ⟨rfl, rfl, rfl⟩ := he
  have hO1' : GoT.O w S1 y' cs := hO1
  have hk := GoT.len (GoT.toR hO1')
  rcases h3 with ⟨rfl, _, _⟩ | ⟨b', cur, t, F, hpb, hb, hg, hcur, hF, hd, hx'⟩
  · cases hp
  · subst hp
    simp only [Option.some.injEq, Addr.mk.injEq, and_true] at hpb
    obtain ⟨rfl, rfl⟩ := hpb
    simp only [Nat.zero_add] at hq
    subst hq
    have hi' : iv.toNat < xs.length := (List.getElem?_eq_some_iff.1 hxi).1
    have hbound : iv.toNat * GoT.k α + GoT.k α ≤ cur.size := by
      rw [hcur]; exact mul_le_slot (by omega)
    have hfit : iv.toNat * GoT.k α + cs.length ≤ cur.toList.length := by simp; omega
    refine ⟨cur, t, hg, by simpa using hfit, hk, GoT.one (GoT.toR hO1'), ?_⟩
    have hu := hf.upd (i := 0) (c' := Ch.own (fun b => S1 b ∨ S b) (setS xs iv y') [.slice (some ⟨b, 0, none⟩) xs.length c]) (w' := w.setRow b (splice cur.toList (iv.toNat * GoT.k α) cs).toArray) rfl rfl rfl rfl (by simp)
      (fun a _ ha => setRow_other w b a _ (fun hab => ha (.inr (hab ▸ hb)))) ?_ (fun a ha => .inl ha) (fun _ hd => hd.elim)
    · exact hu
    · refine ⟨some ⟨b, 0, none⟩, c, by simp [setS], by simpa [setS] using h1, h2, .inr ⟨b, _, t, fun i a => (i = iv.toNat ∧ S1 a) ∨ (i ≠ iv.toNat ∧ F i a), rfl, .inr hb, setRow_heap w b _ _ t _ hg, ?_, ?_, ?_, ?_⟩⟩
      · rw [List.size_toArray, length_splice hfit]; simpa using hcur
      · rintro i a (⟨_, ha⟩ | ⟨_, ha⟩)
        · exact ⟨.inl ha, fun hab => hap a ha (hab ▸ hb)⟩
        · exact ⟨.inr (hF i a ha).1, (hF i a ha).2⟩
      · rintro i j a hne (⟨hi, ha⟩ | ⟨hi, ha⟩) (⟨hj, hb'⟩ | ⟨hj, hb'⟩)
        · exact hne (hi.trans hj.symm)
        · exact hap a ha (hF j a hb').1
        · exact hap a hb' (hF i a ha).1
        · exact hd i j a hne ha hb'
      · intro m x hm
        have hkp := GoT.kpos (α := α)
        unfold setS at hm
        rw [List.getElem?_set] at hm
        split at hm
        · rename_i hmi
          simp only [Option.some.injEq] at hm
          subst hm
          refine ⟨cs, GoT.monoO (GoT.locO hO1' (fun a ha => setRow_other w b a _ (fun hab => hap a ha (hab ▸ hb)))) (fun a ha => .inl ⟨hmi.symm, ha⟩), fun r v hr => ?_⟩
          rw [List.getElem?_toArray, ← hmi]
          exact splice_self hfit hr
        · rename_i hmi
          obtain ⟨cs', hr', hj'⟩ := hx' m x hm
          refine ⟨cs', GoT.monoO (GoT.locO hr' (fun a ha => setRow_other w b a _ (hF m a ha).2)) (fun a ha => .inr ⟨fun e => hmi e.symm, ha⟩), fun r v hr => ?_⟩
          have hrk : r < GoT.k α := by have := GoT.len (GoT.toR hr'); have := (List.getElem?_eq_some_iff.1 hr).1; omega
          rw [List.getElem?_toArray, splice_ne hfit (by rw [hk]; exact slot_ne (q := r) (fun e => hmi e.symm) hrk hrk)]
          simpa using hj' r v hr

theorem r_stownN (hT : TabOk P T) {α : Type} [GoT α] {all : Array Oper} {l : List Oper} {t ty : Nat} {ps : String} {af : Array Edge} {x v : Operand} {te : TE} {S S1 : Nat → Prop} {xs : List α} {p : Option Addr} {ln c b o q : Nat} {iv : Int} {y : α} {cs : List Value} {u : Value} (y' : α)
    (h : SH w0 w (Ch.own S1 y' cs :: Ch.own S xs [.slice p ln c] :: L)) (hy : idx xs iv = some y) (hp : p = some ⟨b, o, none⟩) (hq : q = o + iv.toNat * GoT.k α)
    (hx : opv e x = some (.pointer (some ⟨b, q, none⟩))) (hv : opv e v = some u) (hu : cellsL u = cs) (hte : T.get t = some te) (hsz : te.size = GoT.k α)
    (hk : ∀ w' S2, SH w0 w' (Ch.own S2 (setS xs iv y') [.slice p ln c] :: L) → Run P n Q (.ops all l :: k) e w') : Run P n Q (.ops all (⟨none, .store t x v, ty, ps, af, none⟩ :: l) :: k) e w := by
  subst hu
  obtain ⟨cur, t', hg, hfit, hlen, hone, hsh⟩ := own_setN h hy hp hq
  refine r_unit rfl rfl (fun a ha => ?_) (hk _ _ hsh)
  have := run_storeAt hT hte hg (by rw [hlen, hsz]) hfit (by simpa [ones] using hone)
  simp only [execOp, ha.eval hx, ha.eval hv, Sem.run_bind, this, Result.andThen_ok, Sem.run_pure]

/-! ### An append of what is owned -/

theorem app_ownN (hT : TabOk P T) {α : Type} [GoT α] {S S1 : Nat → Prop} {xs ys : List α} {p p' : Option Addr} {ln ln' c c' t ty el : Nat} {te te' : TE} {zv : Value}
    (h : SH w0 w (Ch.own S1 ys [.slice p' ln' c'] :: Ch.own S xs [.slice p ln c] :: L)) (hte : T.get t = some te) (hk : te.kind = .slice el) (hel : T.get el = some te') (hz : te'.zero = some zv) (hzs : (cellsL zv).length = te'.size) (hsz : te'.size = GoT.k α)
    (hb : Nat.ble te'.bytes 65536 = true) (hbig : xs.length + ys.length ≤ big) :
    ∃ p2 c2 S2 w', (Builtin.append_ #[t, t] ty #[.slice p ln c, .slice p' ln' c']).run P w = .ok (.slice p2 (xs.length + ys.length) c2) w' ∧ SH w0 w' (Ch.own S2 (xs ++ ys) [.slice p2 (xs.length + ys.length) c2] :: L) := by
  obtain ⟨inf, hinf, hs1, hby, hz1⟩ := probe_info (hT _ _ hel)
  have hu := probe_slice (hT _ _ hte) hk
  have hb' := Nat.le_of_ble_eq_true hb
  have hln := (h.sl 1 rfl).2
  have hln' := (h.sl 0 rfl).2
  subst hln hln'
  have hs := (h.sl 0 rfl).1
  have hsx := (h.sl 1 rfl).1
  have hsize : inf.size = GoT.k α := hs1.trans hsz
  obtain ⟨news0, _, hnR, hnD⟩ := hs.cells (P := P)
  have hf := h.fuse
  obtain ⟨⟨hO1, hO2, hap⟩, hS⟩ := hf.holds _ (List.mem_cons_self ..)
  obtain ⟨p0, c0, he, h1, h2, h3⟩ := hO2
  simp only [List.cons.injEq, Value.slice.injEq, and_true, true_and] at he
  obtain ⟨rfl, rfl⟩ := he
  obtain ⟨p0, c0, he, g1, g2, g3⟩ := hO1
  simp only [List.cons.injEq, Value.slice.injEq, and_true, true_and] at he
  obtain ⟨rfl, rfl⟩ := he
  unfold big at hbig
  have hmax : (2147483648 : Nat) ≤ maxLen := by simp [maxLen]
  -- the elements of ys, in the cells that the model reads
  obtain ⟨Fy, news, hyS, hyd, hnl, hnO, hnR, hnD⟩ : ∃ Fy : Nat → Nat → Prop, ∃ news : List Value, (∀ i a, Fy i a → S1 a) ∧ (∀ i j a, i ≠ j → Fy i a → ¬ Fy j a) ∧ news.length = ys.length * GoT.k α ∧
      (∀ i y, ys[i]? = some y → ∃ cs, GoT.O w (Fy i) y cs ∧ ∀ j v, cs[j]? = some v → news[i * GoT.k α + j]? = some v) ∧
      (Builtin.firstCells inf.size ys.length (.slice p' ys.length c')).run P w = .ok news.toArray w ∧ (Builtin.firstCells inf.size ys.length (.slice p' ys.length c')).run P w.drew = .ok news.toArray w.drew := by
    rcases g3 with ⟨rfl, rfl, rfl⟩ | ⟨b, cur, t', F, rfl, hSb, hg, hcur, hF, hd, hx⟩
    · exact ⟨fun _ _ => False, [], fun _ _ h => h.elim, fun _ _ _ _ h => h.elim, by simp, fun i y hi => by simp at hi, by simp [Builtin.firstCells], by simp [Builtin.firstCells]⟩
    · have hle : ys.length * GoT.k α ≤ c' * GoT.k α := Nat.mul_le_mul_right _ g1
      have hlen : (cur.toList.take (ys.length * GoT.k α)).length = ys.length * inf.size := by simp [hsize]; omega
      have hcell : ∀ (w1 : World), w1.heap[b]? = w.heap[b]? → ∀ j v, (cur.toList.take (ys.length * GoT.k α))[j]? = some v → w1.cell? ((⟨b, 0, none⟩ : Addr).add j) = some v := by
        intro w1 hw1 j v hj
        rw [add_lit]
        rw [List.getElem?_take] at hj
        split at hj
        · simp only [World.cell?, hw1, hg]
          simpa using hj
        · cases hj
      refine ⟨F, cur.toList.take (ys.length * GoT.k α), fun i a ha => (hF i a ha).1, hd, by simp; omega, fun i y hi => ?_, run_firstCells_some w _ _ _ _ _ _ hlen (hcell w rfl), run_firstCells_some w.drew _ _ _ _ _ _ hlen (hcell w.drew rfl)⟩
      obtain ⟨cs, hO, hj⟩ := hx i y hi
      refine ⟨cs, hO, fun j v hv => ?_⟩
      have hjk : j < GoT.k α := by have := GoT.len (GoT.toR hO); have := (List.getElem?_eq_some_iff.1 hv).1; omega
      have hb2 := mul_le_slot (m := GoT.k α) (List.getElem?_eq_some_iff.1 hi).1
      rw [List.getElem?_take, if_pos (by omega)]
      simpa using hj j v hv
  have hnone : ∀ u ∈ news, u.oneCell' = true := by
    intro v hv
    obtain ⟨r, hr, rfl⟩ := List.getElem_of_mem hv
    have hkp := GoT.kpos (α := α)
    have hlt : r / GoT.k α < ys.length := by rw [Nat.div_lt_iff_lt_mul hkp, ← hnl]; exact hr
    obtain ⟨cs, hO, hj⟩ := hnO (r / GoT.k α) _ (List.getElem?_eq_getElem hlt)
    have hlen := GoT.len (GoT.toR hO)
    have hm : r % GoT.k α < cs.length := by rw [hlen]; exact Nat.mod_lt _ hkp
    have := hj (r % GoT.k α) _ (List.getElem?_eq_getElem hm)
    rw [Nat.mul_comm, Nat.div_add_mod] at this
    rw [List.getElem?_eq_getElem hr, Option.some.injEq] at this
    rw [this]
    exact GoT.one (GoT.toR hO) _ (List.getElem_mem hm)
  -- put together over a block
  have fin : ∀ (w' : World) (S2 : Nat → Prop) (b c2 : Nat) (cur : Array Value) (t' : TypeId) (olds : List Value) (Fx : Nat → Nat → Prop),
      (∀ a, (S1 a ∨ S a) → a ≠ b → w'.heap[a]? = w.heap[a]?) → (∀ a, (S1 a ∨ S a) → S2 a) → S2 b → w'.heap[b]? = some (.cells cur t' (0, 0)) → cur.size = c2 * GoT.k α → xs.length + ys.length ≤ c2 → c2 ≤ maxLen →
      (∀ i a, Fx i a → S a ∧ a ≠ b) → (¬ S1 b) → (∀ i j a, i ≠ j → Fx i a → ¬ Fx j a) → olds.length = xs.length * GoT.k α →
      (∀ i x, xs[i]? = some x → ∃ cs, GoT.O w (Fx i) x cs ∧ ∀ j v, cs[j]? = some v → olds[i * GoT.k α + j]? = some v) →
      (∀ (r : Nat) (v : Value), (olds ++ news)[r]? = some v → cur[r]? = some v) →
      GoT.O w' S2 (xs ++ ys) [.slice (some ⟨b, 0, none⟩) (xs.length + ys.length) c2] := by
    intro w' S2 b c2 cur t' olds Fx hloc hS2 hSb hg hcur hl hm hFx hS1b hFd hol hxO hcells
    refine ⟨_, _, by rw [List.length_append], by simpa using hl, hm, .inr ⟨b, cur, t', fun i a => (i < xs.length ∧ Fx i a) ∨ (xs.length ≤ i ∧ Fy (i - xs.length) a), rfl, hSb, hg, hcur, ?_, ?_, ?_⟩⟩
    · rintro i a (⟨_, ha⟩ | ⟨_, ha⟩)
      · exact ⟨hS2 a (.inr (hFx i a ha).1), (hFx i a ha).2⟩
      · exact ⟨hS2 a (.inl (hyS _ a ha)), fun hab => hS1b (hab ▸ hyS _ a ha)⟩
    · rintro i j a hne (⟨hi, ha⟩ | ⟨hi, ha⟩) (⟨hj, hb⟩ | ⟨hj, hb⟩)
      · exact hFd i j a hne ha hb
      · exact hap a (hyS _ a hb) (hFx i a ha).1
      · exact hap a (hyS _ a ha) (hFx j a hb).1
      · exact hyd _ _ a (by omega) ha hb
    · intro i x hi
      rw [List.getElem?_append] at hi
      split at hi
      · rename_i hlt
        obtain ⟨cs, hO, hj⟩ := hxO i x hi
        refine ⟨cs, GoT.monoO (GoT.locO hO (fun a ha => hloc a (.inr (hFx i a ha).1) (hFx i a ha).2)) (fun a ha => .inl ⟨hlt, ha⟩), fun j v hv => hcells _ _ ?_⟩
        have := hj j v hv
        rw [List.getElem?_append_left (List.getElem?_eq_some_iff.1 this).1]
        exact this
      · rename_i hge
        obtain ⟨cs, hO, hj⟩ := hnO _ x hi
        refine ⟨cs, GoT.monoO (GoT.locO hO (fun a ha => hloc a (.inl (hyS _ a ha)) (fun hab => hS1b (hab ▸ hyS _ a ha)))) (fun a ha => .inr ⟨by omega, ha⟩), fun j v hv => hcells _ _ ?_⟩
        have := hj j v hv
        have hle : xs.length * GoT.k α ≤ i * GoT.k α := Nat.mul_le_mul_right _ (by omega)
        rw [List.getElem?_append_right (by rw [hol]; omega), hol]
        rw [show i * GoT.k α + j - xs.length * GoT.k α = (i - xs.length) * GoT.k α + j by rw [Nat.sub_mul]; omega]
        exact this
  have grow : ∀ (olds : List Value) (Fx : Nat → Nat → Prop), (∀ i a, Fx i a → S a) → (∀ i j a, i ≠ j → Fx i a → ¬ Fx j a) → olds.length = xs.length * GoT.k α →
      (∀ i x, xs[i]? = some x → ∃ cs, GoT.O w (Fx i) x cs ∧ ∀ j v, cs[j]? = some v → olds[i * GoT.k α + j]? = some v) →
      (Builtin.firstCells inf.size xs.length (.slice p xs.length c)).run P w.drew = .ok olds.toArray w.drew → c < xs.length + ys.length →
      ∃ p2 c2 S2 w', (Builtin.append_ #[t, t] ty #[.slice p xs.length c, .slice p' ys.length c']).run P w = .ok (.slice p2 (xs.length + ys.length) c2) w' ∧ SH w0 w' (Ch.own S2 (xs ++ ys) [.slice p2 (xs.length + ys.length) c2] :: L) := by
    intro olds Fx hFx hFd hol hxO hoD hlt
    have hfit : Builtin.nextslicecap (xs.length + ys.length) c * inf.bytes ≤ 281474976710656 := by
      refine growslice_fits hlt ?_
      have : (xs.length + ys.length) * inf.bytes ≤ 2147483648 * 65536 := Nat.mul_le_mul hbig (by omega)
      omega
    have hr := run_append_grow' (P := P) (w := w) t ty el inf zv hu hinf (hz1.trans hz) p p' xs.length c ys.length c' olds news hnD hoD hlt (by omega) hfit
    have hge := grownCap_ge w (xs.length + ys.length) c el
    have hcm := grownCap_le_maxLen w (xs.length + ys.length) c el (by omega)
    have hnew : ∀ a, (S1 a ∨ S a) → a ≠ w.heap.size := fun a ha hab => by have := (hS a ha).2; omega
    refine ⟨_, _, fun b => (S1 b ∨ S b) ∨ b = w.heap.size, _, hr, ?_⟩
    have hu := hf.upd (i := 0) (c' := Ch.own (fun b => (S1 b ∨ S b) ∨ b = w.heap.size) (xs ++ ys) [.slice (some ⟨w.heap.size, 0, none⟩) (xs.length + ys.length) (grownCap w (xs.length + ys.length) c el)])
      (w' := w.drew.alloc (.cells (olds.toArray ++ news.toArray ++ Builtin.zeroCells zv.cells (grownCap w (xs.length + ys.length) c el - (xs.length + ys.length))) el)) rfl rfl rfl rfl (by simp) (fun b hb' _ => heap_alloc_old w.drew _ hb') ?_ ?_ (fun _ hd => hd.elim)
    · exact hu
    · refine fin _ _ w.heap.size _ _ el olds Fx (fun a ha _ => heap_alloc_old w.drew _ (hS a ha).2) (fun a ha => .inl ha) (.inr rfl) (heap_alloc_new w.drew _) ?_ hge hcm (fun i a ha => ⟨hFx i a ha, hnew a (.inr (hFx i a ha))⟩) (fun hb => hnew _ (.inl hb) rfl) hFd hol hxO ?_
      · have hzl : zv.cells.size = GoT.k α := by rw [← hsz, ← hzs, ← cells_toList]; simp
        simp only [Array.size_append, List.size_toArray, size_zeroCells, hol, hnl, hzl, ← Nat.add_mul]
        congr 1
        omega
      · intro r v hr'
        have hlt' := (List.getElem?_eq_some_iff.1 hr').1
        rw [Array.getElem?_append_left (by simpa using hlt')]
        simpa using hr'
    · rintro b (hb' | hb')
      · exact .inl hb'
      · subst hb'
        exact .inr ⟨Nat.le_refl _, by simp⟩
  rcases h3 with ⟨rfl, rfl, rfl⟩ | ⟨b, cur, t', F, rfl, hSb, hg, hcur, hF, hd, hx⟩
  · by_cases hy : ys.length = 0
    · refine ⟨none, 0, fun b => S1 b ∨ S b, w, by simpa [hy] using run_append_none' (P := P) (w := w) t ty el inf hu hinf p' c', ?_⟩
      have : ys = [] := List.eq_nil_of_length_eq_zero hy
      subst this
      exact hf.swap (c' := Ch.own (fun b => S1 b ∨ S b) ([] ++ []) [.slice none (([] : List α).length + ([] : List α).length) 0]) ⟨none, 0, by simp, by simp, by simp, .inl ⟨rfl, by simp, rfl⟩⟩ (fun b hb => hb) (fun _ hd => hd.elim)
    · exact grow [] (fun _ _ => False) (fun _ _ h => h.elim) (fun _ _ _ _ h => h.elim) (by simp) (fun i x hi => by simp at hi) (by simp [Builtin.firstCells]) (by simp; omega)
  · have hle0 : xs.length * GoT.k α ≤ c * GoT.k α := Nat.mul_le_mul_right _ h1
    have hol : (cur.toList.take (xs.length * GoT.k α)).length = xs.length * GoT.k α := by simp; omega
    have hxO : ∀ i x, xs[i]? = some x → ∃ cs, GoT.O w (F i) x cs ∧ ∀ j v, cs[j]? = some v → (cur.toList.take (xs.length * GoT.k α))[i * GoT.k α + j]? = some v := by
      intro i x hi
      obtain ⟨cs, hO, hj⟩ := hx i x hi
      refine ⟨cs, hO, fun j v hv => ?_⟩
      have hjk : j < GoT.k α := by have := GoT.len (GoT.toR hO); have := (List.getElem?_eq_some_iff.1 hv).1; omega
      have hb2 := mul_le_slot (m := GoT.k α) (List.getElem?_eq_some_iff.1 hi).1
      rw [List.getElem?_take, if_pos (by omega)]
      simpa using hj j v hv
    by_cases hroom : xs.length + ys.length ≤ c
    · have hle : (xs.length + ys.length) * GoT.k α ≤ c * GoT.k α := Nat.mul_le_mul_right _ hroom
      rw [Nat.add_mul] at hle
      have hfit : xs.length * inf.size + news.length ≤ cur.size := by rw [hnl, hsize, hcur]; exact hle
      have hr := run_append_room' (P := P) (w := w) t ty el inf hu hinf p' b xs.length c ys.length c' cur t' hg news hnR hnone hroom hfit
      refine ⟨_, _, fun b => S1 b ∨ S b, _, hr, ?_⟩
      have hu := hf.upd (i := 0) (c' := Ch.own (fun b => S1 b ∨ S b) (xs ++ ys) [.slice (some ⟨b, 0, none⟩) (xs.length + ys.length) c])
        (w' := w.setRow b (splice cur.toList (xs.length * inf.size) news).toArray) rfl rfl rfl rfl (by simp) (fun a _ ha => setRow_other w b a _ (fun hab => ha (.inr (hab ▸ hSb)))) ?_ (fun a ha => .inl ha) (fun _ hd => hd.elim)
      · exact hu
      · refine fin _ _ b _ _ t' (cur.toList.take (xs.length * GoT.k α)) F (fun a _ hne => setRow_other w b a _ hne) (fun a ha => ha) (.inr hSb) (setRow_heap w b _ _ t' _ hg) ?_ hroom h2 hF (fun hb => hap b hb hSb) hd hol hxO ?_
        · rw [List.size_toArray, length_splice (by simpa using hfit)]; simpa using hcur
        · intro r v hr'
          rw [List.getElem?_toArray, hsize]
          have hlt' := (List.getElem?_eq_some_iff.1 hr').1
          have hr2 : (cur.toList.take (xs.length * GoT.k α) ++ news ++ cur.toList.drop (xs.length * GoT.k α + news.length))[r]? = some v := by
            rw [List.getElem?_append_left hlt']; exact hr'
          exact hr2
    · have hfo := run_firstCells_some (P := P) w.drew inf.size xs.length ⟨b, 0, none⟩ xs.length c (cur.toList.take (xs.length * GoT.k α)) (by rw [hol, hsize]) (fun j v hj => by
        rw [add_lit]
        rw [List.getElem?_take] at hj
        split at hj
        · have : w.drew.heap[b]? = w.heap[b]? := rfl
          simp only [World.cell?, this, hg]
          simpa using hj
        · cases hj)
      exact grow _ F (fun i a ha => (hF i a ha).1) hd hol hxO hfo (by omega)

theorem r_appN (hT : TabOk P T) {α : Type} [GoT α] {all : Array Oper} {l : List Oper} {d t ty el : Nat} {ps : String} {af : Array Edge} {x y : Operand} {S S1 : Nat → Prop} {xs ys : List α} {p p' : Option Addr} {ln ln' c c' : Nat} {te te' : TE} {zv : Value}
    (h : SH w0 w (Ch.own S1 ys [.slice p' ln' c'] :: Ch.own S xs [.slice p ln c] :: L)) (hx : opv e x = some (.slice p ln c)) (hy : opv e y = some (.slice p' ln' c'))
    (hte : T.get t = some te) (hk : te.kind = .slice el) (hel : T.get el = some te') (hz : te'.zero = some zv) (hzs : (cellsL zv).length = te'.size) (hsz : te'.size = GoT.k α)
    (hb : Nat.ble te'.bytes 65536 = true) (hbig : xs.length + ys.length ≤ big) (hn : Nat.blt d n = true)
    (hkk : ∀ w' p2 c2 S2, SH w0 w' (Ch.own S2 (xs ++ ys) [.slice p2 (xs.length + ys.length) c2] :: L) → Run P n Q (.ops all l :: k) ((d, .slice p2 (xs.length + ys.length) c2) :: e) w') :
    Run P n Q (.ops all (⟨some d, .call ⟨.builtin .append, #[x, y], #[t, t]⟩, ty, ps, af, none⟩ :: l) :: k) e w := by
  obtain ⟨p2, c2, S2, w', hr, hsh⟩ := app_ownN hT (ty := ty) h hte hk hel hz hzs hsz hb hbig
  refine r_val rfl rfl hn (fun a ha => ?_) (hkk w' p2 c2 S2 hsh)
  simp only [execOp, resolve, invoke, builtin, Sem.run_bind, Sem.run_pure, Result.andThen_ok, List.map_toArray, List.map_cons, List.map_nil, ha.eval hx, ha.eval hy, hr]
end
end Go.Fw
