/- Appending. -/
import Derived.Test.YtbpmddedhekleaaGreatDoorFw5
namespace Go.Fw
open Go
open Go.RowKit (Below)
section
variable {P : Program} {T : Tab} {n : Nat} {Q : Exit → Act → World → Prop} {k : List It} {e : Env} {w0 w w' : World} {L : List Ch}

/-- What elements read as, said of one list of cells. -/
def ElemsAt {α : Type} [GoT α] (w : World) (S : Nat → Prop) (ys : List α) (news : List Value) : Prop :=
  news.length = ys.length * GoT.k α ∧ ∀ i y, ys[i]? = some y → ∃ cs, GoT.R w S y cs ∧ ∀ j v, cs[j]? = some v → news[i * GoT.k α + j]? = some v

theorem ElemsAt.one {α : Type} [GoT α] {S : Nat → Prop} {ys : List α} {news : List Value} (h : ElemsAt w S ys news) : ∀ v ∈ news, v.oneCell' = true := by
  intro v hv
  obtain ⟨r, hr, rfl⟩ := List.getElem_of_mem hv
  have hk := GoT.kpos (α := α)
  have hlt : r / GoT.k α < ys.length := by rw [Nat.div_lt_iff_lt_mul hk, ← h.1]; exact hr
  obtain ⟨cs, hR, hj⟩ := h.2 (r / GoT.k α) _ (List.getElem?_eq_getElem hlt)
  have hlen := GoT.len hR
  have hm : r % GoT.k α < cs.length := by rw [hlen]; exact Nat.mod_lt _ hk
  have := hj (r % GoT.k α) _ (List.getElem?_eq_getElem hm)
  rw [Nat.mul_comm, Nat.div_add_mod] at this
  rw [List.getElem?_eq_getElem hr, Option.some.injEq] at this
  rw [this]
  exact GoT.one hR _ (List.getElem_mem hm)

theorem ElemsAt.app {α : Type} [GoT α] {S : Nat → Prop} {xs ys : List α} {olds news : List Value} (h1 : ElemsAt w S xs olds) (h2 : ElemsAt w S ys news) : ElemsAt w S (xs ++ ys) (olds ++ news) := by
  refine ⟨by rw [List.length_append, List.length_append, h1.1, h2.1, Nat.add_mul], fun i y hi => ?_⟩
  rw [List.getElem?_append] at hi
  split at hi
  · rename_i hlt
    obtain ⟨cs, hR, hj⟩ := h1.2 i y hi
    refine ⟨cs, hR, fun j v hv => ?_⟩
    have hr := hj j v hv
    rw [List.getElem?_append_left (List.getElem?_eq_some_iff.1 hr).1]
    exact hr
  · rename_i hge
    obtain ⟨cs, hR, hj⟩ := h2.2 _ y hi
    refine ⟨cs, hR, fun j v hv => ?_⟩
    have hr := hj j v hv
    have hle : xs.length * GoT.k α ≤ i * GoT.k α := Nat.mul_le_mul_right _ (by omega)
    rw [List.getElem?_append_right (by rw [h1.1]; omega), h1.1]
    rw [show i * GoT.k α + j - xs.length * GoT.k α = (i - xs.length) * GoT.k α + j by rw [Nat.sub_mul]; omega]
    exact hr

/-- The cells of a slice that is read, and that the model gets them. -/
theorem SlR.cells {α : Type} [GoT α] {S : Nat → Prop} {ys : List α} {p : Option Addr} {c : Nat} (h : SlR w S ys p c) :
    ∃ news, ElemsAt w S ys news ∧ (Builtin.firstCells (GoT.k α) ys.length (.slice p ys.length c)).run P w = .ok news.toArray w ∧ (Builtin.firstCells (GoT.k α) ys.length (.slice p ys.length c)).run P w.drew = .ok news.toArray w.drew := by
  obtain ⟨h1, h2, h3⟩ := h
  rcases h3 with ⟨_, rfl⟩ | ⟨b, o, cur, t, fr, rfl, hb, hg, hc, hx⟩
  · cases p <;> exact ⟨[], ⟨by simp, by simp⟩, by simp [Builtin.firstCells] <;> rfl, by simp [Builtin.firstCells] <;> rfl⟩
  · have hle : ys.length * GoT.k α ≤ c * GoT.k α := Nat.mul_le_mul_right _ h1
    have hlen : ((cur.toList.drop o).take (ys.length * GoT.k α)).length = ys.length * GoT.k α := by simp; omega
    have hcell : ∀ (w1 : World), w1.heap[b]? = w.heap[b]? → ∀ j v, ((cur.toList.drop o).take (ys.length * GoT.k α))[j]? = some v → w1.cell? ((⟨b, o, none⟩ : Addr).add j) = some v := by
      intro w1 hw1 j v hj
      rw [List.getElem?_take] at hj
      split at hj
      · rw [List.getElem?_drop] at hj
        rw [add_lit]
        simp only [World.cell?, hw1, hg]
        simpa using hj
      · cases hj
    refine ⟨_, ⟨hlen, fun i y hi => ?_⟩, run_firstCells_some w _ _ _ _ _ _ hlen (hcell w rfl), run_firstCells_some w.drew _ _ _ _ _ _ hlen (hcell w.drew rfl)⟩
    obtain ⟨cs, hR, hj⟩ := hx i y hi
    refine ⟨cs, hR, fun j v hv => ?_⟩
    have hjk : j < GoT.k α := by have := GoT.len hR; have := (List.getElem?_eq_some_iff.1 hv).1; omega
    have hi' : i < ys.length := (List.getElem?_eq_some_iff.1 hi).1
    have hb2 : (i + 1) * GoT.k α ≤ ys.length * GoT.k α := Nat.mul_le_mul_right _ hi'
    rw [Nat.succ_mul] at hb2
    rw [List.getElem?_take, if_pos (by omega), List.getElem?_drop]
    have := hj j v hv
    rw [← Nat.add_assoc]
    simpa using this

theorem SlO.elems {α : Type} [GoT α] {S : Nat → Prop} {ys : List α} {c : Nat} {cur : Array Value} (hcur : cur.size = c * GoT.k α) (hl : ys.length ≤ c)
    (hx : ∀ i x, ys[i]? = some x → ∃ cs, GoT.R w S x cs ∧ ∀ j v, cs[j]? = some v → cur[i * GoT.k α + j]? = some v) : ElemsAt w S ys (cur.toList.take (ys.length * GoT.k α)) := by
  have hle : ys.length * GoT.k α ≤ c * GoT.k α := Nat.mul_le_mul_right _ hl
  refine ⟨by simp; omega, fun i y hi => ?_⟩
  obtain ⟨cs, hR, hj⟩ := hx i y hi
  refine ⟨cs, hR, fun j v hv => ?_⟩
  have hjk : j < GoT.k α := by have := GoT.len hR; have := (List.getElem?_eq_some_iff.1 hv).1; omega
  have hi' : i < ys.length := (List.getElem?_eq_some_iff.1 hi).1
  have hb2 : (i + 1) * GoT.k α ≤ ys.length * GoT.k α := Nat.mul_le_mul_right _ hi'
  rw [Nat.succ_mul] at hb2
  rw [List.getElem?_take, if_pos (by omega)]
  simpa using hj j v hv

/-- From cells to what is owned, of a flat type. -/
theorem SlO.of_elems {α : Type} [GoT α] [Flat α] {S S' : Nat → Prop} {xs : List α} {b c : Nat} {cur : Array Value} {t : TypeId} (hl : xs.length ≤ c) (hm : c ≤ maxLen) (hb : S b) (hg : w'.heap[b]? = some (.cells cur t (0, 0))) (hcur : cur.size = c * GoT.k α)
    {olds : List Value} (he : ElemsAt w S' xs olds) (ho : ∀ (r : Nat) (v : Value), olds[r]? = some v → cur[r]? = some v) : SlO w' S xs (some ⟨b, 0, none⟩) c := by
  refine ⟨hl, hm, .inr ⟨b, cur, t, fun _ _ => False, rfl, hb, hg, hcur, fun _ _ h => h.elim, fun _ _ _ _ h => h.elim, fun i x hi => ?_⟩⟩
  obtain ⟨cs, hR, hj⟩ := he.2 i x hi
  exact ⟨cs, Flat.fl hR, fun j v hv => ho _ _ (hj j v hv)⟩

theorem run_append_grow' (t ty el : TypeId) (i : TypeInfo) (z : Value) (ht : P.underlying t = some (.slice el)) (hi : P.info? el = some i) (hz : i.zero = some z)
    (p p' : Option Addr) (sLen sCap m c : Nat) (olds news : List Value) (hf : (Builtin.firstCells i.size m (.slice p' m c)).run P w.drew = .ok news.toArray w.drew) (hfo : (Builtin.firstCells i.size sLen (.slice p sLen sCap)).run P w.drew = .ok olds.toArray w.drew)
    (hg : sCap < sLen + m) (h63 : ((sLen + m : Nat) : Int) ≤ 9223372036854775807) (hfit : Builtin.nextslicecap (sLen + m) sCap * i.bytes ≤ 281474976710656) :
    (Builtin.append_ #[t, t] ty #[.slice p sLen sCap, .slice p' m c]).run P w =
      .ok (.slice (some ⟨w.heap.size, 0, none⟩) (sLen + m) (grownCap w (sLen + m) sCap el))
        (w.drew.alloc (.cells (olds.toArray ++ news.toArray ++ Builtin.zeroCells z.cells (grownCap w (sLen + m) sCap el - (sLen + m))) el)) := by
  have hn : ¬ (sLen + m ≤ sCap) := by omega
  have h63' : ¬ (9223372036854775807 < ((sLen : Int) + (m : Int))) := by omega
  have h48' : ¬ (281474976710656 < Builtin.nextslicecap (sLen + m) sCap * i.bytes) := by omega
  simp [Builtin.append_, run_underlying ht, sizeOf, typeInfo, zeroValue, hi, hz, Builtin.lenOf, hn, h63', h48', Question.forced, hf, hfo, newRow, grownCap]
  congr 2
  apply Array.ext'
  simp [List.append_assoc]

theorem run_append_room' (t ty el : TypeId) (i : TypeInfo) (ht : P.underlying t = some (.slice el)) (hi : P.info? el = some i)
    (p' : Option Addr) (g sLen sCap m c : Nat) (cur : Array Value) (t' : TypeId) (hgc : w.heap[g]? = some (.cells cur t' (0, 0))) (news : List Value) (hf : (Builtin.firstCells i.size m (.slice p' m c)).run P w = .ok news.toArray w) (h1 : ∀ u ∈ news, u.oneCell' = true)
    (hroom : sLen + m ≤ sCap) (hfit : sLen * i.size + news.length ≤ cur.size) :
    (Builtin.append_ #[t, t] ty #[.slice (some ⟨g, 0, none⟩) sLen sCap, .slice p' m c]).run P w =
      .ok (.slice (some ⟨g, 0, none⟩) (sLen + m) sCap) (w.setRow g (splice cur.toList (sLen * i.size) news).toArray) := by
  have hst := run_storeCells_at P g (sLen * i.size) t' news 0 cur w hgc (by simpa using hfit) h1
  simp only [Nat.add_zero] at hst
  simp [Builtin.append_, run_underlying ht, sizeOf, typeInfo, hi, Builtin.lenOf, hroom, hf, Addr.add_lit, hst, splice]

theorem run_append_none' (t ty el : TypeId) (i : TypeInfo) (ht : P.underlying t = some (.slice el)) (hi : P.info? el = some i) (p' : Option Addr) (c : Nat) :
    (Builtin.append_ #[t, t] ty #[.slice none 0 0, .slice p' 0 c]).run P w = .ok (.slice none 0 0) w := by
  cases p' <;> simp [Builtin.append_, run_underlying ht, sizeOf, typeInfo, hi, Builtin.lenOf, Builtin.firstCells, loadCells, loadCellsFrom]

/-- An append to what is owned, of a flat type, from whatever slice. -/
theorem app_own (hT : TabOk P T) {α : Type} [GoT α] [Flat α] {S : Nat → Prop} {xs ys : List α} {p p' : Option Addr} {ln c c' t ty el i : Nat} {te te' : TE} {zv : Value}
    (h : SH w0 w L) (hi : L[i]? = some (Ch.own S xs [.slice p ln c])) (hs : SlR w (Fw.old w) ys p' c') (hte : T.get t = some te) (hk : te.kind = .slice el) (hel : T.get el = some te') (hz : te'.zero = some zv) (hzs : (cellsL zv).length = te'.size) (hsz : te'.size = GoT.k α)
    (hb : Nat.ble te'.bytes 65536 = true) (hbig : xs.length + ys.length ≤ big) :
    ∃ p2 c2 S2 w', (Builtin.append_ #[t, t] ty #[.slice p ln c, .slice p' ys.length c']).run P w = .ok (.slice p2 (xs.length + ys.length) c2) w' ∧ SH w0 w' (L.set i (Ch.own S2 (xs ++ ys) [.slice p2 (xs.length + ys.length) c2])) := by
  obtain ⟨inf, hinf, hs1, hby, hz1⟩ := probe_info (hT _ _ hel)
  have hu := probe_slice (hT _ _ hte) hk
  have hb' := Nat.le_of_ble_eq_true hb
  have hln := (h.sl i hi).2
  subst hln
  have hsize : inf.size = GoT.k α := hs1.trans hsz
  obtain ⟨news, hnE, hnR, hnD⟩ := hs.cells (P := P)
  rw [← hsize] at hnR hnD
  obtain ⟨hP, hS⟩ := h.mem hi
  obtain ⟨p0, c0, he, h1, h2, h3⟩ := hP
  simp only [List.cons.injEq, Value.slice.injEq, and_true, true_and] at he
  obtain ⟨rfl, rfl⟩ := he
  unfold big at hbig
  have hmax : (2147483648 : Nat) ≤ maxLen := by simp [maxLen]
  have grow : ∀ (olds : List Value), ElemsAt w (Fw.old w) xs olds → (Builtin.firstCells inf.size xs.length (.slice p xs.length c)).run P w.drew = .ok olds.toArray w.drew → c < xs.length + ys.length →
      ∃ p2 c2 S2 w', (Builtin.append_ #[t, t] ty #[.slice p xs.length c, .slice p' ys.length c']).run P w = .ok (.slice p2 (xs.length + ys.length) c2) w' ∧ SH w0 w' (L.set i (Ch.own S2 (xs ++ ys) [.slice p2 (xs.length + ys.length) c2])) := by
    intro olds hoE hoD hlt
    have hfit : Builtin.nextslicecap (xs.length + ys.length) c * inf.bytes ≤ 281474976710656 := by
      refine growslice_fits hlt ?_
      have : (xs.length + ys.length) * inf.bytes ≤ 2147483648 * 65536 := Nat.mul_le_mul hbig (by omega)
      omega
    have hr := run_append_grow' (P := P) (w := w) t ty el inf zv hu hinf (hz1.trans hz) p p' xs.length c ys.length c' olds news hnD hoD hlt (by omega) hfit
    have hge := grownCap_ge w (xs.length + ys.length) c el
    have hcm := grownCap_le_maxLen w (xs.length + ys.length) c el (by omega)
    refine ⟨_, _, fun b => b = w.heap.size, _, hr, ?_⟩
    refine h.upd hi rfl rfl rfl (by simp) (fun b hb' _ => heap_alloc_old w.drew _ hb') ?_ ?_ (fun _ hd => hd.elim)
    · refine ⟨_, _, by rw [List.length_append], ?_⟩
      refine SlO.of_elems (w := w) (S' := Fw.old w) (olds := olds ++ news) (by simpa using hge) hcm rfl (heap_alloc_new w.drew _) ?_ (hoE.app hnE) ?_
      · have hzl : zv.cells.size = GoT.k α := by rw [← hsz, ← hzs, ← cells_toList]; simp
        simp only [Array.size_append, List.size_toArray, size_zeroCells, hoE.1, hnE.1, hzl, ← Nat.add_mul]
        congr 1
        omega
      · intro r v hr'
        have hlt' := (List.getElem?_eq_some_iff.1 hr').1
        rw [Array.getElem?_append_left (by simpa using hlt')]
        simpa using hr'
    · intro b hb'
      have : b = w.heap.size := hb'
      subst this
      exact .inr ⟨Nat.le_refl _, by simp⟩
  rcases h3 with ⟨rfl, rfl, rfl⟩ | ⟨b, cur, t', F, rfl, hSb, hg, hcur, hF, hd, hx⟩
  · by_cases hy : ys.length = 0
    · refine ⟨none, 0, S, w, by simpa [hy] using run_append_none' (P := P) (w := w) t ty el inf hu hinf p' c', ?_⟩
      have : ys = [] := List.eq_nil_of_length_eq_zero hy
      subst this
      refine h.upd hi rfl rfl rfl (Nat.le_refl _) (fun _ _ _ => rfl) ?_ (fun a ha => .inl ha) (fun _ hd => hd.elim)
      exact ⟨none, 0, by simp, by simp, by simp, .inl ⟨rfl, by simp, rfl⟩⟩
    · exact grow [] ⟨by simp, by simp⟩ (by simp [Builtin.firstCells]) (by simp; omega)
  · have hoE : ElemsAt w (Fw.old w) xs (cur.toList.take (xs.length * GoT.k α)) := SlO.elems hcur h1 (fun j x hj => by
      obtain ⟨cs, hO, hj'⟩ := hx j x hj
      exact ⟨cs, GoT.mono (GoT.toR hO) (fun a ha => (hS a (hF j a ha).1).2), hj'⟩)
    by_cases hroom : xs.length + ys.length ≤ c
    · have hle : (xs.length + ys.length) * GoT.k α ≤ c * GoT.k α := Nat.mul_le_mul_right _ hroom
      rw [Nat.add_mul] at hle
      have hfit : xs.length * inf.size + news.length ≤ cur.size := by rw [hnE.1, hsize, hcur]; exact hle
      have hr := run_append_room' (P := P) (w := w) t ty el inf hu hinf p' b xs.length c ys.length c' cur t' hg news hnR hnE.one hroom hfit
      refine ⟨_, _, S, _, hr, ?_⟩
      refine h.upd hi rfl rfl rfl (by simp) (fun a _ ha => setRow_other w b a _ (fun hab => ha (hab ▸ hSb))) ?_ (fun a ha => .inl ha) (fun _ hd => hd.elim)
      refine ⟨_, _, by rw [List.length_append], ?_⟩
      refine SlO.of_elems (w := w) (S' := Fw.old w) (olds := cur.toList.take (xs.length * GoT.k α) ++ news) (by simpa using hroom) h2 hSb (setRow_heap w b _ _ t' _ hg) ?_ (hoE.app hnE) ?_
      · rw [List.size_toArray, length_splice (by simpa using hfit)]; simpa using hcur
      · intro r v hr'
        rw [List.getElem?_toArray, hsize]
        have hlt' := (List.getElem?_eq_some_iff.1 hr').1
        have hr2 : (cur.toList.take (xs.length * GoT.k α) ++ news ++ cur.toList.drop (xs.length * GoT.k α + news.length))[r]? = some v := by
          rw [List.getElem?_append_left hlt']; exact hr'
        exact hr2
    · have hfo := run_firstCells_some (P := P) w.drew inf.size xs.length ⟨b, 0, none⟩ xs.length c (cur.toList.take (xs.length * GoT.k α)) (by rw [hoE.1, hsize]) (fun j v hj => by
        rw [add_lit]
        rw [List.getElem?_take] at hj
        split at hj
        · have : w.drew.heap[b]? = w.heap[b]? := rfl
          simp only [World.cell?, this, hg]
          simpa using hj
        · cases hj)
      exact grow _ hoE hfo (by omega)

theorem r_app (hT : TabOk P T) {α : Type} [GoT α] [Flat α] {all : Array Oper} {l : List Oper} {d t ty el : Nat} {ps : String} {af : Array Edge} {x y : Operand} {S : Nat → Prop} {xs ys : List α} {p p' : Option Addr} {ln ln' c c' : Nat} {te te' : TE} {zv : Value} (i : Nat)
    (h : SH w0 w L) (hi : L[i]? = some (Ch.own S xs [.slice p ln c])) (hs : SlR w (Fw.old w) ys p' c') (hl' : ln' = ys.length) (hx : opv e x = some (.slice p ln c)) (hy : opv e y = some (.slice p' ln' c'))
    (hte : T.get t = some te) (hk : te.kind = .slice el) (hel : T.get el = some te') (hz : te'.zero = some zv) (hzs : (cellsL zv).length = te'.size) (hsz : te'.size = GoT.k α)
    (hb : Nat.ble te'.bytes 65536 = true) (hbig : xs.length + ys.length ≤ big) (hn : Nat.blt d n = true)
    (hkk : ∀ w' p2 c2 S2, SH w0 w' (L.set i (Ch.own S2 (xs ++ ys) [.slice p2 (xs.length + ys.length) c2])) → Run P n Q (.ops all l :: k) ((d, .slice p2 (xs.length + ys.length) c2) :: e) w') :
    Run P n Q (.ops all (⟨some d, .call ⟨.builtin .append, #[x, y], #[t, t]⟩, ty, ps, af, none⟩ :: l) :: k) e w := by
  subst hl'
  obtain ⟨p2, c2, S2, w', hr, hsh⟩ := app_own hT (ty := ty) h hi hs hte hk hel hz hzs hsz hb hbig
  refine r_val rfl rfl hn (fun a ha => ?_) (hkk w' p2 c2 S2 hsh)
  simp only [execOp, resolve, invoke, builtin, Sem.run_bind, Sem.run_pure, Result.andThen_ok, List.map_toArray, List.map_cons, List.map_nil, ha.eval hx, ha.eval hy, hr]

/-- A slice literal, of a flat type. -/
theorem r_bslice (hT : TabOk P T) {α : Type} [GoT α] [Flat α] {all : Array Oper} {l : List Oper} {d t ty el len : Nat} {ps : String} {af : Array Edge} {parts : Array (Nat × Operand)} {te te' : TE} {zv : Value} (os : List Operand) (vs : List Value) (ys : List α)
    (h : SH w0 w L) (hparts : parts.toList = (os.zipIdx 0).map fun x => (x.2, x.1)) (hvs : opvs e os = some vs) (hlen : len = vs.length)
    (hte : T.get t = some te) (hk : te.kind = .slice el) (hel : T.get el = some te') (hz : te'.zero = some zv) (hsz : te'.size = GoT.k α) (hsmall : Nat.ble (vs.length * te'.size) 16777216 = true)
    (hc : Cells2 w (Fw.old w) ys (vs.map cellsL)) (hn : Nat.blt d n = true)
    (hkk : ∀ w' p S, SH w0 w' (Ch.own S ys [.slice p len len] :: L) → Run P n Q (.ops all l :: k) ((d, .slice p len len) :: e) w') :
    Run P n Q (.ops all (⟨some d, .buildSlice t len parts, ty, ps, af, none⟩ :: l) :: k) e w := by
  have hlenys : ∀ {ys : List α} {cs : List (List Value)}, Cells2 w (Fw.old w) ys cs → ys.length = cs.length ∧ ∀ c ∈ cs, c.length = GoT.k α := by
    intro ys
    induction ys with
    | nil => intro cs hc; cases cs with
      | nil => simp
      | cons => exact hc.elim
    | cons y ys ih =>
      intro cs hc
      cases cs with
      | nil => exact hc.elim
      | cons c cs =>
        obtain ⟨h1, h2⟩ := hc
        have := ih h2
        refine ⟨by simp [this.1], fun d hd => ?_⟩
        rcases List.mem_cons.1 hd with rfl | hd
        · exact GoT.len h1
        · exact this.2 d hd
  obtain ⟨hl1, hl2⟩ := hlenys hc
  have hcs : ∀ v ∈ vs, (cellsL v).length = te'.size := fun v hv => by rw [hsz]; exact hl2 _ (List.mem_map.2 ⟨v, hv, rfl⟩)
  have hr := run_bslice hT vs hte hk hel hz (Nat.le_of_ble_eq_true hsmall) hcs w
  subst hlen
  obtain ⟨hfl, hfe⟩ := hc.get
  refine r_val (v := .slice (some ⟨w.heap.size, 0, none⟩) vs.length vs.length) (w' := w.alloc (.cells (vs.map cellsL).flatten.toArray el)) rfl rfl hn (fun a ha => ?_)
    (hkk _ _ (fun b => b = w.heap.size) (h.add ((Below.refl _ _).alloc (Nat.le_refl _) _) ?_ ?_ (fun _ hd => hd.elim)))
  · have hev : parts.map (fun (x : Nat × Operand) => (x.1, a.eval x.2)) = ((vs.zipIdx 0).map fun x => (x.2, x.1)).toArray := by
      apply Array.ext'
      rw [Array.toList_map, hparts]
      have := opvs_spec ha hvs
      subst this
      rw [List.zipIdx_map, List.map_map, List.map_map]
      rfl
    simp only [execOp, hev, Sem.run_bind, hr, Result.andThen_ok, Sem.run_pure]
  · have hl3 : ys.length = vs.length := by simpa using hl1
    refine ⟨some ⟨w.heap.size, 0, none⟩, vs.length, by rw [hl3], ?_⟩
    have hsm : vs.length ≤ maxLen := by
      have h1 := Nat.le_of_ble_eq_true hsmall
      have h2 : vs.length * 1 ≤ vs.length * te'.size := Nat.mul_le_mul_left _ (by rw [hsz]; exact GoT.kpos)
      simp [maxLen]
      omega
    refine SlO.of_elems (w := w) (S' := Fw.old w) (olds := (vs.map cellsL).flatten) (by rw [hl3]; exact Nat.le_refl _) hsm rfl (heap_alloc_new w _) ?_ ⟨hfl, hfe⟩ (fun r v hr' => by simpa using hr')
    rw [List.size_toArray, hfl, hl3]
  · intro b hb
    have : b = w.heap.size := hb
    subst this
    exact ⟨Nat.le_refl _, by simp⟩
end
end Go.Fw
