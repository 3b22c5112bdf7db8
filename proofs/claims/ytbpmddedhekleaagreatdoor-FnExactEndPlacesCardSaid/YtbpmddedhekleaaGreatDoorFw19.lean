/- Literals of what is owned; one element of an own list taken out; readings that are learned; pointers; a new base. -/
import Derived.Test.YtbpmddedhekleaaGreatDoorFw18
namespace Go.Fw
open Go
open Go.RowKit (Below)

section
variable {P : Program} {T : Tab} {n : Nat} {Q : Exit → Act → World → Prop} {k : List It} {e : Env} {w0 w w' w1 : World} {L : List Ch}

/-! ### Lists of parts -/

/-- Elements that lie in parts that are apart from one another. -/
def Pos {α : Type} [GoT α] (w : World) (L : List Ch) : List Nat → List α → List (List Value) → Prop
  | I, [], [] => I = []
  | I, x :: xs, c :: cs => ∃ I1 I2, I = I1 ++ I2 ∧ PO w L I1 x c ∧ Pos w L I2 xs cs ∧ apartB I1 I2 = true
  | _, _, _ => False

theorem pos_nil {α : Type} [GoT α] : Pos w L [] ([] : List α) [] := rfl
theorem pos_cons {α : Type} [GoT α] {x : α} {xs : List α} {c : List Value} {cs : List (List Value)} {I1 I2 : List Nat} (h1 : PO w L I1 x c) (h2 : Pos w L I2 xs cs) (hb : apartB I1 I2 = true) : Pos w L (I1 ++ I2) (x :: xs) (c :: cs) :=
  ⟨I1, I2, rfl, h1, h2, hb⟩

theorem Pos.get {α : Type} [GoT α] (h : SH w0 w L) : ∀ {I : List Nat} {xs : List α} {cs : List (List Value)}, Pos w L I xs cs →
    xs.length = cs.length ∧ (∀ c ∈ cs, c.length = GoT.k α) ∧ ∃ F : Nat → Nat → Prop, (∀ i a, F i a → ∃ j d, j ∈ I ∧ L[j]? = some d ∧ d.S a) ∧ (∀ i j a, i ≠ j → F i a → ¬ F j a) ∧
      ∀ i x, xs[i]? = some x → ∃ c, GoT.O w (F i) x c ∧ ∀ j v, c[j]? = some v → cs.flatten[i * GoT.k α + j]? = some v
  | I, [], [], hp => ⟨rfl, by simp, fun _ _ => False, fun _ _ h => h.elim, fun _ _ _ _ h => h.elim, fun i x hi => by simp at hi⟩
  | I, x :: xs, c :: cs, hp => by
    obtain ⟨I1, I2, rfl, ⟨S1, hO, hW⟩, h2, hb⟩ := hp
    obtain ⟨hl, hc, F, hF, hd, hg⟩ := Pos.get h h2
    have hk := GoT.len (GoT.toR hO)
    have hap : ∀ i a, S1 a → ¬ F i a := fun i a ha hb' => within_apart h hW (S2 := F i) (fun b hb => hF i b hb) hb a ha hb'
    refine ⟨by simp [hl], fun d hd => ?_, fun i a => match i with | 0 => S1 a | i + 1 => F i a, fun i a ha => ?_, fun i j a hne ha hb' => ?_, fun i y hi => ?_⟩
    · rcases List.mem_cons.1 hd with rfl | hd
      · exact hk
      · exact hc d hd
    · cases i with
      | zero => obtain ⟨j, d, hj, h⟩ := hW a ha; exact ⟨j, d, by simp [hj], h⟩
      | succ i => obtain ⟨j, d, hj, h⟩ := hF i a ha; exact ⟨j, d, by simp [hj], h⟩
    · cases i with
      | zero => cases j with
        | zero => exact hne rfl
        | succ j => exact hap j a ha hb'
      | succ i => cases j with
        | zero => exact hap i a hb' ha
        | succ j => exact hd i j a (by omega) ha hb'
    · cases i with
      | zero =>
        simp only [List.getElem?_cons_zero, Option.some.injEq] at hi
        subst hi
        refine ⟨c, hO, fun j v hj => ?_⟩
        have := (List.getElem?_eq_some_iff.1 hj).1
        rw [Nat.zero_mul, Nat.zero_add, List.flatten_cons, List.getElem?_append_left this]
        exact hj
      | succ i =>
        simp only [List.getElem?_cons_succ] at hi
        obtain ⟨c', hc', hj'⟩ := hg i y hi
        refine ⟨c', hc', fun j v hj => ?_⟩
        rw [List.flatten_cons, List.getElem?_append_right (by rw [hk, Nat.succ_mul]; omega)]
        rw [show (i + 1) * GoT.k α + j - c.length = i * GoT.k α + j by rw [hk, Nat.succ_mul]; omega]
        exact hj' j v hj
  | _, [], _ :: _, h => h.elim
  | _, _ :: _, [], h => h.elim

/-- A slice literal of what is owned. -/
theorem r_bsliceN (hT : TabOk P T) {α : Type} [GoT α] {all : Array Oper} {l : List Oper} {d t ty el len : Nat} {ps : String} {af : Array Edge} {parts : Array (Nat × Operand)} {te te' : TE} {zv : Value} (os : List Operand) (vs : List Value) (ys : List α) {I : List Nat} (J : List Nat)
    (h : SH w0 w L) (hparts : parts.toList = (os.zipIdx 0).map fun x => (x.2, x.1)) (hvs : opvs e os = some vs) (hlen : len = vs.length)
    (hte : T.get t = some te) (hk : te.kind = .slice el) (hel : T.get el = some te') (hz : te'.zero = some zv) (hsz : te'.size = GoT.k α) (hsmall : Nat.ble (vs.length * te'.size) 16777216 = true)
    (hc : Pos w L I ys (vs.map cellsL)) (hJ : (apartB I J && nodupB J) = true) (hn : Nat.blt d n = true)
    (hkk : ∀ w' p S, SH w0 w' (Ch.own S ys [.slice p len len] :: pickL L J) → Run P n Q (.ops all l :: k) ((d, .slice p len len) :: e) w') :
    Run P n Q (.ops all (⟨some d, .buildSlice t len parts, ty, ps, af, none⟩ :: l) :: k) e w := by
  obtain ⟨hl1, hl2, F, hF, hFd, hg⟩ := hc.get h
  have hcs : ∀ v ∈ vs, (cellsL v).length = te'.size := fun v hv => by rw [hsz]; exact hl2 _ (List.mem_map.2 ⟨v, hv, rfl⟩)
  have hr := run_bslice hT vs hte hk hel hz (Nat.le_of_ble_eq_true hsmall) hcs w
  have hl3 : ys.length = vs.length := by simpa using hl1
  subst hlen
  simp only [Bool.and_eq_true] at hJ
  have hfl : (vs.map cellsL).flatten.length = vs.length * GoT.k α := by
    have : ∀ (cs : List (List Value)), (∀ c ∈ cs, c.length = GoT.k α) → cs.flatten.length = cs.length * GoT.k α := by
      intro cs
      induction cs with
      | nil => intro _; simp
      | cons c cs ih => intro hc; rw [List.flatten_cons, List.length_append, hc c (by simp), ih (fun d hd => hc d (by simp [hd])), List.length_cons, Nat.succ_mul]; omega
    rw [this _ hl2]; simp
  have hsm : vs.length ≤ maxLen := by
    have h1 := Nat.le_of_ble_eq_true hsmall
    have h2 : vs.length * 1 ≤ vs.length * te'.size := Nat.mul_le_mul_left _ (by rw [hsz]; exact GoT.kpos)
    simp [maxLen]
    omega
  have hbe : Below w.heap.size w (w.alloc (.cells (vs.map cellsL).flatten.toArray el)) := (Below.refl _ _).alloc (Nat.le_refl _) _
  have hin : ∀ i a, F i a → fresh w0 w a := fun i a ha => by obtain ⟨j, d, _, hj, hd⟩ := hF i a ha; exact (h.mem hj).2 a hd
  have h2 := (h.pick J hJ.2).ext hbe
  refine r_val (v := .slice (some ⟨w.heap.size, 0, none⟩) vs.length vs.length) (w' := w.alloc (.cells (vs.map cellsL).flatten.toArray el)) rfl rfl hn (fun a ha => ?_)
    (hkk _ _ (fun b => b = w.heap.size ∨ ∃ i, F i b) ⟨h2.below, fun c hc => ?_, fun c hc => ?_, List.pairwise_cons.2 ⟨fun c hc b hb hcb => ?_, h2.apart⟩⟩)
  · have hev : parts.map (fun (x : Nat × Operand) => (x.1, a.eval x.2)) = ((vs.zipIdx 0).map fun x => (x.2, x.1)).toArray := by
      apply Array.ext'
      rw [Array.toList_map, hparts]
      have := opvs_spec ha hvs
      subst this
      rw [List.zipIdx_map, List.map_map, List.map_map]
      rfl
    simp only [execOp, hev, Sem.run_bind, hr, Result.andThen_ok, Sem.run_pure]
  · rcases List.mem_cons.1 hc with rfl | hc
    · refine ⟨⟨some ⟨w.heap.size, 0, none⟩, vs.length, by rw [hl3], by rw [hl3]; exact Nat.le_refl _, hsm, .inr ⟨w.heap.size, _, el, F, rfl, .inl rfl, heap_alloc_new w _, by rw [List.size_toArray, hfl], fun i a ha => ⟨.inr ⟨i, ha⟩, fun hab => by have := (hin i a ha).2; omega⟩, hFd, fun i x hi => ?_⟩⟩, fun b hb => ?_⟩
      · obtain ⟨cs, hO, hj⟩ := hg i x hi
        exact ⟨cs, GoT.locO hO (fun a ha => heap_alloc_old w _ (hin i a ha).2), fun j v hv => by simpa using hj j v hv⟩
      · rcases hb with hb | ⟨i, hb⟩
        · subst hb; exact ⟨h.below.size, by simp⟩
        · exact ⟨(hin i b hb).1, Nat.lt_of_lt_of_le (hin i b hb).2 hbe.size⟩
    · exact h2.holds c hc
  · rcases List.mem_cons.1 hc with rfl | hc
    · exact fun _ h => h.elim
    · exact h2.elder c hc
  · obtain ⟨j, hj, hjc⟩ := mem_pickL hc
    rcases hb with hb | ⟨i, hb⟩
    · subst hb
      have := ((h.mem hjc).2 _ hcb).2
      omega
    · exact within_apart h (S1 := F i) (S2 := c.S) (hF i) (fun x hx => ⟨j, c, hj, hjc, hx⟩) hJ.1 b hb hcb

/-! ### One element of an own list, taken out -/

def Ch.hole {α : Type} [GoT α] (S : Nat → Prop) (xs : List α) (p : Option Addr) (ln c i : Nat) (cs : List Value) : Ch where
  S := S
  D _ := False
  P w := ln = xs.length ∧ xs.length ≤ c ∧ c ≤ maxLen ∧ i < xs.length ∧ cs.length = GoT.k α ∧
    ∃ b cur T, ∃ F : Nat → Nat → Prop, p = some ⟨b, 0, none⟩ ∧ S b ∧ w.heap[b]? = some (.cells cur T (0, 0)) ∧ cur.size = c * GoT.k α ∧
      (∀ i a, F i a → S a ∧ a ≠ b) ∧ (∀ i j a, i ≠ j → F i a → ¬ F j a) ∧ (∀ a, ¬ F i a) ∧ (∀ j v, cs[j]? = some v → cur[i * GoT.k α + j]? = some v) ∧
      ∀ j x, j ≠ i → xs[j]? = some x → ∃ ds, GoT.O w (F j) x ds ∧ ∀ r v, ds[r]? = some v → cur[j * GoT.k α + r]? = some v
  loc w w' h _ hp := by
    obtain ⟨h1, h2, h3, h4, h5, b, cur, T, F, q1, q2, q3, q4, q5, q6, q7, q8, q9⟩ := hp
    exact ⟨h1, h2, h3, h4, h5, b, cur, T, F, q1, q2, by rw [h b q2]; exact q3, q4, q5, q6, q7, q8, fun j x hj hx => by
      obtain ⟨ds, hO, hd⟩ := q9 j x hj hx
      exact ⟨ds, GoT.locO hO (fun a ha => h a (q5 j a ha).1), hd⟩⟩

theorem SH.take {α : Type} [GoT α] {S : Nat → Prop} {xs : List α} {p : Option Addr} {ln c : Nat} {iv : Int} {x : α} (h : SH w0 w (Ch.own S xs [.slice p ln c] :: L)) (hx : idx xs iv = some x) :
    ∃ S1 S2 cs, SH w0 w (Ch.own S1 x cs :: Ch.hole S2 xs p ln c iv.toNat cs :: L) := by
  obtain ⟨hP, hS⟩ := h.holds _ (List.mem_cons_self ..)
  obtain ⟨h0, hlt, hxi⟩ := idx_some hx
  have hpw := List.pairwise_cons.1 h.apart
  obtain ⟨p', c', he, h1, h2, h3⟩ := hP
  simp only [List.cons.injEq, Value.slice.injEq, and_true] at he
  obtain ⟨rfl, rfl, rfl⟩ := he
  have hil := (List.getElem?_eq_some_iff.1 hxi).1
  rcases h3 with ⟨_, rfl, _⟩ | ⟨b, cur, t, F, rfl, hb, hg, hcur, hF, hd, hx'⟩
  · simp at hil
  · obtain ⟨cs, hO, hj⟩ := hx' _ _ hxi
    refine ⟨F iv.toNat, fun a => a = b ∨ ∃ i, i ≠ iv.toNat ∧ F i a, cs, h.below, fun d hd' => ?_, fun d hd' => ?_, ?_⟩
    · rcases List.mem_cons.1 hd' with rfl | hd'
      · exact ⟨hO, fun a ha => hS a (hF _ a ha).1⟩
      rcases List.mem_cons.1 hd' with rfl | hd'
      · refine ⟨⟨rfl, h1, h2, hil, GoT.len (GoT.toR hO), b, cur, t, fun i a => i ≠ iv.toNat ∧ F i a, rfl, .inl rfl, hg, hcur, fun i a ha => ⟨.inr ⟨i, ha⟩, (hF i a ha.2).2⟩, fun i j a hne ha hb => hd i j a hne ha.2 hb.2, fun a ha => ha.1 rfl, hj, fun j y hne hy => ?_⟩, fun a ha => ?_⟩
        · obtain ⟨ds, hO', hj'⟩ := hx' j y hy
          exact ⟨ds, GoT.monoO hO' (fun a ha => ⟨hne, ha⟩), hj'⟩
        · rcases ha with ha | ⟨i, _, ha⟩
          · exact hS a (ha ▸ hb)
          · exact hS a (hF i a ha).1
      · exact h.holds d (List.mem_cons_of_mem _ hd')
    · rcases List.mem_cons.1 hd' with rfl | hd'
      · exact fun _ h => h.elim
      rcases List.mem_cons.1 hd' with rfl | hd'
      · exact fun _ h => h.elim
      · exact h.elder d (List.mem_cons_of_mem _ hd')
    · refine List.pairwise_cons.2 ⟨fun d hd' a ha => ?_, List.pairwise_cons.2 ⟨fun d hd' a ha => ?_, hpw.2⟩⟩
      · rcases List.mem_cons.1 hd' with rfl | hd'
        · rintro (hab | ⟨i, hi, ha2⟩)
          · exact (hF _ a ha).2 hab
          · exact hd i _ a hi ha2 ha
        · exact hpw.1 d hd' a (hF _ a ha).1
      · rcases ha with ha | ⟨i, _, ha⟩
        · exact hpw.1 d hd' a (ha ▸ hb)
        · exact hpw.1 d hd' a (hF i a ha).1

theorem SH.put {α : Type} [GoT α] {S1 S2 : Nat → Prop} {xs : List α} {p : Option Addr} {ln c i : Nat} {x : α} {cs : List Value} (h : SH w0 w (Ch.own S1 x cs :: Ch.hole S2 xs p ln c i cs :: L)) :
    SH w0 w (Ch.own (fun b => S1 b ∨ S2 b) (xs.set i x) [.slice p ln c] :: L) := by
  have hap := (List.pairwise_cons.1 h.apart).1 (Ch.hole S2 xs p ln c i cs) (List.mem_cons_self ..)
  refine h.join (e := Ch.own (fun b => S1 b ∨ S2 b) (xs.set i x) [.slice p ln c]) (fun h1 h2 => ?_) (fun _ hb => hb) (fun _ h => h.elim)
  obtain ⟨rfl, g1, g2, g3, g4, b, cur, T, F, rfl, q2, q3, q4, q5, q6, q7, q8, q9⟩ := h2
  refine ⟨_, _, by rw [List.length_set], by simpa using g1, g2, .inr ⟨b, cur, T, fun j a => (j = i ∧ S1 a) ∨ (j ≠ i ∧ F j a), rfl, .inr q2, q3, q4, ?_, ?_, ?_⟩⟩
  · rintro j a (⟨_, ha⟩ | ⟨_, ha⟩)
    · exact ⟨.inl ha, fun hab => hap a ha (hab ▸ q2)⟩
    · exact ⟨.inr (q5 j a ha).1, (q5 j a ha).2⟩
  · rintro j j' a hne (⟨hj, ha⟩ | ⟨hj, ha⟩) (⟨hj', hb⟩ | ⟨hj', hb⟩)
    · exact hne (hj.trans hj'.symm)
    · exact hap a ha (q5 j' a hb).1
    · exact hap a hb (q5 j a ha).1
    · exact q6 j j' a hne ha hb
  · intro j y hy
    rw [List.getElem?_set] at hy
    split at hy
    · rename_i hij
      simp only [Option.some.injEq] at hy
      subst hy hij
      exact ⟨cs, GoT.monoO h1 (fun a ha => .inl ⟨rfl, ha⟩), q8⟩
    · rename_i hij
      obtain ⟨ds, hO, hd⟩ := q9 j y (fun e => hij e.symm) hy
      exact ⟨ds, GoT.monoO hO (fun a ha => .inr ⟨fun e => hij e.symm, ha⟩), hd⟩

/-- The place of the element that is out. -/
theorem SH.holeAt {α : Type} [GoT α] {S : Nat → Prop} {xs : List α} {p : Option Addr} {ln c i : Nat} {cs : List Value} (m : Nat) (h : SH w0 w L) (hi : L[m]? = some (Ch.hole S xs p ln c i cs)) :
    ∃ b, p = some ⟨b, 0, none⟩ ∧ CellsAt w b (i * GoT.k α) cs ∧ i < ln ∧ ln = xs.length := by
  obtain ⟨rfl, g1, g2, g3, g4, b, cur, T, F, rfl, q2, q3, q4, q5, q6, q7, q8, q9⟩ := (h.mem hi).1
  exact ⟨b, rfl, CellsAt.of_block q3 q8, g3, rfl⟩

theorem hole_set {α : Type} [GoT α] {S : Nat → Prop} {xs : List α} {p : Option Addr} {ln c i j b : Nat} {cs vs : List Value} {m : Nat} (h : SH w0 w L) (hi : L[m]? = some (Ch.hole S xs p ln c i cs)) (hp : p = some ⟨b, 0, none⟩) (hle : j + vs.length ≤ cs.length) :
    ∃ cur t, w.heap[b]? = some (.cells cur t (0, 0)) ∧ i * GoT.k α + j + vs.length ≤ cur.size ∧
      SH w0 (w.setRow b (splice cur.toList (i * GoT.k α + j) vs).toArray) (L.set m (Ch.hole S xs p ln c i (splice cs j vs))) := by
  obtain ⟨hP, hS⟩ := h.mem hi
  obtain ⟨rfl, g1, g2, g3, g4, b', cur, T, F, hpb, q2, q3, q4, q5, q6, q7, q8, q9⟩ := hP
  subst hp
  simp only [Option.some.injEq, Addr.mk.injEq, and_true] at hpb
  subst hpb
  have hb1 : i * GoT.k α + GoT.k α ≤ cur.size := by rw [q4]; exact mul_le_slot (by omega)
  have hfit : i * GoT.k α + j + vs.length ≤ cur.toList.length := by simp; omega
  refine ⟨cur, T, q3, by simpa using hfit, ?_⟩
  refine h.upd hi rfl rfl rfl (by simp) (fun a _ ha => setRow_other w b a _ (fun hab => ha (hab ▸ q2))) ?_ (fun a ha => .inl ha) (fun _ hd => hd.elim)
  refine ⟨rfl, g1, g2, g3, by rw [length_splice hle]; exact g4, b, _, T, F, rfl, q2, setRow_heap w b _ _ T _ q3, by rw [List.size_toArray, length_splice hfit]; simpa using q4, q5, q6, q7, fun r v hr => ?_, fun r x hne hx => ?_⟩
  · rw [List.getElem?_toArray]
    rw [getElem?_splice hle] at hr
    rw [getElem?_splice hfit]
    have hcell : ∀ r v, cs[r]? = some v → cur.toList[i * GoT.k α + r]? = some v := fun r v hr => by simpa using q8 r v hr
    split at hr
    · rw [if_pos (by omega)]; exact hcell _ _ hr
    · split at hr
      · rw [if_neg (by omega), if_pos (by omega), show i * GoT.k α + r - (i * GoT.k α + j) = r - j by omega]
        exact hr
      · rw [if_neg (by omega), if_neg (by omega)]
        exact hcell _ _ hr
  · obtain ⟨ds, hO, hd⟩ := q9 r x hne hx
    refine ⟨ds, GoT.locO hO (fun a ha => setRow_other w b a _ (q5 r a ha).2), fun q v hq => ?_⟩
    have hqk : q < GoT.k α := by have := GoT.len (GoT.toR hO); have := (List.getElem?_eq_some_iff.1 hq).1; omega
    have hs := slot_ne (q := q) hne hqk hqk
    rw [List.getElem?_toArray, splice_ne hfit (by omega)]
    simpa using hd q v hq

theorem r_sthole (hT : TabOk P T) {α : Type} [GoT α] {all : Array Oper} {l : List Oper} {t ty : Nat} {ps : String} {af : Array Edge} {x v : Operand} {te : TE} {S : Nat → Prop} {xs : List α} {p : Option Addr} {ln c b m q : Nat} {cs : List Value} {u : Value} (i j : Nat)
    (h : SH w0 w L) (hi : L[i]? = some (Ch.hole S xs p ln c m cs)) (hp : p = some ⟨b, 0, none⟩) (hq : q = 0 + m * GoT.k α) (hx : opv e x = some (.pointer (some ⟨b, q + j, none⟩))) (hv : opv e v = some u) (hte : T.get t = some te)
    (hsz : Nat.beq (cellsL u).length te.size = true) (hle : Nat.ble (j + (cellsL u).length) cs.length = true) (h1 : ones (cellsL u) = true)
    (hk : ∀ w', SH w0 w' (L.set i (Ch.hole S xs p ln c m (splice cs j (cellsL u)))) → Run P n Q (.ops all l :: k) e w') : Run P n Q (.ops all (⟨none, .store t x v, ty, ps, af, none⟩ :: l) :: k) e w := by
  rw [Nat.zero_add] at hq
  subst hq
  obtain ⟨cur, t', hg, hfit, hsh⟩ := hole_set h hi hp (Nat.le_of_ble_eq_true hle)
  refine r_unit rfl rfl (fun a ha => ?_) (hk _ hsh)
  have := run_storeAt hT hte hg (beqT hsz) hfit h1
  simp only [execOp, ha.eval hx, ha.eval hv, Sem.run_bind, this, Result.andThen_ok, Sem.run_pure]

/-! ### What is owned, with readings that were learned -/

def Ch.lrn {α : Type} [GoT α] (S : Nat → Prop) (x : α) (cs : List Value) (fs : List Fct) : Ch where
  S := S
  D _ := False
  P w := GoT.O w S x cs ∧ ∀ f ∈ fs, f.R w S
  loc _ _ h _ hp := ⟨GoT.locO hp.1 h, fun f hf => GoT.loc (self := f.inst) (hp.2 f hf) h⟩

/-- A part changes only in what is said of it. -/
theorem SH.say {c c' : Ch} {i : Nat} (h : SH w0 w L) (hi : L[i]? = some c) (hp : c.P w → c'.P w) (hS : ∀ b, c'.S b → c.S b) (hD : ∀ b, c'.D b → b < w0.heap.size) : SH w0 w (L.set i c') :=
  h.upd hi rfl rfl rfl (Nat.le_refl _) (fun _ _ _ => rfl) (hp (h.mem hi).1) (fun b hb => .inl (hS b hb)) hD

variable {α β : Type} [GoT α] [GoT β] {S : Nat → Prop} {x : α} {cs : List Value} {fs : List Fct}

theorem SH.lrn0 (i : Nat) (h : SH w0 w L) (hi : L[i]? = some (Ch.own S x cs)) : SH w0 w (L.set i (Ch.lrn S x cs [])) :=
  h.say hi (fun hp => ⟨hp, fun _ h => by cases h⟩) (fun _ h => h) (fun _ h => h.elim)
theorem SH.unlrn (i : Nat) (h : SH w0 w L) (hi : L[i]? = some (Ch.lrn S x cs fs)) : SH w0 w (L.set i (Ch.own S x cs)) :=
  h.say hi (fun hp => hp.1) (fun _ h => h) (fun _ h => h.elim)
theorem SH.lrnAdd {y : β} {ds : List Value} (i : Nat) (h : SH w0 w L) (hi : L[i]? = some (Ch.lrn S x cs fs)) (hr : GoT.R w S y ds) : SH w0 w (L.set i (Ch.lrn S x cs (fct y ds :: fs))) :=
  h.say hi (fun hp => ⟨hp.1, fun f hf => by
    rcases List.mem_cons.1 hf with rfl | hf
    · exact hr
    · exact hp.2 f hf⟩) (fun _ h => h) (fun _ h => h.elim)
theorem SH.lrnS (i j : Nat) {y : β} {ds : List Value} (h : SH w0 w L) (hi : L[i]? = some (Ch.lrn S x cs fs)) (hj : fs[j]? = some (fct y ds)) : GoT.R w S y ds :=
  (h.mem hi).1.2 _ (List.mem_of_getElem? hj)
theorem SH.lrnO (i : Nat) (h : SH w0 w L) (hi : L[i]? = some (Ch.lrn S x cs fs)) : GoT.R w S x cs := GoT.toR (h.mem hi).1.1
theorem SH.lrnB (i : Nat) (h : SH w0 w L) (hi : L[i]? = some (Ch.lrn S x cs fs)) : ∀ b, S b → Fw.old w b := fun b hb => ((h.mem hi).2 b hb).2

theorem sl_of {xs : List α} {p : Option Addr} {ln c : Nat} (h : GoT.R w S xs [.slice p ln c]) : SlR w S xs p c ∧ ln = xs.length := by
  obtain ⟨p', c', he, ho⟩ := h
  simp only [List.cons.injEq, Value.slice.injEq, and_true] at he
  obtain ⟨rfl, rfl, rfl⟩ := he
  exact ⟨ho, rfl⟩

/-! ### Pointers -/

def PtR {α : Type} [GoT α] (w : World) (S : Nat → Prop) (p : Option α) (a : Option Addr) : Prop := GoT.R w S p [.pointer a]

theorem open_ptr {p : Option α} {cs : List Value} (h : GoT.R w S p cs) : ∃ a, cs = [.pointer a] ∧ PtR w S p a := by
  cases p with
  | none => exact ⟨none, h, (rfl : [Value.pointer none] = [.pointer none])⟩
  | some x =>
    obtain ⟨b, o, cur, T, fr, ds, rfl, h⟩ := h
    exact ⟨_, rfl, b, o, cur, T, fr, ds, rfl, h⟩

theorem PtR.get {p : Option α} {a : Option Addr} {x : α} (h : PtR w S p a) (hx : p = some x) : ∃ b o ds, a = some ⟨b, o, none⟩ ∧ S b ∧ GoT.R w S x ds ∧ CellsAt w b o ds := by
  subst hx
  obtain ⟨b, o, cur, T, fr, ds, he, hb, hg, hr, hj⟩ := h
  simp only [List.cons.injEq, Value.pointer.injEq, and_true] at he
  exact ⟨b, o, ds, he, hb, hr, CellsAt.of_block hg hj⟩

theorem PtR.isNone {p : Option α} {a : Option Addr} (h : PtR w S p a) : a.isNone = p.isNone := by
  cases p with
  | none => have he : [Value.pointer a] = [.pointer none] := h; cases he; rfl
  | some x => obtain ⟨b, o, ds, rfl, _⟩ := h.get rfl; rfl

theorem PtR.mono {S' : Nat → Prop} {p : Option α} {a : Option Addr} (h : PtR w S p a) (hs : ∀ b, S b → S' b) : PtR w S' p a := GoT.mono h hs
theorem PtR.none : PtR w S (none : Option α) none := rfl

/-- A variable that is pointed at. -/
theorem ptr_box {b : Nat} {ds : List Value} {t : TypeId} (i : Nat) (h : SH w0 w L) (hi : L[i]? = some (Ch.box b ds t)) (hS : S b) (hr : GoT.R w S x ds) : GoT.R w S (some x) [.pointer (some ⟨b, 0, none⟩)] := by
  have hg : w.heap[b]? = some (.cells ds.toArray t (0, 0)) := (h.mem hi).1
  exact ⟨b, 0, _, t, (0, 0), ds, rfl, hS, hg, hr, fun j v hj => by simpa using hj⟩
theorem ptr_boxB {b : Nat} {ds : List Value} {t : TypeId} (i : Nat) (h : SH w0 w L) (hi : L[i]? = some (Ch.box b ds t)) (hr : GoT.R w (Fw.old w) x ds) : GoT.R w (Fw.old w) (some x) [.pointer (some ⟨b, 0, none⟩)] :=
  ptr_box i h hi ((h.mem hi).2 b rfl).2 hr

/-! ### A new base: whatever was known is of the world that stands -/

def NoD : List Ch → Prop
  | [] => True
  | c :: L => (∀ b, ¬ c.D b) ∧ NoD L

theorem NoD.all : ∀ {L : List Ch}, NoD L → ∀ c ∈ L, ∀ b, ¬ c.D b
  | [], _, _, h => by cases h
  | d :: L, h, c, hc => by
    rcases List.mem_cons.1 hc with rfl | hc
    · exact h.1
    · exact NoD.all h.2 c hc

theorem SH.unbase (h : SH w1 w L) (hb : Below w0.heap.size w0 w1) (hD : NoD L) : SH w0 w L :=
  ⟨hb.trans (h.below.mono hb.size), fun c hc => ⟨(h.holds c hc).1, fun b hcb => ⟨Nat.le_trans hb.size ((h.holds c hc).2 b hcb).1, ((h.holds c hc).2 b hcb).2⟩⟩, fun c hc b hcb => absurd hcb (hD.all c hc b), h.apart⟩

end
end Go.Fw
