/- Reading and writing memory, calls, returns. -/
import Derived.Test.YtbpmddedhekleaaGreatDoorFw3
namespace Go.Fw
open Go
open Go.RowKit (Below)

def idx {α : Type} (xs : List α) (i : Int) : Option α := if 0 ≤ i then xs[i.toNat]? else none

theorem idx_some {α : Type} {xs : List α} {i : Int} {x : α} (h : idx xs i = some x) : 0 ≤ i ∧ i < xs.length ∧ xs[i.toNat]? = some x := by
  unfold idx at h
  split at h
  · rename_i h0
    have := (List.getElem?_eq_some_iff.1 h).1
    exact ⟨h0, by omega, h⟩
  · cases h

def CellsAt (w : World) (b o : Nat) (cs : List Value) : Prop := ∀ j v, cs[j]? = some v → w.cell? ⟨b, o + j, none⟩ = some v

section
variable {P : Program} {T : Tab} {n : Nat} {Q : Exit → Act → World → Prop} {k : List It} {e : Env} {w0 w w' : World} {L : List Ch}

theorem CellsAt.loc {b o : Nat} {cs : List Value} (h : CellsAt w b o cs) (hb : w'.heap[b]? = w.heap[b]?) : CellsAt w' b o cs :=
  fun j v hj => by rw [World.cell?_of_block (w := w) (a := ⟨b, o + j, none⟩) hb]; exact h j v hj

theorem CellsAt.below {b o : Nat} {cs : List Value} (h : CellsAt w b o cs) (hb : Below w.heap.size w w') : CellsAt w' b o cs := by
  by_cases hc : cs = []
  · subst hc; intro j v hj; simp at hj
  · obtain ⟨v, cs', rfl⟩ := List.exists_cons_of_ne_nil hc
    have h0 := h 0 v rfl
    exact h.loc (hb.block b (World.block_lt_of_cell? w _ h0))

theorem CellsAt.of_block {b : Nat} {cur : Array Value} {t : TypeId} {fr : Nat × Nat} {o : Nat} {cs : List Value} (hg : w.heap[b]? = some (.cells cur t fr)) (h : ∀ j v, cs[j]? = some v → cur[o + j]? = some v) : CellsAt w b o cs := by
  intro j v hj
  simp [World.cell?, hg, h j v hj]

theorem SH.box {b : Nat} {cs : List Value} {t : TypeId} (h : SH w0 w L) (i : Nat) (hi : L[i]? = some (Ch.box b cs t)) : CellsAt w b 0 cs := by
  have hg : w.heap[b]? = some (.cells cs.toArray t (0, 0)) := (h.mem hi).1
  exact CellsAt.of_block hg (fun j v hj => by simpa using hj)

theorem SlR.at {α : Type} [GoT α] {S : Nat → Prop} {xs : List α} {p c} {i : Int} {x : α} (h : SlR w S xs p c) (hx : idx xs i = some x) :
    ∃ b o q cs, p = some ⟨b, o, none⟩ ∧ q = o + i.toNat * GoT.k α ∧ S b ∧ GoT.R w S x cs ∧ CellsAt w b q cs := by
  obtain ⟨h0, hlt, hxi⟩ := idx_some hx
  obtain ⟨h1, h2, h3⟩ := h
  rcases h3 with ⟨_, rfl⟩ | ⟨b, o, cur, T, fr, rfl, hb, hg, hc, hx'⟩
  · simp at hlt; omega
  · obtain ⟨cs, hr, hj⟩ := hx' _ _ hxi
    exact ⟨b, o, _, cs, rfl, rfl, hb, hr, CellsAt.of_block hg hj⟩

theorem SH.oldS {α : Type} [GoT α] {xs : List α} {p c} (h : SH w0 w L) (hr : SlR w0 (Fw.old w0) xs p c) : SlR w (Fw.old w) xs p c :=
  (hr.loc (fun b hb => h.below.block b hb)).mono (fun _ hb => Nat.lt_of_lt_of_le hb h.below.size)

theorem SlR.below {α : Type} [GoT α] {xs : List α} {p c} (hr : SlR w (Fw.old w) xs p c) (h : Below w.heap.size w w') : SlR w' (Fw.old w') xs p c :=
  (hr.loc (fun b hb => h.block b hb)).mono (fun _ hb => Nat.lt_of_lt_of_le hb h.size)

theorem SH.sl {α : Type} [GoT α] {S : Nat → Prop} {xs : List α} {p : Option Addr} {ln c : Nat} (h : SH w0 w L) (i : Nat) (hi : L[i]? = some (Ch.own S xs [.slice p ln c])) : SlR w (Fw.old w) xs p c ∧ ln = xs.length := by
  obtain ⟨h1, h2⟩ := h.mem hi
  obtain ⟨p', c', he, ho⟩ := h1
  simp only [List.cons.injEq, Value.slice.injEq, and_true] at he
  obtain ⟨rfl, rfl, rfl⟩ := he
  exact ⟨ho.toR.mono (fun b hb => (h2 b hb).2), rfl⟩

/-! ### Values of operations -/

/-- In this world, with these temporaries, the operation yields this value and leaves the world as it is. -/
def Val (P : Program) (n : Nat) (e : Env) (o : Oper) (w : World) (v : Value) : Prop := ∀ a, Agree n e a → (execOp a.eval o).run P w = .ok (.value v) w

theorem v_p (hT : TabOk P T) {o : Oper} {v : Value} (h : pev T e o.op = some v) (w : World) : Val P n e o w v := fun _ ha => pev_ok hT ha h w

theorem r_v {all : Array Oper} {l : List Oper} {op : Op} {d t : Nat} {ps : String} {af : Array Edge} {v : Value}
    (h : Val P n e ⟨some d, op, t, ps, af, none⟩ w v) (hn : Nat.blt d n = true) (hk : Run P n Q (.ops all l :: k) ((d, v) :: e) w) : Run P n Q (.ops all (⟨some d, op, t, ps, af, none⟩ :: l) :: k) e w :=
  r_val rfl rfl hn h hk

def ld (te : TE) (cs : List Value) (j : Nat) : Option Value :=
  match te.agg with
  | true => match Nat.ble (j + te.size) cs.length with
    | true => some (.agg ((cs.drop j).take te.size).toArray)
    | false => none
  | false => cs[j]?

theorem add_lit (b o j : Nat) : (⟨b, o, none⟩ : Addr).add j = ⟨b, o + j, none⟩ := by
  unfold Addr.add; split <;> simp_all

theorem run_loadAt (hT : TabOk P T) {t : TypeId} {te : TE} (hte : T.get t = some te) {b o j : Nat} {cs : List Value} {v : Value} (hc : CellsAt w b o cs) (hv : ld te cs j = some v) :
    (Instr.loadAt t (.pointer (some ⟨b, o + j, none⟩))).run P w = .ok v w := by
  have hpr := hT _ _ hte
  unfold ld at hv
  simp only [Instr.loadAt, Instr.sureAddr, loadVar, Sem.run_bind, Sem.run_pure, Result.andThen_ok, run_isAgg hpr]
  split at hv
  · rename_i hag
    split at hv
    · rename_i hle
      simp only [Option.some.injEq] at hv
      subst hv
      have hle' : j + te.size ≤ cs.length := Nat.le_of_ble_eq_true hle
      rw [if_pos hag]
      have hlen : ((cs.drop j).take te.size).length = te.size := by simp; omega
      have hl := run_loadCells_list (P := P) w ⟨b, o + j, none⟩ ((cs.drop j).take te.size) (fun i u hi => by
        rw [add_lit]
        rw [List.getElem?_take] at hi
        split at hi
        · rw [List.getElem?_drop] at hi
          have := hc (j + i) u hi
          rw [Nat.add_assoc]; exact this
        · cases hi)
      rw [hlen] at hl
      simp only [Sem.run_bind, run_sizeOf hpr, Result.andThen_ok, hl, Sem.run_pure]
    · cases hv
  · rename_i hag
    have : w.cell? ⟨b, o + j, none⟩ = some v := hc j v hv
    simp [hag, this]

theorem v_ld (hT : TabOk P T) {x : Operand} {t ty d : Nat} {te : TE} {ps : String} {af : Array Edge} {g : Option (Nat × Bool)} {b o j : Nat} {cs : List Value} {v : Value}
    (hc : CellsAt w b o cs) (hx : opv e x = some (.pointer (some ⟨b, o + j, none⟩))) (hte : T.get t = some te) (hv : ld te cs j = some v) : Val P n e ⟨some d, .load t x, ty, ps, af, g⟩ w v := by
  intro a ha
  simp only [execOp, ha.eval hx, Sem.run_bind, run_loadAt hT hte hc hv, Result.andThen_ok, Sem.run_pure]

theorem v_ix (hT : TabOk P T) {x i : Operand} {t ty d el m : Nat} {te te' : TE} {ps : String} {af : Array Edge} {g : Option (Nat × Bool)} {p : Option Addr} {ln c : Nat} {kd : IntKind} {iv : Int} {b o q : Nat}
    (hp : p = some ⟨b, o, none⟩) (hq : q = o + iv.toNat * m) (hlt : 0 ≤ iv ∧ iv < ln) (hx : opv e x = some (.slice p ln c)) (hi : opv e i = some (.int kd iv))
    (hte : T.get t = some te) (hk : te.kind = .slice el) (hel : T.get el = some te') (hm : te'.size = m) : Val P n e ⟨some d, .indexAddr t x i, ty, ps, af, g⟩ w (.pointer (some ⟨b, q, none⟩)) := by
  intro a ha
  subst hp hq
  have hu := probe_slice (hT _ _ hte) hk
  have hs := run_sizeOf (hT _ _ hel) w
  simp only [execOp, ha.eval hx, ha.eval hi, Sem.run_bind, Instr.indexAt, asIntOf, Sem.run_pure, Result.andThen_ok, run_underlying hu]
  rw [if_pos hlt]
  simp only [Sem.run_bind, hs, Result.andThen_ok, Sem.run_pure, add_lit, hm]

/-! ### Stores -/

def splice (cs : List Value) (j : Nat) (vs : List Value) : List Value := cs.take j ++ vs ++ cs.drop (j + vs.length)

theorem cells_toList (v : Value) : v.cells.toList = cellsL v := by cases v <;> rfl

def ones (vs : List Value) : Bool := vs.all Value.oneCell'

theorem run_storeAt (hT : TabOk P T) {t : TypeId} {te : TE} (hte : T.get t = some te) {b o : Nat} {cur : Array Value} {t' : TypeId} {v : Value} (hg : w.heap[b]? = some (.cells cur t' (0, 0)))
    (hsz : (cellsL v).length = te.size) (hle : o + (cellsL v).length ≤ cur.size) (h1 : ones (cellsL v) = true) :
    (Instr.storeAt t (.pointer (some ⟨b, o, none⟩)) v).run P w = .ok () (w.setRow b (splice cur.toList o (cellsL v)).toArray) := by
  have hpr := hT _ _ hte
  have hst := run_storeCells_at P b o t' (cellsL v) 0 cur w hg (by simpa using hle) (by simpa [ones] using h1)
  have hs : v.cells.size = te.size := by rw [← hsz, ← cells_toList]; simp
  simp only [Instr.storeAt, Instr.sureAddr, storeVar, Sem.run_bind, Sem.run_pure, Result.andThen_ok, run_sizeOf hpr, hs, ne_eq, not_true_eq_false, if_false, cells_toList, hst, splice, Nat.add_zero]

theorem setRow_upd {b : Nat} {cs cs' : List Value} {t : TypeId} {i : Nat} (h : SH w0 w L) (hi : L[i]? = some (Ch.box b cs t)) : SH w0 (w.setRow b cs'.toArray) (L.set i (Ch.box b cs' t)) := by
  have hg : w.heap[b]? = some (.cells cs.toArray t (0, 0)) := (h.mem hi).1
  refine h.upd hi rfl rfl rfl (by simp) (fun a _ ha => setRow_other w b a _ ha) (setRow_heap w b _ _ t _ hg) (fun a ha => .inl ha) (fun _ hd => hd.elim)

theorem r_stbox (hT : TabOk P T) {all : Array Oper} {l : List Oper} {t ty : Nat} {ps : String} {af : Array Edge} {x v : Operand} {te : TE} {b j : Nat} {cs : List Value} {t' : TypeId} {u : Value} (i : Nat)
    (h : SH w0 w L) (hi : L[i]? = some (Ch.box b cs t')) (hx : opv e x = some (.pointer (some ⟨b, j, none⟩))) (hv : opv e v = some u) (hte : T.get t = some te)
    (hsz : Nat.beq (cellsL u).length te.size = true) (hle : Nat.ble (j + (cellsL u).length) cs.length = true) (h1 : ones (cellsL u) = true)
    (hk : ∀ w', SH w0 w' (L.set i (Ch.box b (splice cs j (cellsL u)) t')) → Run P n Q (.ops all l :: k) e w') : Run P n Q (.ops all (⟨none, .store t x v, ty, ps, af, none⟩ :: l) :: k) e w := by
  have hg : w.heap[b]? = some (.cells cs.toArray t' (0, 0)) := (h.mem hi).1
  refine r_unit rfl rfl (fun a ha => ?_) (hk _ (setRow_upd h hi))
  have := run_storeAt hT hte hg (beqT hsz) (by simpa using Nat.le_of_ble_eq_true hle) h1
  simp only [execOp, ha.eval hx, ha.eval hv, Sem.run_bind, this, Result.andThen_ok, Sem.run_pure]

theorem getElem?_splice {cs vs : List Value} {j i : Nat} (hle : j + vs.length ≤ cs.length) : (splice cs j vs)[i]? = if i < j then cs[i]? else if i < j + vs.length then vs[i - j]? else cs[i]? := by
  unfold splice
  have hj : (cs.take j).length = j := by simp; omega
  rw [List.append_assoc, List.getElem?_append, hj]
  split
  · rename_i h; rw [List.getElem?_take, if_pos h]
  · rw [List.getElem?_append]
    split
    · rename_i h1 h2; rw [if_pos (by omega)]
    · rename_i h1 h2
      rw [if_neg (by omega), List.getElem?_drop]
      congr 1
      omega

theorem length_splice {cs vs : List Value} {j : Nat} (hle : j + vs.length ≤ cs.length) : (splice cs j vs).length = cs.length := by
  unfold splice; simp; omega

/-- A store into an element of a list that is owned, of a type whose reading is flat. -/
theorem own_set {α : Type} [GoT α] [Flat α] {S : Nat → Prop} {xs : List α} {p : Option Addr} {ln c : Nat} {b o q j : Nat} {iv : Int} {y y' : α} {cs vs : List Value} {i : Nat}
    (h : SH w0 w L) (hi : L[i]? = some (Ch.own S xs [.slice p ln c])) (hy : idx xs iv = some y) (hp : p = some ⟨b, o, none⟩) (hq : q = o + iv.toNat * GoT.k α) (hcs : GoT.R w (Fw.old w) y cs) (hc : CellsAt w b q cs)
    (hO : GoT.R w (Fw.old w) y' (splice cs j vs)) (hle : j + vs.length ≤ cs.length) :
    ∃ cur t, w.heap[b]? = some (.cells cur t (0, 0)) ∧ q + j + vs.length ≤ cur.size ∧
      SH w0 (w.setRow b (splice cur.toList (q + j) vs).toArray) (L.set i (Ch.own S (xs.set iv.toNat y') [.slice p ln c])) := by
  obtain ⟨hP, hS⟩ := h.mem hi
  obtain ⟨h0, hlt, hxi⟩ := idx_some hy
  obtain ⟨p', c', he, h1, h2, h3⟩ := hP
  simp only [List.cons.injEq, Value.slice.injEq, and_true] at he
  obtain ⟨rfl, rfl, rfl⟩ := he
  rcases h3 with ⟨rfl, _, _⟩ | ⟨b', cur, t, F, hpb, hb, hg, hcur, hF, hd, hx'⟩
  · cases hp
  · subst hp
    simp only [Option.some.injEq, Addr.mk.injEq, and_true] at hpb
    obtain ⟨rfl, rfl⟩ := hpb
    simp only [Nat.zero_add] at hq
    subst hq
    have hk := GoT.len hcs
    have hbound : iv.toNat * GoT.k α + GoT.k α ≤ cur.size := by
      rw [hcur, ← Nat.succ_mul]
      exact Nat.mul_le_mul_right _ (by have := (List.getElem?_eq_some_iff.1 hxi).1; omega)
    have hfit : iv.toNat * GoT.k α + j + vs.length ≤ cur.toList.length := by simp; omega
    refine ⟨cur, t, hg, by simpa using hfit, ?_⟩
    refine h.upd hi rfl rfl rfl (by simp) (fun a _ ha => setRow_other w b a _ (fun hab => ha (hab ▸ hb))) ?_ (fun a ha => .inl ha) (fun _ hd => hd.elim)
    refine ⟨some ⟨b, 0, none⟩, c, by simp, by simpa using h1, h2, .inr ⟨b, _, t, F, rfl, hb, setRow_heap w b _ _ t _ hg, ?_, hF, hd, ?_⟩⟩
    · rw [List.size_toArray, length_splice hfit]; simpa using hcur
    · intro m x hm
      rw [List.getElem?_set] at hm
      split at hm
      · rename_i hmi
        subst hmi
        split at hm
        · simp only [Option.some.injEq] at hm
          subst hm
          refine ⟨_, Flat.fl hO, fun r v hr => ?_⟩
          rw [List.getElem?_toArray, getElem?_splice hfit]
          rw [getElem?_splice hle] at hr
          have hcell : ∀ r v, cs[r]? = some v → cur.toList[iv.toNat * GoT.k α + r]? = some v := by
            intro r v hr
            have := hc r v hr
            simp only [World.cell?, hg] at this
            simpa using this
          split at hr
          · rw [if_pos (by omega)]; exact hcell _ _ hr
          · split at hr
            · rw [if_neg (by omega), if_pos (by omega)]
              rw [show iv.toNat * GoT.k α + r - (iv.toNat * GoT.k α + j) = r - j by omega]
              exact hr
            · rw [if_neg (by omega), if_neg (by omega)]
              exact hcell _ _ hr
        · cases hm
      · rename_i hmi
        obtain ⟨cs', hr', hj'⟩ := hx' m x hm
        refine ⟨cs', Flat.fl (GoT.toR hr'), fun r v hr => ?_⟩
        have hr0 := hj' r v hr
        have hrk : r < GoT.k α := by have := GoT.len (GoT.toR hr'); have := (List.getElem?_eq_some_iff.1 hr).1; omega
        rw [List.getElem?_toArray, getElem?_splice hfit]
        have hne : m * GoT.k α + r < iv.toNat * GoT.k α ∨ iv.toNat * GoT.k α + GoT.k α ≤ m * GoT.k α + r := by
          rcases Nat.lt_or_gt_of_ne hmi with hlt' | hlt'
          · right
            have : (iv.toNat + 1) * GoT.k α ≤ m * GoT.k α := Nat.mul_le_mul_right _ hlt'
            rw [Nat.succ_mul] at this
            omega
          · left
            have : (m + 1) * GoT.k α ≤ iv.toNat * GoT.k α := Nat.mul_le_mul_right _ hlt'
            rw [Nat.succ_mul] at this
            omega
        have hr0' : cur.toList[m * GoT.k α + r]? = some v := by simpa using hr0
        rcases hne with hne | hne
        · rw [if_pos (by omega)]; exact hr0'
        · rw [if_neg (by omega), if_neg (by omega)]; exact hr0'

theorem r_stown (hT : TabOk P T) {α : Type} [GoT α] [Flat α] {all : Array Oper} {l : List Oper} {t ty : Nat} {ps : String} {af : Array Edge} {x v : Operand} {te : TE} {S : Nat → Prop} {xs : List α} {p : Option Addr} {ln c : Nat} {b o q : Nat} {iv : Int} {y : α} {cs : List Value} {u : Value} (i j : Nat) (y' : α)
    (h : SH w0 w L) (hi : L[i]? = some (Ch.own S xs [.slice p ln c])) (hy : idx xs iv = some y) (hp : p = some ⟨b, o, none⟩) (hq : q = o + iv.toNat * GoT.k α) (hcs : GoT.R w (Fw.old w) y cs) (hc : CellsAt w b q cs)
    (hx : opv e x = some (.pointer (some ⟨b, q + j, none⟩))) (hv : opv e v = some u) (hte : T.get t = some te) (hO : GoT.R w (Fw.old w) y' (splice cs j (cellsL u)))
    (hsz : Nat.beq (cellsL u).length te.size = true) (hle : Nat.ble (j + (cellsL u).length) cs.length = true) (h1 : ones (cellsL u) = true)
    (hk : ∀ w', SH w0 w' (L.set i (Ch.own S (xs.set iv.toNat y') [.slice p ln c])) → Run P n Q (.ops all l :: k) e w') : Run P n Q (.ops all (⟨none, .store t x v, ty, ps, af, none⟩ :: l) :: k) e w := by
  obtain ⟨cur, t', hg, hfit, hsh⟩ := own_set h hi hy hp hq hcs hc hO (Nat.le_of_ble_eq_true hle)
  refine r_unit rfl rfl (fun a ha => ?_) (hk _ hsh)
  have := run_storeAt hT hte hg (beqT hsz) (by omega) h1
  simp only [execOp, ha.eval hx, ha.eval hv, Sem.run_bind, this, Result.andThen_ok, Sem.run_pure]

/-! ### New memory -/

theorem r_box {all : Array Oper} {l : List Oper} {d t ty : Nat} {ps : String} {af : Array Edge} {x : Operand} {v : Value} (h : SH w0 w L) (hx : opv e x = some v) (hn : Nat.blt d n = true)
    (hk : ∀ w' b, SH w0 w' (Ch.box b (cellsL v) t :: L) → Run P n Q (.ops all l :: k) ((d, .pointer (some ⟨b, 0, none⟩)) :: e) w') : Run P n Q (.ops all (⟨some d, .box t x, ty, ps, af, none⟩ :: l) :: k) e w := by
  refine r_val rfl rfl hn (fun a ha => ?_) (hk _ _ (h.alloc (cellsL v) t))
  simp only [execOp, ha.eval hx, Instr.box, newVar, newRow, Sem.run_bind, run_newObj, Result.andThen_ok, Sem.run_pure]
  rw [← cells_toList]
  rfl

theorem r_alloc (hT : TabOk P T) {all : Array Oper} {l : List Oper} {d t ty : Nat} {ps : String} {af : Array Edge} {te : TE} {v : Value} (h : SH w0 w L) (hte : T.get t = some te) (hz : te.zero = some v) (hn : Nat.blt d n = true)
    (hk : ∀ w' b, SH w0 w' (Ch.box b (cellsL v) t :: L) → Run P n Q (.ops all l :: k) ((d, .pointer (some ⟨b, 0, none⟩)) :: e) w') : Run P n Q (.ops all (⟨some d, .alloc t, ty, ps, af, none⟩ :: l) :: k) e w := by
  obtain ⟨i, hi, _, _, hz'⟩ := probe_info (hT _ _ hte)
  refine r_val rfl rfl hn (fun a ha => ?_) (hk _ _ (h.alloc (cellsL v) t))
  simp only [execOp, Instr.alloc, zeroValue, typeInfo, hi, hz', hz, newVar, newRow, Sem.run_bind, run_newObj, Result.andThen_ok, Sem.run_pure, run_program]
  rw [← cells_toList]
  rfl

theorem SH.nil {α : Type} [GoT α] (h : SH w0 w L) : SH w0 w (Ch.own (fun _ => False) ([] : List α) [.slice none 0 0] :: L) := by
  refine h.add (Below.refl _ _) ?_ (fun b hb => hb.elim) (fun _ hd => hd.elim)
  exact ⟨none, 0, rfl, by simp, by simp, .inl ⟨rfl, rfl, rfl⟩⟩

end
end Go.Fw
