/- Making slices, appending, calls, returns. -/
import Derived.Test.YtbpmddedhekleaaGreatDoorFw4
namespace Go.Fw
open Go
open Go.RowKit (Below)

/-- The most elements that a slice of ours may grow to. -/
def big : Nat := 2147483648

section
variable {P : Program} {T : Tab} {n : Nat} {Q : Exit → Act → World → Prop} {k : List It} {e : Env} {w0 w w' : World} {L : List Ch}

/-- The cells of a list of zeros. -/
theorem madeCells_at {z : List Value} {m i j : Nat} {v : Value} (_ : 0 < z.length) (hi : i < m) (hj : z[j]? = some v) : (madeCells z.toArray (m * z.length))[i * z.length + j]? = some v := by
  have hjl : j < z.length := (List.getElem?_eq_some_iff.1 hj).1
  have hlt : i * z.length + j < m * z.length := by
    have : (i + 1) * z.length ≤ m * z.length := Nat.mul_le_mul_right _ hi
    rw [Nat.succ_mul] at this
    omega
  have hmod : (i * z.length + j) % z.length = j := by
    rw [Nat.add_comm, Nat.add_mul_mod_self_right, Nat.mod_eq_of_lt hjl]
  unfold madeCells
  rw [Array.getElem?_map, Array.getElem?_range, if_pos hlt]
  simp only [Option.map_some, List.size_toArray, hmod, Option.some.injEq]
  have : z[j] = v := (List.getElem?_eq_some_iff.1 hj).2
  simp [hjl, this]

theorem r_make (hT : TabOk P T) (α : Type) [GoT α] {all : Array Oper} {l : List Oper} {d t ty el : Nat} {ps : String} {af : Array Edge} {te te' : TE} {x y : Operand} {kd kd' : IntKind} {nv : Int} {zv : Value}
    (h : SH w0 w L) (hx : opv e x = some (.int kd nv)) (hy : opv e y = some (.int kd' nv)) (hte : T.get t = some te) (hk : te.kind = .slice el) (hel : T.get el = some te') (hz : te'.zero = some zv) (hzc : cellsL zv = GoT.zc α) (hsz : te'.size = GoT.k α)
    (hb : Nat.ble te'.bytes 65536 = true) (h0 : 0 ≤ nv) (hbig : nv ≤ big) (hn : Nat.blt d n = true)
    (hkk : ∀ w' S p, SH w0 w' (Ch.own S (List.replicate nv.toNat (GoT.zero : α)) [.slice p nv.toNat nv.toNat] :: L) → Run P n Q (.ops all l :: k) ((d, .slice p nv.toNat nv.toNat) :: e) w') :
    Run P n Q (.ops all (⟨some d, .makeSlice t x y, ty, ps, af, none⟩ :: l) :: k) e w := by
  obtain ⟨i, hi, hs, hby, hzi⟩ := probe_info (hT _ _ hel)
  have hb' := Nat.le_of_ble_eq_true hb
  have hbytes : (i.bytes : Int) * nv ≤ 281474976710656 := by
    have h1 : (i.bytes : Int) ≤ 65536 := by omega
    have h2 : (i.bytes : Int) * nv ≤ 65536 * nv := Int.mul_le_mul_of_nonneg_right h1 h0
    unfold big at hbig
    omega
  have hr := run_make (P := P) w t el i zv (probe_slice (hT _ _ hte) hk) hi (hzi.trans hz) kd kd' nv nv h0 (Int.le_refl _) hbytes (by unfold big at hbig; omega)
  have hzl : zv.cells = (GoT.zc α).toArray := by rw [← hzc, ← cells_toList]
  rw [hzl, hs, hsz] at hr
  refine r_val (v := .slice (some ⟨w.heap.size, 0, none⟩) nv.toNat nv.toNat) (w' := w.alloc (.cells (madeCells (GoT.zc α).toArray (nv.toNat * GoT.k α)) el)) rfl rfl hn (fun a ha => ?_) (hkk _ (fun b => b = w.heap.size) _ (h.add ((Below.refl _ _).alloc (Nat.le_refl _) _) ?_ ?_ (fun _ hd => hd.elim)))
  · simp only [execOp, ha.eval hx, ha.eval hy, Sem.run_bind, hr, Result.andThen_ok, Sem.run_pure]
  · have hzl' := GoT.len (GoT.toR (GoT.zO w (fun _ => False) (α := α)))
    refine ⟨some ⟨w.heap.size, 0, none⟩, nv.toNat, by simp, by simp, ?_, .inr ⟨w.heap.size, _, el, fun _ _ => False, rfl, rfl, heap_alloc_new w _, ?_, ?_, ?_, ?_⟩⟩
    · unfold big at hbig; simp [maxLen]; omega
    · rw [size_madeCells]
    · intro _ _ hf; exact hf.elim
    · intro _ _ _ _ hf; exact hf.elim
    · intro j x hj
      rw [List.getElem?_replicate] at hj
      split at hj
      · rename_i hlt
        simp only [Option.some.injEq] at hj
        subst hj
        refine ⟨_, GoT.zO _ _, fun r v hr' => ?_⟩
        have := madeCells_at (z := GoT.zc α) (m := nv.toNat) (i := j) (j := r) (v := v) (by rw [hzl']; exact GoT.kpos) hlt hr'
        rw [hzl'] at this
        exact this
      · cases hj
  · intro b hb
    have : b = w.heap.size := hb
    subst this
    exact ⟨Nat.le_refl _, by simp⟩

/-- Lists of values whose cells are known. -/
def Cells2 {α : Type} [GoT α] (w : World) (S : Nat → Prop) : List α → List (List Value) → Prop
  | [], [] => True
  | x :: xs, c :: cs => GoT.R w S x c ∧ Cells2 w S xs cs
  | _, _ => False

theorem Cells2.get {α : Type} [GoT α] {S : Nat → Prop} : ∀ {xs : List α} {cs : List (List Value)}, Cells2 w S xs cs → cs.flatten.length = xs.length * GoT.k α ∧
    ∀ i x, xs[i]? = some x → ∃ c, GoT.R w S x c ∧ ∀ j v, c[j]? = some v → cs.flatten[i * GoT.k α + j]? = some v
  | [], [], _ => ⟨by simp, by simp⟩
  | x :: xs, c :: cs, h => by
    obtain ⟨h1, h2⟩ := h
    obtain ⟨hl, hg⟩ := Cells2.get h2
    have hk := GoT.len h1
    refine ⟨by rw [List.flatten_cons, List.length_append, hl, hk, List.length_cons, Nat.succ_mul]; omega, ?_⟩
    intro i y hy
    cases i with
    | zero =>
      simp only [List.getElem?_cons_zero, Option.some.injEq] at hy
      subst hy
      refine ⟨c, h1, fun j v hj => ?_⟩
      have := (List.getElem?_eq_some_iff.1 hj).1
      rw [Nat.zero_mul, Nat.zero_add, List.flatten_cons, List.getElem?_append_left this]
      exact hj
    | succ i =>
      simp only [List.getElem?_cons_succ] at hy
      obtain ⟨c', hc', hj'⟩ := hg i y hy
      refine ⟨c', hc', fun j v hj => ?_⟩
      rw [List.flatten_cons, List.getElem?_append_right (by rw [hk, Nat.succ_mul]; omega)]
      rw [show (i + 1) * GoT.k α + j - c.length = i * GoT.k α + j by rw [hk, Nat.succ_mul]; omega]
      exact hj' j v hj
  | [], _ :: _, h => h.elim
  | _ :: _, [], h => h.elim


theorem foldl_set : ∀ (vs : List Value) (m : Nat) (off : Nat) (cells : Array Value), off + m + vs.length ≤ cells.size →
    ((vs.zipIdx m).foldl (fun (acc : Array Value) (p : Value × Nat) => acc.setIfInBounds (off + p.2) p.1) cells) = (splice cells.toList (off + m) vs).toArray
  | [], m, off, cells, _ => by simp [splice]
  | v :: vs, m, off, cells, h => by
    rw [List.zipIdx_cons, List.foldl_cons, foldl_set vs (m + 1) off _ (by simp at h ⊢; omega)]
    simp only [List.length_cons] at h
    apply Array.ext_getElem?
    intro i
    rw [List.getElem?_toArray, List.getElem?_toArray, getElem?_splice (by simp; omega), getElem?_splice (by simp; omega)]
    simp only [List.length_cons, Array.getElem?_toList, Array.getElem?_setIfInBounds]
    rcases Nat.lt_trichotomy i (off + m) with hi | hi | hi
    · rw [if_pos (show i < off + (m + 1) by omega), if_pos hi, if_neg (show ¬ off + m = i by omega)]
    · subst hi
      rw [if_pos (show off + m < off + (m + 1) by omega), if_neg (show ¬ off + m < off + m by omega), if_pos (show off + m < off + m + (vs.length + 1) by omega), if_pos rfl, if_pos (show off + m < cells.size by omega)]
      simp
    · rw [if_neg (show ¬ i < off + (m + 1) by omega), if_neg (show ¬ i < off + m by omega)]
      by_cases h2 : i < off + (m + 1) + vs.length
      · rw [if_pos h2, if_pos (show i < off + m + (vs.length + 1) by omega)]
        rw [show i - (off + m) = (i - (off + (m + 1))) + 1 by omega, List.getElem?_cons_succ]
      · rw [if_neg h2, if_neg (show ¬ i < off + m + (vs.length + 1) by omega), if_neg (show ¬ off + m = i by omega)]

def fillS (place : Nat → Option (Nat × Nat)) (cells : List Value) : List (Nat × Value) → Option (List Value)
  | [] => some cells
  | p :: rest =>
    match place p.1 with
    | none => none
    | some q => match Nat.beq (cellsL p.2).length q.2, Nat.ble (q.1 + (cellsL p.2).length) cells.length with
      | true, true => fillS place (splice cells q.1 (cellsL p.2)) rest
      | _, _ => none

theorem fill_of_fillS (place : Nat → Option (Nat × Nat)) : ∀ (parts : List (Nat × Value)) (cells cs : List Value), fillS place cells parts = some cs → Instr.fill place cells.toArray parts = some cs.toArray
  | [], cells, cs, h => by simp only [fillS, Option.some.injEq] at h; subst h; rfl
  | (i, v) :: rest, cells, cs, h => by
    simp only [fillS] at h
    simp only [Instr.fill]
    split at h
    · cases h
    · rename_i q hq
      rw [hq]
      split at h
      · rename_i h1 h2
        have h1' := beqT h1
        have h2' := Nat.le_of_ble_eq_true h2
        have hs : v.cells.size = (cellsL v).length := by rw [← cells_toList]; simp
        have hf := foldl_set (cellsL v) 0 q.1 cells.toArray (by simpa using h2')
        obtain ⟨qo, qs⟩ := q
        simp only at h1' h2' hf ⊢
        rw [if_neg (by simp [hs, h1']; omega)]
        have : (v.cells.zipIdx.foldl (fun (cs : Array Value) (x : Value × Nat) => cs.setIfInBounds (qo + x.2) x.1) cells.toArray) = (splice cells qo (cellsL v)).toArray := by
          rw [← Array.foldl_toList, Array.toList_zipIdx, cells_toList]
          simpa using hf
        rw [this]
        exact fill_of_fillS place rest _ _ h
      · cases h

theorem fillS_dense (size : Nat) : ∀ (vs : List Value) (m : Nat) (pre post : List Value), pre.length = m * size → post.length = vs.length * size → (∀ v ∈ vs, (cellsL v).length = size) →
    fillS (fun i => some (i * size, size)) (pre ++ post) ((vs.zipIdx m).map fun x => (x.2, x.1)) = some (pre ++ (vs.map cellsL).flatten)
  | [], m, pre, post, h1, h2, _ => by
    have : post = [] := List.eq_nil_of_length_eq_zero (by simpa using h2)
    subst this
    simp [fillS]
  | v :: vs, m, pre, post, h1, h2, h3 => by
    have hv := h3 v (by simp)
    simp only [List.length_cons, Nat.succ_mul] at h2
    rw [List.zipIdx_cons, List.map_cons]
    simp only [fillS]
    have hb1 : Nat.beq (cellsL v).length size = true := by rw [hv]; exact beqR _
    have hb2 : Nat.ble (m * size + (cellsL v).length) (pre ++ post).length = true := Nat.ble_eq_true_of_le (by rw [List.length_append, hv]; omega)
    rw [hb1, hb2]
    simp only
    have hsp : splice (pre ++ post) (m * size) (cellsL v) = (pre ++ cellsL v) ++ post.drop size := by
      unfold splice
      have e1 : (pre ++ post).take (m * size) = pre := by rw [← h1]; exact List.take_left
      have e2 : (pre ++ post).drop (m * size + size) = post.drop size := by rw [← h1, List.drop_append, List.drop_eq_nil_of_le (by omega), List.nil_append]; congr 1; omega
      rw [e1, hv, e2]
    rw [hsp, fillS_dense size vs (m + 1) (pre ++ cellsL v) (post.drop size) (by rw [List.length_append, hv, h1, Nat.succ_mul]) (by rw [List.length_drop]; omega) (fun u hu => h3 u (by simp [hu]))]
    simp [List.append_assoc]

theorem run_bslice (hT : TabOk P T) {t el : Nat} {te te' : TE} {zv : Value} (vs : List Value) (hte : T.get t = some te) (hk : te.kind = .slice el) (hel : T.get el = some te') (hz : te'.zero = some zv) (hsize : vs.length * te'.size ≤ 16777216)
    (hvs : ∀ v ∈ vs, (cellsL v).length = te'.size) (w : World) :
    (Instr.buildSlice t vs.length ((vs.zipIdx 0).map fun x => (x.2, x.1)).toArray).run P w = .ok (.slice (some ⟨w.heap.size, 0, none⟩) vs.length vs.length) (w.alloc (.cells (vs.map cellsL).flatten.toArray el)) := by
  obtain ⟨i, hi, hs, _, hzi⟩ := probe_info (hT _ _ hel)
  have hu := probe_slice (hT _ _ hte) hk
  by_cases h0 : vs.length * te'.size = 0
  · have hne : (vs.map cellsL).flatten = [] := by
      rcases Nat.mul_eq_zero.1 h0 with h | h
      · have := List.eq_nil_of_length_eq_zero h; subst this; rfl
      · rw [List.flatten_eq_nil_iff]
        intro l hl
        obtain ⟨v, hv, rfl⟩ := List.mem_map.1 hl
        exact List.eq_nil_of_length_eq_zero ((hvs v hv).trans h)
    have hf := fill_of_fillS (fun i => some (i * te'.size, te'.size)) _ _ _ (fillS_dense te'.size vs 0 [] [] (by simp) (by simpa using h0.symm) hvs)
    rw [hne] at hf ⊢
    simp only [List.append_nil] at hf
    simp only [Instr.buildSlice, Sem.run_bind, run_underlying hu, Result.andThen_ok, sizeOf, typeInfo, run_program, hi, Sem.run_pure, hs, h0, if_true]
    rw [if_neg (by omega)]
    simp only [Sem.run_pure, Result.andThen_ok, Array.range_zero', Array.map_empty, hf, newRow, Sem.run_bind, run_newObj]
    rfl
  · have hl : (madeCells zv.cells (vs.length * te'.size)).toList.length = vs.length * te'.size := by simp [size_madeCells]
    have hf := fill_of_fillS (fun i => some (i * te'.size, te'.size)) _ _ _ (fillS_dense te'.size vs 0 [] (madeCells zv.cells (vs.length * te'.size)).toList (by simp) hl hvs)
    simp only [List.nil_append, Array.toArray_toList] at hf
    unfold madeCells at hf
    simp only [Instr.buildSlice, Sem.run_bind, run_underlying hu, Result.andThen_ok, sizeOf, typeInfo, run_program, hi, Sem.run_pure, hs, h0, if_false]
    rw [if_neg (by omega)]
    simp only [Sem.run_pure, Sem.run_bind, Result.andThen_ok, zeroValue, typeInfo, run_program, hi, hzi, hz, hf, newRow, run_newObj]
    rfl

end
end Go.Fw
