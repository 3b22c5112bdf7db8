/- The words of the plain functions, and small laws for the walk. -/
import Derived.Test.YtbpmddedhekleaaGreatDoorFw8
namespace Go.Fw
open Go
open Go.RowKit (Below)

abbrev W64 (x : Int) : Int := IntKind.i64.wrap x

/-- How a piece of code ends: it returned, or it went on. -/
inductive Flow (ρ σ : Type) where
  | ret (r : ρ)
  | nxt (s : σ)

def mkS {α : Type} (n : Int) (z : α) : Option (List α) := if 0 ≤ n ∧ n ≤ big then some (List.replicate n.toNat z) else none
theorem mkS_some {α : Type} {n : Int} {z : α} {r : List α} (h : mkS n z = some r) : 0 ≤ n ∧ n ≤ big ∧ List.replicate n.toNat z = r := by
  unfold mkS at h
  split at h
  · rename_i hh; simp only [Option.some.injEq] at h; exact ⟨hh.1, hh.2, h⟩
  · cases h

def appS {α : Type} (xs ys : List α) : Option (List α) := if xs.length + ys.length ≤ big then some (xs ++ ys) else none
theorem appS_some {α : Type} {xs ys r : List α} (h : appS xs ys = some r) : xs.length + ys.length ≤ big ∧ xs ++ ys = r := by
  unfold appS at h
  split at h
  · rename_i hh; simp only [Option.some.injEq] at h; exact ⟨hh, h⟩
  · cases h

/-- 'xs[i]' may be written. -/
def setS {α : Type} (xs : List α) (i : Int) (y : α) : List α := xs.set i.toNat y

theorem bifT {α : Type} {c : Bool} {a b : Option α} {r : α} (hc : c = true) (h : (bif c then a else b) = some r) : a = some r := by rw [hc] at h; exact h
theorem bifF {α : Type} {c : Bool} {a b : Option α} {r : α} (hc : c = false) (h : (bif c then a else b) = some r) : b = some r := by rw [hc] at h; exact h
theorem bindS {α β : Type} {x : Option α} {f : α → Option β} {r : β} (h : x.bind f = some r) : ∃ a, x = some a ∧ f a = some r := Option.bind_eq_some_iff.1 h
/-- What is bound, with a name for what follows. -/
theorem bindE {α β : Type} {x : Option α} {f : α → Option β} {r : β} (h : x.bind f = some r) : ∃ g : α → Option β, g = f ∧ ∃ a, x = some a ∧ g a = some r := by
  obtain ⟨a, h1, h2⟩ := bindS h
  exact ⟨f, rfl, a, h1, h2⟩
theorem someI {α : Type} {a r : α} (h : some a = some r) : a = r := Option.some.inj h

theorem lt_ln {iv : Int} {l m : Nat} (h : iv < (m : Int)) (e : l = m) : iv < (l : Int) := e ▸ h

section
variable {P : Program} {T : Tab} {n : Nat} {Q : Exit → Act → World → Prop} {k : List It} {e : Env} {w0 w w' : World} {L : List Ch}

theorem slr_nil {α : Type} [GoT α] {S : Nat → Prop} : SlR w S ([] : List α) none 0 := ⟨by simp, by simp, .inl ⟨.inl rfl, rfl⟩⟩
theorem po_nil {α : Type} [GoT α] : PO w L [] ([] : List α) [.slice none 0 0] := ⟨fun _ => False, ⟨none, 0, rfl, by simp, by simp, .inl ⟨rfl, rfl, rfl⟩⟩, fun _ h => h.elim⟩

theorem r_setT {t : Nat} {b : Bool} (hb : b = true) (ht : e.get t = some (.bool b)) (hk : Run P n Q k ((t, .bool true) :: e) w) : Run P n Q k e w := by
  subst hb
  intro a ha
  refine hk a ⟨ha.defers, ha.size, fun i v hi => ?_⟩
  simp only [Env.get] at hi
  cases hbb : Nat.beq t i with
  | true => rw [hbb] at hi; simp only [Option.some.injEq] at hi; subst hi; have := beqT hbb; subst this; exact ha.at_ _ _ ht
  | false => rw [hbb] at hi; exact ha.at_ _ _ hi

theorem r_setF {t : Nat} {b : Bool} (hb : b = false) (ht : e.get t = some (.bool b)) (hk : Run P n Q k ((t, .bool false) :: e) w) : Run P n Q k e w := by
  subst hb
  intro a ha
  refine hk a ⟨ha.defers, ha.size, fun i v hi => ?_⟩
  simp only [Env.get] at hi
  cases hbb : Nat.beq t i with
  | true => rw [hbb] at hi; simp only [Option.some.injEq] at hi; subst hi; have := beqT hbb; subst this; exact ha.at_ _ _ ht
  | false => rw [hbb] at hi; exact ha.at_ _ _ hi

theorem d_setT {all : Array Oper} {l : List Oper} {t : Nat} {b : Bool} (hb : b = true) (ht : e.get t = some (.bool b)) (hk : RunD P n Q k all w l ((t, .bool true) :: e)) : RunD P n Q k all w l e := by
  subst hb
  intro a ha
  refine hk a ⟨ha.defers, ha.size, fun i v hi => ?_⟩
  simp only [Env.get] at hi
  cases hbb : Nat.beq t i with
  | true => rw [hbb] at hi; simp only [Option.some.injEq] at hi; subst hi; have := beqT hbb; subst this; exact ha.at_ _ _ ht
  | false => rw [hbb] at hi; exact ha.at_ _ _ hi

theorem d_setF {all : Array Oper} {l : List Oper} {t : Nat} {b : Bool} (hb : b = false) (ht : e.get t = some (.bool b)) (hk : RunD P n Q k all w l ((t, .bool false) :: e)) : RunD P n Q k all w l e := by
  subst hb
  intro a ha
  refine hk a ⟨ha.defers, ha.size, fun i v hi => ?_⟩
  simp only [Env.get] at hi
  cases hbb : Nat.beq t i with
  | true => rw [hbb] at hi; simp only [Option.some.injEq] at hi; subst hi; have := beqT hbb; subst this; exact ha.at_ _ _ ht
  | false => rw [hbb] at hi; exact ha.at_ _ _ hi

/-- '1 << i' and the like: a shift by what is not negative. -/
theorem v_shl {x y : Operand} {t t' d ty : Nat} {ps : String} {af : Array Edge} {g : Option (Nat × Bool)} {kd kd' : IntKind} {a b : Int}
    (h0 : 0 ≤ b) (hx : opv e x = some (.int kd a)) (hy : opv e y = some (.int kd' b)) : Val P n e ⟨some d, .binOp .shl t x y t', ty, ps, af, g⟩ w (.int kd (kd.wrap (a * 2 ^ (min b.toNat kd.bits)))) := by
  intro c hc
  have h1 : ¬ b < 0 := by omega
  simp only [execOp, hc.eval hx, hc.eval hy, Sem.run_bind, eqGuard_int, Result.andThen_ok, binOp, Op.shift, h1, if_false, Sem.run_pure]

/-- A division by what is not 0. -/
theorem v_quo {x y : Operand} {t t' d ty : Nat} {ps : String} {af : Array Edge} {g : Option (Nat × Bool)} {kd : IntKind} {a b : Int}
    (h0 : b ≠ 0) (hx : opv e x = some (.int kd a)) (hy : opv e y = some (.int kd b)) : Val P n e ⟨some d, .binOp .quo t x y t', ty, ps, af, g⟩ w (.int kd (kd.wrap (a.tdiv b))) := by
  intro c hc
  simp only [execOp, hc.eval hx, hc.eval hy, Sem.run_bind, eqGuard_int, Result.andThen_ok, binOp, ne_eq, not_true_eq_false, if_false, Op.intDiv, h0, Sem.run_pure]

theorem v_rem {x y : Operand} {t t' d ty : Nat} {ps : String} {af : Array Edge} {g : Option (Nat × Bool)} {kd : IntKind} {a b : Int}
    (h0 : b ≠ 0) (hx : opv e x = some (.int kd a)) (hy : opv e y = some (.int kd b)) : Val P n e ⟨some d, .binOp .rem t x y t', ty, ps, af, g⟩ w (.int kd (a.tmod b)) := by
  intro c hc
  simp only [execOp, hc.eval hx, hc.eval hy, Sem.run_bind, eqGuard_int, Result.andThen_ok, binOp, ne_eq, not_true_eq_false, if_false, Op.intDiv, h0, Sem.run_pure]

/-! ### A row of the run's own whose elements read what stood before -/

def Ch.rowD {α : Type} [GoT α] (w0 : World) (S : Nat → Prop) (xs : List α) (p : Option Addr) (c : Nat) : Ch where
  S := S
  D _ := False
  P w := xs.length ≤ c ∧ c ≤ maxLen ∧ ((p = none ∧ xs = [] ∧ c = 0) ∨ ∃ b cur T, p = some ⟨b, 0, none⟩ ∧ S b ∧ w.heap[b]? = some (.cells cur T (0, 0)) ∧ cur.size = c * GoT.k α ∧
    ∀ i x, xs[i]? = some x → ∃ cs, GoT.R w0 (old w0) x cs ∧ ∀ j v, cs[j]? = some v → cur[i * GoT.k α + j]? = some v)
  loc w w' h _ hp := by
    obtain ⟨h1, h2, h3⟩ := hp
    refine ⟨h1, h2, ?_⟩
    rcases h3 with h3 | ⟨b, cur, T, rfl, hb, hg, hc, hx⟩
    · exact .inl h3
    · exact .inr ⟨b, cur, T, rfl, hb, by rw [h b hb]; exact hg, hc, hx⟩

theorem SH.atD {α : Type} [GoT α] {S : Nat → Prop} {xs : List α} {p : Option Addr} {c : Nat} (h : SH w0 w L) (i : Nat) (hi : L[i]? = some (Ch.rowD w0 S xs p c)) {iv : Int} {x : α} (hx : idx xs iv = some x) :
    ∃ b o q cs, p = some ⟨b, o, none⟩ ∧ q = o + iv.toNat * GoT.k α ∧ S b ∧ GoT.R w0 (Fw.old w0) x cs ∧ CellsAt w b q cs := by
  obtain ⟨h0, hlt, hxi⟩ := idx_some hx
  obtain ⟨h1, h2, h3⟩ := (h.mem hi).1
  rcases h3 with ⟨rfl, rfl, _⟩ | ⟨b, cur, T, rfl, hb, hg, hc, hx'⟩
  · simp at hlt; omega
  · obtain ⟨cs, hr, hj⟩ := hx' _ _ hxi
    exact ⟨b, 0, _, cs, rfl, rfl, hb, hr, CellsAt.of_block hg (by simpa using hj)⟩

/-- A slice literal whose elements are what stood before. -/
theorem r_bsliceD (hT : TabOk P T) {α : Type} [GoT α] {all : Array Oper} {l : List Oper} {d t ty el len : Nat} {ps : String} {af : Array Edge} {parts : Array (Nat × Operand)} {te te' : TE} {zv : Value} (os : List Operand) (vs : List Value) (ys : List α)
    (h : SH w0 w L) (hparts : parts.toList = (os.zipIdx 0).map fun x => (x.2, x.1)) (hvs : opvs e os = some vs) (hlen : len = vs.length)
    (hte : T.get t = some te) (hk : te.kind = .slice el) (hel : T.get el = some te') (hz : te'.zero = some zv) (hsz : te'.size = GoT.k α) (hsmall : Nat.ble (vs.length * te'.size) 16777216 = true)
    (hc : Cells2 w0 (Fw.old w0) ys (vs.map cellsL)) (hn : Nat.blt d n = true)
    (hkk : ∀ w' p S, SH w0 w' (Ch.rowD w0 S ys p len :: L) → Run P n Q (.ops all l :: k) ((d, .slice p len len) :: e) w') :
    Run P n Q (.ops all (⟨some d, .buildSlice t len parts, ty, ps, af, none⟩ :: l) :: k) e w := by
  have hlenys : ∀ {ys : List α} {cs : List (List Value)}, Cells2 w0 (Fw.old w0) ys cs → ys.length = cs.length ∧ ∀ c ∈ cs, c.length = GoT.k α := by
    intro ys
    induction ys with
    | nil => intro cs hc; cases cs with
      | nil => simp
      | cons => exact hc.elim
    | cons y ys ih =>
      intro cs hc
      cases cs with
      | nil => exact hc.elim
      | cons c cs =>
        obtain ⟨h1, h2⟩ := hc
        have := ih h2
        refine ⟨by simp [this.1], fun d hd => ?_⟩
        rcases List.mem_cons.1 hd with rfl | hd
        · exact GoT.len h1
        · exact this.2 d hd
  obtain ⟨hl1, hl2⟩ := hlenys hc
  have hcs : ∀ v ∈ vs, (cellsL v).length = te'.size := fun v hv => by rw [hsz]; exact hl2 _ (List.mem_map.2 ⟨v, hv, rfl⟩)
  have hr := run_bslice hT vs hte hk hel hz (Nat.le_of_ble_eq_true hsmall) hcs w
  subst hlen
  obtain ⟨hfl, hfe⟩ := hc.get
  have hl3 : ys.length = vs.length := by simpa using hl1
  refine r_val (v := .slice (some ⟨w.heap.size, 0, none⟩) vs.length vs.length) (w' := w.alloc (.cells (vs.map cellsL).flatten.toArray el)) rfl rfl hn (fun a ha => ?_)
    (hkk _ _ (fun b => b = w.heap.size) (h.add ((Below.refl _ _).alloc (Nat.le_refl _) _) ?_ ?_ (fun _ hd => hd.elim)))
  · have hev : parts.map (fun (x : Nat × Operand) => (x.1, a.eval x.2)) = ((vs.zipIdx 0).map fun x => (x.2, x.1)).toArray := by
      apply Array.ext'
      rw [Array.toList_map, hparts]
      have := opvs_spec ha hvs
      subst this
      rw [List.zipIdx_map, List.map_map, List.map_map]
      rfl
    simp only [execOp, hev, Sem.run_bind, hr, Result.andThen_ok, Sem.run_pure]
  · have hsm : vs.length ≤ maxLen := by
      have h1 := Nat.le_of_ble_eq_true hsmall
      have h2 : vs.length * 1 ≤ vs.length * te'.size := Nat.mul_le_mul_left _ (by rw [hsz]; exact GoT.kpos)
      simp [maxLen]
      omega
    refine ⟨by rw [hl3]; exact Nat.le_refl _, hsm, .inr ⟨w.heap.size, _, el, rfl, rfl, heap_alloc_new w _, by rw [List.size_toArray, hfl, hl3], fun i x hi => ?_⟩⟩
    obtain ⟨cs, hR, hj⟩ := hfe i x hi
    exact ⟨cs, hR, fun j v hv => by simpa using hj j v hv⟩
  · intro b hb
    have : b = w.heap.size := hb
    subst this
    exact ⟨Nat.le_refl _, by simp⟩
end
end Go.Fw
