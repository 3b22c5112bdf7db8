/- Regions that draw their order. -/
import Derived.Test.YtbpmddedhekleaaGreatDoorFw7
import Derived.OrdersHeld
import Derived.Deep.Quiet
namespace Go.Fw
open Go
open Go.RowKit (Below)

section
variable {P : Program} {T : Tab} {n : Nat} {Q : Exit → Act → World → Prop} {k : List It} {e : Env} {w0 w w' : World} {L : List Ch}

/-! ### A region whose operations only read, or call what leaves old memory alone and hands back a number or the like -/

def RunD (P : Program) (n : Nat) (Q : Exit → Act → World → Prop) (k : List It) (all : Array Oper) (w : World) (l : List Oper) (e : Env) : Prop :=
  ∀ a, Agree n e a → wpQuiet P all (fun w' => Below w.heap.size w w') (fun a' => ∀ w', Below w.heap.size w w' → post P Q k .normal a' w') l a

theorem r_draw {id : Nat} {ops : List Oper} (hm : P.follows .mixedOrders = true) (hB : Region.lexB .any ops.toArray = true) (h : RunD P n Q k ops.toArray w ops e) : Run P n Q (.code (.region id ops.toArray true) :: k) e w := by
  intro a ha
  refine wp_region_quiet (C := fun w' => Below w.heap.size w w') hm hB ⟨rfl, rfl, rfl, Nat.le_refl _, fun _ _ => rfl⟩ ?_
  exact h a ha

theorem d_nil {all : Array Oper} (h : ∀ w', Below w.heap.size w w' → Run P n Q k e w') : RunD P n Q k all w [] e := fun a ha w' hw' => h w' hw' a ha

theorem d_v {all : Array Oper} {l : List Oper} {op : Op} {d t : Nat} {ps : String} {af : Array Edge} {v : Value}
    (h : ∀ w', Below w.heap.size w w' → Val P n e ⟨some d, op, t, ps, af, none⟩ w' v) (hn : Nat.blt d n = true) (hk : RunD P n Q k all w l ((d, v) :: e)) : RunD P n Q k all w (⟨some d, op, t, ps, af, none⟩ :: l) e := by
  intro a ha
  have hw : Region.wanted (⟨some d, op, t, ps, af, none⟩ : Oper) (yielded all a.tmps) = true := rfl
  rw [wpQuiet, if_pos hw]
  refine ⟨v, fun w' hw' => ?_, hk _ (ha.put hn v)⟩
  unfold Oper.quietAt
  rw [h w' hw' a ha]
  exact ⟨rfl, rfl⟩

theorem d_p (hT : TabOk P T) {all : Array Oper} {l : List Oper} {op : Op} {d t : Nat} {ps : String} {af : Array Edge} {v : Value}
    (h : pev T e op = some v) (hn : Nat.blt d n = true) (hk : RunD P n Q k all w l ((d, v) :: e)) : RunD P n Q k all w (⟨some d, op, t, ps, af, none⟩ :: l) e :=
  d_v (fun w' _ => v_p hT h w') hn hk

theorem d_wanted {all : Array Oper} {o : Oper} {l : List Oper} (h : guardOf e all o = some true)
    (hk : RunD P n Q k all w ({ o with guard := none } :: l) e) : RunD P n Q k all w (o :: l) e := by
  intro a ha
  have h1 := hk a ha
  have hw := guardOf_spec ha h
  rw [wpQuiet, if_pos hw]
  rw [wpQuiet, if_pos (by simp [Region.wanted])] at h1
  exact h1

/-- A call that hands back a value that does not look into memory. -/
theorem d_call {ρ : Type} [GoT ρ] (r : ρ) {v : Value} (hv : ∀ (w : World) (S : Nat → Prop) (us : List Value), (vsOne : GoVs ρ).Vs w S r us → us = [v]) {all : Array Oper} {l : List Oper} {d ty : Nat} {ps : String} {af : Array Edge} {x : Operand} {args : Array Operand} {ats : Array TypeId} {f : FuncId} {fi ca : Array Value} {as vs : List Value}
    (hcall : CallOk P f) (hc : ∀ w', Below w.heap.size w w' → RetV (ρ := ρ) P f vs w' r) (hx : opv e x = some (.func (.func f) fi ca)) (hargs : opvs e args.toList = some as) (hvs : fi.toList ++ as ++ ca.toList = vs) (hn : Nat.blt d n = true)
    (hk : RunD P n Q k all w l ((d, v) :: e)) : RunD P n Q k all w (⟨some d, .call ⟨.value x, args, ats⟩, ty, ps, af, none⟩ :: l) e := by
  intro a ha
  subst hvs
  have hw : Region.wanted (⟨some d, .call ⟨.value x, args, ats⟩, ty, ps, af, none⟩ : Oper) (yielded all a.tmps) = true := rfl
  rw [wpQuiet, if_pos hw]
  refine ⟨v, fun w' hw' => ?_, hk _ (ha.put hn v)⟩
  unfold Oper.quietAt
  rw [exec_call ha hcall hx hargs w']
  refine ⟨rfl, (hc w' hw').mono ?_⟩
  rintro e' w'' ⟨u, rfl, hb, us, rfl, hr⟩
  refine ⟨?_, hw'.trans (hb.mono hw'.size)⟩
  rw [hv w'' _ us hr]
  rfl

theorem vsI (r : Int) (w : World) (S : Nat → Prop) (us : List Value) (h : (vsOne : GoVs Int).Vs w S r us) : us = [.int .i64 r] := by
  obtain ⟨cs, rfl, h⟩ := h
  have : cs = [.int .i64 r] := h
  subst this; rfl
theorem vsB (r : Bool) (w : World) (S : Nat → Prop) (us : List Value) (h : (vsOne : GoVs Bool).Vs w S r us) : us = [.bool r] := by
  obtain ⟨cs, rfl, h⟩ := h
  have : cs = [.bool r] := h
  subst this; rfl
/-! ### A region whose operations may make memory or write: whatever comes up -/

/-- Behind every operation 'C' holds, as long as none of the stores 'st' has come up. -/
def SA (st : List Nat) (C : World → Prop) (listed : Array Bool) (w : World) : Prop := (∀ s ∈ st, listed.getD s true = false) → C w

def wpAnyS (P : Program) (ops : Array Oper) (Q : Exit → Act → World → Prop) (st : List Nat) (C : World → Prop) : Nat → Array Bool → Act → World → Prop
  | 0, listed, a, w => Region.ready .any ops listed = [] ∧ Q .normal a w
  | fuel + 1, listed, a, w =>
    (Region.ready .any ops listed = [] → Q .normal a w) ∧
    ∀ i ∈ Region.ready .any ops listed, wpOp P ops Q i (fun a' w' => SA st C (listed.setIfInBounds i true) w' ∧ wpAnyS P ops Q st C fuel (listed.setIfInBounds i true) a' w') a w

theorem wpAny_of_S {ops : Array Oper} {st : List Nat} {C : World → Prop} : ∀ (fuel : Nat) (listed : Array Bool) (a : Act) (w : World), wpAnyS P ops Q st C fuel listed a w → wpAny P .any ops Q fuel listed a w
  | 0, _, _, _, h => h
  | fuel + 1, _, _, _, h => ⟨h.1, fun i hi => wpOp_mono (fun a' w' h' => wpAny_of_S fuel _ a' w' h'.2) (h.2 i hi)⟩

/-- Does store 's' wait for 'i' by an edge of its own? -/
def waitsB (ops : Array Oper) (i s : Nat) : Bool :=
  match ops[s]? with
  | some o => o.after.any fun e => Region.binds .any e && e.on == i
  | none => false

theorem wpAnyS_first {ops : Array Oper} {st : List Nat} {C : World → Prop} {i : Nat} {oi : Oper} {v : Value} (hi : ops[i]? = some oi) (hsel : ∀ (j : Nat) (o : Oper) cs b, ops[j]? = some o → o.op ≠ .select cs b)
    (hQ : ∀ c a w, Q (.panic c) (a.put oi.dst v) w → Q (.panic c) a w) (hst : ∀ s ∈ st, s ≠ i ∧ waitsB ops i s = true) :
    ∀ (fuel : Nat) (listed : Array Bool) (a : Act) (w : World),
      (∀ j oj, ops[j]? = some oj → j ≠ i → listed.getD j true = false → (∀ e ∈ oj.after, Region.binds .any e = true → e.on ≠ i) → oi.apart ops oj = true) →
      i ∈ Region.ready .any ops listed → YieldsIf P ops C oi v a → (∀ s ∈ st, listed.getD s true = false) → C w →
      wpAnyS P ops Q st C fuel (listed.setIfInBounds i true) (a.put oi.dst v) w → wpAnyS P ops Q st C (fuel + 1) listed a w := by
  intro fuel
  induction fuel with
  | zero =>
    intro listed a w _ hr hy hun hC H
    refine ⟨fun h => (by rw [h] at hr; cases hr), fun j hj => ?_⟩
    by_cases hji : j = i
    · subst hji; exact hy.wpOp hi hC ⟨fun _ => hC, H⟩
    · have := ready_mono hj hji
      rw [H.1] at this
      cases this
  | succ fuel ih =>
    intro listed a w hfree hr hy hun hC H
    refine ⟨fun h => (by rw [h] at hr; cases hr), fun j hj => ?_⟩
    by_cases hji : j = i
    · subst hji; exact hy.wpOp hi hC ⟨fun _ => hC, H⟩
    · have h1 := H.2 j (ready_mono hj hji)
      obtain ⟨hjun, oj, hoj, hall⟩ := mem_ready.1 hj
      have hnot : ∀ e ∈ oj.after, Region.binds .any e = true → e.on ≠ i := fun e he hb heq => by
        have h1 := hall e he hb
        have h0 := (mem_ready.1 hr).1
        rw [heq] at h1
        rcases Nat.lt_or_ge i listed.size with h' | h'
        · simp [h'] at h0 h1; rw [h0] at h1; cases h1
        · simp [Array.getElem?_eq_none h'] at h1
      have hjst : ∀ s ∈ st, j ≠ s := by
        intro s hs hjs
        subst hjs
        have := (hst j hs).2
        unfold waitsB at this
        rw [hoj] at this
        obtain ⟨ed, hed, hb⟩ := Array.any_eq_true'.1 this
        simp only [Bool.and_eq_true, beq_iff_eq] at hb
        exact hnot ed hed hb.1 hb.2
      have hun' : ∀ s ∈ st, (listed.setIfInBounds j true).getD s true = false := fun s hs => by rw [getD_set_ne true (hjst s hs)]; exact hun s hs
      have h2 := wpOp_putIf hoj (hfree j oj hoj hji hjun hnot) (fun cs b => hsel i oi cs b hi) (fun cs b => hsel j oj cs b hoj) hQ hy h1
      have hfree' : ∀ k ok, ops[k]? = some ok → k ≠ i → (listed.setIfInBounds j true).getD k true = false →
          (∀ e ∈ ok.after, Region.binds .any e = true → e.on ≠ i) → oi.apart ops ok = true := fun k ok hk hki hun hno => by
        refine hfree k ok hk hki ?_ hno
        by_cases hjk : j = k
        · subst hjk; exact hjun
        · rw [getD_set_ne true hjk] at hun; exact hun
      have hsa : ∀ w'', SA st C ((listed.setIfInBounds i true).setIfInBounds j true) w'' → C w'' := fun w'' h => h (fun s hs => by
        rw [getD_set_ne true (hjst s hs), getD_set_ne true (fun h => (hst s hs).1 h.symm)]; exact hun s hs)
      refine wpOp_mono (fun a' w' h3 => ⟨fun _ => hsa w' h3.2.1, ih (listed.setIfInBounds j true) a' w' hfree' (ready_mono hr (Ne.symm hji)) h3.1 hun' (hsa w' h3.2.1) ?_⟩) h2
      rw [Array.setIfInBounds_comm _ _ hji]
      exact h3.2.2

def RunA (P : Program) (n : Nat) (Q : Exit → Act → World → Prop) (k : List It) (ops : Array Oper) (st : List Nat) (C : World → Prop) (fuel : Nat) (listed : Array Bool) (e : Env) (w : World) : Prop :=
  ∀ a, Agree n e a → wpAnyS P ops (post P Q k) st C fuel listed a w

theorem r_any {id : Nat} {ops : List Oper} (st : List Nat) (C : World → Prop) (hm : P.follows .mixedOrders = true) (m : Nat) (hsz : ops.toArray.size = m) (listed : Array Bool) (hl : Array.replicate m false = listed)
    (h : ∀ w', Below w.heap.size w w' → RunA P n Q k ops.toArray st C m listed e w') : Run P n Q (.code (.region id ops.toArray true) :: k) e w := by
  subst hsz
  subst hl
  intro a ha
  refine wp_region_any hm (wpAny_of_S (st := st) (C := C) _ _ _ _ ?_)
  exact h { w with drawn := w.drawn + 1 } ⟨rfl, rfl, rfl, Nat.le_refl _, fun _ _ => rfl⟩ a ha

theorem panic_put {k : List It} {fnc : Func} {R : Ending → World → Prop} {d : Option Tmp} {v : Value} : ∀ c a w, post P (bodyPost P fnc R) k (.panic c) (a.put d v) w → post P (bodyPost P fnc R) k (.panic c) a w := by
  intro c a w
  induction k with
  | nil =>
    intro h
    refine ⟨?_, h.2⟩
    have := h.1
    cases d <;> exact this
  | cons x k ih => cases x <;> exact ih

/-- An operation that only reads is taken first. -/
theorem a_take {fnc : Func} {R : Ending → World → Prop} {ops : Array Oper} {st : List Nat} {C : World → Prop} {fuel : Nat} {listed : Array Bool} (i : Nat) {d : Nat} {op : Op} {t : Nat} {ps : String} {af : Array Edge} {v : Value}
    (hi : ops[i]? = some ⟨some d, op, t, ps, af, none⟩) (listed' : Array Bool) (hl : listed.setIfInBounds i true = listed')
    (hb : (Region.noSelect ops && Region.free .any ops listed i && (Region.ready .any ops listed).contains i && st.all (fun s => !(Nat.beq s i) && waitsB ops i s && !(listed.getD s true))) = true)
    (hv : ∀ w', C w' → Val P n e ⟨some d, op, t, ps, af, none⟩ w' v) (hC : C w) (hn : Nat.blt d n = true)
    (hk : RunA P n (bodyPost P fnc R) k ops st C fuel listed' ((d, v) :: e) w) : RunA P n (bodyPost P fnc R) k ops st C (fuel + 1) listed e w := by
  subst hl
  simp only [Bool.and_eq_true, List.all_eq_true, Bool.not_eq_true'] at hb
  obtain ⟨⟨⟨h1, h2⟩, h3⟩, h4⟩ := hb
  intro a ha
  refine wpAnyS_first hi (Region.noSelect_spec h1) (fun c a w h => panic_put c a w h) (fun s hs => ⟨fun h => ?_, (h4 s hs).1.2⟩) fuel listed a w (Region.free_spec hi h2) (by simpa using h3) (.inl ⟨rfl, fun w' hw' => hv w' hw' a ha⟩) (fun s hs => (h4 s hs).2) hC (hk _ (ha.put hn v))
  have := (h4 s hs).1.1
  rw [h, beqR] at this
  cases this

/-- What is asked behind an operation. -/
def NextA (P : Program) (_ : Nat) (Q : Exit → Act → World → Prop) (k : List It) (ops : Array Oper) (st : List Nat) (C : World → Prop) (fuel : Nat) (listed : Array Bool) (a : Act) (w : World) : Prop :=
  SA st C listed w ∧ wpAnyS P ops (post P Q k) st C fuel listed a w

theorem a_goal {ops : Array Oper} {st : List Nat} {C : World → Prop} {fuel : Nat} {listed : Array Bool} {all : Array Oper} (hC : SA st C listed w) (h : RunA P n Q k ops st C fuel listed e w) : Run P n Q (.ops all [] :: .goal (NextA P n Q k ops st C fuel listed) :: k) e w :=
  fun a ha => ⟨hC, h a ha⟩

theorem wpOp_of_run {ops : Array Oper} {i : Nat} {o : Oper} {J : Act → World → Prop} {a : Act} (hi : ops[i]? = some o) (h : wpList P ops (post P Q (.goal J :: k)) [o] a w) : wpOp P ops (post P Q k) i J a w := by
  unfold wpOp
  simp only [hi]
  rw [wpList] at h
  split at h
  · rename_i hw
    rw [if_pos hw]
    rcases h with h | ⟨h1, h2⟩
    · refine .inl ?_
      unfold Oper.wp at *
      generalize (execOp a.eval o).run P w = r at *
      cases r with
      | ok m w' =>
        cases m <;> simp only [Oper.upon] at h ⊢ <;> exact h
      | halt x w' => cases x <;> simp only [Oper.upon] at h ⊢ <;> exact h
    · exact .inr ⟨h1, h2⟩
  · rename_i hw
    rw [if_neg hw]
    exact h

/-- One operation alone can come up. -/
theorem a_only {ops : Array Oper} {st : List Nat} {C : World → Prop} {fuel : Nat} {listed : Array Bool} (i : Nat) {o : Oper} (hi : ops[i]? = some o) (listed' : Array Bool) (hl : listed.setIfInBounds i true = listed') (hr : Region.ready .any ops listed = [i])
    (h : Run P n Q (.ops ops [o] :: .goal (NextA P n Q k ops st C fuel listed') :: k) e w) : RunA P n Q k ops st C (fuel + 1) listed e w := by
  subst hl
  intro a ha
  refine ⟨fun h0 => (by rw [hr] at h0; cases h0), fun j hj => ?_⟩
  rw [hr] at hj
  have : j = i := by simpa using hj
  subst this
  exact wpOp_of_run hi (h a ha)

/-- One of two can come up. -/
theorem a_two {ops : Array Oper} {st : List Nat} {C : World → Prop} {fuel : Nat} {listed : Array Bool} (i j : Nat) {o o' : Oper} (hi : ops[i]? = some o) (hj : ops[j]? = some o') (listed1 listed2 : Array Bool) (hl1 : listed.setIfInBounds i true = listed1) (hl2 : listed.setIfInBounds j true = listed2) (hr : Region.ready .any ops listed = [i, j])
    (h1 : Run P n Q (.ops ops [o] :: .goal (NextA P n Q k ops st C fuel listed1) :: k) e w) (h2 : Run P n Q (.ops ops [o'] :: .goal (NextA P n Q k ops st C fuel listed2) :: k) e w) : RunA P n Q k ops st C (fuel + 1) listed e w := by
  subst hl1 hl2
  intro a ha
  refine ⟨fun h0 => (by rw [hr] at h0; cases h0), fun m hm => ?_⟩
  rw [hr] at hm
  rcases List.mem_cons.1 hm with rfl | hm
  · exact wpOp_of_run hi (h1 a ha)
  · have : m = j := by simpa using hm
    subst this
    exact wpOp_of_run hj (h2 a ha)

theorem a_done {ops : Array Oper} {st : List Nat} {C : World → Prop} {listed : Array Bool} (hr : Region.ready .any ops listed = []) (h : Run P n Q k e w) : RunA P n Q k ops st C 0 listed e w :=
  fun a ha => ⟨hr, h a ha⟩
end
end Go.Fw
