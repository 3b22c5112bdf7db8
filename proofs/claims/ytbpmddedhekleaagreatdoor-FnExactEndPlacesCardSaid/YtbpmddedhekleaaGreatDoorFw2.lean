/- A run: the code that is left as a stack, what is known of the temporaries as a list; one rule for each form of code. -/
import Derived.Test.YtbpmddedhekleaaGreatDoorFw1
namespace Go.Fw
open Go

abbrev Env := List (Nat × Value)

def Env.get : Env → Nat → Option Value
  | [], _ => none
  | p :: e, j => match Nat.beq p.1 j with
    | true => some p.2
    | false => Env.get e j

theorem beqT {a b : Nat} (h : Nat.beq a b = true) : a = b := Nat.eq_of_beq_eq_true h
theorem beqR (a : Nat) : Nat.beq a a = true := Nat.beq_refl a

def opv (e : Env) : Operand → Option Value
  | .tmp t => e.get t
  | .const v => some v
  | .func f => some (.func (.func f) #[] #[])
  | .global g => some (.pointer (some ⟨g, 0, none⟩))

structure Agree (n : Nat) (e : Env) (a : Act) : Prop where
  defers : a.defers = []
  size : a.tmps.size = n
  at_ : ∀ i v, e.get i = some v → a.tmps[i]? = some v

theorem Agree.eval {n : Nat} {e : Env} {a : Act} (h : Agree n e a) {x : Operand} {v : Value} (hx : opv e x = some v) : a.eval x = v := by
  cases x with
  | tmp t =>
    have := h.at_ t v hx
    simp [Act.eval, Array.getD_eq_getD_getElem?, this]
  | const c => simpa [opv, Act.eval] using hx
  | global g => simpa [opv, Act.eval] using hx
  | func f => simpa [opv, Act.eval] using hx

theorem Agree.put {n : Nat} {e : Env} {a : Act} (h : Agree n e a) {d : Nat} (hd : Nat.blt d n = true) (v : Value) : Agree n ((d, v) :: e) (a.put (some d) v) := by
  have hd' : d < n := by simpa [Nat.blt_eq] using hd
  refine ⟨h.defers, by simp [Act.put, h.size], fun i u hi => ?_⟩
  simp only [Env.get] at hi
  simp only [Act.put, Array.getElem?_setIfInBounds]
  by_cases hdi : d = i
  · subst hdi
    have hb : Nat.beq d d = true := beqR d
    rw [hb] at hi
    simp only [Option.some.injEq] at hi
    subst hi
    simp [h.size, hd']
  · have hb : Nat.beq d i = false := by
      cases hc : Nat.beq d i with
      | false => rfl
      | true => exact absurd (beqT hc) hdi
    rw [hb] at hi
    rw [if_neg hdi]
    exact h.at_ i u hi

theorem Agree.skip {n : Nat} {e : Env} {a : Act} (h : Agree n e a) (v : Value) : Agree n e (a.put none v) := h

def subEnv (e : Env) : Env → Prop
  | [] => True
  | p :: l => e.get p.1 = some p.2 ∧ subEnv e l

theorem Agree.sub {n : Nat} {e e' : Env} {a : Act} (h : Agree n e a) (hs : subEnv e e') : Agree n e' a := by
  refine ⟨h.defers, h.size, ?_⟩
  induction e' with
  | nil => intro i v hi; cases hi
  | cons p l ih =>
    intro i v hi
    simp only [Env.get] at hi
    cases hb : Nat.beq p.1 i with
    | true =>
      rw [hb] at hi
      simp only [Option.some.injEq] at hi
      subst hi
      have : p.1 = i := beqT hb
      subst this
      exact h.at_ _ _ hs.1
    | false =>
      rw [hb] at hi
      exact ih hs.2 i v hi

inductive It where
  | code (c : Code)
  | ops (all : Array Oper) (rest : List Oper)
  | blk (id : Nat)
  | goal (J : Act → World → Prop)

def post (P : Program) (Q : Exit → Act → World → Prop) : List It → Exit → Act → World → Prop
  | [] => Q
  | .code c :: k => Exit.then (fun a w => c.wp P (post P Q k) a w) (post P Q k)
  | .ops all l :: k => Exit.then (fun a w => wpList P all (post P Q k) l a w) (post P Q k)
  | .blk id :: k => Exit.inBlock id (post P Q k)
  | .goal J :: k => Exit.then J (post P Q k)

def Run (P : Program) (n : Nat) (Q : Exit → Act → World → Prop) (k : List It) (e : Env) (w : World) : Prop :=
  ∀ a, Agree n e a → post P Q k .normal a w

section
variable {P : Program} {n : Nat} {Q : Exit → Act → World → Prop} {k : List It} {e e' : Env} {w w' : World}

theorem r_sub (e' : Env) (hs : subEnv e e') (h : Run P n Q k e' w) : Run P n Q k e w := fun a ha => h a (ha.sub hs)

theorem r_seq {x y : Code} (h : Run P n Q (.code x :: .code y :: k) e w) : Run P n Q (.code (.seq x y) :: k) e w :=
  fun a ha => wp_seq (h a ha)

theorem r_skip (h : Run P n Q k e w) : Run P n Q (.code .skip :: k) e w :=
  fun a ha => wp_skip (h a ha)

theorem r_block {id : Nat} {c : Code} (h : Run P n Q (.code c :: .blk id :: k) e w) : Run P n Q (.code (.block id c) :: k) e w :=
  fun a ha => wp_block (h a ha)

theorem r_blk {id : Nat} (h : Run P n Q k e w) : Run P n Q (.blk id :: k) e w := fun a ha => h a ha

def popTo (id : Nat) : List It → Option (List It)
  | [] => none
  | .blk i :: k => match Nat.beq id i with
    | true => some k
    | false => popTo id k
  | _ :: k => popTo id k

theorem post_exit {id : Nat} {k k' : List It} (hk : popTo id k = some k') {a : Act} {w : World} (h : post P Q k' .normal a w) : post P Q k (.exit id) a w := by
  induction k with
  | nil => cases hk
  | cons x k ih =>
    cases x with
    | blk i =>
      simp only [popTo] at hk
      simp only [post, Exit.inBlock]
      cases hb : Nat.beq id i with
      | true =>
        rw [hb] at hk
        simp only [Option.some.injEq] at hk
        subst hk
        rw [if_pos (beqT hb)]
        exact h
      | false =>
        rw [hb] at hk
        rw [if_neg (fun hh => by rw [hh, beqR i] at hb; cases hb)]
        exact ih hk
    | code c => exact ih hk
    | ops all l => exact ih hk
    | goal J => exact ih hk

theorem r_exit {id : Nat} {k' : List It} (hk : popTo id k = some k') (h : Run P n Q k' e w) : Run P n Q (.code (.exit id) :: k) e w :=
  fun a ha => wp_exit (post_exit hk (h a ha))

theorem post_ret {k : List It} {a : Act} {w : World} (h : Q .ret a w) : post P Q k .ret a w := by
  induction k with
  | nil => exact h
  | cons x k ih => cases x <;> exact ih

theorem r_ret (h : ∀ a, Agree n e a → Q .ret a w) : Run P n Q (.code .ret :: k) e w :=
  fun a ha => wp_ret (post_ret (h a ha))

theorem r_region {id : Nat} {ops : List Oper} (h : Run P n Q (.ops ops.toArray ops :: k) e w) : Run P n Q (.code (.region id ops.toArray false) :: k) e w := by
  intro a ha
  have := h a ha
  refine wp_region ?_
  have he := wpOps_eq_wpList (P := P) (ops := ops.toArray) (Q := post P Q k) ops 0 (by simp)
  rw [show List.range ops.toArray.size = List.range' 0 ops.length from by simp [List.range_eq_range']]
  rw [he]
  exact this

theorem r_nil {all : Array Oper} (h : Run P n Q k e w) : Run P n Q (.ops all [] :: k) e w := fun a ha => h a ha

theorem r_cond {c : Operand} {x y : Code} {b : Bool} (hc : opv e c = some (.bool b)) (ht : b = true → Run P n Q (.code x :: k) e w) (hf : b = false → Run P n Q (.code y :: k) e w) :
    Run P n Q (.code (.cond c x y) :: k) e w :=
  fun a ha => wp_cond_split (ha.eval hc) (fun h => ht h a ha) (fun h => hf h a ha)

theorem r_condT {c : Operand} {x y : Code} {b : Bool} (hc : opv e c = some (.bool b)) (hb : b = true) (ht : Run P n Q (.code x :: k) e w) :
    Run P n Q (.code (.cond c x y) :: k) e w :=
  fun a ha => wp_cond_true (by rw [ha.eval hc, hb]) (ht a ha)

theorem r_condF {c : Operand} {x y : Code} {b : Bool} (hc : opv e c = some (.bool b)) (hb : b = false) (hf : Run P n Q (.code y :: k) e w) :
    Run P n Q (.code (.cond c x y) :: k) e w :=
  fun a ha => wp_cond_false (by rw [ha.eval hc, hb]) (hf a ha)

open Classical in
theorem wp_loop_ix {c : Code} {a : Act} (Inv : Nat → Act → World → Prop) (m : Nat) (h0 : Inv m a w)
    (round : ∀ m a w, Inv m a w → c.wp P (Exit.then (fun a' w' => ∃ m', m' < m ∧ Inv m' a' w') Q) a w) : (Code.loop c).wp P Q a w := by
  have hfind : ∀ a w, (∃ m, Inv m a w) → ∃ m, Inv m a w ∧ ∀ m', Inv m' a w → m ≤ m' := by
    intro a w ⟨m, hm⟩
    induction m using Nat.strongRecOn with
    | _ m ih =>
      by_cases h : ∃ m', m' < m ∧ Inv m' a w
      · obtain ⟨m', h1, h2⟩ := h
        exact ih m' h1 h2
      · exact ⟨m, hm, fun m' hm' => Nat.le_of_not_lt fun hlt => h ⟨m', hlt, hm'⟩⟩
  refine wp_loop (fun a w => ∃ m, Inv m a w) (fun a w => if h : ∃ m, Inv m a w then Classical.choose (hfind a w h) else 0) ⟨m, h0⟩ ?_
  intro a w hI
  have hs := Classical.choose_spec (hfind a w hI)
  refine wp_mono (round _ a w hs.1) ?_
  intro ex a' w' hq
  cases ex with
  | normal =>
    obtain ⟨m', hlt, hm'⟩ := hq
    refine ⟨⟨m', hm'⟩, ?_⟩
    have hI' : ∃ m, Inv m a' w' := ⟨m', hm'⟩
    have hs' := Classical.choose_spec (hfind a' w' hI')
    rw [dif_pos hI', dif_pos hI]
    exact Nat.lt_of_le_of_lt (hs'.2 m' hm') hlt
  | exit id => exact hq
  | goto l => exact hq
  | ret => exact hq
  | panic c => exact hq
  | outgrown => exact hq

/-- What a round must come back to. -/
def Back (n : Nat) (Inv : Nat → Env → World → Prop) (m : Nat) (a : Act) (w : World) : Prop := ∃ m' e, m' < m ∧ Agree n e a ∧ Inv m' e w

theorem r_loop {b : Code} (Inv : Nat → Env → World → Prop) (m : Nat) (h0 : Inv m e w)
    (round : ∀ m e w, Inv m e w → Run P n Q (.code b :: .goal (Back n Inv m) :: k) e w) : Run P n Q (.code (.loop b) :: k) e w := by
  intro a ha
  refine wp_loop_ix (fun m a w => ∃ e, Agree n e a ∧ Inv m e w) m ⟨e, ha, h0⟩ ?_
  rintro m a w ⟨e, ha, hI⟩
  refine wp_mono (round m e w hI a ha) ?_
  intro ex a' w' hq
  cases ex with
  | normal => obtain ⟨m', e', h1, h2, h3⟩ := hq; exact ⟨m', h1, e', h2, h3⟩
  | exit id => exact hq
  | goto l => exact hq
  | ret => exact hq
  | panic c => exact hq
  | outgrown => exact hq

theorem r_back {Inv : Nat → Env → World → Prop} {m : Nat} (m' : Nat) (e' : Env) (hm : m' < m) (hs : subEnv e e') (h : Inv m' e' w) : Run P n Q (.goal (Back n Inv m) :: k) e w :=
  fun _ ha => ⟨m', e', hm, ha.sub hs, h⟩

/-! ### Operations -/

/-- An operation that yields a value. -/
theorem r_val {all : Array Oper} {o : Oper} {l : List Oper} {d : Nat} {v : Value} (hg : o.guard = none) (hd : o.dst = some d) (hn : Nat.blt d n = true)
    (h : ∀ a, Agree n e a → (execOp a.eval o).run P w = .ok (.value v) w') (hk : Run P n Q (.ops all l :: k) ((d, v) :: e) w') : Run P n Q (.ops all (o :: l) :: k) e w := by
  intro a ha
  show wpList P all (post P Q k) (o :: l) a w
  have hw : Region.wanted o (yielded all a.tmps) = true := by simp [Region.wanted, hg]
  rw [wpList, if_pos hw]
  refine .inl ?_
  unfold Oper.wp
  rw [h a ha, Oper.upon_value, hd]
  exact hk _ (ha.put hn v)

/-- An operation that only writes. -/
theorem r_unit {all : Array Oper} {o : Oper} {l : List Oper} (hg : o.guard = none) (hd : o.dst = none)
    (h : ∀ a, Agree n e a → (execOp a.eval o).run P w = .ok .skip w') (hk : Run P n Q (.ops all l :: k) e w') : Run P n Q (.ops all (o :: l) :: k) e w := by
  intro a ha
  show wpList P all (post P Q k) (o :: l) a w
  have hw : Region.wanted o (yielded all a.tmps) = true := by simp [Region.wanted, hg]
  rw [wpList, if_pos hw]
  refine .inl ?_
  unfold Oper.wp
  rw [h a ha, Oper.upon_skip, hd]
  exact hk _ ha

/-- A call of a function, by its contract. -/
theorem r_enter {all : Array Oper} {o : Oper} {l : List Oper} {d : Nat} {f : FuncId} {args : Array Value} {R : Value → World → Prop} (hg : o.guard = none) (hd : o.dst = some d) (hn : Nat.blt d n = true)
    (h : ∀ a, Agree n e a → (execOp a.eval o).run P w = .ok (.enter f args) w)
    (hc : Calls P f args w fun e w' => ∃ v, e = .returned v ∧ R v w')
    (hk : ∀ v w', R v w' → Run P n Q (.ops all l :: k) ((d, v) :: e) w') : Run P n Q (.ops all (o :: l) :: k) e w := by
  intro a ha
  show wpList P all (post P Q k) (o :: l) a w
  have hw : Region.wanted o (yielded all a.tmps) = true := by simp [Region.wanted, hg]
  rw [wpList, if_pos hw]
  refine .inl ?_
  unfold Oper.wp
  rw [h a ha, Oper.upon_enter]
  refine hc.mono ?_
  rintro e' w' ⟨v, rfl, hR⟩
  show wpList P all (post P Q k) l (a.put o.dst v) w'
  rw [hd]
  exact hk v w' hR _ (ha.put hn v)

/-- A guarded operation that is not wanted. -/
def guardOf (e : Env) (all : Array Oper) (o : Oper) : Option Bool :=
  match o.guard with
  | none => some true
  | some (j, want) =>
    match all[j]? with
    | none => none
    | some p =>
      match p.dst with
      | none => none
      | some t =>
        match e.get t with
        | some (.bool b) => some (match b, want with | true, true => true | false, false => true | _, _ => false)
        | _ => none

theorem guardOf_spec {all : Array Oper} {o : Oper} {a : Act} {b : Bool} (ha : Agree n e a) (h : guardOf e all o = some b) : Region.wanted o (yielded all a.tmps) = b := by
  unfold guardOf at h
  unfold Region.wanted
  split at h
  · rename_i hg
    rw [hg]
    simpa using h
  · rename_i j want hg
    rw [hg]
    simp only
    split at h
    · cases h
    · rename_i p hp
      split at h
      · cases h
      · rename_i t ht
        split at h
        · rename_i c hc
          have h1 := ha.at_ t _ hc
          have hy : yielded all a.tmps j = some c := by
            simp [yielded, hp, ht, h1]
          rw [hy]
          simp only [Option.some.injEq] at h
          rw [← h]
          cases c <;> cases want <;> rfl
        · cases h

/-- A guarded operation that is wanted goes as one without a guard. -/
theorem r_wanted {all : Array Oper} {o : Oper} {l : List Oper} (h : guardOf e all o = some true)
    (hk : Run P n Q (.ops all ({ o with guard := none } :: l) :: k) e w) : Run P n Q (.ops all (o :: l) :: k) e w := by
  intro a ha
  have h1 := hk a ha
  show wpList P all (post P Q k) (o :: l) a w
  have h2 : wpList P all (post P Q k) ({ o with guard := none } :: l) a w := h1
  have hw := guardOf_spec ha h
  rw [wpList, if_pos hw]
  rw [wpList, if_pos (by simp [Region.wanted])] at h2
  exact h2
end
end Go.Fw
