/- Operations that only reckon; loads and stores. -/
import Derived.Test.YtbpmddedhekleaaGreatDoorFw2
namespace Go.Fw
open Go

inductive TK where
  | int (k : IntKind) | bool | str | ptr | slice (e : Nat) | struct | arr (n e : Nat) | other
  deriving DecidableEq

/-- What a run needs to know of a type. -/
structure TE where
  kind : TK
  size : Nat
  bytes : Nat
  zero : Option Value
  fields : List (Nat × Nat × Option Bool)

def TE.agg (t : TE) : Bool := match t.kind with | .struct => true | .arr _ _ => true | _ => false

def aggO (P : Program) (t : TypeId) : Option Bool := (P.underlying t).map fun | .struct _ => true | .array _ _ => true | _ => false

def aggB (P : Program) (t : TypeId) : Bool := match P.underlying t with | some (.struct _) | some (.array _ _) => true | _ => false

def probe (P : Program) (t : TypeId) : Option TE :=
  match P.info? t, P.underlying t with
  | some i, some d => some {
      kind := match d with | .int k => .int k | .bool => .bool | .string => .str | .pointer _ => .ptr | .slice e => .slice e | .struct _ => .struct | .array n e => .arr n e | _ => .other
      size := i.size
      bytes := i.bytes
      zero := i.zero
      fields := match d with | .struct fs => fs.toList.map (fun f => (f.offset, P.cellsOf f.type, aggO P f.type)) | _ => [] }
  | _, _ => none

abbrev Tab := List (Nat × TE)

def Tab.get : Tab → Nat → Option TE
  | [], _ => none
  | p :: e, j => match Nat.beq p.1 j with
    | true => some p.2
    | false => Tab.get e j

def TabOk (P : Program) (T : Tab) : Prop := ∀ t x, T.get t = some x → probe P t = some x

theorem TabOk.mk {P : Program} : ∀ {T : Tab}, T.map (fun p => probe P p.1) = T.map (fun p => some p.2) → TabOk P T
  | [], _ => fun _ _ h => by cases h
  | p :: T, h => by
    simp only [List.map_cons, List.cons.injEq] at h
    intro t x hx
    simp only [Tab.get] at hx
    cases hb : Nat.beq p.1 t with
    | true =>
      rw [hb] at hx
      simp only [Option.some.injEq] at hx
      rw [← beqT hb, h.1, hx]
    | false =>
      rw [hb] at hx
      exact TabOk.mk h.2 t x hx

section
variable {P : Program} {T : Tab}

theorem probe_info {t : TypeId} {x : TE} (h : probe P t = some x) : ∃ i, P.info? t = some i ∧ i.size = x.size ∧ i.bytes = x.bytes ∧ i.zero = x.zero := by
  unfold probe at h
  split at h
  · rename_i i d hi hd
    simp only [Option.some.injEq] at h
    subst h
    exact ⟨i, hi, rfl, rfl, rfl⟩
  · cases h

theorem probe_und {t : TypeId} {x : TE} (h : probe P t = some x) : ∃ d, P.underlying t = some d ∧ x.kind = (match d with | .int k => .int k | .bool => .bool | .string => .str | .pointer _ => .ptr | .slice e => .slice e | .struct _ => .struct | .array n e => .arr n e | _ => .other) := by
  unfold probe at h
  split at h
  · rename_i i d hi hd
    simp only [Option.some.injEq] at h
    subst h
    exact ⟨d, hd, rfl⟩
  · cases h

theorem probe_slice {t e : TypeId} {x : TE} (h : probe P t = some x) (hk : x.kind = .slice e) : P.underlying t = some (.slice e) := by
  obtain ⟨d, hd, hx⟩ := probe_und h
  rw [hk] at hx
  rw [hd]
  cases d <;> simp at hx
  rw [hx]

theorem probe_str {t : TypeId} {x : TE} (h : probe P t = some x) (hk : x.kind = .str) : P.underlying t = some .string := by
  obtain ⟨d, hd, hx⟩ := probe_und h
  rw [hk] at hx
  rw [hd]
  cases d <;> simp at hx
  rfl

theorem probe_bool {t : TypeId} {x : TE} (h : probe P t = some x) (hk : x.kind = .bool) : P.underlying t = some .bool := by
  obtain ⟨d, hd, hx⟩ := probe_und h
  rw [hk] at hx
  rw [hd]
  cases d <;> simp at hx
  rfl

theorem probe_int {t : TypeId} {x : TE} {k : IntKind} (h : probe P t = some x) (hk : x.kind = .int k) : P.underlying t = some (.int k) := by
  obtain ⟨d, hd, hx⟩ := probe_und h
  rw [hk] at hx
  rw [hd]
  cases d <;> simp at hx
  rw [hx]

theorem probe_agg {t : TypeId} {x : TE} (h : probe P t = some x) : aggB P t = x.agg := by
  obtain ⟨d, hd, hx⟩ := probe_und h
  unfold aggB TE.agg
  rw [hd, hx]
  cases d <;> rfl

theorem run_isAgg {t : TypeId} {x : TE} (h : probe P t = some x) (w : World) : (isAgg t).run P w = .ok x.agg w := by
  rw [← probe_agg h]
  obtain ⟨d, hd, _⟩ := probe_und h
  unfold isAgg aggB
  simp only [Sem.run_bind, run_underlying hd, Result.andThen_ok, hd]
  cases d <;> rfl

theorem run_sizeOf {t : TypeId} {x : TE} (h : probe P t = some x) (w : World) : (sizeOf t).run P w = .ok x.size w := by
  obtain ⟨i, hi, hs, _⟩ := probe_info h
  simp [sizeOf, typeInfo, hi, hs]

theorem probe_fields {t : TypeId} {x : TE} (h : probe P t = some x) {f off sz : Nat} {ag : Option Bool} (hf : x.fields[f]? = some (off, sz, ag)) :
    ∃ fs fl, P.underlying t = some (.struct fs) ∧ fs[f]? = some fl ∧ fl.offset = off ∧ P.cellsOf fl.type = sz ∧ aggO P fl.type = ag := by
  unfold probe at h
  split at h
  · rename_i i d hi hd
    simp only [Option.some.injEq] at h
    subst h
    cases d <;> simp at hf
    rename_i fs
    obtain ⟨fl, hfl, h1, h2, h3⟩ := hf
    exact ⟨fs, fl, hd, by simpa using hfl, h1, h2, h3⟩
  · cases h

def ibin (op : BinOp) (k : IntKind) (a b : Int) : Option Value :=
  match op with
  | .add => some (.int k (k.wrap (a + b)))
  | .sub => some (.int k (k.wrap (a - b)))
  | .mul => some (.int k (k.wrap (a * b)))
  | .eql => some (.bool (a == b))
  | .neq => some (.bool (a != b))
  | .lss => some (.bool (decide (a < b)))
  | .leq => some (.bool (decide (a ≤ b)))
  | .gtr => some (.bool (decide (a > b)))
  | .geq => some (.bool (decide (a ≥ b)))
  | .quo => match b with
    | .ofNat (m + 1) => some (.int k (k.wrap (a.tdiv (.ofNat (m + 1)))))
    | _ => none
  | .rem => match b with
    | .ofNat (m + 1) => some (.int k (a.tmod (.ofNat (m + 1))))
    | _ => none
  | _ => none

theorem run_ibin {op : BinOp} {k : IntKind} {a b : Int} {v : Value} (h : ibin op k a b = some v) (t : TypeId) (w : World) : (binOp op t (.int k a) (.int k b)).run P w = .ok v w := by
  cases op <;> simp only [ibin, Option.some.injEq] at h
  case quo =>
    split at h
    · simp only [Option.some.injEq] at h
      subst h
      rw [binOp]
      simp only [Op.intDiv, Int.ofNat_eq_natCast, ne_eq, not_true_eq_false, if_false]
      rw [if_neg (by omega)]
      rfl
    · cases h
  case rem =>
    split at h
    · simp only [Option.some.injEq] at h
      subst h
      rw [binOp]
      simp only [Op.intDiv, Int.ofNat_eq_natCast, ne_eq, not_true_eq_false, if_false]
      rw [if_neg (by omega)]
      rfl
    · cases h
  all_goals first
    | (subst h; simp [binOp, Op.intArith, Op.intCmp]; done)
    | cases h

/-- '!=' is the opposite of '==' at bools. -/
def bbin (op : BinOp) (a b : Bool) : Option Value :=
  match op with
  | .eql => some (.bool (a == b))
  | .neq => some (.bool (!(a == b)))
  | _ => none

def sbin (op : BinOp) (a b : ByteArray) : Option Value :=
  match op with
  | .eql => some (.bool (a.toList == b.toList))
  | .neq => some (.bool (a.toList != b.toList))
  | _ => none

def opvs (e : Env) : List Operand → Option (List Value)
  | [] => some []
  | x :: l => match opv e x, opvs e l with
    | some v, some vs => some (v :: vs)
    | _, _ => none

theorem opvs_spec {n : Nat} {e : Env} {a : Act} (ha : Agree n e a) : ∀ {l : List Operand} {vs : List Value}, opvs e l = some vs → l.map a.eval = vs
  | [], vs, h => by simp only [opvs, Option.some.injEq] at h; subst h; rfl
  | x :: l, vs, h => by
    simp only [opvs] at h
    split at h
    · rename_i v ws hv hws
      simp only [Option.some.injEq] at h
      subst h
      rw [List.map_cons, ha.eval hv, opvs_spec ha hws]
    · cases h

def imin (op : Builtin) (vs : List Value) : Option Value :=
  match op, vs with
  | .min, [.int k a, .int _ b] => some (.int k (if b < a then b else a))
  | .max, [.int k a, .int _ b] => some (.int k (if b > a then b else a))
  | .min, [.int k a, .int _ b, .int _ c] => some (.int k (if c < (if b < a then b else a) then c else (if b < a then b else a)))
  | .max, [.int k a, .int _ b, .int _ c] => some (.int k (if c > (if b > a then b else a) then c else (if b > a then b else a)))
  | .len, [.slice _ l _] => some (.int .i64 l)
  | .len, [.string s] => some (.int .i64 s.size)
  | .cap, [.slice _ _ c] => some (.int .i64 c)
  | _, _ => none

def cellsL (v : Value) : List Value :=
  match v with
  | .agg cs => cs.toList
  | v => [v]

def lenKind (T : Tab) (ts : List TypeId) (vs : List Value) : Bool :=
  match ts, vs with
  | [t], [.slice _ _ _] => match T.get t with | some x => (match x.kind with | .slice _ => true | _ => false) | none => false
  | [t], [.string _] => match T.get t with | some x => (match x.kind with | .str => true | _ => false) | none => false
  | _, _ => false

/-- The value of an operation that only reckons. -/
def pev (T : Tab) (e : Env) (o : Op) : Option Value :=
  match o with
  | .move x | .assign x => opv e x
  | .pick c a b => match opv e c with
    | some (.bool true) => opv e a
    | some (.bool false) => opv e b
    | _ => none
  | .binOp op t x y _ => match opv e x, opv e y with
    | some (.int k a), some (.int k' b) => match decEq k k' with
      | .isTrue _ => ibin op k a b
      | .isFalse _ => none
    | some (.bool a), some (.bool b) => match T.get t with
      | some te => match te.kind with | .bool => bbin op a b | _ => none
      | none => none
    | some (.string a), some (.string b) => sbin op a b
    | _, _ => none
  | .unOp .not _ x => match opv e x with
    | some (.bool b) => some (.bool (!b))
    | _ => none
  | .unOp .neg _ x => match opv e x with
    | some (.int k a) => some (.int k (k.wrap (0 - a)))
    | _ => none
  | .fieldAddr t x f => match opv e x, T.get t with
    | some (.pointer (some ⟨b, o, none⟩)), some te => match te.fields[f]? with
      | some (off, sz, _) => match sz with
        | 0 => none
        | _ + 1 => some (.pointer (some ⟨b, o + off, none⟩))
      | none => none
    | _, _ => none
  | .field t x f => match opv e x, T.get t with
    | some (.agg cs), some te => match te.fields[f]? with
      | some (off, sz, some true) => some (.agg (cs.extract off (off + sz)))
      | some (off, _, some false) => cs.toList[off]?
      | _ => none
    | _, _ => none
  | .extract x i => match opv e x with
    | some (.tuple vs) => vs.toList[i]?
    | _ => none
  | .nilCheck x => match opv e x with
    | some (.pointer (some a)) => some (.pointer (some a))
    | some (.func (.func f) x y) => some (.func (.func f) x y)
    | _ => none
  | .makeFunc fn first cap => match opvs e first.toList, opvs e cap.toList with
    | some vs, some us => some (.func fn vs.toArray us.toArray)
    | _, _ => none
  | .convert s d x => match opv e x, T.get s, T.get d with
    | some (.int _ a), some _, some te => match te.kind with
      | .int k => some (.int k (k.wrap a))
      | _ => none
    | _, _, _ => none
  | .call c => match c.callee with
    | .builtin b => match opvs e c.args.toList with
      | some vs => match b with
        | .len => match lenKind T c.argTypes.toList vs with | true => imin .len vs | false => none
        | .min => imin .min vs
        | .max => imin .max vs
        | _ => none
      | none => none
    | _ => none
  | _ => none

theorem map_toArray_eval {n : Nat} {e : Env} {a : Act} (ha : Agree n e a) {xs : Array Operand} {vs : List Value} (h : opvs e xs.toList = some vs) : xs.map a.eval = vs.toArray := by
  have := opvs_spec ha h
  apply Array.ext'
  simpa using this

theorem eqGuard_int (op : BinOp) (t : TypeId) (x y : Operand) (k k' : IntKind) (a b : Int) (w : World) : (eqGuard op t x y (.int k a) (.int k' b)).run P w = .ok () w := by
  unfold eqGuard; split <;> rfl
theorem eqGuard_bool (op : BinOp) (t : TypeId) (x y : Operand) (a b : Bool) (w : World) : (eqGuard op t x y (.bool a) (.bool b)).run P w = .ok () w := by
  unfold eqGuard; split <;> rfl
theorem eqGuard_str (op : BinOp) (t : TypeId) (x y : Operand) (a b : ByteArray) (w : World) : (eqGuard op t x y (.string a) (.string b)).run P w = .ok () w := by
  unfold eqGuard; split <;> rfl

theorem run_equalIn_bool (d : Nat) {t : TypeId} (hu : P.underlying t = some .bool) (a b : Bool) (w : World) : (Op.equalIn (d + 1) t (.bool a) (.bool b)).run P w = .ok (a == b) w := by
  simp [Op.equalIn, run_underlying hu]

theorem run_bbin {op : BinOp} {t : TypeId} (hu : P.underlying t = some .bool) {a b : Bool} {v : Value} (h : bbin op a b = some v) (w : World) : (binOp op t (.bool a) (.bool b)).run P w = .ok v w := by
  have he : (Op.equal t (.bool a) (.bool b)).run P w = .ok (a == b) w := by
    simp only [Op.equal, Op.maxDepth]
    exact run_equalIn_bool 9999 hu a b w
  cases op <;> simp only [bbin, Option.some.injEq] at h
  case eql => subst h; rw [binOp] <;> first | (intros; contradiction) | simp only [Sem.run_bind, he, Result.andThen_ok, Sem.run_pure]
  case neq => subst h; rw [binOp] <;> first | (intros; contradiction) | simp only [Sem.run_bind, he, Result.andThen_ok, Sem.run_pure]
  all_goals cases h

theorem run_sbin {op : BinOp} {t : TypeId} {a b : ByteArray} {v : Value} (h : sbin op a b = some v) (w : World) : (binOp op t (.string a) (.string b)).run P w = .ok v w := by
  cases op <;> simp only [sbin, Option.some.injEq] at h
  case eql => subst h; simp [binOp, Op.stringOp]
  case neq => subst h; simp [binOp, Op.stringOp, bne]
  all_goals cases h

theorem run_isAgg_of {t : TypeId} {b : Bool} (h : aggO P t = some b) (w : World) : (isAgg t).run P w = .ok b w := by
  unfold aggO at h
  unfold isAgg
  cases hd : P.underlying t with
  | none => rw [hd] at h; simp at h
  | some d => rw [hd] at h; simp only [Option.map_some, Option.some.injEq] at h; simp only [Sem.run_bind, run_underlying hd, Result.andThen_ok]; cases d <;> subst h <;> rfl

theorem info_of_cells {t : TypeId} {m : Nat} (h : P.cellsOf t = m + 1) (w : World) : (sizeOf t).run P w = .ok (m + 1) w := by
  unfold Program.cellsOf at h
  cases hi : P.info? t with
  | none => rw [hi] at h; simp at h
  | some i => rw [hi] at h; simp at h; simp [sizeOf, typeInfo, hi, h]

theorem info_of_agg {t : TypeId} {b : Bool} {sz : Nat} (hb : aggO P t = some b) (h : P.cellsOf t = sz) (w : World) : (sizeOf t).run P w = .ok sz w := by
  unfold aggO Program.underlying at hb
  unfold Program.cellsOf at h
  cases hi : P.info? t with
  | none => rw [hi] at hb; simp at hb
  | some i => rw [hi] at h; simp at h; simp [sizeOf, typeInfo, hi, h]

theorem run_fieldAt (hT : TabOk P T) {t : TypeId} {te : TE} {f off m : Nat} {ag : Option Bool} (hte : T.get t = some te) (hf : te.fields[f]? = some (off, m + 1, ag)) (b o : Nat) (w : World) :
    (Instr.fieldAt t (.pointer (some ⟨b, o, none⟩)) f).run P w = .ok (.pointer (some ⟨b, o + off, none⟩)) w := by
  obtain ⟨fs, fl, hu, hfl, h1, h2, h3⟩ := probe_fields (hT _ _ hte) hf
  have hsz := info_of_cells h2 w
  simp only [Instr.fieldAt, Sem.run_bind, run_underlying hu, Result.andThen_ok, hfl, Instr.sureAddr, Sem.run_pure, fieldPlace, hsz, Nat.succ_ne_zero, if_false, h1, Addr.add]
  by_cases h0 : off = 0
  · simp [h0]
  · simp [h0]

theorem run_fieldAgg (hT : TabOk P T) {t : TypeId} {te : TE} {f off sz : Nat} (hte : T.get t = some te) (hf : te.fields[f]? = some (off, sz, some true)) (cs : Array Value) (w : World) :
    (Instr.field t (.agg cs) f).run P w = .ok (.agg (cs.extract off (off + sz))) w := by
  obtain ⟨fs, fl, hu, hfl, h1, h2, h3⟩ := probe_fields (hT _ _ hte) hf
  simp [Instr.field, run_underlying hu, hfl, asAgg, part, run_isAgg_of h3, info_of_agg h3 h2, h1]

theorem run_fieldOne (hT : TabOk P T) {t : TypeId} {te : TE} {f off sz : Nat} (hte : T.get t = some te) (hf : te.fields[f]? = some (off, sz, some false)) {cs : Array Value} {v : Value} (hv : cs.toList[off]? = some v) (w : World) :
    (Instr.field t (.agg cs) f).run P w = .ok v w := by
  obtain ⟨fs, fl, hu, hfl, h1, h2, h3⟩ := probe_fields (hT _ _ hte) hf
  have hcs : cs[off]? = some v := by simpa using hv
  simp [Instr.field, run_underlying hu, hfl, asAgg, part, run_isAgg_of h3, h1, hcs]

theorem run_len (hT : TabOk P T) {ts : Array TypeId} {vs : List Value} {v : Value} (hk : lenKind T ts.toList vs = true) (h : imin .len vs = some v) (t : TypeId) (w : World) :
    (Builtin.len_ ts t vs.toArray).run P w = .ok v w := by
  unfold lenKind at hk
  split at hk
  · rename_i t' p l c hts
    simp only [imin, Option.some.injEq] at h
    subst h
    split at hk
    · rename_i x hx
      split at hk
      · rename_i e he
        have hu := probe_slice (hT _ _ hx) he
        have ht0 : ts[0]? = some t' := by rw [← Array.getElem?_toList, hts]; rfl
        simp [Builtin.len_, ht0, run_underlying hu, goInt]
      · cases hk
    · cases hk
  · rename_i t' s hts
    simp only [imin, Option.some.injEq] at h
    subst h
    split at hk
    · rename_i x hx
      split at hk
      · rename_i he
        have hu := probe_str (hT _ _ hx) he
        have ht0 : ts[0]? = some t' := by rw [← Array.getElem?_toList, hts]; rfl
        simp [Builtin.len_, ht0, run_underlying hu, goInt]
      · cases hk
    · cases hk
  · cases hk

theorem run_min {vs : List Value} {v : Value} (h : imin .min vs = some v) (ts : Array TypeId) (t : TypeId) (w : World) : (Builtin.min_ ts t vs.toArray).run P w = .ok v w := by
  unfold imin at h
  split at h <;> first | cases h; done | skip
  · simp only [Option.some.injEq] at h
    subst h
    simp [Builtin.min_, Builtin.min2]
  · rename_i hh; cases hh
  · simp only [Option.some.injEq] at h
    subst h
    simp [Builtin.min_, Builtin.min2]
  all_goals (rename_i hh; first | cases hh; done | skip)

theorem run_max {vs : List Value} {v : Value} (h : imin .max vs = some v) (ts : Array TypeId) (t : TypeId) (w : World) : (Builtin.max_ ts t vs.toArray).run P w = .ok v w := by
  unfold imin at h
  split at h <;> first | cases h; done | skip
  · rename_i hh; cases hh
  · simp only [Option.some.injEq] at h
    subst h
    simp [Builtin.max_, Builtin.max2]
  · rename_i hh; cases hh
  · simp only [Option.some.injEq] at h
    subst h
    simp [Builtin.max_, Builtin.max2]
  all_goals (rename_i hh; first | cases hh; done | skip)

section
variable {n : Nat} {e : Env} {a : Act}
theorem pev_binOp (hT : TabOk P T) (ha : Agree n e a) {o : Oper} {v : Value} {op : BinOp} {t : TypeId} {x y : Operand} {t' : TypeId} (ho : o.op = .binOp op t x y t') (h : pev T e (.binOp op t x y t') = some v) (w : World) :
    (execOp a.eval o).run P w = .ok (.value v) w := by
  unfold execOp
  simp only [ho]
  simp only [pev] at h
  split at h
  · rename_i k i k' j hx hy
    split at h
    · rename_i hk _
      subst hk
      simp only [ha.eval hx, ha.eval hy, Sem.run_bind, eqGuard_int, Result.andThen_ok, run_ibin h, Sem.run_pure]
    · cases h
  · rename_i i j hx hy
    split at h
    · rename_i te hte
      split at h
      · rename_i hk
        simp only [ha.eval hx, ha.eval hy, Sem.run_bind, eqGuard_bool, Result.andThen_ok, run_bbin (probe_bool (hT _ _ hte) hk) h, Sem.run_pure]
      · cases h
    · cases h
  · rename_i i j hx hy
    simp only [ha.eval hx, ha.eval hy, Sem.run_bind, eqGuard_str, Result.andThen_ok, run_sbin h, Sem.run_pure]
  · cases h

theorem pev_call (hT : TabOk P T) (ha : Agree n e a) {o : Oper} {v : Value} {c : Call} (ho : o.op = .call c) (h : pev T e (.call c) = some v) (w : World) :
    (execOp a.eval o).run P w = .ok (.value v) w := by
  obtain ⟨cal, args, ats⟩ := c
  unfold execOp
  simp only [ho]
  simp only [pev] at h
  split at h
  · split at h
    · rename_i vs hvs
      have hargs := map_toArray_eval ha hvs
      simp only [resolve, invoke, builtin, Sem.run_bind, Sem.run_pure, Result.andThen_ok, hargs]
      split at h
      · split at h
        · rename_i hk
          simp only [run_len hT hk h, Sem.run_bind, Sem.run_pure, Result.andThen_ok]
        · cases h
      · simp only [run_min h, Sem.run_bind, Sem.run_pure, Result.andThen_ok]
      · simp only [run_max h, Sem.run_bind, Sem.run_pure, Result.andThen_ok]
      · cases h
    · cases h
  · cases h

theorem pev_ok (hT : TabOk P T) (ha : Agree n e a) {o : Oper} {v : Value} (h : pev T e o.op = some v) (w : World) :
    (execOp a.eval o).run P w = .ok (.value v) w := by
  generalize ho : o.op = op at h
  cases op with
  | binOp op t x y t' => exact pev_binOp hT ha ho h w
  | call c => exact pev_call hT ha ho h w
  | move x => simp only [pev] at h; simp [execOp, ho, ha.eval h]
  | assign x => simp only [pev] at h; simp [execOp, ho, ha.eval h]
  | pick c x y =>
    simp only [pev] at h
    split at h
    · rename_i hc; simp [execOp, ho, ha.eval hc, ha.eval h, asBool]
    · rename_i hc; simp [execOp, ho, ha.eval hc, ha.eval h, asBool]
    · cases h
  | unOp op t x =>
    cases op <;> simp only [pev] at h
    case neg =>
      split at h
      · rename_i hb; simp only [Option.some.injEq] at h; subst h; simp [execOp, ho, ha.eval hb, Op.unary, Op.intArith]
      · cases h
    case not =>
      split at h
      · rename_i hb; simp only [Option.some.injEq] at h; subst h; simp [execOp, ho, ha.eval hb, Op.unary]
      · cases h
    all_goals cases h
  | fieldAddr t x f =>
    simp only [pev] at h
    split at h
    · rename_i b o' te hb hte
      split at h
      · rename_i off sz ag hf
        split at h
        · cases h
        · simp only [Option.some.injEq] at h
          subst h
          simp [execOp, ho, ha.eval hb, run_fieldAt hT hte hf]
      · cases h
    · cases h
  | field t x f =>
    simp only [pev] at h
    split at h
    · rename_i cs te hb hte
      split at h
      · rename_i off sz hf
        simp only [Option.some.injEq] at h
        subst h
        simp [execOp, ho, ha.eval hb, run_fieldAgg hT hte hf]
      · rename_i off sz hf
        simp [execOp, ho, ha.eval hb, run_fieldOne hT hte hf h]
      · cases h
    · cases h
  | extract x i =>
    simp only [pev] at h
    split at h
    · rename_i vs hb
      have hcs : vs[i]? = some v := by simpa using h
      simp [execOp, ho, ha.eval hb, Instr.extract, hcs]
    · cases h
  | nilCheck x =>
    simp only [pev] at h
    split at h
    · rename_i ad hb
      simp only [Option.some.injEq] at h
      subst h
      simp [execOp, ho, ha.eval hb]
    · rename_i f x y hb
      simp only [Option.some.injEq] at h
      subst h
      simp [execOp, ho, ha.eval hb]
    · cases h
  | makeFunc fn x y =>
    simp only [pev] at h
    split at h
    · rename_i vs us hv hu
      simp only [Option.some.injEq] at h
      subst h
      simp [execOp, ho, Instr.makeFunc, map_toArray_eval ha hv, map_toArray_eval ha hu]
    · cases h
  | convert s d x =>
    simp only [pev] at h
    split at h
    · rename_i k i ts te hx hs hd
      split at h
      · rename_i k' hk
        simp only [Option.some.injEq] at h
        subst h
        have hu := probe_int (hT _ _ hd) hk
        obtain ⟨ds, hds, _⟩ := probe_und (hT _ _ hs)
        simp only [execOp, ho, ha.eval hx, convert, Sem.run_bind, run_underlying hu, run_underlying hds, Result.andThen_ok, Conv.intToInt, Sem.run_pure]
      · cases h
    · cases h
  | _ => cases h
end

/-- An operation that only reckons. -/
theorem r_p (hT : TabOk P T) {n : Nat} {Q : Exit → Act → World → Prop} {k : List It} {e : Env} {w : World} {all : Array Oper} {l : List Oper} {op : Op} {d t : Nat} {ps : String} {af : Array Edge} {v : Value}
    (h : pev T e op = some v) (hn : Nat.blt d n = true) (hk : Run P n Q (.ops all l :: k) ((d, v) :: e) w) : Run P n Q (.ops all (⟨some d, op, t, ps, af, none⟩ :: l) :: k) e w :=
  r_val rfl rfl hn (fun _ ha => pev_ok hT ha h w) hk
end
end Go.Fw
