/- Plain laws: an order of the data graph, on both sides; the law of IsDataAcyclic. -/
import Derived.Test.YthcphhbmdpepkaaGreatDoorJ1
import Derived.Test.YthcphhbmdpepkaaGreatDoorFw33

namespace Go.Fw
open Go
set_option maxRecDepth 100000

theorem qmf {b : qw} (h : blockB b = true) : Ev (fun n => qfs n b) ((places b.Design).length : Int) := by
  unfold qfs
  exact Ev.bind (qhq (qab (qaK h))) (Ev.now (by rw [List.length_map]))

theorem qmo {d : qh} {k : Int} {n : Nat} : qje (sinksL d k n) n := by
  intro y hy
  unfold sinksL at hy
  obtain ⟨i, hi, rfl⟩ := List.mem_map.1 hy
  exact ⟨i, List.mem_range.1 (List.mem_filter.1 hi).1, rfl⟩
theorem qhM {b : qw} (h : blockB b = true) {j : Nat} (hj : j < (places b.Design).length) : qje (succL b j) (places b.Design).length := by
  have hd := qaK h
  unfold succL
  cases (gt (places b.Design) j).drives
  · cases h0 : decide ((gt (places b.Design) j).instance_ < 0)
    · cases dataB (cellAt b (gt (places b.Design) j).instance_) (gt (places b.Design) j).pin
      · intro y hy; cases hy
      · intro y hy
        rcases qe1 hj with ⟨i, k, hi, hk, ej, e⟩ | ⟨i, hi, _, e⟩
        · obtain ⟨⟨c0, c1⟩, hn, hcb⟩ := qgE hd hi
          rw [e] at hy
          have ec : cellAt b (place1 b.Design i k).instance_ = gt b.Library.Cells (gt b.Design.Instances i).Cell.toNat := by
            unfold cellAt place1; rw [Int.toNat_natCast]
          rw [ec, show (place1 b.Design i k).pin = (k : Int) from rfl] at hy
          have hy : y = (j : Int) - (k : Int) + (((gt b.Library.Cells (gt b.Design.Instances i).Cell.toNat).Pins.length : Int) - 1) := by simpa using hy
          obtain ⟨hp, _⟩ := qh0 (k := (gt b.Design.Instances i).Nets.length - 1) hi (by omega)
          exact ⟨off b.Design i + ((gt b.Design.Instances i).Nets.length - 1), hp, by omega⟩
        · rw [e] at h0
          exact absurd h0 (by show ¬ decide ((-1 : Int) < 0) = false; decide)
    · intro y hy; cases hy
  · intro y hy
    exact qmo y ((List.mem_filter.1 hy).1)

/-! ### The reference's order -/

abbrev npl (b : qw) : Nat := (places b.Design).length

theorem inCsmall {b : qw} (h : blockB b = true) {R : List Nat} {k : Nat} : inC (succL b) (npl b) R k ≤ 78 * 78 := by
  have hl : npl b ≤ 78 := qa9 (qab (qaK h))
  have : ∀ m, ((List.range m).map fun u => if u ∈ R then 0 else (succL b u).count (k : Int)).sum ≤ m * 78 := by
    intro m
    induction m with
    | zero => simp
    | succ m ih =>
      rw [List.range_succ, List.map_append, List.sum_append]
      simp only [List.map_cons, List.map_nil, List.sum_cons, List.sum_nil, Nat.add_zero]
      have h1 : (succL b m).count (k : Int) ≤ 78 := Nat.le_trans List.count_le_length (qhh h)
      split <;> omega
  have := this (npl b)
  unfold inC
  have h3 : npl b * 78 ≤ 78 * 78 := Nat.mul_le_mul_right _ hl
  omega

/-- The counts that are made first. -/
def cnt0 (b : qw) (j : Nat) (k : Nat) : Nat := ((List.range j).map fun u => (succL b u).count (k : Int)).sum
theorem qnQ {b : qw} (h : blockB b = true) {j k : Nat} (hj : j ≤ npl b) : cnt0 b j k ≤ 78 * 78 := by
  have hl : npl b ≤ 78 := qa9 (qab (qaK h))
  have : ∀ m, ((List.range m).map fun u => (succL b u).count (k : Int)).sum ≤ m * 78 := by
    intro m
    induction m with
    | zero => simp
    | succ m ih =>
      rw [qjG]
      have h1 : (succL b m).count (k : Int) ≤ 78 := Nat.le_trans List.count_le_length (qhh h)
      omega
  have := this j
  unfold cnt0
  have h3 : j * 78 ≤ 78 * 78 := Nat.mul_le_mul_right _ (by omega)
  omega

theorem ql8 {f : Nat → Int} {m k : Nat} {xs : List Int} {j : Nat} {d v : Int} (hx : xs[j]? = some (k : Int)) (hv : v = f k + d * ((xs.take j).count (k : Int) : Int) + d) :
    setS (vecI (fun i => f i + d * ((xs.take j).count (i : Int) : Int)) m) (k : Int) v = vecI (fun i => f i + d * ((xs.take (j + 1)).count (i : Int) : Int)) m := by
  rw [qlf]
  refine qgC (fun i _ => ?_)
  rw [qnf hx]
  by_cases h : i = k
  · subst h
    rw [if_pos rfl, if_pos rfl, hv, Int.natCast_add, Int.mul_add]
    show _ = f i + (d * _ + d * 1)
    omega
  · rw [if_neg h, if_neg h, Nat.add_zero]

theorem qoF {xs : List Int} {m : Nat} {f : Nat → Int} (hx : qje xs m) (hl : xs.length ≤ 1000) (hf : ∀ k, k < m → 0 ≤ f k ∧ f k ≤ 10000) :
    Ev (fun n => qbP xs n (vecI f m) 0) (vecI (fun k => f k + 1 * (xs.count (k : Int) : Int)) m, (xs.length : Int)) := by
  have := loopF (Lf := qbP xs) (S := fun j => vecI (fun i => f i + 1 * ((xs.take j).count (i : Int) : Int)) m) (len := xs.length) (fin := (vecI (fun k => f k + 1 * (xs.count (k : Int) : Int)) m, (xs.length : Int)))
    (fun n => by simp only [qbP, qr (Nat.le_refl _), cond_false, List.take_length])
    (fun j hj X hX => by
      obtain ⟨k, hk, e1, e2⟩ := hx.at hj
      have hc : (xs.take j).count (k : Int) ≤ xs.length := Nat.le_trans List.count_le_length (by rw [List.length_take]; omega)
      have h1 := hf k hk
      simp only [qbP, qq hj, cond_true, e1, Option.bind_some, qhw hk, qm (show j < 9223372036854775807 by omega)]
      rw [qd9 (by omega) (by omega), ql8 e2 rfl]
      exact hX)
  simpa using this

theorem qpp {xs : List Int} {m : Nat} {f : Nat → Int} (hx : qje xs m) (hl : xs.length ≤ 1000) (hf : ∀ k, k < m → 0 ≤ f k ∧ f k ≤ 10000) :
    Ev (fun n => qaJ xs n (vecI f m) 0) (vecI (fun k => f k + 1 * (xs.count (k : Int) : Int)) m, (xs.length : Int)) := by
  have := loopF (Lf := qaJ xs) (S := fun j => vecI (fun i => f i + 1 * ((xs.take j).count (i : Int) : Int)) m) (len := xs.length) (fin := (vecI (fun k => f k + 1 * (xs.count (k : Int) : Int)) m, (xs.length : Int)))
    (fun n => by simp only [qaJ, qr (Nat.le_refl _), cond_false, List.take_length])
    (fun j hj X hX => by
      obtain ⟨k, hk, e1, e2⟩ := hx.at hj
      have hc : (xs.take j).count (k : Int) ≤ xs.length := Nat.le_trans List.count_le_length (by rw [List.length_take]; omega)
      have h1 := hf k hk
      simp only [qaJ, qq hj, cond_true, e1, Option.bind_some, qhw hk, qm (show j < 9223372036854775807 by omega)]
      rw [qd9 (by omega) (by omega), ql8 e2 rfl]
      exact hX)
  simpa using this

theorem qoK {xs : List Int} {m : Nat} {f : Nat → Int} (hx : qje xs m) (hl : xs.length ≤ 1000) (hf : ∀ k, k < m → -1 ≤ f k ∧ f k ≤ 10000) :
    Ev (fun n => qaL xs n (vecI f m) 0) (vecI (fun k => f k + (-1) * (xs.count (k : Int) : Int)) m, (xs.length : Int)) := by
  have := loopF (Lf := qaL xs) (S := fun j => vecI (fun i => f i + (-1) * ((xs.take j).count (i : Int) : Int)) m) (len := xs.length) (fin := (vecI (fun k => f k + (-1) * (xs.count (k : Int) : Int)) m, (xs.length : Int)))
    (fun n => by simp only [qaL, qr (Nat.le_refl _), cond_false, List.take_length])
    (fun j hj X hX => by
      obtain ⟨k, hk, e1, e2⟩ := hx.at hj
      have hc : (xs.take j).count (k : Int) ≤ xs.length := Nat.le_trans List.count_le_length (by rw [List.length_take]; omega)
      have h1 := hf k hk
      simp only [qaL, qq hj, cond_true, e1, Option.bind_some, qhw hk, qm (show j < 9223372036854775807 by omega)]
      rw [qd9 (by omega) (by omega), ql8 e2 (by omega)]
      exact hX)
  simpa using this

theorem qlL {b : qw} {j : Nat} : (fun k => (cnt0 b j k : Int) + 1 * ((succL b j).count (k : Int) : Int)) = fun k => (cnt0 b (j + 1) k : Int) := by
  funext k
  unfold cnt0
  rw [qjG]
  omega

theorem qnV {b : qw} (hok : qe6 b) (h : blockB b = true) : Ev (fun n => qbM b (npl b : Int) n (vecI (fun k => (cnt0 b 0 k : Int)) (npl b)) 0) (vecI (fun k => (inC (succL b) (npl b) [] k : Int)) (npl b), (npl b : Int)) := by
  have hl : npl b ≤ 78 := qa9 (qab (qaK h))
  refine loopF (Lf := qbM b (npl b : Int)) (S := fun j => vecI (fun k => (cnt0 b j k : Int)) (npl b)) (len := npl b) (fun n => ?_) (fun j hj X hX => ?_)
  · simp only [qbM, qr (Nat.le_refl _), cond_false]
    congr 2
  · simp only [qbM, qq hj, cond_true, qm (show j < 9223372036854775807 by omega)]
    refine Ev.bind (qkh hok h hj) (Ev.bind (qoF (qhM h hj) (by have := qhh h (j := j); omega) (fun k hk => by have := qnQ h (k := k) (Nat.le_of_lt hj); omega)) ?_)
    rw [qlL]
    exact hX

theorem qop {b : qw} {V : Tview} (h : blockB b = true) (hV : V.Block = b) (hP : V.places = places b.Design) : Ev (fun n => qaM (some V) V n (vecI (fun k => (cnt0 b 0 k : Int)) (npl b)) 0) (vecI (fun k => (inC (succL b) (npl b) [] k : Int)) (npl b), (npl b : Int)) := by
  have hl : npl b ≤ 78 := qa9 (qab (qaK h))
  refine loopF (Lf := qaM (some V) V) (S := fun j => vecI (fun k => (cnt0 b j k : Int)) (npl b)) (len := npl b) (fun n => ?_) (fun j hj X hX => ?_)
  · simp only [qaM, hP, qr (Nat.le_refl _), cond_false]
    congr 2
  · simp only [qaM, hP, qq hj, cond_true, qm (show j < 9223372036854775807 by omega)]
    refine Ev.bind (qja h hV hP hj) (Ev.bind (qpp (qhM h hj) (by have := qhh h (j := j); omega) (fun k hk => by have := qnQ h (k := k) (Nat.le_of_lt hj); omega)) ?_)
    rw [qlL]
    exact hX

/-- The places without edges into them. -/
def zerosL (b : qw) (j : Nat) : List Nat := (List.range j).filter fun k => decide (inC (succL b) (npl b) [] k = 0)
theorem qmC {b : qw} {j : Nat} : zerosL b (j + 1) = zerosL b j ++ (if inC (succL b) (npl b) [] j = 0 then [j] else []) := by
  unfold zerosL
  rw [List.range_succ, List.filter_append]
  by_cases h : inC (succL b) (npl b) [] j = 0
  · rw [List.filter_cons_of_pos (by simpa using h), List.filter_nil, if_pos h]
  · rw [List.filter_cons_of_neg (by simpa using h), List.filter_nil, if_neg h]
theorem qoo {b : qw} (h : blockB b = true) : Ev (fun n => qbq (npl b : Int) (vecI (fun k => (inC (succL b) (npl b) [] k : Int)) (npl b)) n ([] : List Int) 0) (ints (zerosL b (npl b)), (npl b : Int)) := by
  have hl : npl b ≤ 78 := qa9 (qab (qaK h))
  refine loopF (Lf := qbq (npl b : Int) (vecI (fun k => (inC (succL b) (npl b) [] k : Int)) (npl b))) (S := fun j => ints (zerosL b j)) (len := npl b) (fun n => ?_) (fun j hj X hX => ?_)
  · simp only [qbq, qr (Nat.le_refl _), cond_false]
  · simp only [qbq, qq hj, cond_true, qhw hj, Option.bind_some, qm (show j < 9223372036854775807 by omega)]
    rw [qmC] at hX
    by_cases hc : inC (succL b) (npl b) [] j = 0
    · rw [if_pos hc, qjS] at hX
      refine Ev.tt (by rw [hc]; rfl) ?_
      have : (zerosL b j).length ≤ j := by have := List.length_filter_le (fun k => decide (inC (succL b) (npl b) [] k = 0)) (List.range j); simpa [zerosL] using this
      rw [qde (by rw [qgY, List.length_singleton]; omega)]
      exact hX
    · rw [if_neg hc, List.append_nil] at hX
      exact Ev.ff (by rw [Bool.eq_false_iff, Ne, beq_iff_eq]; omega) hX

/-- The state of the reference's loop when some of the successors of one node are done. -/
structure Mid (b : qw) (k i : Nat) (c : Nat) (out : List Nat) : Prop where
  topo : Topo (succL b) (npl b) out
  klt : k < out.length
  cur : out[k]? = some c
  zero : ∀ j, j < npl b → (j ∈ out ↔ inC (succL b) (npl b) (out.take (k + 1)) j + ((succL b c).drop i).count (j : Int) = 0)
def midC (b : qw) (k i c : Nat) (out : List Nat) (j : Nat) : Int := ((inC (succL b) (npl b) (out.take (k + 1)) j + ((succL b c).drop i).count (j : Int) : Nat) : Int)

theorem qnA {xs : List Int} {j k i : Nat} (hj : xs[j]? = some (k : Int)) : (xs.drop j).count (i : Int) = (xs.drop (j + 1)).count (i : Int) + (if i = k then 1 else 0) := by
  obtain ⟨h1, h2⟩ := List.getElem?_eq_some_iff.1 hj
  rw [List.drop_eq_getElem_cons h1, h2, List.count_cons]
  congr 1
  by_cases h : i = k
  · subst h; simp
  · have : ¬ (k : Int) = (i : Int) := by omega
    simp [h, this]

theorem qos {b : qw} (h : blockB b = true) {k c : Nat} {out : List Nat} (h0 : Mid b k 0 c out) : ∃ out', Mid b k (succL b c).length c out' ∧
    Ev (fun n => qbe (succL b c) n (ints out) (vecI (midC b k 0 c out) (npl b)) 0) (ints out', vecI (midC b k (succL b c).length c out') (npl b), ((succL b c).length : Int)) := by
  have hl : npl b ≤ 78 := qa9 (qab (qaK h))
  have hcm : c < npl b := h0.topo.lt c (List.mem_of_getElem? h0.cur)
  have hS := qhh h (j := c)
  obtain ⟨t, ⟨out', hm, rfl⟩, he⟩ := loopE (Lf := fun n (t : List Int × List Int) i => qbe (succL b c) n t.1 t.2 i) (fin := fun t => (t.1, t.2, ((succL b c).length : Int))) (len := (succL b c).length)
    (fun i t => ∃ out, Mid b k i c out ∧ t = (ints out, vecI (midC b k i c out) (npl b)))
    (fun n t => by simp only [qbe, qr (Nat.le_refl _), cond_false])
    (fun i t hi ⟨out, hm, ht⟩ => by
      subst ht
      obtain ⟨to, hto, e1, e2⟩ := (qhM h hcm).at hi
      have hdc := fun j => qnA (i := j) e2
      have hb1 := inCsmall h (R := out.take (k + 1)) (k := to)
      have hb2 : ((succL b c).drop i).count (to : Int) ≤ 78 := Nat.le_trans List.count_le_length (by rw [List.length_drop]; omega)
      have hpos : midC b k i c out to = ((inC (succL b) (npl b) (out.take (k + 1)) to + ((succL b c).drop (i + 1)).count (to : Int) : Nat) : Int) + 1 := by
        unfold midC; rw [hdc, if_pos rfl]; omega
      have hset : setS (vecI (midC b k i c out) (npl b)) (to : Int) (midC b k i c out to - 1) = vecI (midC b k (i + 1) c out) (npl b) := by
        rw [qlf]
        refine qgC (fun j _ => ?_)
        by_cases hj : j = to
        · subst hj
          rw [if_pos rfl, hpos]
          show _ = ((inC (succL b) (npl b) (out.take (k + 1)) j + ((succL b c).drop (i + 1)).count (j : Int) : Nat) : Int)
          omega
        · rw [if_neg hj]
          unfold midC
          simp only [hdc, if_neg hj, Nat.add_zero]
      have hnot : to ∉ out := fun hin => by
        have := (hm.zero to hto).1 hin
        rw [hdc, if_pos rfl] at this
        omega
      have hw : W64 (midC b k i c out to - 1) = midC b k i c out to - 1 := qd9 (by omega) (by unfold midC; omega)
      by_cases hz : inC (succL b) (npl b) (out.take (k + 1)) to + ((succL b c).drop (i + 1)).count (to : Int) = 0
      · have htk : (out ++ [to]).take (k + 1) = out.take (k + 1) := List.take_append_of_le_length hm.klt
        have hm' : Mid b k (i + 1) c (out ++ [to]) := by
          refine ⟨.snoc hm.topo hto hnot (fun u hu he => ?_), by have := hm.klt; rw [List.length_append]; omega, by rw [List.getElem?_append_left hm.klt]; exact hm.cur, fun j hj => ?_⟩
          · exact List.mem_of_mem_take (qhZ.1 (show inC (succL b) (npl b) (out.take (k + 1)) to = 0 by omega) u hu he)
          · rw [htk]
            by_cases hjt : j = to
            · subst hjt; exact ⟨fun _ => hz, fun _ => by simp⟩
            · have := hm.zero j hj
              simp only [hdc, if_neg hjt, Nat.add_zero] at this
              rw [← this]
              simp [hjt]
        refine ⟨(ints (out ++ [to]), vecI (midC b k (i + 1) c (out ++ [to])) (npl b)), ⟨_, hm', rfl⟩, fun X hX => ?_⟩
        simp only [qbe, qq hi, cond_true, e1, Option.bind_some, qhw hto, qm (show i < 9223372036854775807 by omega), hw, hset]
        refine Ev.tt (by rw [beq_iff_eq]; unfold midC; omega) ?_
        have hlen := hm.topo.len
        rw [qde (by rw [qgY, List.length_singleton]; omega)]
        have : midC b k (i + 1) c out = midC b k (i + 1) c (out ++ [to]) := by funext j; unfold midC; rw [htk]
        rw [this]
        rw [qjS] at hX
        exact hX
      · have hm' : Mid b k (i + 1) c out := by
          refine ⟨hm.topo, hm.klt, hm.cur, fun j hj => ?_⟩
          by_cases hjt : j = to
          · subst hjt; exact ⟨fun hin => absurd hin hnot, fun h0 => absurd h0 hz⟩
          · have := hm.zero j hj
            simp only [hdc, if_neg hjt, Nat.add_zero] at this
            exact this
        refine ⟨(ints out, vecI (midC b k (i + 1) c out) (npl b)), ⟨_, hm', rfl⟩, fun X hX => ?_⟩
        simp only [qbe, qq hi, cond_true, e1, Option.bind_some, qhw hto, qm (show i < 9223372036854775807 by omega), hw, hset]
        exact Ev.ff (by rw [Bool.eq_false_iff, Ne, beq_iff_eq]; unfold midC; omega) hX)
    0 (Nat.zero_le _) _ ⟨out, h0, rfl⟩
  exact ⟨out', hm, he⟩

theorem qor {b : qw} (hok : qe6 b) (h : blockB b = true) : ∀ d k out, Topo (succL b) (npl b) out → k ≤ out.length → npl b - k = d → (∀ j, j < npl b → (j ∈ out ↔ inC (succL b) (npl b) (out.take k) j = 0)) →
    ∃ out' v i, Topo (succL b) (npl b) out' ∧ Stuck (succL b) (npl b) out' ∧ Ev (fun n => qbS b n (ints out) (vecI (fun j => (inC (succL b) (npl b) (out.take k) j : Int)) (npl b)) (k : Int)) (ints out', v, i) := by
  have hl : npl b ≤ 78 := qa9 (qab (qaK h))
  intro d
  induction d with
  | zero =>
    intro k out ht hk hd hz
    have h1 := ht.len
    obtain rfl : k = out.length := by omega
    refine ⟨out, vecI (fun j => (inC (succL b) (npl b) (out.take out.length) j : Int)) (npl b), (out.length : Int), ht, ht.stuck_full (ht.full (by omega)), Ev.succ ?_⟩
    simp only [qbS, qgY, qr (Nat.le_refl _), cond_false]
    exact .done
  | succ d ih =>
    intro k out ht hk hd hz
    by_cases hlt : k < out.length
    · have hc := List.getElem?_eq_getElem hlt
      have hcm : out[k] < npl b := ht.lt _ (List.getElem_mem hlt)
      have hnk : out[k] ∉ out.take k := by
        have hsp : out = out.take k ++ out[k] :: out.drop (k + 1) := by rw [← List.drop_eq_getElem_cons hlt, List.take_append_drop]
        have ht' := ht
        rw [hsp] at ht'
        have := ht'.at.2.1
        simpa using this
      have hin : ∀ j, inC (succL b) (npl b) (out.take k) j = inC (succL b) (npl b) (out.take (k + 1)) j + (succL b out[k]).count (j : Int) := fun j => by
        rw [qm3 hcm hnk, List.take_succ_eq_append_getElem hlt]
      obtain ⟨out', hm, he⟩ := qos h (k := k) (c := out[k]) (out := out) ⟨ht, hlt, hc, fun j hj => by rw [hz j hj, hin, List.drop_zero]⟩
      have hz' : ∀ j, j < npl b → (j ∈ out' ↔ inC (succL b) (npl b) (out'.take (k + 1)) j = 0) := fun j hj => by
        have := hm.zero j hj
        rwa [List.drop_eq_nil_of_le (Nat.le_refl _), List.count_nil, Nat.add_zero] at this
      obtain ⟨o2, v, i, h1, h2, h3⟩ := ih (k + 1) out' hm.topo hm.klt (by omega) hz'
      refine ⟨o2, v, i, h1, h2, Ev.succ ?_⟩
      have hlen := ht.len
      simp only [qbS, qgY, qq hlt, cond_true, qpY hlt, Option.bind_some, qm (show k < 9223372036854775807 by omega)]
      refine Ev.bind (qkh hok h hcm) ?_
      have e0 : vecI (fun j => (inC (succL b) (npl b) (out.take k) j : Int)) (npl b) = vecI (midC b k 0 out[k] out) (npl b) := qgC (fun j _ => by rw [hin]; unfold midC; rw [List.drop_zero])
      rw [e0]
      refine Ev.bind he ?_
      have e1 : vecI (midC b k (succL b out[k]).length out[k] out') (npl b) = vecI (fun j => (inC (succL b) (npl b) (out'.take (k + 1)) j : Int)) (npl b) := qgC (fun j _ => by unfold midC; rw [List.drop_eq_nil_of_le (Nat.le_refl _), List.count_nil, Nat.add_zero])
      rw [e1]
      exact h3
    · obtain rfl : k = out.length := by omega
      refine ⟨out, vecI (fun j => (inC (succL b) (npl b) (out.take out.length) j : Int)) (npl b), (out.length : Int), ht, fun j hj hn => ?_, Ev.succ ?_⟩
      · have := (not_congr (hz j hj)).1 hn
        rw [List.take_length, qhZ] at this
        by_cases hex : ∃ u, u < npl b ∧ (j : Int) ∈ succL b u ∧ u ∉ out
        · exact hex
        · exact absurd (fun u hu he => Classical.byContradiction fun hc => hex ⟨u, hu, he, hc⟩) this
      · simp only [qbS, qgY, qr (Nat.le_refl _), cond_false]
        exact .done

theorem qnY {b : qw} (hok : qe6 b) (h : blockB b = true) : ∃ out, Topo (succL b) (npl b) out ∧ Stuck (succL b) (npl b) out ∧ Ev (fun n => qfx n b) (ints out, decide (out.length = npl b)) := by
  have hl : npl b ≤ 78 := qa9 (qab (qaK h))
  obtain ⟨out, v, i, h1, h2, h3⟩ := qor hok h (npl b) 0 (zerosL b (npl b)) (Topo.zeros (Nat.le_refl _)) (Nat.zero_le _) rfl (fun j hj => by
    unfold zerosL
    rw [List.take_zero, List.mem_filter]
    simp [hj])
  refine ⟨out, h1, h2, ?_⟩
  unfold qfx
  refine Ev.bind (qmf h) (Ev.bindN (qlZ (show npl b ≤ 2147483648 by omega)) ?_)
  refine Ev.bind ((qnV hok h).cast rfl) (Ev.bind (qoo h) (Ev.bind h3 ?_))
  refine Ev.now ?_
  show some (ints out, ((ints out).length : Int) == (npl b : Int)) = _
  rw [qgY, show ((out.length : Int) == (npl b : Int)) = decide (out.length = npl b) by rw [Bool.eq_iff_iff]; simp; omega]

/-! ### The program's order -/

theorem qjH {xs : List Int} (hl : xs.length ≤ 1000000) : Ev (fun n => qea n xs 0) (ixL (fun y => (0 : Int) == y) xs) :=
  qeD (fin := (xs.length : Int)) (Lf := qbs xs 0) (pf := fun _ y => some ((0 : Int) == y)) (fun _ _ => .done)
    (fun n => by simp only [qbs, qr (Nat.le_refl _), cond_false])
    (fun n j x hx => by
      have hj := (List.getElem?_eq_some_iff.1 hx).1
      simp only [qbs, qq hj, cond_true, qaQ hx, Option.bind_some, qm (show j < 9223372036854775807 by omega)])
    (fun n => by unfold qea; congr 1; funext o; cases o <;> rfl)

/-- The program's counts: -1 for what is done. -/
def openC (b : qw) (R : List Nat) (k : Nat) : Int := if k ∈ R then -1 else (inC (succL b) (npl b) R k : Int)

theorem qoC {α : Type} {p : α → Bool} {xs : List α} (h : ¬ ixL p xs < 0) : ∃ j, ∃ hj : j < xs.length, ixL p xs = (j : Int) ∧ p xs[j] = true := by
  unfold ixL at h ⊢
  cases hf : xs.findIdx? p with
  | none => rw [hf] at h; exact absurd (by decide : (-1 : Int) < 0) h
  | some j =>
    obtain ⟨hj, hp, _⟩ := List.findIdx?_eq_some_iff_getElem.1 hf
    exact ⟨j, hj, rfl, hp⟩
theorem qoG {α : Type} {p : α → Bool} {xs : List α} (h : ixL p xs < 0) : ∀ x, x ∈ xs → p x = false := by
  unfold ixL at h
  cases hf : xs.findIdx? p with
  | none => intro x hx; have := List.findIdx?_eq_none_iff.1 hf x hx; simpa using this
  | some j => rw [hf] at h; exact absurd h (by show ¬ (j : Int) < 0; omega)

theorem qoy {b : qw} {V : Tview} (h : blockB b = true) (hV : V.Block = b) (hP : V.places = places b.Design) :
    EvQ (fun n => qdq n (some V)) fun r => ∃ R, Topo (succL b) (npl b) R ∧ ((r = (ints R, true) ∧ R.length = npl b) ∨ (r = ([], false) ∧ R.length < npl b ∧ Stuck (succL b) (npl b) R)) := by
  have hl : npl b ≤ 78 := qa9 (qab (qaK h))
  have hL : EvQ (fun n => qag (some V) (vecI (fun _ => 0) (npl b)) n ([] : List Int) (vecI (fun k => (inC (succL b) (npl b) [] k : Int)) (npl b)) 0)
      fun r => ∃ R, Topo (succL b) (npl b) R ∧ ((∃ v i, r = .nxt (ints R, v, i) ∧ R.length = npl b) ∨ (r = .ret ([], false) ∧ R.length < npl b ∧ Stuck (succL b) (npl b) R)) := by
    refine loopR (Lf := fun n (t : List Int × List Int) i => qag (some V) (vecI (fun _ => 0) (npl b)) n t.1 t.2 i) (len := npl b)
      (fun j t => ∃ R, Topo (succL b) (npl b) R ∧ R.length = j ∧ t = (ints R, vecI (openC b R) (npl b))) _ (fun t ⟨R, h1, h2, ht⟩ => ?_) (fun j t hj ⟨R, h1, h2, ht⟩ => ?_) 0 (Nat.zero_le _) (([] : List Int), vecI (fun k => (inC (succL b) (npl b) [] k : Int)) (npl b)) ⟨[], .nil, rfl, ?_⟩
    · subst ht
      simp only [qag, qhy, qr (Nat.le_refl _), cond_false]
      exact EvQ.done ⟨R, h1, .inl ⟨_, _, rfl, h2⟩⟩
    · subst ht
      by_cases hneg : ixL (fun y => (0 : Int) == y) (vecI (openC b R) (npl b)) < 0
      · refine .inl (EvQ.succ ?_)
        simp only [qag, qhy, qq hj, cond_true]
        refine EvQ.bindE (qjH (by rw [qhy]; omega)) (EvQ.tt (by simpa using hneg) (EvQ.done ⟨R, h1, .inr ⟨rfl, by omega, fun k hk hn => ?_⟩⟩))
        have := qoG hneg (openC b R k) (by unfold vecI; exact List.mem_map.2 ⟨k, List.mem_range.2 hk, rfl⟩)
        unfold openC at this
        rw [if_neg hn] at this
        have hne : inC (succL b) (npl b) R k ≠ 0 := by
          intro e; rw [e] at this; exact absurd this (by decide)
        rw [Ne, qhZ] at hne
        by_cases hex : ∃ u, u < npl b ∧ (k : Int) ∈ succL b u ∧ u ∉ R
        · exact hex
        · exact absurd (fun u hu he => Classical.byContradiction fun hc => hex ⟨u, hu, he, hc⟩) hne
      · obtain ⟨k, hk, e, hp⟩ := qoC hneg
        rw [qhy] at hk
        have hp : openC b R k = 0 := by
          have : (0 : Int) == openC b R k := by simpa [vecI] using hp
          exact (beq_iff_eq.1 this).symm
        have hn : k ∉ R := fun hin => by unfold openC at hp; rw [if_pos hin] at hp; exact absurd hp (by decide)
        have hz : inC (succL b) (npl b) R k = 0 := by unfold openC at hp; rw [if_neg hn] at hp; omega
        have ht : Topo (succL b) (npl b) (R ++ [k]) := .snoc h1 hk hn (qhZ.1 hz)
        refine .inr ⟨(ints (R ++ [k]), vecI (openC b (R ++ [k])) (npl b)), ⟨_, ht, by rw [List.length_append, List.length_singleton, h2], rfl⟩, fun X hX => ?_⟩
        have hX : Ev (fun n => qag (some V) (vecI (fun _ => 0) (npl b)) n (ints (R ++ [k])) (vecI (openC b (R ++ [k])) (npl b)) ((j + 1 : Nat) : Int)) X := hX
        simp only [qag, qhy, qq hj, cond_true, qm (show j < 9223372036854775807 by omega)]
        refine Ev.bind (qjH (by rw [qhy]; omega)) (Ev.ff (by simpa using hneg) ?_)
        rw [e]
        have happ : appS (ints R) [(k : Int)] = some (ints R ++ [(k : Int)]) := qde (by rw [qgY, List.length_singleton]; omega)
        simp only [qhw hk, Option.bind_some, happ]
        refine Ev.bind (qja h hV hP hk) ?_
        rw [qlf]
        refine Ev.bind (qoK (qhM h hk) (by have := qhh h (j := k); omega) (fun i hi => ?_)) ?_
        · by_cases hik : i = k
          · rw [if_pos hik]; omega
          · rw [if_neg hik]
            unfold openC
            have := inCsmall h (R := R) (k := i)
            split <;> omega
        · have e2 : vecI (fun i => (if i = k then -1 else openC b R i) + (-1) * ((succL b k).count (i : Int) : Int)) (npl b) = vecI (openC b (R ++ [k])) (npl b) := by
            refine qgC (fun i _ => ?_)
            unfold openC
            by_cases hik : i = k
            · subst hik
              have h0 : (succL b i).count (i : Int) = 0 := List.count_eq_zero.2 (fun he => hn (qhZ.1 hz i hk he))
              rw [if_pos rfl, if_pos (by simp), h0]; rfl
            · rw [if_neg hik]
              by_cases hiR : i ∈ R
              · have h0 := h1.no_back hk hn hiR
                rw [if_pos hiR, if_pos (List.mem_append_left _ hiR), h0]; rfl
              · rw [if_neg hiR, if_neg (by simp [hiR, hik]), qm3 hk hn]
                omega
          rw [e2, ← qjS]
          exact hX
    · exact congrArg (fun v => (([] : List Int), v)) (qgC (fun k _ => by unfold openC; simp))
  unfold qdq
  refine EvQ.bindN rfl ?_
  rw [hP]
  refine EvQ.bindN (qlZ (show npl b ≤ 2147483648 by omega)) (EvQ.bindE ((qop h hV hP).cast rfl) (EvQ.bind hL fun r hr => ?_))
  obtain ⟨R, h1, hr⟩ := hr
  rcases hr with ⟨v, i, rfl, h2⟩ | ⟨rfl, h2, h3⟩
  · exact EvQ.done ⟨R, h1, .inl ⟨rfl, h2⟩⟩
  · exact EvQ.done ⟨R, h1, .inr ⟨rfl, h2, h3⟩⟩

/-- Both orders end alike. -/
theorem qn7 {b : qw} {R out : List Nat} (h1 : Topo (succL b) (npl b) R) (h2 : Topo (succL b) (npl b) out) (hs : Stuck (succL b) (npl b) out) :
    (R.length = npl b → out.length = npl b) ∧ (R.length < npl b → Stuck (succL b) (npl b) R → out.length < npl b) := by
  refine ⟨fun h => ?_, fun h hR => ?_⟩
  · have := qjJ h1.nodup (h1.sub hs)
    have := h2.len
    omega
  · have := qjJ h2.nodup (h2.sub hR)
    omega

theorem qju {b : qw} (hok : qe6 b) : ∃ r, Ev (fun n => qcR n b) r ∧ Ev (fun n => qcP n b) r := by
  cases h : blockB b with
  | false =>
    refine ⟨false, ?_, ?_⟩
    · unfold qcR
      exact Ev.bind (qkc hok) (Ev.tt (by rw [h]; rfl) .done)
    · unfold qcP
      exact Ev.bind (qll hok) (Ev.tt (by rw [h]; rfl) .done)
  | true =>
    obtain ⟨out, h1, h2, h3⟩ := qnY hok h
    obtain ⟨ls, lo, de, ev⟩ := qnI h
    obtain ⟨r, h4, R, h5, h6⟩ := qoy (V := ⟨b, places b.Design, ls, lo, de, []⟩) h rfl rfl
    obtain ⟨k1, k2⟩ := qn7 h5 h1 h2
    refine ⟨decide (out.length = npl b), ?_, ?_⟩
    · unfold qcR
      exact Ev.bind (qkc hok) (Ev.ff (by rw [h]; rfl) (Ev.bind h3 .done))
    · unfold qcP
      refine Ev.bind (qll hok) (Ev.ff (by rw [h]; rfl) (Ev.bind ev (Ev.bind h4 ?_)))
      rcases h6 with ⟨rfl, h7⟩ | ⟨rfl, h7, h8⟩
      · exact Ev.now (by rw [decide_eq_true (k1 h7)])
      · exact Ev.now (by rw [decide_eq_false (by have := k2 h7 h8; omega)])

theorem qjE {b : qw} (hb : qiT b) : Ev (fun n => qcL n b) true := by
  unfold qcL
  obtain ⟨r1, e1, q1⟩ := qo6 (a := b) (left := 1048576) hb (by omega) (by omega)
  refine Ev.bind e1 ?_
  rcases q1 with q1 | ⟨p1, q1⟩
  · exact Ev.tt (by simpa using q1) .done
  · refine Ev.ff (by simp; omega) ?_
    have wb : qf3 b ≤ 1048576 := by omega
    have hok := qne hb wb
    obtain ⟨r, es, ei⟩ := qju hok
    exact Ev.bind (qkM wb) (Ev.bind es (Ev.bind (qkM wb) (Ev.bind ei (Ev.ff (by simp) (Ev.bind (qkM wb) (Ev.bind (qpe wb) (Ev.ff rfl .done)))))))
end Go.Fw
