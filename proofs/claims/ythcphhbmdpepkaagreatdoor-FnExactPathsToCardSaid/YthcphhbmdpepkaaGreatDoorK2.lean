/- Plain laws: an order of the data graph, on both sides; the law of IsDataAcyclic. -/
import Derived.Test.YthcphhbmdpepkaaGreatDoorJ1
import Derived.Test.YthcphhbmdpepkaaGreatDoorFw33

namespace Go.Fw
open Go
set_option maxRecDepth 100000

theorem qgK {b : ql} (h : blockB b = true) : Ev (fun n => qda n b) ((places b.Design).length : Int) := by
  unfold qda
  exact Ev.bind (qhW (qS (qal h))) (Ev.now (by rw [List.length_map]))

theorem qmN {d : qj} {k : Int} {n : Nat} : qjW (sinksL d k n) n := by
  intro y hy
  unfold sinksL at hy
  obtain ⟨i, hi, rfl⟩ := List.mem_map.1 hy
  exact ⟨i, List.mem_range.1 (List.mem_filter.1 hi).1, rfl⟩
theorem qgk {b : ql} (h : blockB b = true) {j : Nat} (hj : j < (places b.Design).length) : qjW (succL b j) (places b.Design).length := by
  have hd := qal h
  unfold succL
  cases (gt (places b.Design) j).drives
  · cases h0 : decide ((gt (places b.Design) j).instance_ < 0)
    · cases dataB (cellAt b (gt (places b.Design) j).instance_) (gt (places b.Design) j).pin
      · intro y hy; cases hy
      · intro y hy
        rcases qeP hj with ⟨i, k, hi, hk, ej, e⟩ | ⟨i, hi, _, e⟩
        · obtain ⟨⟨c0, c1⟩, hn, hcb⟩ := qg6 hd hi
          rw [e] at hy
          have ec : cellAt b (place1 b.Design i k).instance_ = gt b.Library.Cells (gt b.Design.Instances i).Cell.toNat := by
            unfold cellAt place1; rw [Int.toNat_natCast]
          rw [ec, show (place1 b.Design i k).pin = (k : Int) from rfl] at hy
          have hy : y = (j : Int) - (k : Int) + (((gt b.Library.Cells (gt b.Design.Instances i).Cell.toNat).Pins.length : Int) - 1) := by simpa using hy
          obtain ⟨hp, _⟩ := qix (k := (gt b.Design.Instances i).Nets.length - 1) hi (by omega)
          exact ⟨off b.Design i + ((gt b.Design.Instances i).Nets.length - 1), hp, by omega⟩
        · rw [e] at h0
          exact absurd h0 (by show ¬ decide ((-1 : Int) < 0) = false; decide)
    · intro y hy; cases hy
  · intro y hy
    exact qmN y ((List.mem_filter.1 hy).1)

/-! ### The reference's order -/

abbrev npl (b : ql) : Nat := (places b.Design).length

theorem inCsmall {b : ql} (h : blockB b = true) {R : List Nat} {k : Nat} : inC (succL b) (npl b) R k ≤ 78 * 78 := by
  have hl : npl b ≤ 78 := qaA (qS (qal h))
  have : ∀ m, ((List.range m).map fun u => if u ∈ R then 0 else (succL b u).count (k : Int)).sum ≤ m * 78 := by
    intro m
    induction m with
    | zero => simp
    | succ m ih =>
      rw [List.range_succ, List.map_append, List.sum_append]
      simp only [List.map_cons, List.map_nil, List.sum_cons, List.sum_nil, Nat.add_zero]
      have h1 : (succL b m).count (k : Int) ≤ 78 := Nat.le_trans List.count_le_length (qgd h)
      split <;> omega
  have := this (npl b)
  unfold inC
  have h3 : npl b * 78 ≤ 78 * 78 := Nat.mul_le_mul_right _ hl
  omega

/-- The counts that are made first. -/
def cnt0 (b : ql) (j : Nat) (k : Nat) : Nat := ((List.range j).map fun u => (succL b u).count (k : Int)).sum
theorem qoq {b : ql} (h : blockB b = true) {j k : Nat} (hj : j ≤ npl b) : cnt0 b j k ≤ 78 * 78 := by
  have hl : npl b ≤ 78 := qaA (qS (qal h))
  have : ∀ m, ((List.range m).map fun u => (succL b u).count (k : Int)).sum ≤ m * 78 := by
    intro m
    induction m with
    | zero => simp
    | succ m ih =>
      rw [qjY]
      have h1 : (succL b m).count (k : Int) ≤ 78 := Nat.le_trans List.count_le_length (qgd h)
      omega
  have := this j
  unfold cnt0
  have h3 : j * 78 ≤ 78 * 78 := Nat.mul_le_mul_right _ (by omega)
  omega

theorem qm0 {f : Nat → Int} {m k : Nat} {xs : List Int} {j : Nat} {d v : Int} (hx : xs[j]? = some (k : Int)) (hv : v = f k + d * ((xs.take j).count (k : Int) : Int) + d) :
    setS (vecI (fun i => f i + d * ((xs.take j).count (i : Int) : Int)) m) (k : Int) v = vecI (fun i => f i + d * ((xs.take (j + 1)).count (i : Int) : Int)) m := by
  rw [qik]
  refine qdA (fun i _ => ?_)
  rw [qlX hx]
  by_cases h : i = k
  · subst h
    rw [if_pos rfl, if_pos rfl, hv, Int.natCast_add, Int.mul_add]
    show _ = f i + (d * _ + d * 1)
    omega
  · rw [if_neg h, if_neg h, Nat.add_zero]

theorem qpR {xs : List Int} {m : Nat} {f : Nat → Int} (hx : qjW xs m) (hl : xs.length ≤ 1000) (hf : ∀ k, k < m → 0 ≤ f k ∧ f k ≤ 10000) :
    Ev (fun n => qbY xs n (vecI f m) 0) (vecI (fun k => f k + 1 * (xs.count (k : Int) : Int)) m, (xs.length : Int)) := by
  have := loopF (Lf := qbY xs) (S := fun j => vecI (fun i => f i + 1 * ((xs.take j).count (i : Int) : Int)) m) (len := xs.length) (fin := (vecI (fun k => f k + 1 * (xs.count (k : Int) : Int)) m, (xs.length : Int)))
    (fun n => by simp only [qbY, qt (Nat.le_refl _), cond_false, List.take_length])
    (fun j hj X hX => by
      obtain ⟨k, hk, e1, e2⟩ := hx.at hj
      have hc : (xs.take j).count (k : Int) ≤ xs.length := Nat.le_trans List.count_le_length (by rw [List.length_take]; omega)
      have h1 := hf k hk
      simp only [qbY, qq hj, cond_true, e1, Option.bind_some, qdP hk, qm (show j < 9223372036854775807 by omega)]
      rw [qdQ (by omega) (by omega), qm0 e2 rfl]
      exact hX)
  simpa using this

theorem qp5 {xs : List Int} {m : Nat} {f : Nat → Int} (hx : qjW xs m) (hl : xs.length ≤ 1000) (hf : ∀ k, k < m → 0 ≤ f k ∧ f k ≤ 10000) :
    Ev (fun n => qaO xs n (vecI f m) 0) (vecI (fun k => f k + 1 * (xs.count (k : Int) : Int)) m, (xs.length : Int)) := by
  have := loopF (Lf := qaO xs) (S := fun j => vecI (fun i => f i + 1 * ((xs.take j).count (i : Int) : Int)) m) (len := xs.length) (fin := (vecI (fun k => f k + 1 * (xs.count (k : Int) : Int)) m, (xs.length : Int)))
    (fun n => by simp only [qaO, qt (Nat.le_refl _), cond_false, List.take_length])
    (fun j hj X hX => by
      obtain ⟨k, hk, e1, e2⟩ := hx.at hj
      have hc : (xs.take j).count (k : Int) ≤ xs.length := Nat.le_trans List.count_le_length (by rw [List.length_take]; omega)
      have h1 := hf k hk
      simp only [qaO, qq hj, cond_true, e1, Option.bind_some, qdP hk, qm (show j < 9223372036854775807 by omega)]
      rw [qdQ (by omega) (by omega), qm0 e2 rfl]
      exact hX)
  simpa using this

theorem qpQ {xs : List Int} {m : Nat} {f : Nat → Int} (hx : qjW xs m) (hl : xs.length ≤ 1000) (hf : ∀ k, k < m → -1 ≤ f k ∧ f k ≤ 10000) :
    Ev (fun n => qaP xs n (vecI f m) 0) (vecI (fun k => f k + (-1) * (xs.count (k : Int) : Int)) m, (xs.length : Int)) := by
  have := loopF (Lf := qaP xs) (S := fun j => vecI (fun i => f i + (-1) * ((xs.take j).count (i : Int) : Int)) m) (len := xs.length) (fin := (vecI (fun k => f k + (-1) * (xs.count (k : Int) : Int)) m, (xs.length : Int)))
    (fun n => by simp only [qaP, qt (Nat.le_refl _), cond_false, List.take_length])
    (fun j hj X hX => by
      obtain ⟨k, hk, e1, e2⟩ := hx.at hj
      have hc : (xs.take j).count (k : Int) ≤ xs.length := Nat.le_trans List.count_le_length (by rw [List.length_take]; omega)
      have h1 := hf k hk
      simp only [qaP, qq hj, cond_true, e1, Option.bind_some, qdP hk, qm (show j < 9223372036854775807 by omega)]
      rw [qdQ (by omega) (by omega), qm0 e2 (by omega)]
      exact hX)
  simpa using this

theorem qmE {b : ql} {j : Nat} : (fun k => (cnt0 b j k : Int) + 1 * ((succL b j).count (k : Int) : Int)) = fun k => (cnt0 b (j + 1) k : Int) := by
  funext k
  unfold cnt0
  rw [qjY]
  omega

theorem qoZ {b : ql} (hok : qep b) (h : blockB b = true) : Ev (fun n => qbR b (npl b : Int) n (vecI (fun k => (cnt0 b 0 k : Int)) (npl b)) 0) (vecI (fun k => (inC (succL b) (npl b) [] k : Int)) (npl b), (npl b : Int)) := by
  have hl : npl b ≤ 78 := qaA (qS (qal h))
  refine loopF (Lf := qbR b (npl b : Int)) (S := fun j => vecI (fun k => (cnt0 b j k : Int)) (npl b)) (len := npl b) (fun n => ?_) (fun j hj X hX => ?_)
  · simp only [qbR, qt (Nat.le_refl _), cond_false]
    congr 2
  · simp only [qbR, qq hj, cond_true, qm (show j < 9223372036854775807 by omega)]
    refine Ev.bind (qjg hok h hj) (Ev.bind (qpR (qgk h hj) (by have := qgd h (j := j); omega) (fun k hk => by have := qoq h (k := k) (Nat.le_of_lt hj); omega)) ?_)
    rw [qmE]
    exact hX

theorem qpo {b : ql} {V : Tview} (h : blockB b = true) (hV : V.Block = b) (hP : V.places = places b.Design) : Ev (fun n => qaN (some V) V n (vecI (fun k => (cnt0 b 0 k : Int)) (npl b)) 0) (vecI (fun k => (inC (succL b) (npl b) [] k : Int)) (npl b), (npl b : Int)) := by
  have hl : npl b ≤ 78 := qaA (qS (qal h))
  refine loopF (Lf := qaN (some V) V) (S := fun j => vecI (fun k => (cnt0 b j k : Int)) (npl b)) (len := npl b) (fun n => ?_) (fun j hj X hX => ?_)
  · simp only [qaN, hP, qt (Nat.le_refl _), cond_false]
    congr 2
  · simp only [qaN, hP, qq hj, cond_true, qm (show j < 9223372036854775807 by omega)]
    refine Ev.bind (qie h hV hP hj) (Ev.bind (qp5 (qgk h hj) (by have := qgd h (j := j); omega) (fun k hk => by have := qoq h (k := k) (Nat.le_of_lt hj); omega)) ?_)
    rw [qmE]
    exact hX

/-- The places without edges into them. -/
def zerosL (b : ql) (j : Nat) : List Nat := (List.range j).filter fun k => decide (inC (succL b) (npl b) [] k = 0)
theorem qns {b : ql} {j : Nat} : zerosL b (j + 1) = zerosL b j ++ (if inC (succL b) (npl b) [] j = 0 then [j] else []) := by
  unfold zerosL
  rw [List.range_succ, List.filter_append]
  by_cases h : inC (succL b) (npl b) [] j = 0
  · rw [List.filter_cons_of_pos (by simpa using h), List.filter_nil, if_pos h]
  · rw [List.filter_cons_of_neg (by simpa using h), List.filter_nil, if_neg h]
theorem qpf {b : ql} (h : blockB b = true) : Ev (fun n => qbn (npl b : Int) (vecI (fun k => (inC (succL b) (npl b) [] k : Int)) (npl b)) n ([] : List Int) 0) (ints (zerosL b (npl b)), (npl b : Int)) := by
  have hl : npl b ≤ 78 := qaA (qS (qal h))
  refine loopF (Lf := qbn (npl b : Int) (vecI (fun k => (inC (succL b) (npl b) [] k : Int)) (npl b))) (S := fun j => ints (zerosL b j)) (len := npl b) (fun n => ?_) (fun j hj X hX => ?_)
  · simp only [qbn, qt (Nat.le_refl _), cond_false]
  · simp only [qbn, qq hj, cond_true, qdP hj, Option.bind_some, qm (show j < 9223372036854775807 by omega)]
    rw [qns] at hX
    by_cases hc : inC (succL b) (npl b) [] j = 0
    · rw [if_pos hc, qjw] at hX
      refine Ev.tt (by rw [hc]; rfl) ?_
      have : (zerosL b j).length ≤ j := by have := List.length_filter_le (fun k => decide (inC (succL b) (npl b) [] k = 0)) (List.range j); simpa [zerosL] using this
      rw [qc9 (by rw [qdN, List.length_singleton]; omega)]
      exact hX
    · rw [if_neg hc, List.append_nil] at hX
      exact Ev.ff (by rw [Bool.eq_false_iff, Ne, beq_iff_eq]; omega) hX

/-- The state of the reference's loop when some of the successors of one node are done. -/
structure Mid (b : ql) (k i : Nat) (c : Nat) (out : List Nat) : Prop where
  topo : Topo (succL b) (npl b) out
  klt : k < out.length
  cur : out[k]? = some c
  zero : ∀ j, j < npl b → (j ∈ out ↔ inC (succL b) (npl b) (out.take (k + 1)) j + ((succL b c).drop i).count (j : Int) = 0)
def midC (b : ql) (k i c : Nat) (out : List Nat) (j : Nat) : Int := ((inC (succL b) (npl b) (out.take (k + 1)) j + ((succL b c).drop i).count (j : Int) : Nat) : Int)

theorem qnZ {xs : List Int} {j k i : Nat} (hj : xs[j]? = some (k : Int)) : (xs.drop j).count (i : Int) = (xs.drop (j + 1)).count (i : Int) + (if i = k then 1 else 0) := by
  obtain ⟨h1, h2⟩ := List.getElem?_eq_some_iff.1 hj
  rw [List.drop_eq_getElem_cons h1, h2, List.count_cons]
  congr 1
  by_cases h : i = k
  · subst h; simp
  · have : ¬ (k : Int) = (i : Int) := by omega
    simp [h, this]

theorem qo1 {b : ql} (h : blockB b = true) {k c : Nat} {out : List Nat} (h0 : Mid b k 0 c out) : ∃ out', Mid b k (succL b c).length c out' ∧
    Ev (fun n => qbf (succL b c) n (ints out) (vecI (midC b k 0 c out) (npl b)) 0) (ints out', vecI (midC b k (succL b c).length c out') (npl b), ((succL b c).length : Int)) := by
  have hl : npl b ≤ 78 := qaA (qS (qal h))
  have hcm : c < npl b := h0.topo.lt c (List.mem_of_getElem? h0.cur)
  have hS := qgd h (j := c)
  obtain ⟨t, ⟨out', hm, rfl⟩, he⟩ := loopE (Lf := fun n (t : List Int × List Int) i => qbf (succL b c) n t.1 t.2 i) (fin := fun t => (t.1, t.2, ((succL b c).length : Int))) (len := (succL b c).length)
    (fun i t => ∃ out, Mid b k i c out ∧ t = (ints out, vecI (midC b k i c out) (npl b)))
    (fun n t => by simp only [qbf, qt (Nat.le_refl _), cond_false])
    (fun i t hi ⟨out, hm, ht⟩ => by
      subst ht
      obtain ⟨to, hto, e1, e2⟩ := (qgk h hcm).at hi
      have hdc := fun j => qnZ (i := j) e2
      have hb1 := inCsmall h (R := out.take (k + 1)) (k := to)
      have hb2 : ((succL b c).drop i).count (to : Int) ≤ 78 := Nat.le_trans List.count_le_length (by rw [List.length_drop]; omega)
      have hpos : midC b k i c out to = ((inC (succL b) (npl b) (out.take (k + 1)) to + ((succL b c).drop (i + 1)).count (to : Int) : Nat) : Int) + 1 := by
        unfold midC; rw [hdc, if_pos rfl]; omega
      have hset : setS (vecI (midC b k i c out) (npl b)) (to : Int) (midC b k i c out to - 1) = vecI (midC b k (i + 1) c out) (npl b) := by
        rw [qik]
        refine qdA (fun j _ => ?_)
        by_cases hj : j = to
        · subst hj
          rw [if_pos rfl, hpos]
          show _ = ((inC (succL b) (npl b) (out.take (k + 1)) j + ((succL b c).drop (i + 1)).count (j : Int) : Nat) : Int)
          omega
        · rw [if_neg hj]
          unfold midC
          simp only [hdc, if_neg hj, Nat.add_zero]
      have hnot : to ∉ out := fun hin => by
        have := (hm.zero to hto).1 hin
        rw [hdc, if_pos rfl] at this
        omega
      have hw : W64 (midC b k i c out to - 1) = midC b k i c out to - 1 := qdQ (by omega) (by unfold midC; omega)
      by_cases hz : inC (succL b) (npl b) (out.take (k + 1)) to + ((succL b c).drop (i + 1)).count (to : Int) = 0
      · have htk : (out ++ [to]).take (k + 1) = out.take (k + 1) := List.take_append_of_le_length hm.klt
        have hm' : Mid b k (i + 1) c (out ++ [to]) := by
          refine ⟨.snoc hm.topo hto hnot (fun u hu he => ?_), by have := hm.klt; rw [List.length_append]; omega, by rw [List.getElem?_append_left hm.klt]; exact hm.cur, fun j hj => ?_⟩
          · exact List.mem_of_mem_take (qit.1 (show inC (succL b) (npl b) (out.take (k + 1)) to = 0 by omega) u hu he)
          · rw [htk]
            by_cases hjt : j = to
            · subst hjt; exact ⟨fun _ => hz, fun _ => by simp⟩
            · have := hm.zero j hj
              simp only [hdc, if_neg hjt, Nat.add_zero] at this
              rw [← this]
              simp [hjt]
        refine ⟨(ints (out ++ [to]), vecI (midC b k (i + 1) c (out ++ [to])) (npl b)), ⟨_, hm', rfl⟩, fun X hX => ?_⟩
        simp only [qbf, qq hi, cond_true, e1, Option.bind_some, qdP hto, qm (show i < 9223372036854775807 by omega), hw, hset]
        refine Ev.tt (by rw [beq_iff_eq]; unfold midC; omega) ?_
        have hlen := hm.topo.len
        rw [qc9 (by rw [qdN, List.length_singleton]; omega)]
        have : midC b k (i + 1) c out = midC b k (i + 1) c (out ++ [to]) := by funext j; unfold midC; rw [htk]
        rw [this]
        rw [qjw] at hX
        exact hX
      · have hm' : Mid b k (i + 1) c out := by
          refine ⟨hm.topo, hm.klt, hm.cur, fun j hj => ?_⟩
          by_cases hjt : j = to
          · subst hjt; exact ⟨fun hin => absurd hin hnot, fun h0 => absurd h0 hz⟩
          · have := hm.zero j hj
            simp only [hdc, if_neg hjt, Nat.add_zero] at this
            exact this
        refine ⟨(ints out, vecI (midC b k (i + 1) c out) (npl b)), ⟨_, hm', rfl⟩, fun X hX => ?_⟩
        simp only [qbf, qq hi, cond_true, e1, Option.bind_some, qdP hto, qm (show i < 9223372036854775807 by omega), hw, hset]
        exact Ev.ff (by rw [Bool.eq_false_iff, Ne, beq_iff_eq]; unfold midC; omega) hX)
    0 (Nat.zero_le _) _ ⟨out, h0, rfl⟩
  exact ⟨out', hm, he⟩

theorem qpg {b : ql} (hok : qep b) (h : blockB b = true) : ∀ d k out, Topo (succL b) (npl b) out → k ≤ out.length → npl b - k = d → (∀ j, j < npl b → (j ∈ out ↔ inC (succL b) (npl b) (out.take k) j = 0)) →
    ∃ out' v i, Topo (succL b) (npl b) out' ∧ Stuck (succL b) (npl b) out' ∧ Ev (fun n => qbW b n (ints out) (vecI (fun j => (inC (succL b) (npl b) (out.take k) j : Int)) (npl b)) (k : Int)) (ints out', v, i) := by
  have hl : npl b ≤ 78 := qaA (qS (qal h))
  intro d
  induction d with
  | zero =>
    intro k out ht hk hd hz
    have h1 := ht.len
    obtain rfl : k = out.length := by omega
    refine ⟨out, vecI (fun j => (inC (succL b) (npl b) (out.take out.length) j : Int)) (npl b), (out.length : Int), ht, ht.stuck_full (ht.full (by omega)), Ev.succ ?_⟩
    simp only [qbW, qdN, qt (Nat.le_refl _), cond_false]
    exact .done
  | succ d ih =>
    intro k out ht hk hd hz
    by_cases hlt : k < out.length
    · have hc := List.getElem?_eq_getElem hlt
      have hcm : out[k] < npl b := ht.lt _ (List.getElem_mem hlt)
      have hnk : out[k] ∉ out.take k := by
        have hsp : out = out.take k ++ out[k] :: out.drop (k + 1) := by rw [← List.drop_eq_getElem_cons hlt, List.take_append_drop]
        have ht' := ht
        rw [hsp] at ht'
        have := ht'.at.2.1
        simpa using this
      have hin : ∀ j, inC (succL b) (npl b) (out.take k) j = inC (succL b) (npl b) (out.take (k + 1)) j + (succL b out[k]).count (j : Int) := fun j => by
        rw [qm9 hcm hnk, List.take_succ_eq_append_getElem hlt]
      obtain ⟨out', hm, he⟩ := qo1 h (k := k) (c := out[k]) (out := out) ⟨ht, hlt, hc, fun j hj => by rw [hz j hj, hin, List.drop_zero]⟩
      have hz' : ∀ j, j < npl b → (j ∈ out' ↔ inC (succL b) (npl b) (out'.take (k + 1)) j = 0) := fun j hj => by
        have := hm.zero j hj
        rwa [List.drop_eq_nil_of_le (Nat.le_refl _), List.count_nil, Nat.add_zero] at this
      obtain ⟨o2, v, i, h1, h2, h3⟩ := ih (k + 1) out' hm.topo hm.klt (by omega) hz'
      refine ⟨o2, v, i, h1, h2, Ev.succ ?_⟩
      have hlen := ht.len
      simp only [qbW, qdN, qq hlt, cond_true, qkk hlt, Option.bind_some, qm (show k < 9223372036854775807 by omega)]
      refine Ev.bind (qjg hok h hcm) ?_
      have e0 : vecI (fun j => (inC (succL b) (npl b) (out.take k) j : Int)) (npl b) = vecI (midC b k 0 out[k] out) (npl b) := qdA (fun j _ => by rw [hin]; unfold midC; rw [List.drop_zero])
      rw [e0]
      refine Ev.bind he ?_
      have e1 : vecI (midC b k (succL b out[k]).length out[k] out') (npl b) = vecI (fun j => (inC (succL b) (npl b) (out'.take (k + 1)) j : Int)) (npl b) := qdA (fun j _ => by unfold midC; rw [List.drop_eq_nil_of_le (Nat.le_refl _), List.count_nil, Nat.add_zero])
      rw [e1]
      exact h3
    · obtain rfl : k = out.length := by omega
      refine ⟨out, vecI (fun j => (inC (succL b) (npl b) (out.take out.length) j : Int)) (npl b), (out.length : Int), ht, fun j hj hn => ?_, Ev.succ ?_⟩
      · have := (not_congr (hz j hj)).1 hn
        rw [List.take_length, qit] at this
        by_cases hex : ∃ u, u < npl b ∧ (j : Int) ∈ succL b u ∧ u ∉ out
        · exact hex
        · exact absurd (fun u hu he => Classical.byContradiction fun hc => hex ⟨u, hu, he, hc⟩) this
      · simp only [qbW, qdN, qt (Nat.le_refl _), cond_false]
        exact .done

theorem qo2 {b : ql} (hok : qep b) (h : blockB b = true) : ∃ out, Topo (succL b) (npl b) out ∧ Stuck (succL b) (npl b) out ∧ Ev (fun n => qfU n b) (ints out, decide (out.length = npl b)) := by
  have hl : npl b ≤ 78 := qaA (qS (qal h))
  obtain ⟨out, v, i, h1, h2, h3⟩ := qpg hok h (npl b) 0 (zerosL b (npl b)) (Topo.zeros (Nat.le_refl _)) (Nat.zero_le _) rfl (fun j hj => by
    unfold zerosL
    rw [List.take_zero, List.mem_filter]
    simp [hj])
  refine ⟨out, h1, h2, ?_⟩
  unfold qfU
  refine Ev.bind (qgK h) (Ev.bindN (qjx (show npl b ≤ 2147483648 by omega)) ?_)
  refine Ev.bind ((qoZ hok h).cast rfl) (Ev.bind (qpf h) (Ev.bind h3 ?_))
  refine Ev.now ?_
  show some (ints out, ((ints out).length : Int) == (npl b : Int)) = _
  rw [qdN, show ((out.length : Int) == (npl b : Int)) = decide (out.length = npl b) by rw [Bool.eq_iff_iff]; simp; omega]

/-! ### The program's order -/

theorem qj9 {xs : List Int} (hl : xs.length ≤ 1000000) : Ev (fun n => qeJ n xs 0) (ixL (fun y => (0 : Int) == y) xs) :=
  qe3 (fin := (xs.length : Int)) (Lf := qbu xs 0) (pf := fun _ y => some ((0 : Int) == y)) (fun _ _ => .done)
    (fun n => by simp only [qbu, qt (Nat.le_refl _), cond_false])
    (fun n j x hx => by
      have hj := (List.getElem?_eq_some_iff.1 hx).1
      simp only [qbu, qq hj, cond_true, qaU hx, Option.bind_some, qm (show j < 9223372036854775807 by omega)])
    (fun n => by unfold qeJ; congr 1; funext o; cases o <;> rfl)

/-- The program's counts: -1 for what is done. -/
def openC (b : ql) (R : List Nat) (k : Nat) : Int := if k ∈ R then -1 else (inC (succL b) (npl b) R k : Int)

theorem qpJ {α : Type} {p : α → Bool} {xs : List α} (h : ¬ ixL p xs < 0) : ∃ j, ∃ hj : j < xs.length, ixL p xs = (j : Int) ∧ p xs[j] = true := by
  unfold ixL at h ⊢
  cases hf : xs.findIdx? p with
  | none => rw [hf] at h; exact absurd (by decide : (-1 : Int) < 0) h
  | some j =>
    obtain ⟨hj, hp, _⟩ := List.findIdx?_eq_some_iff_getElem.1 hf
    exact ⟨j, hj, rfl, hp⟩
theorem qp0 {α : Type} {p : α → Bool} {xs : List α} (h : ixL p xs < 0) : ∀ x, x ∈ xs → p x = false := by
  unfold ixL at h
  cases hf : xs.findIdx? p with
  | none => intro x hx; have := List.findIdx?_eq_none_iff.1 hf x hx; simpa using this
  | some j => rw [hf] at h; exact absurd h (by show ¬ (j : Int) < 0; omega)

theorem qo6 {b : ql} {V : Tview} (h : blockB b = true) (hV : V.Block = b) (hP : V.places = places b.Design) :
    EvQ (fun n => qdF n (some V)) fun r => ∃ R, Topo (succL b) (npl b) R ∧ ((r = (ints R, true) ∧ R.length = npl b) ∨ (r = ([], false) ∧ R.length < npl b ∧ Stuck (succL b) (npl b) R)) := by
  have hl : npl b ≤ 78 := qaA (qS (qal h))
  have hL : EvQ (fun n => qap (some V) (vecI (fun _ => 0) (npl b)) n ([] : List Int) (vecI (fun k => (inC (succL b) (npl b) [] k : Int)) (npl b)) 0)
      fun r => ∃ R, Topo (succL b) (npl b) R ∧ ((∃ v i, r = .nxt (ints R, v, i) ∧ R.length = npl b) ∨ (r = .ret ([], false) ∧ R.length < npl b ∧ Stuck (succL b) (npl b) R)) := by
    refine loopR (Lf := fun n (t : List Int × List Int) i => qap (some V) (vecI (fun _ => 0) (npl b)) n t.1 t.2 i) (len := npl b)
      (fun j t => ∃ R, Topo (succL b) (npl b) R ∧ R.length = j ∧ t = (ints R, vecI (openC b R) (npl b))) _ (fun t ⟨R, h1, h2, ht⟩ => ?_) (fun j t hj ⟨R, h1, h2, ht⟩ => ?_) 0 (Nat.zero_le _) (([] : List Int), vecI (fun k => (inC (succL b) (npl b) [] k : Int)) (npl b)) ⟨[], .nil, rfl, ?_⟩
    · subst ht
      simp only [qap, qhR, qt (Nat.le_refl _), cond_false]
      exact EvQ.done ⟨R, h1, .inl ⟨_, _, rfl, h2⟩⟩
    · subst ht
      by_cases hneg : ixL (fun y => (0 : Int) == y) (vecI (openC b R) (npl b)) < 0
      · refine .inl (EvQ.succ ?_)
        simp only [qap, qhR, qq hj, cond_true]
        refine EvQ.bindE (qj9 (by rw [qhR]; omega)) (EvQ.tt (by simpa using hneg) (EvQ.done ⟨R, h1, .inr ⟨rfl, by omega, fun k hk hn => ?_⟩⟩))
        have := qp0 hneg (openC b R k) (by unfold vecI; exact List.mem_map.2 ⟨k, List.mem_range.2 hk, rfl⟩)
        unfold openC at this
        rw [if_neg hn] at this
        have hne : inC (succL b) (npl b) R k ≠ 0 := by
          intro e; rw [e] at this; exact absurd this (by decide)
        rw [Ne, qit] at hne
        by_cases hex : ∃ u, u < npl b ∧ (k : Int) ∈ succL b u ∧ u ∉ R
        · exact hex
        · exact absurd (fun u hu he => Classical.byContradiction fun hc => hex ⟨u, hu, he, hc⟩) hne
      · obtain ⟨k, hk, e, hp⟩ := qpJ hneg
        rw [qhR] at hk
        have hp : openC b R k = 0 := by
          have : (0 : Int) == openC b R k := by simpa [vecI] using hp
          exact (beq_iff_eq.1 this).symm
        have hn : k ∉ R := fun hin => by unfold openC at hp; rw [if_pos hin] at hp; exact absurd hp (by decide)
        have hz : inC (succL b) (npl b) R k = 0 := by unfold openC at hp; rw [if_neg hn] at hp; omega
        have ht : Topo (succL b) (npl b) (R ++ [k]) := .snoc h1 hk hn (qit.1 hz)
        refine .inr ⟨(ints (R ++ [k]), vecI (openC b (R ++ [k])) (npl b)), ⟨_, ht, by rw [List.length_append, List.length_singleton, h2], rfl⟩, fun X hX => ?_⟩
        have hX : Ev (fun n => qap (some V) (vecI (fun _ => 0) (npl b)) n (ints (R ++ [k])) (vecI (openC b (R ++ [k])) (npl b)) ((j + 1 : Nat) : Int)) X := hX
        simp only [qap, qhR, qq hj, cond_true, qm (show j < 9223372036854775807 by omega)]
        refine Ev.bind (qj9 (by rw [qhR]; omega)) (Ev.ff (by simpa using hneg) ?_)
        rw [e]
        have happ : appS (ints R) [(k : Int)] = some (ints R ++ [(k : Int)]) := qc9 (by rw [qdN, List.length_singleton]; omega)
        simp only [qdP hk, Option.bind_some, happ]
        refine Ev.bind (qie h hV hP hk) ?_
        rw [qik]
        refine Ev.bind (qpQ (qgk h hk) (by have := qgd h (j := k); omega) (fun i hi => ?_)) ?_
        · by_cases hik : i = k
          · rw [if_pos hik]; omega
          · rw [if_neg hik]
            unfold openC
            have := inCsmall h (R := R) (k := i)
            split <;> omega
        · have e2 : vecI (fun i => (if i = k then -1 else openC b R i) + (-1) * ((succL b k).count (i : Int) : Int)) (npl b) = vecI (openC b (R ++ [k])) (npl b) := by
            refine qdA (fun i _ => ?_)
            unfold openC
            by_cases hik : i = k
            · subst hik
              have h0 : (succL b i).count (i : Int) = 0 := List.count_eq_zero.2 (fun he => hn (qit.1 hz i hk he))
              rw [if_pos rfl, if_pos (by simp), h0]; rfl
            · rw [if_neg hik]
              by_cases hiR : i ∈ R
              · have h0 := h1.no_back hk hn hiR
                rw [if_pos hiR, if_pos (List.mem_append_left _ hiR), h0]; rfl
              · rw [if_neg hiR, if_neg (by simp [hiR, hik]), qm9 hk hn]
                omega
          rw [e2, ← qjw]
          exact hX
    · exact congrArg (fun v => (([] : List Int), v)) (qdA (fun k _ => by unfold openC; simp))
  unfold qdF
  refine EvQ.bindN rfl ?_
  rw [hP]
  refine EvQ.bindN (qjx (show npl b ≤ 2147483648 by omega)) (EvQ.bindE ((qpo h hV hP).cast rfl) (EvQ.bind hL fun r hr => ?_))
  obtain ⟨R, h1, hr⟩ := hr
  rcases hr with ⟨v, i, rfl, h2⟩ | ⟨rfl, h2, h3⟩
  · exact EvQ.done ⟨R, h1, .inl ⟨rfl, h2⟩⟩
  · exact EvQ.done ⟨R, h1, .inr ⟨rfl, h2, h3⟩⟩

/-- Both orders end alike. -/
theorem qo8 {b : ql} {R out : List Nat} (h1 : Topo (succL b) (npl b) R) (h2 : Topo (succL b) (npl b) out) (hs : Stuck (succL b) (npl b) out) :
    (R.length = npl b → out.length = npl b) ∧ (R.length < npl b → Stuck (succL b) (npl b) R → out.length < npl b) := by
  refine ⟨fun h => ?_, fun h hR => ?_⟩
  · have := qkf h1.nodup (h1.sub hs)
    have := h2.len
    omega
  · have := qkf h2.nodup (h2.sub hR)
    omega

end Go.Fw


namespace Go.Fw
open Go Go.Proofs
open Go.RowKit (Below)
set_option maxRecDepth 100000
def qcx (b : ql) (list : (List Int)) (sorted : Bool) : Nat → Int → Option (Flow Bool Int)
 | 0, _ => none
 | n + 1, i1 =>
  bif decide (i1 < (list.length : Int)) then
   (idx list i1).bind fun y1 =>
   (qda n b).bind fun r1 =>
   (qaq n y1 0 (W64 (r1 - 1))).bind fun r2 =>
   bif (!r2) then
    some (.ret false)
   else
    bif sorted then
     bif decide (i1 > 0) then
      (idx list (W64 (i1 - 1))).bind fun y2 =>
      (idx list i1).bind fun y3 =>
      bif decide (y2 ≥ y3) then
       some (.ret false)
      else
       qcx b list sorted n (W64 (i1 + 1))
     else
      qcx b list sorted n (W64 (i1 + 1))
    else
     qcx b list sorted n (W64 (i1 + 1))
  else
   some (.nxt i1)

def qfu (n : Nat) (b : ql) (list : (List Int)) (sorted : Bool) : Option Bool :=
 (qcx b list sorted n 0).bind fun o => match o with
 | .ret r => some r
 | .nxt _ =>
  some (decide ((list.length : Int) ≤ 4))

theorem qgu {n : Nat} {w : World} {b : ql} {list : (List Int)} {sorted : Bool} {cs1 : List Value} (ha1 : GoT.R w (old w) b cs1) {cs2 : List Value} (ha2 : GoT.R w (old w) list cs2) {r : Bool} (hF : qfu n b list sorted = some r) : RetV Tryz.prog 34 [GoT.v ql cs1, GoT.v (List Int) cs2, .bool sorted] w r := by
 obtain ⟨p1, k1, p2, k2, p3, k3, p4, k4, p5, k5, rfl, s1, s2, s3, s4, s5⟩ := qag ha1
 obtain ⟨p6, k6, rfl, s6⟩ := ha2
 refine qe Tryz.func34 rfl (m := 45) rfl rfl (fun h => ?_)
 rw [qfu] at hF
 refine zSR (qN h rfl rfl ?_)
 intro w1 bb1 h
 refine zp1 rfl (zNSSR (zp1 rfl (qb ?_)))
 obtain ⟨o1, hF, hK1⟩ := qd hF
 refine qw (qP [(1, _), (2, _), (3, _), (7, _)] ⟨rfl, rfl, rfl, rfl, trivial⟩ ?_)
 refine qF (fun m e w' => ∃ (i1 : Int), qcx b list sorted m i1 = some o1 ∧ e = [(1, .slice p6 list.length k6), (2, .bool sorted), (3, .pointer (some ⟨bb1, 0, none⟩)), (7, .int .i64 i1)] ∧ SH w w' [Ch.box bb1 [.slice p1 b.Library.Cells.length k1, .slice p2 b.Design.Instances.length k2, .slice p3 b.Design.Nets.length k3, .slice p4 b.Design.Ports.length k4, .slice p5 b.Wires.length k5] 48]) n ⟨_, hF, rfl, h⟩ ?_
 rintro m1 e1 w2 ⟨i1, hF, rfl, h⟩
 rcases m1 with _ | m1
 ·rw [qcx] at hF
  cases hF
 rw [qcx] at hF
 refine zSSR (zp4 rfl (qb ?_))
 refine qu rfl hF ?_ ?_ <;> intro hF
 ·refine zKSB (qbd ?_)
  refine qcA rfl (by kernel_rfl) ?_
  refine zd2 rfl ?_
  obtain ⟨y1, hy1, hF⟩ := qd hF
  have he1 := qf hy1
  obtain ⟨b1, o_1, q1, cs3, hp1, hq1, -, hr1, hc2⟩ := s6.at hy1
  obtain rfl := hr1
  refine zdxe hp1 hq1 he1 rfl ?_
  refine zdc 0 (hc2.below h.below) rfl ?_
  refine zdl 0 0 h rfl ?_
  obtain ⟨r1, hr2, hF⟩ := qd hF
  refine qcD r1 (vsI _) call48 (fun _ hb => qeB ((h.ext hb).old ha1) hr2) rfl rfl rfl rfl ?_
  refine zd1 rfl ?_
  obtain ⟨r2, hr3, hF⟩ := qd hF
  refine qcD r2 (vsB _) call35 (fun _ hb => qac  hr3) rfl rfl rfl rfl ?_
  refine zd2 rfl ?_
  by_cases hc3 : (!r2) = true
  ·replace hF := bifT hc3 hF
   refine qcC hc3 (t := 23) rfl (qk rfl rfl rfl (qk rfl rfl rfl (qk rfl rfl rfl (qk rfl rfl rfl (qk rfl rfl rfl (qk rfl rfl rfl (qk rfl rfl rfl (qk rfl rfl rfl (qk rfl rfl rfl (qk rfl rfl rfl (qk rfl rfl rfl ?_)))))))))))
   refine qk rfl rfl rfl (qk rfl rfl rfl (qk rfl rfl rfl (qk rfl rfl rfl (qk rfl rfl rfl (qk rfl rfl rfl (zd1 rfl ?_))))))
   refine qbb (fun w3 hb => ?_)
   replace h := h.ext hb
   clear hb
   refine qeU rfl rfl (zSR (zp1 rfl (qb ?_)))
   obtain rfl := qh hF; replace hF := hK1
   exact qz qc h hF ⟨rfl, trivial⟩
  replace hc3 := zb hc3
  replace hF := bifF hc3 hF
  refine qcy hc3 (t := 23) rfl (qg rfl (zd1 rfl (qg rfl (zd1 rfl ?_))))
  by_cases hc4 : sorted = true
  ·replace hF := bifT hc4 hF
   refine qcC hc4 (t := 25) rfl (qg rfl (zd1 rfl (qg rfl (zd1 rfl (qg rfl (zd1 rfl (qg rfl (zd1 rfl ?_))))))))
   by_cases hc5 : (decide (i1 > 0)) = true
   ·replace hF := bifT hc5 hF
    refine qcC hc5 (t := 29) rfl (qg rfl (zd1 rfl (qg rfl (zd1 rfl (qg rfl (zd1 rfl (qg rfl ?_)))))))
    obtain ⟨y2, hy2, hF⟩ := qd hF
    have he2 := qf hy2
    obtain ⟨b2, o_2, q2, cs4, hp2, hq2, -, hr4, hc6⟩ := s6.at hy2
    obtain rfl := hr4
    refine zdxe hp2 hq2 he2 rfl ?_
    refine qg rfl ?_
    refine zdc 0 (hc6.below h.below) rfl ?_
    refine qg rfl (zd1 rfl (qg rfl (zd1 rfl (qg rfl ?_))))
    obtain ⟨y3, hy3, hF⟩ := qd hF
    have he3 := qf hy3
    obtain ⟨b3, o_3, q3, cs5, hp3, hq3, -, hr5, hc7⟩ := s6.at hy3
    obtain rfl := hr5
    refine zdxe hp3 hq3 he3 rfl ?_
    refine qg rfl ?_
    refine zdc 0 (hc7.below h.below) rfl ?_
    refine qg rfl (zd1 rfl (qg rfl (zd2 rfl ?_)))
    refine qbb (fun w4 hb => ?_)
    replace h := h.ext hb
    clear hb
    refine qu rfl hF ?_ ?_ <;> intro hF
    ·refine zSR (zp1 rfl (qb ?_))
     obtain rfl := qh hF; replace hF := hK1
     exact qz qc h hF ⟨rfl, trivial⟩
    exact zKER (zp3 rfl (qb (qx m1 [(1, _), (2, _), (3, _), (7, _)] (Nat.lt_succ_self m1) ⟨rfl, rfl, rfl, rfl, trivial⟩ ⟨_, hF, rfl, h⟩)))
   replace hc5 := zb hc5
   replace hF := bifF hc5 hF
   refine qcy hc5 (t := 29) rfl (qk rfl rfl rfl (qk rfl rfl rfl (qk rfl rfl rfl (qk rfl rfl rfl (qk rfl rfl rfl (qk rfl rfl rfl (qk rfl rfl rfl (qk rfl rfl rfl (qk rfl rfl rfl (qk rfl rfl rfl (qg rfl ?_)))))))))))
   refine zd2 rfl ?_
   refine qbb (fun w5 hb => ?_)
   replace h := h.ext hb
   clear hb
   exact qdY rfl rfl (zKER (zp3 rfl (qb (qx m1 [(1, _), (2, _), (3, _), (7, _)] (Nat.lt_succ_self m1) ⟨rfl, rfl, rfl, rfl, trivial⟩ ⟨_, hF, rfl, h⟩))))
  replace hc4 := zb hc4
  replace hF := bifF hc4 hF
  refine qcy hc4 (t := 25) rfl (qk rfl rfl rfl (qk rfl rfl rfl (qg rfl (zd1 rfl (qg rfl (zd1 rfl (qk rfl rfl rfl (qk rfl rfl rfl (qk rfl rfl rfl (qk rfl rfl rfl (qk rfl rfl rfl ?_)))))))))))
  refine qk rfl rfl rfl (qk rfl rfl rfl (qk rfl rfl rfl (qk rfl rfl rfl (qk rfl rfl rfl (qg rfl (zd2 rfl ?_))))))
  refine qbb (fun w6 hb => ?_)
  replace h := h.ext hb
  clear hb
  exact qdY rfl rfl (zKER (zp3 rfl (qb (qx m1 [(1, _), (2, _), (3, _), (7, _)] (Nat.lt_succ_self m1) ⟨rfl, rfl, rfl, rfl, trivial⟩ ⟨_, hF, rfl, h⟩))))
 refine qE rfl ?_
 obtain rfl := qh hF; replace hF := hK1
 exact zSR (zp4 rfl (qb (qz qc h hF ⟨rfl, trivial⟩)))

def qg0 (n : Nat) (b : ql) (a_e : qc5) : Option Bool :=
 (
  (qfA n b).bind fun r4 =>
  bif (!r4) then
   some true
  else
   (qfu n b a_e.From true).bind fun r5 =>
   bif (!r5) then
    some true
   else
    (qfu n b a_e.Through false).bind fun r6 =>
    bif (!r6) then
     some true
    else
     (qfu n b a_e.To true).bind fun r7 =>
     some (!r7)).bind fun b1 =>
 bif b1 then
  some false
 else
  bif (a_e.Kind == 1) then
   some (a_e.Value == 0)
  else
   bif (a_e.Kind == 2) then
    (qaq n a_e.Value 1 10).bind fun r1 =>
    some r1
   else
    bif (a_e.Kind == 3) then
     bif (a_e.Kind == 3) then
      (qaq n a_e.Value 0 1000000000).bind fun r2 =>
      some r2
     else
      some false
    else
     bif (a_e.Kind == 4) then
      (qaq n a_e.Value 0 1000000000).bind fun r3 =>
      some r3
     else
      some false

theorem qjz {n : Nat} {w : World} {b : ql} {a_e : qc5} {cs1 : List Value} (ha1 : GoT.R w (old w) b cs1) {cs2 : List Value} (ha2 : GoT.R w (old w) a_e cs2) {r : Bool} (hF : qg0 n b a_e = some r) : RetV Tryz.prog 10 [GoT.v ql cs1, GoT.v qc5 cs2] w r := by
 obtain ⟨p1, k1, p2, k2, p3, k3, p4, k4, p5, k5, rfl, s1, s2, s3, s4, s5⟩ := qag ha1
 obtain ⟨p6, k6, p7, k7, p8, k8, rfl, s6, s7, s8⟩ := qiL ha2
 refine qe Tryz.func10 rfl (m := 47) rfl rfl (fun h => ?_)
 rw [qg0] at hF
 refine zSR (qN h rfl rfl ?_)
 intro w1 bb1 h
 refine qN h rfl rfl ?_
 intro w2 bb2 h
 refine zp1 rfl (zNSS ?_)
 obtain ⟨KF1, hKF1, o1, hF, hK1⟩ := bindE hF
 refine qek (fun e w' => ∃ (b1 : Bool), KF1 b1 = some r ∧ e = [(3, .pointer (some ⟨bb2, 0, none⟩)), (28, .bool b1)] ∧ SH w w' [Ch.box bb2 [.int .i64 a_e.Kind, .int .i64 a_e.Value, .slice p6 a_e.From.length k6, .slice p7 a_e.Through.length k7, .slice p8 a_e.To.length k8] 50]) ?_ ?_
 ·refine qA (zl 1 0 h rfl ?_)
  obtain ⟨r4, hr4, hF⟩ := qd hF
  refine qp r4 h call33 (qiM (h.old ha1) hr4) rfl rfl rfl rfl ?_
  intro w6 h
  refine zp2 rfl ?_
  by_cases hc7 : (!r4) = true
  ·replace hF := bifT hc7 hF
   refine qB hc7 (t := 8) rfl (zn5 rfl (zp2 rfl (zn4 rfl ?_)))
   refine zn1 rfl (zp2 rfl (zn5 rfl (zp1 rfl (qb ?_))))
   replace h := h.pick [0] rfl
   obtain rfl := qh hF
   exact qy [(3, _), (28, _)] ⟨rfl, rfl, trivial⟩ ⟨_, hK1, rfl, h⟩
  replace hc7 := zb hc7
  replace hF := bifF hc7 hF
  refine qC hc7 (t := 8) rfl (qa rfl (zl 1 0 h rfl (qa rfl (zp1 rfl (qa rfl (zl 0 2 h rfl (qa rfl ?_)))))))
  obtain ⟨r5, hr5, hF⟩ := qd hF
  refine qp r5 h call34 (qgu (h.old ha1) ⟨_, _, rfl, (h.oldS s6)⟩ hr5) rfl rfl rfl rfl ?_
  intro w7 h
  refine qa rfl (zp3 rfl ?_)
  by_cases hc8 : (!r5) = true
  ·replace hF := bifT hc8 hF
   refine qB hc8 (t := 15) rfl (zn5 rfl (zp2 rfl (zn4 rfl ?_)))
   refine zn1 rfl (zp1 rfl (qb ?_))
   replace h := h.pick [0] rfl
   obtain rfl := qh hF
   exact qy [(3, _), (28, _)] ⟨rfl, rfl, trivial⟩ ⟨_, hK1, rfl, h⟩
  replace hc8 := zb hc8
  replace hF := bifF hc8 hF
  refine qC hc8 (t := 15) rfl (qa rfl (zl 1 0 h rfl (qa rfl (zp1 rfl (qa rfl (zl 0 3 h rfl (qa rfl ?_)))))))
  obtain ⟨r6, hr6, hF⟩ := qd hF
  refine qp r6 h call34 (qgu (h.old ha1) ⟨_, _, rfl, (h.oldS s7)⟩ hr6) rfl rfl rfl rfl ?_
  intro w8 h
  refine qa rfl (zp3 rfl ?_)
  by_cases hc9 : (!r6) = true
  ·replace hF := bifT hc9 hF
   refine qB hc9 (t := 22) rfl (zn5 rfl (zp1 rfl (qb ?_)))
   replace h := h.pick [0] rfl
   obtain rfl := qh hF
   exact qy [(3, _), (28, _)] ⟨rfl, rfl, trivial⟩ ⟨_, hK1, rfl, h⟩
  replace hc9 := zb hc9
  replace hF := bifF hc9 hF
  refine qC hc9 (t := 22) rfl (qa rfl (zl 1 0 h rfl (qa rfl (zp1 rfl (qa rfl (zl 0 4 h rfl (qa rfl ?_)))))))
  obtain ⟨r7, hr7, hF⟩ := qd hF
  refine qp r7 h call34 (qgu (h.old ha1) ⟨_, _, rfl, (h.oldS s8)⟩ hr7) rfl rfl rfl rfl ?_
  intro w9 h
  refine qa rfl (zp2 rfl (qb ?_))
  replace h := h.pick [0] rfl
  obtain rfl := qh hF
  exact qy [(3, _), (28, _)] ⟨rfl, rfl, trivial⟩ ⟨_, hK1, rfl, h⟩
 rintro e1 w10 ⟨b1, hF, rfl, h⟩
 subst hKF1
 refine qu rfl hF ?_ ?_ <;> intro hF
 ·exact zSR (zp1 rfl (qb (qz qc h hF ⟨rfl, trivial⟩)))
 refine zKSSR (zp1 rfl (zl 0 0 h rfl (qb (zBSR (zp2 rfl ?_)))))
 refine qb ?_
 refine qu rfl hF ?_ ?_ <;> intro hF
 ·exact zSR (zp1 rfl (zl 0 1 h rfl (zp2 rfl (qb (qz qc h hF ⟨rfl, trivial⟩)))))
 refine zSR (zp2 rfl (qb ?_))
 refine qu rfl hF ?_ ?_ <;> intro hF
 ·refine zSR (zp1 rfl (zl 0 1 h rfl ?_))
  obtain ⟨r1, hr1, hF⟩ := qd hF
  refine qp r1 h call35 (qac hr1) rfl rfl rfl rfl ?_
  intro w3 h
  exact zp1 rfl (qb (qz qc h hF ⟨rfl, trivial⟩))
 refine zSSR (zp2 rfl (qb ?_))
 refine qu rfl hF ?_ ?_ <;> intro hF
 ·refine qeq ?_
  refine qu rfl hF ?_ ?_ <;> intro hF
  ·refine zSR (zp1 rfl (zl 0 1 h rfl ?_))
   obtain ⟨r2, hr2, hF⟩ := qd hF
   refine qp r2 h call35 (qac hr2) rfl rfl rfl rfl ?_
   intro w4 h
   exact zp1 rfl (qb (qz qc h hF ⟨rfl, trivial⟩))
  exact zKE (zSR (zp1 rfl (qb (qz qc h hF ⟨rfl, trivial⟩))))
 refine qA (zp2 rfl (qb ?_))
 refine qu rfl hF ?_ ?_ <;> intro hF
 ·refine zSR (zp1 rfl (zl 0 1 h rfl ?_))
  obtain ⟨r3, hr3, hF⟩ := qd hF
  refine qp r3 h call35 (qac hr3) rfl rfl rfl rfl ?_
  intro w5 h
  exact zp1 rfl (qb (qz qc h hF ⟨rfl, trivial⟩))
 exact zKE (zSR (zp1 rfl (qb (qz qc h hF ⟨rfl, trivial⟩))))

def qe7 (b : ql) (list : (List qc5)) : Nat → Int → Option (Flow Int Int)
 | 0, _ => none
 | n + 1, i1 =>
  bif decide (i1 < (list.length : Int)) then
   (idx list i1).bind fun y1 =>
   (qg0 n b y1).bind fun r2 =>
   bif (!r2) then
    some (.ret 5)
   else
    qe7 b list n (W64 (i1 + 1))
  else
   some (.nxt i1)

def qhu (n : Nat) (b : ql) (list : (List qc5)) : Option Int :=
 (qfA n b).bind fun r1 =>
 bif (!r1) then
  some 1
 else
  bif decide ((list.length : Int) > 6) then
   some 3
  else
   (qe7 b list n 0).bind fun o => match o with
   | .ret r => some r
   | .nxt _ =>
    some 0

theorem qkR {n : Nat} {w : World} {b : ql} {list : (List qc5)} {cs1 : List Value} (ha1 : GoT.R w (old w) b cs1) {cs2 : List Value} (ha2 : GoT.R w (old w) list cs2) {r : Int} (hF : qhu n b list = some r) : RetV Tryz.prog 92 [GoT.v ql cs1, GoT.v (List qc5) cs2] w r := by
 obtain ⟨p1, k1, p2, k2, p3, k3, p4, k4, p5, k5, rfl, s1, s2, s3, s4, s5⟩ := qag ha1
 obtain ⟨p6, k6, rfl, s6⟩ := ha2
 refine qe Tryz.func92 rfl (m := 25) rfl rfl (fun h => ?_)
 rw [qhu] at hF
 refine zSR (qN h rfl rfl ?_)
 intro w1 bb1 h
 refine zp1 rfl (zNSSR (zl 0 0 h rfl ?_))
 obtain ⟨r1, hr1, hF⟩ := qd hF
 refine qp r1 h call33 (qiM (h.old ha1) hr1) rfl rfl rfl rfl ?_
 intro w2 h
 refine zp1 rfl (qb ?_)
 refine qu rfl hF ?_ ?_ <;> intro hF
 ·exact zSR (zp1 rfl (qb (qaH qc h hF ⟨rfl, trivial⟩)))
 refine zKSSR (zp3 rfl (qb ?_))
 refine qu rfl hF ?_ ?_ <;> intro hF
 ·exact zSR (zp1 rfl (qb (qaH qc h hF ⟨rfl, trivial⟩)))
 refine zKSSR (zp1 rfl (qb ?_))
 obtain ⟨o1, hF, hK1⟩ := qd hF
 refine qw (qP [(1, _), (2, _), (5, _)] ⟨rfl, rfl, rfl, trivial⟩ ?_)
 refine qF (fun m e w' => ∃ (i1 : Int), qe7 b list m i1 = some o1 ∧ e = [(1, .slice p6 list.length k6), (2, .pointer (some ⟨bb1, 0, none⟩)), (5, .int .i64 i1)] ∧ SH w w' [Ch.box bb1 [.slice p1 b.Library.Cells.length k1, .slice p2 b.Design.Instances.length k2, .slice p3 b.Design.Nets.length k3, .slice p4 b.Design.Ports.length k4, .slice p5 b.Wires.length k5] 48]) n ⟨_, hF, rfl, h⟩ ?_
 rintro m1 e1 w3 ⟨i1, hF, rfl, h⟩
 rcases m1 with _ | m1
 ·rw [qe7] at hF
  cases hF
 rw [qe7] at hF
 refine zSSR (zp4 rfl (qb ?_))
 refine qu rfl hF ?_ ?_ <;> intro hF
 ·refine zKSB (qbd ?_)
  refine qcA rfl (by kernel_rfl) ?_
  refine zdl 0 0 h rfl ?_
  refine zd2 rfl ?_
  obtain ⟨y1, hy1, hF⟩ := qd hF
  have he1 := qf hy1
  obtain ⟨b1, o_1, q1, cs3, hp1, hq1, -, hr2, hc4⟩ := s6.at hy1
  obtain ⟨p7, k7, p8, k8, p9, k9, rfl, s7, s8, s9⟩ := qiL hr2
  refine zdxe hp1 hq1 he1 rfl ?_
  refine zdc 0 (hc4.below h.below) rfl ?_
  obtain ⟨r2, hr3, hF⟩ := qd hF
  refine qcD r2 (vsB _) call10 (fun _ hb => qjz ((h.ext hb).old ha1) (qlW y1 ((h.ext hb).oldS s7) ((h.ext hb).oldS s8) ((h.ext hb).oldS s9)) hr3) rfl rfl rfl rfl ?_
  refine zd1 rfl ?_
  refine qbb (fun w4 hb => ?_)
  replace h := h.ext hb
  clear hb
  refine qu rfl hF ?_ ?_ <;> intro hF
  ·refine zSR (zp1 rfl (qb ?_))
   obtain rfl := qh hF; replace hF := hK1
   exact qaH qc h hF ⟨rfl, trivial⟩
  exact zKER (zp3 rfl (qb (qx m1 [(1, _), (2, _), (5, _)] (Nat.lt_succ_self m1) ⟨rfl, rfl, rfl, trivial⟩ ⟨_, hF, rfl, h⟩)))
 refine qE rfl ?_
 obtain rfl := qh hF; replace hF := hK1
 exact zSR (zp1 rfl (qb (qaH qc h hF ⟨rfl, trivial⟩)))

def qfB (n : Nat) (b : ql) (list : (List qc5)) (place : Int) : Option Int :=
 (qhu n b list).bind fun r1 =>
 bif (r1 == 0) then
  (qda n b).bind fun r2 =>
  (qaq n place 0 (W64 (r2 - 1))).bind fun r3 =>
  bif (!r3) then
   some 2
  else
   some r1
 else
  some r1

theorem qkU {n : Nat} {w : World} {b : ql} {list : (List qc5)} {place : Int} {cs1 : List Value} (ha1 : GoT.R w (old w) b cs1) {cs2 : List Value} (ha2 : GoT.R w (old w) list cs2) {r : Int} (hF : qfB n b list place = some r) : RetV Tryz.prog 47 [GoT.v ql cs1, GoT.v (List qc5) cs2, .int .i64 place] w r := by
 obtain ⟨p1, k1, p2, k2, p3, k3, p4, k4, p5, k5, rfl, s1, s2, s3, s4, s5⟩ := qag ha1
 obtain ⟨p6, k6, rfl, s6⟩ := ha2
 refine qe Tryz.func47 rfl (m := 22) rfl rfl (fun h => ?_)
 rw [qfB] at hF
 refine zSR (qN h rfl rfl ?_)
 intro w1 bb1 h
 refine zp1 rfl (zNSR (zl 0 0 h rfl (zp1 rfl ?_)))
 obtain ⟨r1, hr1, hF⟩ := qd hF
 refine qT r1 h call92 (qkR (h.old ha1) ⟨_, _, rfl, (h.oldS s6)⟩ hr1) rfl rfl rfl rfl ?_
 intro w2 h
 refine zp1 rfl (zNSSR (zp3 rfl ?_))
 by_cases hc1 : (r1 == 0) = true
 ·replace hF := bifT hc1 hF
  refine qB hc1 (t := 13) rfl (qa rfl (zp1 rfl (qa rfl (zl 0 0 h rfl (qa rfl ?_)))))
  obtain ⟨r2, hr2, hF⟩ := qd hF
  refine qT r2 h call48 (qeB (h.old ha1) hr2) rfl rfl rfl rfl ?_
  intro w3 h
  refine qa rfl (zp1 rfl (qa rfl ?_))
  obtain ⟨r3, hr3, hF⟩ := qd hF
  refine qp r3 h call35 (qac hr3) rfl rfl rfl rfl ?_
  intro w4 h
  refine qa rfl (zp2 rfl (qb ?_))
  refine qu rfl hF ?_ ?_ <;> intro hF
  ·exact zSR (zp1 rfl (qb (qaH qc h hF ⟨rfl, trivial⟩)))
  exact zKSR (zp2 rfl (qb (qaH qc h hF ⟨rfl, trivial⟩)))
 replace hc1 := zb hc1
 replace hF := bifF hc1 hF
 refine qC hc1 (t := 13) rfl (zn5 rfl (zn1 rfl (zp1 rfl (qb (qdY rfl rfl (zKS ?_))))))
 exact qA (zp2 rfl (qb (qaH qc h hF ⟨rfl, trivial⟩)))

def qbi (b : ql) : Nat → (List Int) → Int → Option ((List Int) × Int)
 | 0, _, _ => none
 | n + 1, x1, i1 =>
  (qda n b).bind fun r1 =>
  bif decide (i1 < r1) then
   (qft n (⟨b.Library.Cells⟩ : qv) (⟨b.Design.Instances, b.Design.Nets, b.Design.Ports⟩ : qj) i1).bind fun o => match o with
    | (r3, _) =>
     (
      bif decide (r3.instance_ < 0) then
       (idx b.Design.Ports r3.pin).bind fun y1 =>
       bif (y1.Dir == 1) then
        some true
       else
        (qes n b i1).bind fun r5 =>
        some r5
      else
       (qes n b i1).bind fun r6 =>
       some r6).bind fun b1 =>
     bif b1 then
      (appS x1 ([i1] : List Int)).bind fun x2 =>
      qbi b n x2 (W64 (i1 + 1))
     else
      qbi b n x1 (W64 (i1 + 1))
  else
   some (x1, i1)

def qfx (n : Nat) (b : ql) : Option (List Int) :=
 (qbi b n ([] : List Int) 0).bind fun o => match o with
 | (x1, _) =>
  some x1

theorem qj3 {n : Nat} {w : World} {b : ql} {cs1 : List Value} (ha1 : GoT.R w (old w) b cs1) {r : (List Int)} (hF : qfx n b = some r) : RetV Tryz.prog 49 [GoT.v ql cs1] w r := by
 obtain ⟨p1, k1, p2, k2, p3, k3, p4, k4, p5, k5, rfl, s1, s2, s3, s4, s5⟩ := qag ha1
 refine qe Tryz.func49 rfl (m := 47) rfl rfl (fun h => ?_)
 rw [qfx] at hF
 refine zSR (qN h rfl rfl ?_)
 intro w1 bb1 h
 refine zp1 rfl (zNSR (qat qc [] _ ([] : List Int) h rfl rfl rfl rfl rfl rfl rfl rfl rfl trivial rfl ?_))
 intro w2 p6 S1 h
 refine zp1 rfl (zNSSR (zp1 rfl (qb ?_)))
 obtain ⟨o1, hF, hK1⟩ := qd hF
 refine qw (qP [(1, _), (3, _), (4, _)] ⟨rfl, rfl, rfl, trivial⟩ ?_)
 refine qF (fun m e w' => ∃ (S2 : Nat → Prop) (p7 : Option Addr) (ln1 : Nat) (k6 : Nat) (x1 : (List Int)) (i1 : Int), qbi b m x1 i1 = some o1 ∧ e = [(1, .pointer (some ⟨bb1, 0, none⟩)), (3, .slice p7 ln1 k6), (4, .int .i64 i1)] ∧ SH w w' [Ch.own S2 (x1 : List Int) [.slice p7 ln1 k6], Ch.box bb1 [.slice p1 b.Library.Cells.length k1, .slice p2 b.Design.Instances.length k2, .slice p3 b.Design.Nets.length k3, .slice p4 b.Design.Ports.length k4, .slice p5 b.Wires.length k5] 48]) n ⟨_, _, _, _, _, _, hF, rfl, h⟩ ?_
 rintro m1 e1 w3 ⟨S2, p7, ln1, k6, x1, i1, hF, rfl, h⟩
 obtain rfl := (h.sl 0 rfl).2
 rcases m1 with _ | m1
 ·rw [qbi] at hF
  cases hF
 rw [qbi] at hF
 refine zSSR (zp1 rfl (zl 1 0 h rfl ?_))
 obtain ⟨r1, hr1, hF⟩ := qd hF
 refine qT r1 h call48 (qeB (h.old ha1) hr1) rfl rfl rfl rfl ?_
 intro w4 h
 refine zp1 rfl (qb ?_)
 refine qu rfl hF ?_ ?_ <;> intro hF
 ·refine zKSBSR (zp1 rfl (zl 1 0 h rfl (zp1 rfl (zl 1 1 h rfl (zp1 rfl ?_)))))
  obtain ⟨r2, hr2, hF⟩ := qd hF
  obtain ⟨r3, r4⟩ := r2
  refine qf7 (r3, r4) h call94 (qha (qcI (⟨b.Library.Cells⟩ : qv) (h.oldS s1)) (qaS (⟨b.Design.Instances, b.Design.Nets, b.Design.Ports⟩ : qj) (h.oldS s2) (h.oldS s3) (h.oldS s4)) hr2) rfl rfl rfl rfl ?_
  intro w5 S3 us1 hv1 hr3
  obtain ⟨S4, S5, cs2, us2, rfl, hv2, hr4⟩ := hv1.cons hr3
  obtain rfl := qbI (hv2.sh.own 0 rfl)
  obtain ⟨rfl, h⟩ := hv2.lastB hr4
  refine zp3 rfl (qW qc h rfl rfl rfl ?_)
  intro w6 bb2 h
  refine zs 0 h rfl ?_
  intro w7 h
  refine zp1 rfl (zNS ?_)
  obtain ⟨KF1, hKF1, o2, hF, hK2⟩ := bindE hF
  refine qek (fun e w' => ∃ (b1 : Bool), KF1 b1 = some o1 ∧ e = [(1, .pointer (some ⟨bb1, 0, none⟩)), (3, .slice p7 x1.length k6), (4, .int .i64 i1), (41, .bool b1)] ∧ SH w w' [Ch.own S2 (x1 : List Int) [.slice p7 x1.length k6], Ch.box bb1 [.slice p1 b.Library.Cells.length k1, .slice p2 b.Design.Instances.length k2, .slice p3 b.Design.Nets.length k3, .slice p4 b.Design.Ports.length k4, .slice p5 b.Wires.length k5] 48]) ?_ ?_
  ·refine qA (zp1 rfl (zl 0 0 h rfl (zp2 rfl ?_)))
   by_cases hc3 : (decide (r3.instance_ < 0)) = true
   ·replace hF := bifT hc3 hF
    refine qB hc3 (t := 26) rfl (qa rfl (zp1 rfl (qa rfl (zp1 rfl (qa rfl (zl 3 3 h rfl (qa rfl (zp1 rfl (qa rfl (zl 0 1 h rfl (qa rfl ?_)))))))))))
    obtain ⟨y1, hy1, hF⟩ := qd hF
    have he1 := qf hy1
    obtain ⟨b2, o_1, q1, cs3, hp1, hq1, -, hr6, hc4⟩ := s4.at hy1
    obtain rfl := qbc hr6
    refine zxe hp1 hq1 he1 rfl (qa rfl (zp1 rfl (qa rfl (zc 1 (hc4.below h.below) rfl (qa rfl (zp3 rfl ?_))))))
    by_cases hc5 : (y1.Dir == 1) = true
    ·replace hF := bifT hc5 hF
     refine qB hc5 (t := 37) rfl (zn3 rfl (zp1 rfl (qb ?_)))
     replace h := h.pick [2, 3] rfl
     obtain rfl := qh hF
     exact qy [(1, _), (3, _), (4, _), (41, _)] ⟨rfl, rfl, rfl, rfl, trivial⟩ ⟨_, hK2, rfl, h⟩
    replace hc5 := zb hc5
    replace hF := bifF hc5 hF
    refine qC hc5 (t := 37) rfl (qa rfl (zl 3 0 h rfl (qa rfl (zp1 rfl (qa rfl ?_)))))
    obtain ⟨r5, hr7, hF⟩ := qd hF
    refine qp r5 h call95 (qgU (h.old ha1) hr7) rfl rfl rfl rfl ?_
    intro w10 h
    refine zp1 rfl (qb ?_)
    replace h := h.pick [2, 3] rfl
    obtain rfl := qh hF
    exact qy [(1, _), (3, _), (4, _), (41, _)] ⟨rfl, rfl, rfl, rfl, trivial⟩ ⟨_, hK2, rfl, h⟩
   replace hc3 := zb hc3
   replace hF := bifF hc3 hF
   refine qC hc3 (t := 26) rfl (zn5 rfl (zn4 rfl (zp2 rfl ?_)))
   refine qa rfl (zl 3 0 h rfl (qa rfl (zp1 rfl (qa rfl ?_))))
   obtain ⟨r6, hr8, hF⟩ := qd hF
   refine qp r6 h call95 (qgU (h.old ha1) hr8) rfl rfl rfl rfl ?_
   intro w11 h
   refine zp1 rfl (qb ?_)
   replace h := h.pick [2, 3] rfl
   obtain rfl := qh hF
   exact qy [(1, _), (3, _), (4, _), (41, _)] ⟨rfl, rfl, rfl, rfl, trivial⟩ ⟨_, hK2, rfl, h⟩
  rintro e2 w12 ⟨b1, hF, rfl, h⟩
  subst hKF1
  refine qu rfl hF ?_ ?_ <;> intro hF
  ·refine qA (zp2 rfl (qat qc [.tmp 43] _ ([i1] : List Int) h rfl rfl rfl rfl rfl rfl rfl rfl rfl ⟨rfl, trivial⟩ rfl ?_))
   intro w8 p8 S7 h
   obtain ⟨x2, hx1, hF⟩ := qd hF
   obtain ⟨g1, hx1⟩ := qa4 hx1
   refine qdG qc 1 h rfl (h.sl 0 rfl).1 (h.sl 0 rfl).2 rfl rfl rfl rfl rfl rfl rfl rfl rfl g1 hx1 rfl ?_
   intro w9 p9 k7 S8 h
   refine zp1 rfl (zNER (zp3 rfl (qb ?_)))
   replace h := h.pick [1, 2] rfl
   exact qx m1 [(1, _), (3, _), (4, _)] (Nat.lt_succ_self m1) ⟨rfl, rfl, rfl, trivial⟩ ⟨_, _, _, _, _, _, hF, rfl, h⟩
  exact zKER (zp3 rfl (qb (qx m1 [(1, _), (3, _), (4, _)] (Nat.lt_succ_self m1) ⟨rfl, rfl, rfl, trivial⟩ ⟨_, _, _, _, _, _, hF, rfl, h⟩)))
 refine qE rfl ?_
 obtain rfl := qh hF; replace hF := hK1
 refine zSR (zp2 rfl (qb ?_))
 obtain rfl := qh hF
 exact qae qc (ρ := (List Int)) [GoT.v (List Int) [.slice p7 x1.length k6]] h ⟨rfl, trivial⟩ (PV.done h (qaf (qaC 0 h rfl)))

def qb9 (r3 : (List Int)) (i2 : Int) (r7 : (List Int)) : Nat → (List Int) → Int → Option ((List Int) × Int)
 | 0, _, _ => none
 | n + 1, x4, i3 =>
  bif decide (i3 < (r7.length : Int)) then
   (idx r7 i3).bind fun y4 =>
   (idx x4 y4).bind fun y5 =>
   (idx r3 i2).bind fun y6 =>
   (idx x4 y6).bind fun y7 =>
   (idx x4 y4).bind fun _ =>
   qb9 r3 i2 r7 n (setS x4 y4 (if (W64 (y5 + y7)) < 1000000 then (W64 (y5 + y7)) else 1000000)) (W64 (i3 + 1))
  else
   some (x4, i3)

def qch (a_0 : ql) (r3 : (List Int)) : Nat → (List Int) → Int → Option ((List Int) × Int)
 | 0, _, _ => none
 | n + 1, x3, i2 =>
  bif decide (i2 < (r3.length : Int)) then
   (idx r3 i2).bind fun y3 =>
   (qet n a_0 y3).bind fun r7 =>
   (qb9 r3 i2 r7 n x3 0).bind fun o => match o with
   | (x4, _) =>
    qch a_0 r3 n x4 (W64 (i2 + 1))
  else
   some (x3, i2)

def qcb (r6 : (List Int)) : Nat → (List Int) → Int → Option ((List Int) × Int)
 | 0, _, _ => none
 | n + 1, x2, i1 =>
  bif decide (i1 < (r6.length : Int)) then
   (idx r6 i1).bind fun y1 =>
   (idx x2 y1).bind fun _ =>
   qcb r6 n (setS x2 y1 1) (W64 (i1 + 1))
  else
   some (x2, i1)

def qef (n : Nat) (a_0 : ql) (a_1 : Int) : Option (Int × Int) :=
 (qfB n a_0 [] a_1).bind fun r1 =>
 bif (r1 != 0) then
  some (0, r1)
 else
  (qfU n a_0).bind fun o => match o with
   | (r3, r4) =>
    bif (!r4) then
     some (0, 7)
    else
     (qda n a_0).bind fun r5 =>
     (mkS r5 (0 : Int)).bind fun x1 =>
     (qfx n a_0).bind fun r6 =>
     (qcb r6 n x1 0).bind fun o => match o with
     | (x2, _) =>
      (qch a_0 r3 n x2 0).bind fun o => match o with
      | (x3, _) =>
       (idx x3 a_1).bind fun y9 =>
       some (y9, 0)

theorem qkO {n : Nat} {w : World} {a_0 : ql} {a_1 : Int} {cs1 : List Value} (ha1 : GoT.R w (old w) a_0 cs1) {r : (Int × Int)} (hF : qef n a_0 a_1 = some r) : RetV Tryz.prog 18 [GoT.v ql cs1, .int .i64 a_1] w r := by
 obtain ⟨p1, k1, p2, k2, p3, k3, p4, k4, p5, k5, rfl, s1, s2, s3, s4, s5⟩ := qag ha1
 refine qe Tryz.func18 rfl (m := 90) rfl rfl (fun h => ?_)
 rw [qef] at hF
 refine zSR (qN h rfl rfl ?_)
 intro w1 bb1 h
 refine zp2 rfl (zNSR (zl 0 0 h rfl (zp1 rfl ?_)))
 obtain ⟨r1, hr1, hF⟩ := qd hF
 refine qT r1 h call47 (qkU (h.old ha1) ⟨_, _, rfl, qos⟩ hr1) rfl rfl rfl rfl ?_
 intro w2 h
 refine zp1 rfl (zNSSR (zp2 rfl (qb ?_)))
 refine qu rfl hF ?_ ?_ <;> intro hF
 ·refine zSR (zp3 rfl (qb ?_))
  obtain rfl := qh hF
  exact qae qc (ρ := (Int × Int)) [GoT.v Int [.int .i64 0], GoT.v Int [.int .i64 r1]] h ⟨rfl, rfl, trivial⟩ (PV.done h (qdr h (qaj (S := fun _ => False) rfl) (qaf (qaj (S := fun _ => False) rfl)) (by rfl)))
 refine zKSR (zl 0 0 h rfl ?_)
 obtain ⟨r2, hr2, hF⟩ := qd hF
 obtain ⟨r3, r4⟩ := r2
 refine qf7 (r3, r4) h call45 (qkz (h.old ha1) hr2) rfl rfl rfl rfl ?_
 intro w3 S1 us1 hv1 hr3
 obtain ⟨S2, S3, p6, k6, us2, rfl, hv2, hr4⟩ := hv1.consL hr3
 obtain ⟨rfl, h⟩ := hv2.lastB hr4
 refine zp5 rfl (zNSSR (zp2 rfl (qb ?_)))
 refine qu rfl hF ?_ ?_ <;> intro hF
 ·refine zSR (zp2 rfl (qb ?_))
  obtain rfl := qh hF
  exact qae qc (ρ := (Int × Int)) [GoT.v Int [.int .i64 0], GoT.v Int [.int .i64 7]] h ⟨rfl, rfl, trivial⟩ (PV.done h (qdr h (qaj (S := fun _ => False) rfl) (qaf (qaj (S := fun _ => False) rfl)) (by rfl)))
 refine zKSR (zl 1 0 h rfl ?_)
 obtain ⟨r5, hr6, hF⟩ := qd hF
 refine qT r5 h call48 (qeB (h.old ha1) hr6) rfl rfl rfl rfl ?_
 intro w4 h
 obtain ⟨x1, hx1, hF⟩ := qd hF
 obtain ⟨g1, g2, hx1⟩ := qcn hx1
 refine qdo qc Int h rfl rfl rfl rfl rfl rfl rfl rfl rfl g1 g2 hx1 rfl ?_
 intro w5 S5 p7 h
 refine zp1 rfl (zNSR (zl 2 0 h rfl ?_))
 obtain ⟨r6, hr7, hF⟩ := qd hF
 refine qas r6 h call49 (qj3 (h.old ha1) hr7) rfl rfl rfl rfl ?_
 intro w6 S6 p8 k7 h
 refine zp1 rfl (zNSSR (zp1 rfl (qb ?_)))
 obtain ⟨o1, hF, hK1⟩ := qd hF
 refine qw (qP [(1, _), (2, _), (7, _), (9, _), (10, _), (11, _)] ⟨rfl, rfl, rfl, rfl, rfl, rfl, trivial⟩ ?_)
 refine qF (fun m e w' => ∃ (x2 : (List Int)) (i1 : Int), qcb r6 m x2 i1 = some o1 ∧ e = [(1, .int .i64 a_1), (2, .pointer (some ⟨bb1, 0, none⟩)), (7, .slice p6 r3.length k6), (9, .slice p7 x1.length x1.length), (10, .slice p8 r6.length k7), (11, .int .i64 i1)] ∧ SH w w' [Ch.own S6 (r6 : List Int) [.slice p8 r6.length k7], Ch.own S5 (x2 : List Int) [.slice p7 x1.length x1.length], Ch.own S2 (r3 : List Int) [.slice p6 r3.length k6], Ch.box bb1 [.slice p1 a_0.Library.Cells.length k1, .slice p2 a_0.Design.Instances.length k2, .slice p3 a_0.Design.Nets.length k3, .slice p4 a_0.Design.Ports.length k4, .slice p5 a_0.Wires.length k5] 48]) n ⟨_, _, hF, rfl, h⟩ ?_
 rintro m1 e1 w7 ⟨x2, i1, hF, rfl, h⟩
 rcases m1 with _ | m1
 ·rw [qcb] at hF
  cases hF
 rw [qcb] at hF
 refine zSSR (zp4 rfl (qb ?_))
 refine qu rfl hF ?_ ?_ <;> intro hF
 ·refine zKSBSR (zp2 rfl ?_)
  obtain ⟨y1, hy1, hF⟩ := qd hF
  have he1 := qf hy1
  obtain ⟨b1, o_1, q1, cs2, hp1, hq1, -, hr8, hc4⟩ := (h.sl 0 rfl).1.at hy1
  obtain rfl := hr8
  refine zx hp1 hq1 ⟨he1.1, qY he1.2.1 (h.sl 0 rfl).2⟩ rfl (zc 0 hc4 rfl (zp1 rfl (qb (qA (zp2 rfl ?_)))))
  obtain ⟨y2, hy2, hF⟩ := qd hF
  have he2 := qf hy2
  obtain ⟨b2, o_2, q2, cs3, hp2, hq2, -, hr9, hc5⟩ := (h.sl 1 rfl).1.at hy2
  obtain rfl := hr9
  refine zx hp2 hq2 ⟨he2.1, qY he2.2.1 (h.sl 1 rfl).2⟩ rfl (qcH qc 1 0 1 h rfl hy2 hp2 hq2 rfl hc5 rfl rfl rfl rfl rfl rfl rfl ?_)
  intro w8 h
  exact zNER (zp3 rfl (qb (qx m1 [(1, _), (2, _), (7, _), (9, _), (10, _), (11, _)] (Nat.lt_succ_self m1) ⟨rfl, rfl, rfl, rfl, rfl, rfl, trivial⟩ ⟨_, _, hF, rfl, h⟩)))
 refine qE rfl ?_
 obtain rfl := qh hF; replace hF := hK1
 refine zSSR (zp1 rfl (qb ?_))
 obtain ⟨o2, hF, hK2⟩ := qd hF
 refine qw ?_
 replace h := h.pick [1, 2, 3] rfl
 refine qP [(1, _), (2, _), (7, _), (9, _), (13, _)] ⟨rfl, rfl, rfl, rfl, rfl, trivial⟩ ?_
 refine qF (fun m e w' => ∃ (x3 : (List Int)) (i2 : Int), qch a_0 r3 m x3 i2 = some o2 ∧ e = [(1, .int .i64 a_1), (2, .pointer (some ⟨bb1, 0, none⟩)), (7, .slice p6 r3.length k6), (9, .slice p7 x1.length x1.length), (13, .int .i64 i2)] ∧ SH w w' [Ch.own S5 (x3 : List Int) [.slice p7 x1.length x1.length], Ch.own S2 (r3 : List Int) [.slice p6 r3.length k6], Ch.box bb1 [.slice p1 a_0.Library.Cells.length k1, .slice p2 a_0.Design.Instances.length k2, .slice p3 a_0.Design.Nets.length k3, .slice p4 a_0.Design.Ports.length k4, .slice p5 a_0.Wires.length k5] 48]) n ⟨_, _, hF, rfl, h⟩ ?_
 rintro m2 e2 w9 ⟨x3, i2, hF, rfl, h⟩
 rcases m2 with _ | m2
 ·rw [qch] at hF
  cases hF
 rw [qch] at hF
 refine zSSR (zp4 rfl (qb ?_))
 refine qu rfl hF ?_ ?_ <;> intro hF
 ·refine zKSB (qbd ?_)
  refine qe5 [] (fun w' => SH w w' [Ch.own S2 (r3 : List Int) [.slice p6 r3.length k6], Ch.box bb1 [.slice p1 a_0.Library.Cells.length k1, .slice p2 a_0.Design.Instances.length k2, .slice p3 a_0.Design.Nets.length k3, .slice p4 a_0.Design.Ports.length k4, .slice p5 a_0.Wires.length k5] 48]) rfl 7 rfl #[ff, ff, ff, ff, ff, ff, ff] (by kernel_rfl) (fun w10 hb => ?_)
  replace h := h.ext hb
  clear hb
  refine qi 0 rfl #[tt, ff, ff, ff, ff, ff, ff] (by kernel_rfl) (by kernel_rfl) (fun w' hw => qbj qc (hw.box 1 rfl) (j := 0) rfl rfl rfl) (h.pick [1, 2] rfl) rfl ?_
  refine qi 1 rfl #[tt, tt, ff, ff, ff, ff, ff] (by kernel_rfl) (by kernel_rfl) (fun w' hw => v_p qc rfl w') (h.pick [1, 2] rfl) rfl ?_
  refine qi 2 rfl #[tt, tt, tt, ff, ff, ff, ff] (by kernel_rfl) (by kernel_rfl) (fun w' hw => v_p qc rfl w') (h.pick [1, 2] rfl) rfl ?_
  obtain ⟨y3, hy3, hF⟩ := qd hF
  have he3 := qf hy3
  obtain ⟨b3, o_3, q3, cs4, hp3, hq3, -, hr10, hc7⟩ := (h.sl 1 rfl).1.at hy3
  obtain rfl := hr10
  refine qi 3 rfl #[tt, tt, tt, tt, ff, ff, ff] (by kernel_rfl) (by kernel_rfl) (fun w' hw => qeG qc hp3 hq3 ⟨he3.1, qY he3.2.1 (h.sl 1 rfl).2⟩ rfl rfl rfl rfl rfl rfl) (h.pick [1, 2] rfl) rfl ?_
  refine qi 4 rfl #[tt, tt, tt, tt, tt, ff, ff] (by kernel_rfl) (by kernel_rfl) (fun w' hw => qbj qc (qdn (w1 := w) (S1 := fun _ => False) hw 0 rfl hy3 hp3 hq3 rfl) (j := 0) rfl rfl rfl) (h.pick [1, 2] rfl) rfl ?_
  refine qax 5 rfl #[tt, tt, tt, tt, tt, tt, ff] (by kernel_rfl) (by kernel_rfl) ?_
  obtain ⟨r7, hr11, hF⟩ := qd hF
  refine qas r7 h call50 (qg5 (h.old ha1) hr11) rfl rfl rfl rfl ?_
  intro w11 S7 p9 k8 h
  refine qan (fun _ => (h.pick [2, 3] rfl)) ?_
  refine qi 6 rfl #[tt, tt, tt, tt, tt, tt, tt] (by kernel_rfl) (by kernel_rfl) (fun w' hw => v_p qc rfl w') (h.pick [2, 3] rfl) rfl ?_
  refine qdm (by kernel_rfl) ?_
  refine zSR (zp1 rfl (qb ?_))
  obtain ⟨o3, hF, hK3⟩ := qd hF
  refine qw (qP [(1, _), (2, _), (7, _), (9, _), (13, _), (14, _), (15, _)] ⟨rfl, rfl, rfl, rfl, rfl, rfl, rfl, trivial⟩ ?_)
  refine qF (fun m e w' => ∃ (x4 : (List Int)) (i3 : Int), qb9 r3 i2 r7 m x4 i3 = some o3 ∧ e = [(1, .int .i64 a_1), (2, .pointer (some ⟨bb1, 0, none⟩)), (7, .slice p6 r3.length k6), (9, .slice p7 x1.length x1.length), (13, .int .i64 i2), (14, .slice p9 r7.length k8), (15, .int .i64 i3)] ∧ SH w w' [Ch.own S7 (r7 : List Int) [.slice p9 r7.length k8], Ch.own S5 (x4 : List Int) [.slice p7 x1.length x1.length], Ch.own S2 (r3 : List Int) [.slice p6 r3.length k6], Ch.box bb1 [.slice p1 a_0.Library.Cells.length k1, .slice p2 a_0.Design.Instances.length k2, .slice p3 a_0.Design.Nets.length k3, .slice p4 a_0.Design.Ports.length k4, .slice p5 a_0.Wires.length k5] 48]) m2 ⟨_, _, hF, rfl, h⟩ ?_
  rintro m3 e3 w12 ⟨x4, i3, hF, rfl, h⟩
  rcases m3 with _ | m3
  ·rw [qb9] at hF
   cases hF
  rw [qb9] at hF
  refine zSSR (zp4 rfl (qb ?_))
  refine qu rfl hF ?_ ?_ <;> intro hF
  ·refine zKSBSR (zp2 rfl ?_)
   obtain ⟨y4, hy4, hF⟩ := qd hF
   have he4 := qf hy4
   obtain ⟨b4, o_4, q4, cs5, hp4, hq4, -, hr12, hc9⟩ := (h.sl 0 rfl).1.at hy4
   obtain rfl := hr12
   refine zx hp4 hq4 ⟨he4.1, qY he4.2.1 (h.sl 0 rfl).2⟩ rfl (zc 0 hc9 rfl (zp1 rfl (qb ?_)))
   refine qe5 [16] (fun w' => SH w w' [Ch.own S5 (x4 : List Int) [.slice p7 x1.length x1.length], Ch.own S2 (r3 : List Int) [.slice p6 r3.length k6]]) rfl 17 rfl #[ff, ff, ff, ff, ff, ff, ff, ff, ff, ff, ff, ff, ff, ff, ff, ff, ff] (by kernel_rfl) (fun w13 hb => ?_)
   replace h := h.ext hb
   clear hb
   refine qi 0 rfl #[tt, ff, ff, ff, ff, ff, ff, ff, ff, ff, ff, ff, ff, ff, ff, ff, ff] (by kernel_rfl) (by kernel_rfl) (fun w' hw => v_p qc rfl w') (h.pick [1, 2] rfl) rfl ?_
   refine qi 1 rfl #[tt, tt, ff, ff, ff, ff, ff, ff, ff, ff, ff, ff, ff, ff, ff, ff, ff] (by kernel_rfl) (by kernel_rfl) (fun w' hw => v_p qc rfl w') (h.pick [1, 2] rfl) rfl ?_
   refine qi 2 rfl #[tt, tt, tt, ff, ff, ff, ff, ff, ff, ff, ff, ff, ff, ff, ff, ff, ff] (by kernel_rfl) (by kernel_rfl) (fun w' hw => v_p qc rfl w') (h.pick [1, 2] rfl) rfl ?_
   refine qi 3 rfl #[tt, tt, tt, tt, ff, ff, ff, ff, ff, ff, ff, ff, ff, ff, ff, ff, ff] (by kernel_rfl) (by kernel_rfl) (fun w' hw => v_p qc rfl w') (h.pick [1, 2] rfl) rfl ?_
   obtain ⟨y5, hy5, hF⟩ := qd hF
   have he5 := qf hy5
   obtain ⟨b5, o_5, q5, cs6, hp5, hq5, -, hr13, hc10⟩ := (h.sl 1 rfl).1.at hy5
   obtain rfl := hr13
   refine qi 4 rfl #[tt, tt, tt, tt, tt, ff, ff, ff, ff, ff, ff, ff, ff, ff, ff, ff, ff] (by kernel_rfl) (by kernel_rfl) (fun w' hw => qeG qc hp5 hq5 ⟨he5.1, qY he5.2.1 (h.sl 1 rfl).2⟩ rfl rfl rfl rfl rfl rfl) (h.pick [1, 2] rfl) rfl ?_
   refine qi 5 rfl #[tt, tt, tt, tt, tt, tt, ff, ff, ff, ff, ff, ff, ff, ff, ff, ff, ff] (by kernel_rfl) (by kernel_rfl) (fun w' hw => qbj qc (qdn (w1 := w) (S1 := fun _ => False) hw 0 rfl hy5 hp5 hq5 rfl) (j := 0) rfl rfl rfl) (h.pick [1, 2] rfl) rfl ?_
   refine qi 6 rfl #[tt, tt, tt, tt, tt, tt, tt, ff, ff, ff, ff, ff, ff, ff, ff, ff, ff] (by kernel_rfl) (by kernel_rfl) (fun w' hw => v_p qc rfl w') (h.pick [1, 2] rfl) rfl ?_
   refine qi 7 rfl #[tt, tt, tt, tt, tt, tt, tt, tt, ff, ff, ff, ff, ff, ff, ff, ff, ff] (by kernel_rfl) (by kernel_rfl) (fun w' hw => v_p qc rfl w') (h.pick [1, 2] rfl) rfl ?_
   refine qi 8 rfl #[tt, tt, tt, tt, tt, tt, tt, tt, tt, ff, ff, ff, ff, ff, ff, ff, ff] (by kernel_rfl) (by kernel_rfl) (fun w' hw => v_p qc rfl w') (h.pick [1, 2] rfl) rfl ?_
   obtain ⟨y6, hy6, hF⟩ := qd hF
   have he6 := qf hy6
   obtain ⟨b6, o_6, q6, cs7, hp6, hq6, -, hr14, hc11⟩ := (h.sl 2 rfl).1.at hy6
   obtain rfl := hr14
   refine qi 9 rfl #[tt, tt, tt, tt, tt, tt, tt, tt, tt, tt, ff, ff, ff, ff, ff, ff, ff] (by kernel_rfl) (by kernel_rfl) (fun w' hw => qeG qc hp6 hq6 ⟨he6.1, qY he6.2.1 (h.sl 2 rfl).2⟩ rfl rfl rfl rfl rfl rfl) (h.pick [1, 2] rfl) rfl ?_
   refine qi 10 rfl #[tt, tt, tt, tt, tt, tt, tt, tt, tt, tt, tt, ff, ff, ff, ff, ff, ff] (by kernel_rfl) (by kernel_rfl) (fun w' hw => qbj qc (qdn (w1 := w) (S1 := fun _ => False) hw 1 rfl hy6 hp6 hq6 rfl) (j := 0) rfl rfl rfl) (h.pick [1, 2] rfl) rfl ?_
   obtain ⟨y7, hy7, hF⟩ := qd hF
   have he7 := qf hy7
   obtain ⟨b7, o_7, q7, cs8, hp7, hq7, -, hr15, hc12⟩ := (h.sl 1 rfl).1.at hy7
   obtain rfl := hr15
   refine qi 11 rfl #[tt, tt, tt, tt, tt, tt, tt, tt, tt, tt, tt, tt, ff, ff, ff, ff, ff] (by kernel_rfl) (by kernel_rfl) (fun w' hw => qeG qc hp7 hq7 ⟨he7.1, qY he7.2.1 (h.sl 1 rfl).2⟩ rfl rfl rfl rfl rfl rfl) (h.pick [1, 2] rfl) rfl ?_
   refine qi 12 rfl #[tt, tt, tt, tt, tt, tt, tt, tt, tt, tt, tt, tt, tt, ff, ff, ff, ff] (by kernel_rfl) (by kernel_rfl) (fun w' hw => qbj qc (qdn (w1 := w) (S1 := fun _ => False) hw 0 rfl hy7 hp7 hq7 rfl) (j := 0) rfl rfl rfl) (h.pick [1, 2] rfl) rfl ?_
   refine qi 13 rfl #[tt, tt, tt, tt, tt, tt, tt, tt, tt, tt, tt, tt, tt, tt, ff, ff, ff] (by kernel_rfl) (by kernel_rfl) (fun w' hw => v_p qc rfl w') (h.pick [1, 2] rfl) rfl ?_
   refine qi 14 rfl #[tt, tt, tt, tt, tt, tt, tt, tt, tt, tt, tt, tt, tt, tt, tt, ff, ff] (by kernel_rfl) (by kernel_rfl) (fun w' hw => v_p qc rfl w') (h.pick [1, 2] rfl) rfl ?_
   obtain ⟨y8, hy8, hF⟩ := qd hF
   have he8 := qf hy8
   obtain ⟨b8, o_8, q8, cs9, hp8, hq8, -, hr16, hc13⟩ := (h.sl 1 rfl).1.at hy8
   obtain rfl := hr16
   refine qi 15 rfl #[tt, tt, tt, tt, tt, tt, tt, tt, tt, tt, tt, tt, tt, tt, tt, tt, ff] (by kernel_rfl) (by kernel_rfl) (fun w' hw => qeG qc hp8 hq8 ⟨he8.1, qY he8.2.1 (h.sl 1 rfl).2⟩ rfl rfl rfl rfl rfl rfl) (h.pick [1, 2] rfl) rfl ?_
   refine qax 16 rfl #[tt, tt, tt, tt, tt, tt, tt, tt, tt, tt, tt, tt, tt, tt, tt, tt, tt] (by kernel_rfl) (by kernel_rfl) ?_
   refine qcH qc 1 0 (if (W64 (y5 + y7)) < 1000000 then (W64 (y5 + y7)) else 1000000) h rfl hy8 hp8 hq8 rfl hc13 rfl rfl rfl rfl rfl rfl rfl ?_
   intro w14 h
   refine qan (fun hs => absurd (hs 16 (by decide)) (by decide)) ?_
   refine qdm (by kernel_rfl) ?_
   exact qd1 (qA (zp3 rfl (qb (qx m3 [(1, _), (2, _), (7, _), (9, _), (13, _), (14, _), (15, _)] (Nat.lt_succ_self m3) ⟨rfl, rfl, rfl, rfl, rfl, rfl, rfl, trivial⟩ ⟨_, _, hF, rfl, h⟩))))
  refine qE rfl ?_
  obtain rfl := qh hF; replace hF := hK3
  refine qd1 (qA (zp3 rfl (qb ?_)))
  replace h := h.pick [1, 2, 3] rfl
  exact qx m2 [(1, _), (2, _), (7, _), (9, _), (13, _)] (Nat.lt_succ_self m2) ⟨rfl, rfl, rfl, rfl, rfl, trivial⟩ ⟨_, _, hF, rfl, h⟩
 refine qE rfl ?_
 obtain rfl := qh hF; replace hF := hK2
 refine zSR (zp2 rfl ?_)
 obtain ⟨y9, hy9, hF⟩ := qd hF
 have he9 := qf hy9
 obtain ⟨b9, o_9, q9, cs10, hp9, hq9, -, hr17, hc14⟩ := (h.sl 0 rfl).1.at hy9
 obtain rfl := hr17
 refine zx hp9 hq9 ⟨he9.1, qY he9.2.1 (h.sl 0 rfl).2⟩ rfl (zc 0 hc14 rfl (zp2 rfl (qb ?_)))
 obtain rfl := qh hF
 exact qae qc (ρ := (Int × Int)) [GoT.v Int [.int .i64 y9], GoT.v Int [.int .i64 0]] h ⟨rfl, rfl, trivial⟩ (PV.done h (qdr h (qaj (S := fun _ => False) rfl) (qaf (qaj (S := fun _ => False) rfl)) (by rfl)))

def qdI (_ : Nat) (list : (List Tplace)) : Option Int :=
 some (list.length : Int)

theorem qhZ {n : Nat} {w : World} {list : (List Tplace)} {cs1 : List Value} (ha1 : GoT.R w (old w) list cs1) {r : Int} (hF : qdI n list = some r) : RetV Tryz.prog 83 [GoT.v (List Tplace) cs1] w r := by
 obtain ⟨p1, k1, rfl, s1⟩ := ha1
 refine qe Tryz.func83 rfl (m := 5) rfl rfl (fun h => ?_)
 rw [qdI] at hF
 exact zSR (zp1 rfl (zNSR (zp3 rfl (qb (qaH qc h hF ⟨rfl, trivial⟩)))))

def qeo (n : Nat) (v : (Option Tview)) (place : Int) : Option Bool :=
 (v).bind fun y1 =>
 (qdI n y1.places).bind fun r1 =>
 (qba n place 0 (W64 (r1 - 1))).bind fun r2 =>
 some r2

theorem qjk {n : Nat} {w : World} {v : (Option Tview)} {place : Int} {cs1 : List Value} (ha1 : GoT.R w (old w) v cs1) {r : Bool} (hF : qeo n v place = some r) : RetV Tryz.prog 51 [GoT.v (Option Tview) cs1, .int .i64 place] w r := by
 obtain ⟨p1, rfl, s1⟩ := qiq ha1
 refine qe Tryz.func51 rfl (m := 13) rfl rfl (fun h => ?_)
 rw [qeo] at hF
 refine zSR (zp1 rfl (zNSR (zp2 rfl ?_)))
 obtain ⟨y1, hy1, hF⟩ := qd hF
 obtain ⟨b1, o_1, cs2, rfl, -, hr1, hc1⟩ := PtR.get s1 hy1
 obtain ⟨p2, k1, p3, k2, p4, k3, p5, k4, p6, k5, p7, k6, p8, k7, p9, k8, p10, k9, p11, k10, rfl, s2, s3, s4, s5, s6, s7, s8, s9, s10, s11⟩ := qhX hr1
 refine zp2 rfl (zc 5 (hc1.below h.below) rfl ?_)
 obtain ⟨r1, hr2, hF⟩ := qd hF
 refine qT r1 h call83 (qhZ ⟨_, _, rfl, (h.oldS s7)⟩ hr2) rfl rfl rfl rfl ?_
 intro w1 h
 refine zp1 rfl ?_
 obtain ⟨r2, hr3, hF⟩ := qd hF
 refine qp r2 h call100 (qaW hr3) rfl rfl rfl rfl ?_
 intro w2 h
 exact zp1 rfl (qb (qz qc h hF ⟨rfl, trivial⟩))

def qdq (n : Nat) (v : (Option Tview)) (p : Tplace) : Option Bool :=
 bif decide (p.instance_ < 0) then
  bif p.drives then
   some true
  else
   (qbJ n v p).bind fun r1 =>
   some r1
 else
  (qbJ n v p).bind fun r2 =>
  some r2

theorem qi3 {n : Nat} {w : World} {v : (Option Tview)} {p : Tplace} {cs1 : List Value} (ha1 : GoT.R w (old w) v cs1) {cs2 : List Value} (ha2 : GoT.R w (old w) p cs2) {r : Bool} (hF : qdq n v p = some r) : RetV Tryz.prog 52 [GoT.v (Option Tview) cs1, GoT.v Tplace cs2] w r := by
 obtain ⟨p1, rfl, s1⟩ := qiq ha1
 obtain rfl := qcj ha2
 refine qe Tryz.func52 rfl (m := 17) rfl rfl (fun h => ?_)
 rw [qdq] at hF
 refine zSR (qN h rfl rfl ?_)
 intro w1 bb1 h
 refine zp1 rfl (zNSR (zp1 rfl (zl 0 0 h rfl (zp2 rfl ?_))))
 by_cases hc1 : (decide (p.instance_ < 0)) = true
 ·replace hF := bifT hc1 hF
  refine qB hc1 (t := 8) rfl (qa rfl (zp1 rfl (qa rfl (zl 0 3 h rfl (zp2 rfl ?_)))))
  by_cases hc2 : p.drives = true
  ·replace hF := bifT hc2 hF
   exact qB hc2 (t := 12) rfl (zn3 rfl (zp2 rfl (qb (qz qc h hF ⟨rfl, trivial⟩))))
  replace hc2 := zb hc2
  replace hF := bifF hc2 hF
  refine qC hc2 (t := 12) rfl (qa rfl (zp1 rfl (qa rfl (zl 0 0 h rfl (qa rfl ?_)))))
  obtain ⟨r1, hr1, hF⟩ := qd hF
  refine qp r1 h call101 (qeC (h.old s1) (h.old ha2) hr1) rfl rfl rfl rfl ?_
  intro w2 h
  exact zp2 rfl (qb (qz qc h hF ⟨rfl, trivial⟩))
 replace hc1 := zb hc1
 replace hF := bifF hc1 hF
 refine qC hc1 (t := 8) rfl (zn2 rfl (zp2 rfl (qa rfl (zp1 rfl (qa rfl (zl 0 0 h rfl (qa rfl ?_)))))))
 obtain ⟨r2, hr2, hF⟩ := qd hF
 refine qp r2 h call101 (qeC (h.old s1) (h.old ha2) hr2) rfl rfl rfl rfl ?_
 intro w3 h
 exact zp2 rfl (qb (qz qc h hF ⟨rfl, trivial⟩))

def qca (y2 : Int) (r8 : (List Int)) : Nat → (List Int) → Int → Option ((List Int) × Int)
 | 0, _, _ => none
 | n + 1, x4, i2 =>
  bif decide (i2 < (r8.length : Int)) then
   (idx r8 i2).bind fun y4 =>
   (idx x4 y4).bind fun y5 =>
   (idx x4 y2).bind fun y6 =>
   (idx x4 y4).bind fun _ =>
   qca y2 r8 n (setS x4 y4 (if 1000000 < (W64 (y5 + y6)) then 1000000 else (W64 (y5 + y6)))) (W64 (i2 + 1))
  else
   some (x4, i2)

def qcg (r2 : (Option Tview)) (r5 : (List Int)) (y1 : Tview) : Nat → (List Int) → Int → Option ((List Int) × Int)
 | 0, _, _ => none
 | n + 1, x2, i1 =>
  bif decide (i1 < (r5.length : Int)) then
   (idx r5 i1).bind fun y2 =>
   (idx y1.places y2).bind fun y3 =>
   (qdq n r2 y3).bind fun r7 =>
   (
    bif r7 then
     (idx x2 y2).bind fun y8 =>
     (idx x2 y2).bind fun _ =>
     some (setS x2 y2 (if 1000000 < (W64 (y8 + 1)) then 1000000 else (W64 (y8 + 1))))
    else
     some x2).bind fun x3 =>
   (qbH n r2 y2).bind fun r8 =>
   (qca y2 r8 n x3 0).bind fun o => match o with
   | (x4, _) =>
    qcg r2 r5 y1 n x4 (W64 (i1 + 1))
  else
   some (x2, i1)

def qeb (n : Nat) (a_0 : ql) (a_1 : Int) : Option (Int × Int) :=
 (qgt n a_0).bind fun r1 =>
 bif (!r1) then
  some (0, 1)
 else
  (qgB n a_0).bind fun r2 =>
  (qeo n r2 a_1).bind fun r3 =>
  bif (!r3) then
   some (0, 2)
  else
   (qdF n r2).bind fun o => match o with
    | (r5, r6) =>
     bif (!r6) then
      some (0, 7)
     else
      (r2).bind fun y1 =>
      (mkS (y1.places.length : Int) (0 : Int)).bind fun x1 =>
      (qcg r2 r5 y1 n x1 0).bind fun o => match o with
      | (x2, _) =>
       (idx x2 a_1).bind fun y10 =>
       some (y10, 0)

theorem qk2 {n : Nat} {w : World} {a_0 : ql} {a_1 : Int} {cs1 : List Value} (ha1 : GoT.R w (old w) a_0 cs1) {r : (Int × Int)} (hF : qeb n a_0 a_1 = some r) : RetV Tryz.prog 19 [GoT.v ql cs1, .int .i64 a_1] w r := by
 obtain ⟨p1, k1, p2, k2, p3, k3, p4, k4, p5, k5, rfl, s1, s2, s3, s4, s5⟩ := qag ha1
 refine qe Tryz.func19 rfl (m := 87) rfl rfl (fun h => ?_)
 rw [qeb] at hF
 refine zSR (qN h rfl rfl ?_)
 intro w1 bb1 h
 refine zp2 rfl (zNSSR (zl 0 0 h rfl ?_))
 obtain ⟨r1, hr1, hF⟩ := qd hF
 refine qp r1 h call39 (qk4 (h.old ha1) hr1) rfl rfl rfl rfl ?_
 intro w2 h
 refine zp1 rfl (qb ?_)
 refine qu rfl hF ?_ ?_ <;> intro hF
 ·refine zSR (zp2 rfl (qb ?_))
  obtain rfl := qh hF
  exact qae qc (ρ := (Int × Int)) [GoT.v Int [.int .i64 0], GoT.v Int [.int .i64 1]] h ⟨rfl, rfl, trivial⟩ (PV.done h (qdr h (qaj (S := fun _ => False) rfl) (qaf (qaj (S := fun _ => False) rfl)) (by rfl)))
 refine zKSR (zl 0 0 h rfl ?_)
 have hg1 : Rg (old w) w (old w) w := .start (fun _ h => h)
 obtain ⟨r2, hr2, hF⟩ := qd hF
 refine qqT r2 hg1 h call40 (qk5 (hg1.regOld h) (hg1.inR h ha1) hr2) rfl rfl rfl rfl ?_
 intro w3 us1 B1 hg2 hu1 hz1 hv1
 have hb1 := h.below.trans (hu1.below.mono h.below.size)
 replace h := hz1
 obtain ⟨cs2, rfl, hr3⟩ := qlP hv1
 obtain ⟨p6, rfl, s6⟩ := qiq hr3
 refine zp1 rfl (zNSSR (zp2 rfl ?_))
 obtain ⟨r3, hr4, hF⟩ := qd hF
 refine qp r3 h call51 (qjk (h.old (GoT.mono s6 hg2.old)) hr4) rfl rfl rfl rfl ?_
 intro w4 h
 refine zp1 rfl (qb ?_)
 refine qu rfl hF ?_ ?_ <;> intro hF
 ·refine zSR (zp2 rfl (qb ?_))
  replace h := h.unbase hg2.below (show NoD [] from trivial)
  obtain rfl := qh hF
  exact qae qc (ρ := (Int × Int)) [GoT.v Int [.int .i64 0], GoT.v Int [.int .i64 2]] h ⟨rfl, rfl, trivial⟩ (PV.done h (qdr h (qaj (S := fun _ => False) rfl) (qaf (qaj (S := fun _ => False) rfl)) (by rfl)))
 refine zKSR (zp1 rfl ?_)
 obtain ⟨r4, hr5, hF⟩ := qd hF
 obtain ⟨r5, r6⟩ := r4
 refine qf7 (r5, r6) h call46 (qiD (h.old (GoT.mono s6 hg2.old)) hr5) rfl rfl rfl rfl ?_
 intro w5 S1 us2 hv2 hr6
 obtain ⟨S2, S3, p7, k6, us3, rfl, hv3, hr7⟩ := hv2.consL hr6
 obtain ⟨rfl, h⟩ := hv3.lastB hr7
 refine zp5 rfl (zNSSR (zp2 rfl (qb ?_)))
 refine qu rfl hF ?_ ?_ <;> intro hF
 ·refine zSR (zp2 rfl (qb ?_))
  replace h := h.unbase hg2.below ⟨fun _ h => h, trivial⟩
  obtain rfl := qh hF
  exact qae qc (ρ := (Int × Int)) [GoT.v Int [.int .i64 0], GoT.v Int [.int .i64 7]] h ⟨rfl, rfl, trivial⟩ (PV.done h (qdr h (qaj (S := fun _ => False) rfl) (qaf (qaj (S := fun _ => False) rfl)) (by rfl)))
 refine zKSR (zp1 rfl ?_)
 obtain ⟨y1, hy1, hF⟩ := qd hF
 obtain ⟨b1, o_1, cs3, rfl, -, hr9, hc4⟩ := PtR.get s6 hy1
 obtain ⟨p8, k7, p9, k8, p10, k9, p11, k10, p12, k11, p13, k12, p14, k13, p15, k14, p16, k15, p17, k16, rfl, s7, s8, s9, s10, s11, s12, s13, s14, s15, s16⟩ := qhX hr9
 refine zp2 rfl (zc 5 (hc4.below h.below) rfl (zp1 rfl ?_))
 obtain ⟨x1, hx1, hF⟩ := qd hF
 obtain ⟨g1, g2, hx1⟩ := qcn hx1
 refine qdo qc Int h rfl rfl rfl rfl rfl rfl rfl rfl rfl g1 g2 hx1 rfl ?_
 intro w6 S5 p18 h
 refine zp1 rfl (zNSSR (zp3 rfl (qb ?_)))
 obtain ⟨o1, hF, hK1⟩ := qd hF
 refine qw (qP [(1, _), (6, _), (9, _), (36, _), (37, _), (38, _)] ⟨rfl, rfl, rfl, rfl, rfl, rfl, trivial⟩ ?_)
 refine qF (fun m e w' => ∃ (x2 : (List Int)) (i1 : Int), qcg r2 r5 y1 m x2 i1 = some o1 ∧ e = [(1, .int .i64 a_1), (6, .pointer (some ⟨b1, o_1, none⟩)), (9, .slice p18 x1.length x1.length), (36, .slice p7 r5.length k6), (37, .int .i64 (r5.length : Int)), (38, .int .i64 i1)] ∧ SH w3 w' [Ch.own S5 (x2 : List Int) [.slice p18 x1.length x1.length], Ch.own S2 (r5 : List Int) [.slice p7 r5.length k6]]) n ⟨_, _, hF, rfl, h⟩ ?_
 rintro m1 e1 w7 ⟨x2, i1, hF, rfl, h⟩
 rcases m1 with _ | m1
 ·rw [qcg] at hF
  cases hF
 rw [qcg] at hF
 refine zSR (zp1 rfl (zNS ?_))
 refine qu rfl hF ?_ ?_ <;> intro hF
 ·refine zKSBSR ?_
  obtain ⟨y2, hy2, hF⟩ := qd hF
  have he1 := qf hy2
  obtain ⟨b2, o_2, q1, cs4, hp1, hq1, -, hr10, hc6⟩ := (h.sl 1 rfl).1.at hy2
  obtain rfl := hr10
  refine zx hp1 hq1 ⟨he1.1, qY he1.2.1 (h.sl 1 rfl).2⟩ rfl (zc 0 hc6 rfl (zp1 rfl (zNSSR (zp4 rfl (zc 5 (hc4.below h.below) rfl ?_)))))
  refine zp1 rfl ?_
  obtain ⟨y3, hy3, hF⟩ := qd hF
  have he2 := qf hy3
  obtain ⟨b3, o_3, q2, cs5, hp2, hq2, -, hr11, hc7⟩ := s12.at hy3
  obtain rfl := qcj hr11
  refine zxe hp2 hq2 he2 rfl (zc 0 (hc7.below h.below) rfl ?_)
  obtain ⟨r7, hr12, hF⟩ := qd hF
  refine qp r7 h call52 (qi3 (h.old (GoT.mono s6 hg2.old)) (qga y3) hr12) rfl rfl rfl rfl ?_
  intro w8 h
  refine qb ?_
  obtain ⟨KF1, hKF1, o3, hF, hK3⟩ := bindE hF
  refine qek (fun e w' => ∃ (x3 : (List Int)), KF1 x3 = some o1 ∧ e = [(1, .int .i64 a_1), (6, .pointer (some ⟨b1, o_1, none⟩)), (9, .slice p18 x1.length x1.length), (11, .int .i64 y2), (36, .slice p7 r5.length k6), (37, .int .i64 (r5.length : Int)), (38, .int .i64 i1)] ∧ SH w3 w' [Ch.own S5 (x3 : List Int) [.slice p18 x1.length x1.length], Ch.own S2 (r5 : List Int) [.slice p7 r5.length k6]]) ?_ ?_
  ·refine qu rfl hF ?_ ?_ <;> intro hF
   ·refine qA (zp4 rfl ?_)
    obtain ⟨y8, hy8, hF⟩ := qd hF
    have he7 := qf hy8
    obtain ⟨b8, o_8, q7, cs10, hp7, hq7, -, hr18, hc14⟩ := (h.sl 0 rfl).1.at hy8
    obtain rfl := hr18
    refine zx hp7 hq7 ⟨he7.1, qY he7.2.1 (h.sl 0 rfl).2⟩ rfl (zc 0 hc14 rfl (zp2 rfl ?_))
    obtain ⟨y9, hy9, hF⟩ := qd hF
    have he8 := qf hy9
    obtain ⟨b9, o_9, q8, cs11, hp8, hq8, -, hr19, hc15⟩ := (h.sl 0 rfl).1.at hy9
    obtain rfl := hr19
    refine zx hp8 hq8 ⟨he8.1, qY he8.2.1 (h.sl 0 rfl).2⟩ rfl (qcH qc 0 0 (if 1000000 < (W64 (y8 + 1)) then 1000000 else (W64 (y8 + 1))) h rfl hy9 hp8 hq8 rfl hc15 rfl rfl rfl rfl rfl rfl rfl ?_)
    intro w13 h
    refine qb ?_
    obtain rfl := qh hF
    exact qy [(1, _), (6, _), (9, _), (11, _), (36, _), (37, _), (38, _)] ⟨rfl, rfl, rfl, rfl, rfl, rfl, rfl, trivial⟩ ⟨_, hK3, rfl, h⟩
   refine qeq ?_
   obtain rfl := qh hF
   exact qy [(1, _), (6, _), (9, _), (11, _), (36, _), (37, _), (38, _)] ⟨rfl, rfl, rfl, rfl, rfl, rfl, rfl, trivial⟩ ⟨_, hK3, rfl, h⟩
  rintro e3 w14 ⟨x3, hF, rfl, h⟩
  subst hKF1
  refine zSR (zp2 rfl ?_)
  obtain ⟨r8, hr13, hF⟩ := qd hF
  refine qas r8 h call53 (qeF (h.old (GoT.mono s6 hg2.old)) hr13) rfl rfl rfl rfl ?_
  intro w9 S6 p19 k17 h
  refine zp2 rfl (qb ?_)
  obtain ⟨o2, hF, hK2⟩ := qd hF
  refine qw (qP [(1, _), (6, _), (9, _), (11, _), (36, _), (37, _), (38, _), (62, _), (63, _), (64, _)] ⟨rfl, rfl, rfl, rfl, rfl, rfl, rfl, rfl, rfl, rfl, trivial⟩ ?_)
  refine qF (fun m e w' => ∃ (x4 : (List Int)) (i2 : Int), qca y2 r8 m x4 i2 = some o2 ∧ e = [(1, .int .i64 a_1), (6, .pointer (some ⟨b1, o_1, none⟩)), (9, .slice p18 x1.length x1.length), (11, .int .i64 y2), (36, .slice p7 r5.length k6), (37, .int .i64 (r5.length : Int)), (38, .int .i64 i1), (62, .slice p19 r8.length k17), (63, .int .i64 (r8.length : Int)), (64, .int .i64 i2)] ∧ SH w3 w' [Ch.own S6 (r8 : List Int) [.slice p19 r8.length k17], Ch.own S5 (x4 : List Int) [.slice p18 x1.length x1.length], Ch.own S2 (r5 : List Int) [.slice p7 r5.length k6]]) m1 ⟨_, _, hF, rfl, h⟩ ?_
  rintro m2 e2 w10 ⟨x4, i2, hF, rfl, h⟩
  rcases m2 with _ | m2
  ·rw [qca] at hF
   cases hF
  rw [qca] at hF
  refine zSR (zp1 rfl (zNS ?_))
  refine qu rfl hF ?_ ?_ <;> intro hF
  ·refine zKSBSR ?_
   obtain ⟨y4, hy4, hF⟩ := qd hF
   have he3 := qf hy4
   obtain ⟨b4, o_4, q3, cs6, hp3, hq3, -, hr14, hc9⟩ := (h.sl 0 rfl).1.at hy4
   obtain rfl := hr14
   refine zx hp3 hq3 ⟨he3.1, qY he3.2.1 (h.sl 0 rfl).2⟩ rfl (zc 0 hc9 rfl (zp1 rfl (qb ?_)))
   refine qe5 [13] (fun w' => SH w3 w' [Ch.own S5 (x4 : List Int) [.slice p18 x1.length x1.length]]) rfl 14 rfl #[ff, ff, ff, ff, ff, ff, ff, ff, ff, ff, ff, ff, ff, ff] (by kernel_rfl) (fun w11 hb => ?_)
   replace h := h.ext hb
   clear hb
   refine qi 0 rfl #[tt, ff, ff, ff, ff, ff, ff, ff, ff, ff, ff, ff, ff, ff] (by kernel_rfl) (by kernel_rfl) (fun w' hw => v_p qc rfl w') (h.pick [1] rfl) rfl ?_
   refine qi 1 rfl #[tt, tt, ff, ff, ff, ff, ff, ff, ff, ff, ff, ff, ff, ff] (by kernel_rfl) (by kernel_rfl) (fun w' hw => v_p qc rfl w') (h.pick [1] rfl) rfl ?_
   refine qi 2 rfl #[tt, tt, tt, ff, ff, ff, ff, ff, ff, ff, ff, ff, ff, ff] (by kernel_rfl) (by kernel_rfl) (fun w' hw => v_p qc rfl w') (h.pick [1] rfl) rfl ?_
   refine qi 3 rfl #[tt, tt, tt, tt, ff, ff, ff, ff, ff, ff, ff, ff, ff, ff] (by kernel_rfl) (by kernel_rfl) (fun w' hw => v_p qc rfl w') (h.pick [1] rfl) rfl ?_
   obtain ⟨y5, hy5, hF⟩ := qd hF
   have he4 := qf hy5
   obtain ⟨b5, o_5, q4, cs7, hp4, hq4, -, hr15, hc10⟩ := (h.sl 1 rfl).1.at hy5
   obtain rfl := hr15
   refine qi 4 rfl #[tt, tt, tt, tt, tt, ff, ff, ff, ff, ff, ff, ff, ff, ff] (by kernel_rfl) (by kernel_rfl) (fun w' hw => qeG qc hp4 hq4 ⟨he4.1, qY he4.2.1 (h.sl 1 rfl).2⟩ rfl rfl rfl rfl rfl rfl) (h.pick [1] rfl) rfl ?_
   refine qi 5 rfl #[tt, tt, tt, tt, tt, tt, ff, ff, ff, ff, ff, ff, ff, ff] (by kernel_rfl) (by kernel_rfl) (fun w' hw => qbj qc (qdn (w1 := w) (S1 := fun _ => False) hw 0 rfl hy5 hp4 hq4 rfl) (j := 0) rfl rfl rfl) (h.pick [1] rfl) rfl ?_
   refine qi 6 rfl #[tt, tt, tt, tt, tt, tt, tt, ff, ff, ff, ff, ff, ff, ff] (by kernel_rfl) (by kernel_rfl) (fun w' hw => v_p qc rfl w') (h.pick [1] rfl) rfl ?_
   refine qi 7 rfl #[tt, tt, tt, tt, tt, tt, tt, tt, ff, ff, ff, ff, ff, ff] (by kernel_rfl) (by kernel_rfl) (fun w' hw => v_p qc rfl w') (h.pick [1] rfl) rfl ?_
   obtain ⟨y6, hy6, hF⟩ := qd hF
   have he5 := qf hy6
   obtain ⟨b6, o_6, q5, cs8, hp5, hq5, -, hr16, hc11⟩ := (h.sl 1 rfl).1.at hy6
   obtain rfl := hr16
   refine qi 8 rfl #[tt, tt, tt, tt, tt, tt, tt, tt, tt, ff, ff, ff, ff, ff] (by kernel_rfl) (by kernel_rfl) (fun w' hw => qeG qc hp5 hq5 ⟨he5.1, qY he5.2.1 (h.sl 1 rfl).2⟩ rfl rfl rfl rfl rfl rfl) (h.pick [1] rfl) rfl ?_
   refine qi 9 rfl #[tt, tt, tt, tt, tt, tt, tt, tt, tt, tt, ff, ff, ff, ff] (by kernel_rfl) (by kernel_rfl) (fun w' hw => qbj qc (qdn (w1 := w) (S1 := fun _ => False) hw 0 rfl hy6 hp5 hq5 rfl) (j := 0) rfl rfl rfl) (h.pick [1] rfl) rfl ?_
   refine qi 10 rfl #[tt, tt, tt, tt, tt, tt, tt, tt, tt, tt, tt, ff, ff, ff] (by kernel_rfl) (by kernel_rfl) (fun w' hw => v_p qc rfl w') (h.pick [1] rfl) rfl ?_
   refine qi 11 rfl #[tt, tt, tt, tt, tt, tt, tt, tt, tt, tt, tt, tt, ff, ff] (by kernel_rfl) (by kernel_rfl) (fun w' hw => v_p qc rfl w') (h.pick [1] rfl) rfl ?_
   obtain ⟨y7, hy7, hF⟩ := qd hF
   have he6 := qf hy7
   obtain ⟨b7, o_7, q6, cs9, hp6, hq6, -, hr17, hc12⟩ := (h.sl 1 rfl).1.at hy7
   obtain rfl := hr17
   refine qi 12 rfl #[tt, tt, tt, tt, tt, tt, tt, tt, tt, tt, tt, tt, tt, ff] (by kernel_rfl) (by kernel_rfl) (fun w' hw => qeG qc hp6 hq6 ⟨he6.1, qY he6.2.1 (h.sl 1 rfl).2⟩ rfl rfl rfl rfl rfl rfl) (h.pick [1] rfl) rfl ?_
   refine qax 13 rfl #[tt, tt, tt, tt, tt, tt, tt, tt, tt, tt, tt, tt, tt, tt] (by kernel_rfl) (by kernel_rfl) ?_
   refine qcH qc 1 0 (if 1000000 < (W64 (y5 + y6)) then 1000000 else (W64 (y5 + y6))) h rfl hy7 hp6 hq6 rfl hc12 rfl rfl rfl rfl rfl rfl rfl ?_
   intro w12 h
   refine qan (fun hs => absurd (hs 13 (by decide)) (by decide)) ?_
   refine qdm (by kernel_rfl) ?_
   exact qd1 (qA (zp2 rfl (qb (qx m2 [(1, _), (6, _), (9, _), (11, _), (36, _), (37, _), (38, _), (62, _), (63, _), (64, _)] (Nat.lt_succ_self m2) ⟨rfl, rfl, rfl, rfl, rfl, rfl, rfl, rfl, rfl, rfl, trivial⟩ ⟨_, _, hF, rfl, h⟩))))
  refine qE rfl ?_
  obtain rfl := qh hF; replace hF := hK2
  refine qd1 (qA (zp2 rfl (qb ?_)))
  replace h := h.pick [1, 2] rfl
  exact qx m1 [(1, _), (6, _), (9, _), (36, _), (37, _), (38, _)] (Nat.lt_succ_self m1) ⟨rfl, rfl, rfl, rfl, rfl, rfl, trivial⟩ ⟨_, _, hF, rfl, h⟩
 refine qE rfl ?_
 obtain rfl := qh hF; replace hF := hK1
 refine zSR (zp2 rfl ?_)
 obtain ⟨y10, hy10, hF⟩ := qd hF
 have he9 := qf hy10
 obtain ⟨b10, o_10, q9, cs12, hp9, hq9, -, hr20, hc16⟩ := (h.sl 0 rfl).1.at hy10
 obtain rfl := hr20
 refine zx hp9 hq9 ⟨he9.1, qY he9.2.1 (h.sl 0 rfl).2⟩ rfl (zc 0 hc16 rfl (zp2 rfl (qb ?_)))
 replace h := h.unbase hg2.below ⟨fun _ h => h, ⟨fun _ h => h, trivial⟩⟩
 obtain rfl := qh hF
 exact qae qc (ρ := (Int × Int)) [GoT.v Int [.int .i64 y10], GoT.v Int [.int .i64 0]] h ⟨rfl, rfl, trivial⟩ (PV.done h (qdr h (qaj (S := fun _ => False) rfl) (qaf (qaj (S := fun _ => False) rfl)) (by rfl)))

def qex (n : Nat) (aB : ql) (aPlace : Int) : Option Bool :=
 (qgy n aB 1048576).bind fun r1 =>
 bif decide (r1 < 0) then
  some true
 else
  (qeT n aB).bind fun r2 =>
  (qef n r2 aPlace).bind fun o => match o with
   | (r4, r5) =>
    (qeT n aB).bind fun r6 =>
    (qeb n r6 aPlace).bind fun o => match o with
     | (r8, r9) =>
      (
       bif (r8 != r4) then
        some true
       else
        some (r9 != r5)).bind fun b1 =>
      bif b1 then
       some false
      else
       (qeT n aB).bind fun r10 =>
       (qgN n r6 r10).bind fun r11 =>
       bif (!r11) then
        some false
       else
        some true

theorem qiG {n : Nat} {w : World} {aB : ql} {aPlace : Int} {cs1 : List Value} (ha1 : GoT.R w (old w) aB cs1) {r : Bool} (hF : qex n aB aPlace = some r) : RetV Tryz.prog 5 [GoT.v ql cs1, .int .i64 aPlace] w r := by
 obtain ⟨p1, k1, p2, k2, p3, k3, p4, k4, p5, k5, rfl, s1, s2, s3, s4, s5⟩ := qag ha1
 refine qe Tryz.func5 rfl (m := 44) rfl rfl (fun h => ?_)
 rw [qex] at hF
 refine zSR (qN h rfl rfl ?_)
 intro w1 bb1 h
 refine zp1 rfl (zNSR (zp1 rfl (zNSR (zl 0 0 h rfl (zp1 rfl ?_)))))
 obtain ⟨r1, hr1, hF⟩ := qd hF
 refine qT r1 h call8 (qkW (h.old ha1) hr1) rfl rfl rfl rfl ?_
 intro w2 h
 refine zp1 rfl (zNSSR (zp2 rfl (qb ?_)))
 refine qu rfl hF ?_ ?_ <;> intro hF
 ·exact zSR (zp1 rfl (qb (qz qc h hF ⟨rfl, trivial⟩)))
 refine zKSR (zl 0 0 h rfl ?_)
 obtain ⟨r2, hr2, hF⟩ := qd hF
 refine qf5 r2 h call11 (qhq (h.old ha1) hr2) rfl rfl rfl rfl ?_
 intro w3 S1 cs2 h
 obtain ⟨p6, k6, p7, k7, p8, k8, p9, k9, p10, k10, rfl, -, -, -, -, -⟩ := qag (h.own 0 rfl)
 refine zp1 rfl ?_
 obtain ⟨r3, hr3, hF⟩ := qd hF
 obtain ⟨r4, r5⟩ := r3
 refine qf7 (r4, r5) h call18 (qkO (h.own 0 rfl) hr3) rfl rfl rfl rfl ?_
 intro w4 S2 us1 hv1 hr4
 obtain ⟨S3, us2, rfl, hv2, hr5⟩ := hv1.consI hr4
 obtain ⟨rfl, h⟩ := hv2.lastI hr5
 refine zp5 rfl (zNSR (zl 1 0 h rfl ?_))
 obtain ⟨r6, hr7, hF⟩ := qd hF
 refine qf5 r6 h call11 (qhq (h.old ha1) hr7) rfl rfl rfl rfl ?_
 intro w5 S5 cs3 h
 obtain ⟨p11, k11, p12, k12, p13, k13, p14, k14, p15, k15, rfl, -, -, -, -, -⟩ := qag (h.own 0 rfl)
 refine qW qc h rfl rfl rfl ?_
 intro w6 bb2 h
 refine zs 0 h rfl ?_
 intro w7 h
 refine zNSR (zl 0 0 h rfl (zp1 rfl ?_))
 obtain ⟨r7, hr8, hF⟩ := qd hF
 obtain ⟨r8, r9⟩ := r7
 refine qf7 (r8, r9) h call19 (qk2 (h.own 1 rfl) hr8) rfl rfl rfl rfl ?_
 intro w8 S6 us3 hv4 hr9
 obtain ⟨S7, us4, rfl, hv5, hr10⟩ := hv4.consI hr9
 obtain ⟨rfl, h⟩ := hv5.lastI hr10
 refine zp5 rfl (zNSS ?_)
 obtain ⟨KF1, hKF1, o1, hF, hK1⟩ := bindE hF
 refine qek (fun e w' => ∃ (b1 : Bool), KF1 b1 = some r ∧ e = [(2, .pointer (some ⟨bb1, 0, none⟩)), (8, .pointer (some ⟨bb2, 0, none⟩)), (38, .bool b1)] ∧ SH w w' [Ch.box bb2 [.slice p11 r6.Library.Cells.length k11, .slice p12 r6.Design.Instances.length k12, .slice p13 r6.Design.Nets.length k13, .slice p14 r6.Design.Ports.length k14, .slice p15 r6.Wires.length k15] 48, Ch.own S5 (r6 : ql) [.slice p11 r6.Library.Cells.length k11, .slice p12 r6.Design.Instances.length k12, .slice p13 r6.Design.Nets.length k13, .slice p14 r6.Design.Ports.length k14, .slice p15 r6.Wires.length k15], Ch.box bb1 [.slice p1 aB.Library.Cells.length k1, .slice p2 aB.Design.Instances.length k2, .slice p3 aB.Design.Nets.length k3, .slice p4 aB.Design.Ports.length k4, .slice p5 aB.Wires.length k5] 32]) ?_ ?_
 ·refine qA (zp4 rfl ?_)
  by_cases hc4 : (r8 != r4) = true
  ·replace hF := bifT hc4 hF
   refine qB hc4 (t := 34) rfl (zn3 rfl (zp1 rfl (qb ?_)))
   replace h := h.pick [0, 1, 3] rfl
   obtain rfl := qh hF
   exact qy [(2, _), (8, _), (38, _)] ⟨rfl, rfl, rfl, trivial⟩ ⟨_, hK1, rfl, h⟩
  replace hc4 := zb hc4
  replace hF := bifF hc4 hF
  refine qC hc4 (t := 34) rfl (qa rfl (zp1 rfl (qa rfl (zp1 rfl (qa rfl (zp2 rfl (qb ?_)))))))
  replace h := h.pick [0, 1, 3] rfl
  obtain rfl := qh hF
  exact qy [(2, _), (8, _), (38, _)] ⟨rfl, rfl, rfl, trivial⟩ ⟨_, hK1, rfl, h⟩
 rintro e1 w12 ⟨b1, hF, rfl, h⟩
 subst hKF1
 refine qu rfl hF ?_ ?_ <;> intro hF
 ·exact zSR (zp1 rfl (qb (qz qc h hF ⟨rfl, trivial⟩)))
 refine zKSS ?_
 refine qe5 [] (fun w' => SH w w' [Ch.box bb2 [.slice p11 r6.Library.Cells.length k11, .slice p12 r6.Design.Instances.length k12, .slice p13 r6.Design.Nets.length k13, .slice p14 r6.Design.Ports.length k14, .slice p15 r6.Wires.length k15] 48, Ch.box bb1 [.slice p1 aB.Library.Cells.length k1, .slice p2 aB.Design.Instances.length k2, .slice p3 aB.Design.Nets.length k3, .slice p4 aB.Design.Ports.length k4, .slice p5 aB.Wires.length k5] 32]) rfl 5 rfl #[ff, ff, ff, ff, ff] (by kernel_rfl) (fun w9 hb => ?_)
 replace h := h.ext hb
 clear hb
 refine qi 0 rfl #[tt, ff, ff, ff, ff] (by kernel_rfl) (by kernel_rfl) (fun w' hw => qbj qc (hw.box 0 rfl) (j := 0) rfl rfl rfl) (h.pick [0, 2] rfl) rfl ?_
 refine qi 1 rfl #[tt, tt, ff, ff, ff] (by kernel_rfl) (by kernel_rfl) (fun w' hw => qbj qc (hw.box 1 rfl) (j := 0) rfl rfl rfl) (h.pick [0, 2] rfl) rfl ?_
 refine qax 2 rfl #[tt, tt, tt, ff, ff] (by kernel_rfl) (by kernel_rfl) ?_
 obtain ⟨r10, hr12, hF⟩ := qd hF
 refine qf5 r10 h call11 (qhq (h.old ha1) hr12) rfl rfl rfl rfl ?_
 intro w10 S9 cs4 h
 obtain ⟨p16, k16, p17, k17, p18, k18, p19, k19, p20, k20, rfl, -, -, -, -, -⟩ := qag (h.own 0 rfl)
 refine qan (fun _ => (h.pick [1, 3] rfl)) ?_
 refine qax 3 rfl #[tt, tt, tt, tt, ff] (by kernel_rfl) (by kernel_rfl) ?_
 obtain ⟨r11, hr13, hF⟩ := qd hF
 refine qp r11 h call14 (qkN (h.own 2 rfl) (h.own 0 rfl) hr13) rfl rfl rfl rfl ?_
 intro w11 h
 refine qan (fun _ => (h.pick [1, 3] rfl)) ?_
 refine qi 4 rfl #[tt, tt, tt, tt, tt] (by kernel_rfl) (by kernel_rfl) (fun w' hw => v_p qc rfl w') (h.pick [1, 3] rfl) rfl ?_
 refine qdm (by kernel_rfl) ?_
 refine qu rfl hF ?_ ?_ <;> intro hF
 ·exact zSR (zp1 rfl (qb (qz qc h hF ⟨rfl, trivial⟩)))
 exact zKSR (zp1 rfl (qb (qz qc h hF ⟨rfl, trivial⟩)))

end Go.Fw


namespace Go.Fw
open Go
set_option maxRecDepth 100000

def startB (b : ql) (p : Tplace) : Bool := bif decide (p.instance_ < 0) then p.drives || clkB b p else clkB b p
def startN (b : ql) (j : Nat) : List Nat := selN (fun i => startB b (gt (places b.Design) i)) j
def stC (b : ql) (k : Nat) : Nat := if startB b (gt (places b.Design) k) = true then 1 else 0

theorem qnT {b : ql} (hok : qep b) (h : blockB b = true) : Ev (fun n => qfx n b) (ints (startN b (npl b))) := by
  have hl : npl b ≤ 78 := qaA (qS (qal h))
  have hL : Ev (fun n => qbi b n ([] : List Int) 0) (ints (startN b (npl b)), (npl b : Int)) := by
    refine qoE (Lf := qbi b) (q := fun i => startB b (gt (places b.Design) i)) (len := npl b) (by omega) (Ev.succ ?_) (fun j hj t ht X h1 h2 => ?_)
    · simp only [qbi]
      exact Ev.bind (qgK h) (Ev.ff (qt (Nat.le_refl _)) .done)
    · simp only [qbi, qm (show j < 9223372036854775807 by omega), ht, Option.bind_some]
      refine Ev.bind (qgK h) (Ev.tt (qq hj) (Ev.bind (qj1 hok h hj) ?_))
      refine Ev.bind (b := startB b (gt (places b.Design) j)) ?_ ?_
      · unfold startB
        refine Ev.iff (fun h0 => ?_) (fun _ => Ev.last (qja hok h hj))
        rcases qeP hj with ⟨i, k, hi, hk, ej, e⟩ | ⟨i, hi, _, e⟩
        · rw [e] at h0
          exact absurd h0 (by show ¬ decide ((i : Int) < 0) = true; simp)
        · have hc := qja hok h hj
          rw [e] at hc ⊢
          rw [show (toSp (place2 b.Design i)).pin = (i : Int) from rfl, qam hi]
          simp only [Option.bind_some]
          rw [show (place2 b.Design i).drives = ((gt b.Design.Ports i).Dir == 1) from rfl]
          cases ((gt b.Design.Ports i).Dir == 1)
          · exact Ev.last hc
          · exact .done
      · cases hq : startB b (gt (places b.Design) j)
        · exact h2 hq
        · exact h1 hq
  unfold qfx
  exact Ev.bind hL .done

theorem qoe {b : ql} {V : Tview} {j : Nat} (h : blockB b = true) (hV : V.Block = b) (hj : j < npl b) : Ev (fun n => qdq n (some V) (gt (places b.Design) j)) (startB b (gt (places b.Design) j)) := by
  refine ⟨0, fun n _ => ?_⟩
  show qdq n (some V) _ = some _
  unfold qdq startB
  rw [qjI (V := V) h hV hj]
  cases decide ((gt (places b.Design) j).instance_ < 0) <;> cases (gt (places b.Design) j).drives <;> rfl

/-- What a node hands on to its successors. -/
def handC (b : ql) (u : Nat) (c : Nat → Nat) (t j : Nat) : Nat := min 1000000 (c j + ((succL b u).take t).count (j : Int) * c u)
theorem qll {b : ql} {u t k : Nat} {c : Nat → Nat} (hx : (succL b u)[t]? = some (k : Int)) : setS (vecI (fun j => (handC b u c t j : Int)) (npl b)) (k : Int) ((min 1000000 (handC b u c t k + c u) : Nat) : Int) = vecI (fun j => (handC b u c (t + 1) j : Int)) (npl b) := by
  rw [qik]
  refine qdA (fun j _ => ?_)
  unfold handC
  rw [qlX hx]
  by_cases h : j = k
  · subst h
    rw [if_pos rfl, if_pos rfl, Nat.add_mul]
    omega
  · rw [if_neg h, if_neg h, Nat.add_zero]
theorem qls {b : ql} {u t : Nat} {c : Nat → Nat} (hn : (succL b u).count (u : Int) = 0) (hc : c u ≤ 1000000) : handC b u c t u = c u := by
  unfold handC
  have : ((succL b u).take t).count (u : Int) = 0 := by have := qpX (xs := succL b u) (j := t) (i := u); omega
  rw [this]; omega
theorem qlD {b : ql} {u : Nat} {c : Nat → Nat} (hc : ∀ j, j < npl b → c j ≤ 1000000) : vecI (fun j => (handC b u c 0 j : Int)) (npl b) = vecI (fun j => (c j : Int)) (npl b) := by
  refine qdA (fun j hj => ?_)
  have := hc j hj
  unfold handC
  rw [List.take_zero, List.count_nil, Nat.zero_mul]; omega

theorem qpU {b : ql} (h : blockB b = true) {out : List Nat} {i : Nat} {c : Nat → Nat} (hi : i < out.length) (hu : out[i] < npl b) (hn : (succL b out[i]).count (out[i] : Int) = 0) (hc : ∀ j, j < npl b → c j ≤ 1000000) :
    Ev (fun n => qb9 (ints out) (i : Int) (succL b out[i]) n (vecI (fun j => (c j : Int)) (npl b)) 0) (vecI (fun j => (handC b out[i] c (succL b out[i]).length j : Int)) (npl b), ((succL b out[i]).length : Int)) := by
  rw [← qlD (u := out[i]) hc]
  have hS := qgd h (j := out[i])
  refine loopF (Lf := qb9 (ints out) (i : Int) (succL b out[i])) (S := fun t => vecI (fun j => (handC b out[i] c t j : Int)) (npl b)) (len := (succL b out[i]).length) (fun n => ?_) (fun t ht X hX => ?_)
  · simp only [qb9, qt (Nat.le_refl _), cond_false]
  · obtain ⟨k, hk, e1, e2⟩ := (qgk h hu).at ht
    have hle : handC b out[i] c t k ≤ 1000000 := by unfold handC; omega
    have hcu := hc _ hu
    simp only [qb9, qq ht, cond_true, e1, Option.bind_some, qdP hk, qkk hi, qdP hu, qls hn hcu, qm (show t < 9223372036854775807 by omega)]
    rw [qdQ (by omega) (by omega)]
    have e3 : (if (handC b out[i] c t k : Int) + (c out[i] : Int) < 1000000 then (handC b out[i] c t k : Int) + (c out[i] : Int) else 1000000) = ((min 1000000 (handC b out[i] c t k + c out[i]) : Nat) : Int) := by
      split <;> omega
    rw [e3, qll e2]
    exact hX

theorem qpD {b : ql} (h : blockB b = true) {u : Nat} {c : Nat → Nat} (hu : u < npl b) (hn : (succL b u).count (u : Int) = 0) (hc : ∀ j, j < npl b → c j ≤ 1000000) :
    Ev (fun n => qca (u : Int) (succL b u) n (vecI (fun j => (c j : Int)) (npl b)) 0) (vecI (fun j => (handC b u c (succL b u).length j : Int)) (npl b), ((succL b u).length : Int)) := by
  rw [← qlD (u := u) hc]
  have hS := qgd h (j := u)
  refine loopF (Lf := qca (u : Int) (succL b u)) (S := fun t => vecI (fun j => (handC b u c t j : Int)) (npl b)) (len := (succL b u).length) (fun n => ?_) (fun t ht X hX => ?_)
  · simp only [qca, qt (Nat.le_refl _), cond_false]
  · obtain ⟨k, hk, e1, e2⟩ := (qgk h hu).at ht
    have hle : handC b u c t k ≤ 1000000 := by unfold handC; omega
    have hcu := hc _ hu
    simp only [qca, qq ht, cond_true, e1, Option.bind_some, qdP hk, qdP hu, qls hn hcu, qm (show t < 9223372036854775807 by omega)]
    rw [qdQ (by omega) (by omega)]
    have e3 : (if 1000000 < (handC b u c t k : Int) + (c u : Int) then 1000000 else (handC b u c t k : Int) + (c u : Int)) = ((min 1000000 (handC b u c t k + c u) : Nat) : Int) := by
      split <;> omega
    rw [e3, qll e2]
    exact hX

theorem qo7 {b : ql} (h : blockB b = true) : Ev (fun n => qcb (ints (startN b (npl b))) n (vecI (fun _ => 0) (npl b)) 0) (vecI (fun j => (stC b j : Int)) (npl b), ((startN b (npl b)).length : Int)) := by
  have hl : npl b ≤ 78 := qaA (qS (qal h))
  have hs : (startN b (npl b)).length ≤ npl b := qnm
  have hm : ∀ k, k ∈ startN b (npl b) → k < npl b := fun k hk => (qnB.1 hk).1
  have := loopF (Lf := qcb (ints (startN b (npl b)))) (S := fun t => vecI (fun j => if j ∈ (startN b (npl b)).take t then 1 else 0) (npl b)) (len := (startN b (npl b)).length) (fin := (vecI (fun j => (stC b j : Int)) (npl b), ((startN b (npl b)).length : Int))) (fun n => ?_) (fun t ht X hX => ?_)
  · simpa using this
  · simp only [qcb, qdN, qt (Nat.le_refl _), cond_false, List.take_length]
    congr 2
    refine qdA (fun j hj => ?_)
    unfold stC
    have : (j ∈ startN b (npl b)) ↔ startB b (gt (places b.Design) j) = true := by unfold startN; rw [qnB]; exact ⟨fun x => x.2, fun x => ⟨hj, x⟩⟩
    by_cases hq : startB b (gt (places b.Design) j) = true
    · rw [if_pos (this.2 hq), if_pos hq]; rfl
    · rw [if_neg (fun x => hq (this.1 x)), if_neg hq]; rfl
  · have hk : (startN b (npl b))[t] < npl b := hm _ (List.getElem_mem ht)
    simp only [qcb, qdN, qq ht, cond_true, qkk ht, Option.bind_some, qdP hk, qm (show t < 9223372036854775807 by omega)]
    rw [qik]
    have e : vecI (fun i => if i = (startN b (npl b))[t] then 1 else if i ∈ (startN b (npl b)).take t then 1 else 0) (npl b) = vecI (fun j => if j ∈ (startN b (npl b)).take (t + 1) then 1 else 0) (npl b) := by
      refine qdA (fun j _ => ?_)
      rw [List.take_succ_eq_append_getElem ht]
      by_cases h1 : j = (startN b (npl b))[t]
      · rw [if_pos h1, if_pos (List.mem_append_right _ (List.mem_singleton.2 h1))]
      · rw [if_neg h1]
        by_cases h2 : j ∈ (startN b (npl b)).take t
        · rw [if_pos h2, if_pos (List.mem_append_left _ h2)]
        · rw [if_neg h2, if_neg (fun hh => (List.mem_append.1 hh).elim h2 (fun h3 => h1 (List.mem_singleton.1 h3)))]
    rw [e]
    exact hX

theorem qms {b : ql} {out : List Nat} {i : Nat} (h : Topo (succL b) (npl b) out) (hi : i < out.length) : out[i] < npl b ∧ out[i] ∉ out.take i ∧ (∀ u, u < npl b → (out[i] : Int) ∈ succL b u → u ∈ out.take i) ∧ (succL b out[i]).count (out[i] : Int) = 0 ∧ Topo (succL b) (npl b) (out.take i) := by
  have hsp : out = out.take i ++ out[i] :: out.drop (i + 1) := by rw [← List.drop_eq_getElem_cons hi, List.take_append_drop]
  have ht := h
  rw [hsp] at ht
  obtain ⟨h1, h2, h3⟩ := ht.at
  exact ⟨h1, h2, h3, List.count_eq_zero.2 (fun he => h2 (h3 _ h1 he)), ht.pre⟩

theorem qo5 {b : ql} (hok : qep b) (h : blockB b = true) {out : List Nat} (ht : Topo (succL b) (npl b) out) : ∃ c : Nat → Nat, (∀ j, j < npl b → PathEq (succL b) 1000000 (stC b) out c j) ∧
    Ev (fun n => qch b (ints out) n (vecI (fun j => (stC b j : Int)) (npl b)) 0) (vecI (fun j => (c j : Int)) (npl b), (out.length : Int)) := by
  have hl : npl b ≤ 78 := qaA (qS (qal h))
  have hlen := ht.len
  obtain ⟨t, ⟨c, hc, rfl⟩, he⟩ := loopE (Lf := qch b (ints out)) (fin := fun t => (t, (out.length : Int))) (len := out.length)
    (fun i t => ∃ c : Nat → Nat, (∀ j, j < npl b → c j = min 1000000 (stC b j + sumP (succL b) c (out.take i) j)) ∧ t = vecI (fun j => (c j : Int)) (npl b))
    (fun n t => by simp only [qch, qdN, qt (Nat.le_refl _), cond_false])
    (fun i t hi ⟨c, hc, e⟩ => by
      subst e
      obtain ⟨h1, h2, h3, h4, h5⟩ := qms ht hi
      have hle : ∀ j, j < npl b → c j ≤ 1000000 := fun j hj => by rw [hc j hj]; omega
      refine ⟨vecI (fun j => (handC b out[i] c (succL b out[i]).length j : Int)) (npl b), ⟨_, fun j hj => ?_, rfl⟩, fun X hX => ?_⟩
      · rw [List.take_succ_eq_append_getElem hi]
        exact qmB h5 h1 h2 h3 (c' := handC b out[i] c (succL b out[i]).length) (fun j _ => by unfold handC; rw [List.take_length]) hle hj (hc j hj)
      · simp only [qch, qdN, qq hi, cond_true, qkk hi, Option.bind_some, qm (show i < 9223372036854775807 by omega)]
        exact Ev.bind (qjg hok h h1) (Ev.bind (qpU h hi h1 h4 hle) hX))
    0 (Nat.zero_le _) (vecI (fun j => (stC b j : Int)) (npl b)) ⟨stC b, fun j _ => by rw [List.take_zero]; show _ = min 1000000 (stC b j + 0); have : stC b j ≤ 1 := by unfold stC; split <;> omega
                                                                                      omega, rfl⟩
  refine ⟨c, fun j hj => ?_, he⟩
  have := hc j hj
  rwa [List.take_length] at this

theorem qoV {b : ql} {V : Tview} (h : blockB b = true) (hV : V.Block = b) (hP : V.places = places b.Design) {out : List Nat} (ht : Topo (succL b) (npl b) out) (hfull : ∀ j, j < npl b → j ∈ out) : ∃ c : Nat → Nat, (∀ j, j < npl b → PathEq (succL b) 1000000 (stC b) out c j) ∧
    Ev (fun n => qcg (some V) (ints out) V n (vecI (fun _ => 0) (npl b)) 0) (vecI (fun j => (c j : Int)) (npl b), (out.length : Int)) := by
  have hl : npl b ≤ 78 := qaA (qS (qal h))
  have hlen := ht.len
  obtain ⟨t, ⟨c, hc, rfl⟩, he⟩ := loopE (Lf := qcg (some V) (ints out) V) (fin := fun t => (t, (out.length : Int))) (len := out.length)
    (fun i t => ∃ c : Nat → Nat, (∀ j, j < npl b → c j = min 1000000 ((if j ∈ out.take i then stC b j else 0) + sumP (succL b) c (out.take i) j)) ∧ t = vecI (fun j => (c j : Int)) (npl b))
    (fun n t => by simp only [qcg, qdN, qt (Nat.le_refl _), cond_false])
    (fun i t hi ⟨c, hc, e⟩ => by
      subst e
      obtain ⟨h1, h2, h3, h4, h5⟩ := qms ht hi
      have hle : ∀ j, j < npl b → c j ≤ 1000000 := fun j hj => by rw [hc j hj]; omega
      have hle1 := hle _ h1
      generalize hu : out[i] = u at h1 h2 h3 h4 hle1
      have hst : stC b u ≤ 1 := by unfold stC; split <;> omega
      let c1 : Nat → Nat := fun j => if j = u then min 1000000 (c u + stC b u) else c j
      have hc1u : c1 u = min 1000000 (c u + stC b u) := if_pos rfl
      have hc1 : ∀ j, j ≠ u → c1 j = c j := fun j hj => if_neg hj
      have hle2 : ∀ j, j < npl b → c1 j ≤ 1000000 := fun j hj => by
        by_cases e : j = u
        · subst e; rw [hc1u]; omega
        · rw [hc1 j e]; exact hle j hj
      have hsum : ∀ j, sumP (succL b) c1 (out.take i) j = sumP (succL b) c (out.take i) j := fun j => qjS (fun v hv _ => hc1 v (fun e => h2 (by rw [← e]; exact hv)))
      have hin : ∀ j, j < npl b → c1 j = min 1000000 ((if j ∈ out.take (i + 1) then stC b j else 0) + sumP (succL b) c1 (out.take i) j) := fun j hj => by
        rw [hsum, List.take_succ_eq_append_getElem hi, hu]
        by_cases e : j = u
        · subst e
          rw [hc1u, if_pos (by simp)]
          have := hc j hj
          rw [if_neg h2] at this
          omega
        · rw [hc1 j e, hc j hj]
          by_cases h6 : j ∈ out.take i
          · rw [if_pos h6, if_pos (List.mem_append_left _ h6)]
          · rw [if_neg h6, if_neg (by simp [h6, e])]
      refine ⟨vecI (fun j => (handC b u c1 (succL b u).length j : Int)) (npl b), ⟨_, fun j hj => ?_, rfl⟩, fun X hX => ?_⟩
      · have := qmB h5 h1 h2 h3 (c' := handC b u c1 (succL b u).length) (s := if j ∈ out.take (i + 1) then stC b j else 0) (fun j _ => by unfold handC; rw [List.take_length]) hle2 hj (hin j hj)
        rw [this]
        congr 2
        rw [List.take_succ_eq_append_getElem hi, hu]
      · simp only [qcg, qdN, qq hi, cond_true, qkk hi, hu, hP, qam h1, Option.bind_some, qdP h1, qm (show i < 9223372036854775807 by omega)]
        refine Ev.bind (qoe h hV h1) ?_
        refine Ev.bind (b := vecI (fun j => (c1 j : Int)) (npl b)) ?_ (Ev.bind (qie h hV hP h1) (Ev.bind (qpD h h1 h4 hle2) hX))
        refine Ev.bif (fun hs => Ev.now ?_) (fun hs => Ev.now ?_)
        · rw [qdQ (by omega) (by omega), qik]
          congr 1
          refine qdA (fun j _ => ?_)
          by_cases e : j = u
          · subst e
            have : stC b j = 1 := if_pos hs
            rw [if_pos rfl, hc1u, this]
            split <;> omega
          · rw [if_neg e, hc1 j e]
        · congr 1
          refine qdA (fun j _ => ?_)
          by_cases e : j = u
          · subst e
            have : stC b j = 0 := if_neg (by rw [hs]; decide)
            rw [hc1u, this]; omega
          · rw [hc1 j e])
    0 (Nat.zero_le _) (vecI (fun _ => 0) (npl b)) ⟨fun _ => 0, fun j _ => by rw [List.take_zero, if_neg (by simp)]; rfl, rfl⟩
  refine ⟨c, fun j hj => ?_, he⟩
  have := hc j hj
  rw [List.take_length, if_pos (hfull j hj)] at this
  exact this

theorem qkB {b : ql} {p : Int} (hok : qep b) : Ev (fun n => qfB n b [] p) (bif blockB b then (bif inPl b p then 0 else 2) else 1) := by
  unfold qfB qhu
  cases h : blockB b with
  | false => exact Ev.bind (b := 1) (Ev.bind (qkJ hok) (Ev.tt (by rw [h]; rfl) .done)) .done
  | true =>
    have hl : npl b ≤ 78 := qaA (qS (qal h))
    refine Ev.bind (b := 0) (Ev.bind (qkJ hok) (Ev.ff (by rw [h]; rfl) (Ev.ff rfl (Ev.bind (b := .nxt 0) (Ev.succ .done) .done)))) ?_
    refine Ev.tt rfl (Ev.bind (qgK h) ?_)
    simp only [qeI, Option.bind_some, qdh (show (places b.Design).length ≤ 9223372036854775807 from by have : (places b.Design).length ≤ 78 := hl; omega)]
    show Ev _ (bif inI p 0 (((places b.Design).length : Int) - 1) then 0 else 2)
    cases inI p 0 (((places b.Design).length : Int) - 1) <;> exact .done

theorem qoa {b : ql} {p : Int} (hok : qep b) : ∃ r, Ev (fun n => qef n b p) r ∧ Ev (fun n => qeb n b p) r := by
  cases h : blockB b with
  | false =>
    refine ⟨(0, 1), ?_, ?_⟩
    · unfold qef
      exact Ev.bind (qkB hok) (by rw [h]; exact .done)
    · unfold qeb
      exact Ev.bind (qiI hok) (Ev.tt (by rw [h]; rfl) .done)
  | true =>
    have hl : npl b ≤ 78 := qaA (qS (qal h))
    obtain ⟨ls, lo, de, ev⟩ := qoh h
    have hpl : Ev (fun n => qeo n (some ⟨b, places b.Design, ls, lo, de, []⟩) p) (inPl b p) := by
      simp only [qeo, qdI, qd5, Option.bind_some, qdh (show (places b.Design).length ≤ 9223372036854775807 from by have : (places b.Design).length ≤ 78 := hl; omega)]
      exact .done
    cases hp : inPl b p with
    | false =>
      refine ⟨(0, 2), ?_, ?_⟩
      · unfold qef
        exact Ev.bind (qkB hok) (by rw [h, hp]; exact .done)
      · unfold qeb
        exact Ev.bind (qiI hok) (Ev.ff (by rw [h]; rfl) (Ev.bind ev (Ev.bind hpl (Ev.tt (by rw [hp]; rfl) .done))))
    | true =>
      obtain ⟨k, hk, rfl⟩ : ∃ k : Nat, k < npl b ∧ p = (k : Int) := by
        unfold inPl at hp
        rw [qc1] at hp
        have : ((places b.Design).length : Int) = (npl b : Int) := rfl
        exact ⟨p.toNat, by omega, by omega⟩
      obtain ⟨out, h1, h2, h3⟩ := qo2 hok h
      obtain ⟨r, h4, R, h5, h6⟩ := qo6 (V := ⟨b, places b.Design, ls, lo, de, []⟩) h rfl rfl
      obtain ⟨k1, k2⟩ := qo8 h5 h1 h2
      have hsc : Ev (fun n => qfB n b [] (k : Int)) 0 := (qkB hok).cast (by rw [h, hp]; rfl)
      rcases h6 with ⟨rfl, h7⟩ | ⟨rfl, h7, h8⟩
      · have hout := k1 h7
        obtain ⟨c, c1, c2⟩ := qo5 hok h h1
        obtain ⟨d, d1, d2⟩ := qoV (V := ⟨b, places b.Design, ls, lo, de, []⟩) h rfl rfl h5 (h5.full h7)
        have hperm : out.Perm R := qnM h1.nodup h5.nodup (fun j => ⟨fun hj => h5.full h7 j (h1.lt j hj), fun hj => h1.full hout j (h5.lt j hj)⟩)
        have hcd := qoY h1 hout hperm c1 d1 k hk
        refine ⟨((c k : Int), 0), ?_, ?_⟩
        · unfold qef
          refine Ev.bind hsc (Ev.ff rfl (Ev.bind h3 (Ev.ff (by simp [hout]) (Ev.bind (qgK h) (Ev.bindN (qjx (show npl b ≤ 2147483648 by omega)) (Ev.bind (qnT hok h) (Ev.bind (qo7 h) (Ev.bind c2 ?_))))))))
          exact Ev.bindN (qdP hk) .done
        · unfold qeb
          refine Ev.bind (qiI hok) (Ev.ff (by rw [h]; rfl) (Ev.bind ev (Ev.bind hpl (Ev.ff (by rw [hp]; rfl) (Ev.bind h4 (Ev.ff rfl (Ev.bindN rfl (Ev.bindN (qjx (show npl b ≤ 2147483648 by omega)) (Ev.bind d2 ?_)))))))))
          exact Ev.bindN (qdP hk) (Ev.now (by rw [hcd]))
      · have hout := k2 h7 h8
        refine ⟨(0, 7), ?_, ?_⟩
        · unfold qef
          exact Ev.bind hsc (Ev.ff rfl (Ev.bind h3 (Ev.tt (by rw [decide_eq_false (by omega)]; rfl) .done)))
        · unfold qeb
          exact Ev.bind (qiI hok) (Ev.ff (by rw [h]; rfl) (Ev.bind ev (Ev.bind hpl (Ev.ff (by rw [hp]; rfl) (Ev.bind h4 (Ev.tt rfl .done))))))

theorem qnx {b : ql} {p : Int} (hb : qjp b) (_ : rngI p) : Ev (fun n => qex n b p) true := by
  unfold qex
  obtain ⟨r1, e1, q1⟩ := qqj (a := b) (left := 1048576) hb (by omega) (by omega)
  refine Ev.bind e1 ?_
  rcases q1 with q1 | ⟨p1, q1⟩
  · exact Ev.tt (by simpa using q1) .done
  · refine Ev.ff (by simp; omega) ?_
    have wb : qgT b ≤ 1048576 := by omega
    have hok := qnX hb wb
    obtain ⟨⟨r, c⟩, es, ei⟩ := qoa (p := p) hok
    refine Ev.bind (qlo wb) (Ev.bind es (Ev.bind (qlo wb) (Ev.bind ei (Ev.bind (b := false) (Ev.ff (by simp) (Ev.now (by simp))) (Ev.ff rfl (Ev.bind (qlo wb) (Ev.bind (qpz wb) (Ev.ff rfl .done))))))))
end Go.Fw
