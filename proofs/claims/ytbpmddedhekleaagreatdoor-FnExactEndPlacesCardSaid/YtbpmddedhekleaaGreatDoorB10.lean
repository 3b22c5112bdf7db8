/- Plain laws: the view of a valid block is made. -/
import Derived.Test.YtbpmddedhekleaaGreatDoorB9
import Derived.Test.YtbpmddedhekleaaGreatDoorD2
namespace Go.Fw
open Go
set_option maxRecDepth 100000

theorem sinksL_at {d : TDesign} {k : Int} {n i : Nat} (hi : i < (sinksL d k n).length) : ∃ y : Nat, y < n ∧ idx (sinksL d k n) (i : Int) = some (y : Int) ∧ snkQ d k y = true := by
  rw [idx_lt hi]
  have hm : (sinksL d k n)[i] ∈ sinksL d k n := List.getElem_mem hi
  generalize (sinksL d k n)[i] = z at hm
  unfold sinksL at hm
  obtain ⟨y, hy, rfl⟩ := List.mem_map.1 hm
  obtain ⟨h1, h2⟩ := List.mem_filter.1 hy
  exact ⟨y, List.mem_range.1 h1, rfl, h2⟩

theorem impl_sinks_ev {d : TDesign} {k : Int} (h : smallD d) : Ev (fun n => impl_Design_sinks n d k) (sinksL d k (places d).length) := by
  have hl := places_len h
  have hL : Ev (fun n => impl_Design_sinks_L1 k (places d) n ([] : List Int) 0) (sinksL d k (places d).length, ((places d).length : Int)) := by
    refine loopF (Lf := impl_Design_sinks_L1 k (places d)) (S := fun j => sinksL d k j) (len := (places d).length) (fun n => ?_) (fun j hj X hX => ?_)
    · simp only [impl_Design_sinks_L1, lt_nat_f (Nat.le_refl _), cond_false]
    · have hc : (sinksL d k j).length + [(j : Int)].length ≤ 2147483648 := by
        rw [sinksL_len]
        have : cntP (snkQ d k) j ≤ j := cntP_le
        simp; omega
      simp only [impl_Design_sinks_L1, lt_nat_t hj, cond_true, idx_gt hj, Option.bind_some, w64_succ (show j < 9223372036854775807 by omega)]
      rw [sinksL_succ] at hX
      unfold snkQ at hX
      cases h1 : ((gt (places d) j).net == k)
      · rw [h1] at hX
        simp only [Bool.false_and, cond_false, List.append_nil] at hX ⊢
        exact hX
      · cases h2 : (gt (places d) j).drives
        · rw [h1, h2] at hX
          simp only [Bool.not_false, Bool.and_self, cond_true, appS_ok hc, Option.bind_some] at hX ⊢
          exact hX
        · rw [h1, h2] at hX
          simp only [Bool.not_true, Bool.and_false, cond_false, List.append_nil, cond_true] at hX ⊢
          exact hX
  unfold impl_Design_sinks
  exact Ev.bind (places_ev h) (Ev.bind hL .done)

/-- What a valid block says of a wire. -/
structure wireOk (b : TBlock) (i : Nat) : Prop where
  lo : 1 ≤ (gt b.Wires i).Parent.length
  hi : (gt b.Wires i).Parent.length ≤ 8
  res : (gt b.Wires i).Res.length = (gt b.Wires i).Parent.length
  cap : (gt b.Wires i).Cap.length = (gt b.Wires i).Parent.length
  par : ∀ j, 0 < j → j < (gt b.Wires i).Parent.length → 0 ≤ at0 (gt b.Wires i).Parent j ∧ at0 (gt b.Wires i).Parent j < j
  snk : (gt b.Wires i).Sink.length = (sinksL b.Design (i : Int) (places b.Design).length).length
  sin : ∀ j, j < (gt b.Wires i).Sink.length → 0 ≤ at0 (gt b.Wires i).Sink j ∧ at0 (gt b.Wires i).Sink j < (gt b.Wires i).Parent.length
theorem blockB_wire {b : TBlock} (h : blockB b = true) {i : Nat} (hi : i < b.Wires.length) : wireOk b i := by
  unfold blockB at h
  rw [Bool.and_eq_true, allN_iff] at h
  have := h.2 i hi
  unfold wireB lenB at this
  simp only [Bool.and_eq_true, decide_eq_true_eq, beq_iff_eq] at this
  obtain ⟨⟨h1, h2⟩, h3, h4, h5, _, _, h6, h7⟩ := this
  refine ⟨h1, h2, by omega, by omega, fun j hj0 hj => ?_, ?_, fun j hj => ?_⟩
  · have := allN_iff.1 h5 j hj
    unfold treeB at this
    rw [show decide (j = 0) = false by simp; omega] at this
    simp only [cond_false, inI_iff] at this
    omega
  · rw [sinksL_len]
    unfold snkN at h6
    omega
  · rw [all_allN (d := 0), allN_iff] at h7
    have := h7 j hj
    rw [inI_iff] at this
    unfold at0
    omega
theorem blockB_len {b : TBlock} (h : blockB b = true) : b.Wires.length = b.Design.Nets.length := by
  unfold blockB at h
  simp only [Bool.and_eq_true, beq_iff_eq] at h
  omega

theorem capOf_ev {b : TBlock} (h : blockB b = true) {j : Nat} (hj : j < (places b.Design).length) : ∃ c, ∀ n, impl_Design_capOf n b.Design b.Library (gt (places b.Design) j) = some c := by
  have hd := blockB_des h
  rcases place_cases hj with ⟨i, k, hi, hk, _, e⟩ | ⟨i, hi, _, e⟩
  · rw [e]
    obtain ⟨⟨c0, c1⟩, hn, _⟩ := inst_cell hd hi
    refine ⟨(gt (gt b.Library.Cells (gt b.Design.Instances i).Cell.toNat).Pins k).Cap, fun n => ?_⟩
    unfold place1
    simp only [impl_Design_capOf, show decide ((i : Int) < 0) = false by simp, cond_false, idx_gt hi, Option.bind_some, idx_gi c0 c1, idx_gt (show k < (gt b.Library.Cells (gt b.Design.Instances i).Cell.toNat).Pins.length by omega)]
  · rw [e]
    exact ⟨0, fun n => rfl⟩

theorem nodeLoads_ev {b : TBlock} (h : blockB b = true) {i : Nat} (hi : i < b.Wires.length) : ∃ r : List Int, r.length = (gt b.Wires i).Parent.length ∧ Ev (fun n => impl_Block_nodeLoads n b (i : Int)) r := by
  have hw := blockB_wire h hi
  have hs := designB_small (blockB_des h)
  have hlo := hw.lo
  have hhi := hw.hi
  have hcap := hw.cap
  have hl := places_len hs
  obtain ⟨x1, i1, e1⟩ := loopE (Lf := impl_Block_nodeLoads_L1 b (gt b.Wires i) (places b.Design) (sinksL b.Design (i : Int) (places b.Design).length)) (fin := fun t => (t, ((sinksL b.Design (i : Int) (places b.Design).length).length : Int))) (fun _ t => t.length = (gt b.Wires i).Parent.length) (len := (sinksL b.Design (i : Int) (places b.Design).length).length)
    (fun n t => by simp only [impl_Block_nodeLoads_L1, lt_nat_f (Nat.le_refl _), cond_false])
    (fun j t hj ht => by
      obtain ⟨y, hy, ey, _⟩ := sinksL_at hj
      obtain ⟨c, hc⟩ := capOf_ev h hy
      have hjs : j < (gt b.Wires i).Sink.length := by rw [hw.snk]; exact hj
      have hsn := hw.sin j hjs
      have hb : j < 9223372036854775807 := by
        rw [sinksL_len] at hj
        have : cntP (snkQ b.Design (i : Int)) (places b.Design).length ≤ (places b.Design).length := cntP_le
        omega
      refine ⟨setS t (at0 (gt b.Wires i).Sink j) (W64 (gt t (at0 (gt b.Wires i).Sink j).toNat + c)), by rw [setS_len]; exact ht, fun X hX => ?_⟩
      simp only [impl_Block_nodeLoads_L1, lt_nat_t hj, cond_true, ey, Option.bind_some, idx_at0 hjs, idx_gi hsn.1 (show at0 (gt b.Wires i).Sink j < (t.length : Int) by omega), idx_gt hy, w64_succ hb]
      exact Ev.bind ⟨0, fun n _ => hc n⟩ hX) 0 (Nat.zero_le _) (gt b.Wires i).Cap hcap
  obtain ⟨x2, i2, e2⟩ := loopDn (Lf := impl_Block_nodeLoads_L2 (gt b.Wires i)) (fin := fun t => (t, (0 : Int))) (fun t => t.length = (gt b.Wires i).Parent.length) ((gt b.Wires i).Parent.length - 1)
    (fun n t => by simp only [impl_Block_nodeLoads_L2, show decide ((0 : Int) > 0) = false from rfl, cond_false])
    (fun j t h0 hj ht => by
      have hp := hw.par j h0 (by omega)
      refine ⟨setS t (at0 (gt b.Wires i).Parent j) (W64 (gt t (at0 (gt b.Wires i).Parent j).toNat + gt t j)), by rw [setS_len]; exact ht, fun X hX => ?_⟩
      simp only [impl_Block_nodeLoads_L2, show decide ((j : Int) > 0) = true by simp; omega, cond_true, idx_at0 (show j < (gt b.Wires i).Parent.length by omega), Option.bind_some, idx_gi hp.1 (show at0 (gt b.Wires i).Parent j < (t.length : Int) by omega), idx_gt (show j < t.length by omega), show (j : Int) - 1 = ((j - 1 : Nat) : Int) by omega, w64_of (show -9223372036854775808 ≤ ((j - 1 : Nat) : Int) by omega) (by omega)]
      exact hX) x1 i1
  refine ⟨x2, i2, ?_⟩
  unfold impl_Block_nodeLoads slices_Clone_int64
  rw [idx_gt hi]
  simp only [Option.bind_some, appS_ok (show ([] : List Int).length + (gt b.Wires i).Cap.length ≤ 2147483648 by simp; omega), List.nil_append]
  refine Ev.bind (places_ev hs) (Ev.bind (impl_sinks_ev hs) (Ev.bind e1 ?_))
  rw [w64_pred (show (gt b.Wires i).Cap.length ≤ 9223372036854775807 by omega), show ((gt b.Wires i).Cap.length : Int) - 1 = (((gt b.Wires i).Parent.length - 1 : Nat) : Int) by omega]
  exact Ev.bind e2 .done

theorem exactDelays_ev {b : TBlock} (h : blockB b = true) {i : Nat} (hi : i < b.Wires.length) : ∃ r : List Int, r.length = (gt b.Wires i).Sink.length ∧ Ev (fun n => impl_Block_exactDelays n b (i : Int)) r := by
  have hw := blockB_wire h hi
  have hs := designB_small (blockB_des h)
  have hlo := hw.lo
  have hhi := hw.hi
  have hres := hw.res
  have hl := places_len hs
  have hsl : (gt b.Wires i).Sink.length ≤ 78 := by
    rw [hw.snk, sinksL_len]
    have : cntP (snkQ b.Design (i : Int)) (places b.Design).length ≤ (places b.Design).length := cntP_le
    omega
  obtain ⟨r1, l1, e1⟩ := nodeLoads_ev h hi
  have hmk : mkS (r1.length : Int) (0 : Int) = some (List.replicate r1.length 0) := mkS_len (by omega)
  obtain ⟨x2, i2, e2⟩ := loopE (Lf := impl_Block_nodeDelays_L1 (gt b.Wires i) r1 (List.replicate r1.length 0)) (fin := fun t => (t, (r1.length : Int))) (fun j t => 1 ≤ j ∧ t.length = (gt b.Wires i).Parent.length) (len := r1.length)
    (fun n t => by simp only [impl_Block_nodeDelays_L1, List.length_replicate, lt_nat_f (Nat.le_refl _), cond_false])
    (fun j t hj ht => by
      obtain ⟨h1, ht⟩ := ht
      have hp := hw.par j (by omega) (by omega)
      refine ⟨setS t (j : Int) (W64 (gt t (at0 (gt b.Wires i).Parent j).toNat + W64 (at0 (gt b.Wires i).Res j * gt r1 j))), ⟨by omega, by rw [setS_len]; exact ht⟩, fun X hX => ?_⟩
      simp only [impl_Block_nodeDelays_L1, List.length_replicate, lt_nat_t hj, cond_true, idx_at0 (show j < (gt b.Wires i).Parent.length by omega), Option.bind_some, idx_gi hp.1 (show at0 (gt b.Wires i).Parent j < (t.length : Int) by omega), idx_at0 (show j < (gt b.Wires i).Res.length by omega), idx_gt hj, idx_gt (show j < t.length by omega), w64_succ (show j < 9223372036854775807 by omega)]
      exact hX) 1 (by omega) (List.replicate r1.length 0) ⟨Nat.le_refl _, by rw [List.length_replicate]; exact l1⟩
  obtain ⟨x3, i3, e3⟩ := loopE (Lf := impl_Block_exactDelays_L1 x2 (gt b.Wires i)) (fin := fun t => (t, ((gt b.Wires i).Sink.length : Int))) (fun j t => t.length = j) (len := (gt b.Wires i).Sink.length)
    (fun n t => by simp only [impl_Block_exactDelays_L1, lt_nat_f (Nat.le_refl _), cond_false])
    (fun j t hj ht => by
      have hsn := hw.sin j hj
      have hx2 := i2.2
      refine ⟨t ++ [gt x2 (at0 (gt b.Wires i).Sink j).toNat], by simp [ht], fun X hX => ?_⟩
      simp only [impl_Block_exactDelays_L1, lt_nat_t hj, cond_true, idx_at0 hj, Option.bind_some, idx_gi hsn.1 (show at0 (gt b.Wires i).Sink j < (x2.length : Int) by omega), appS_ok (show t.length + [gt x2 (at0 (gt b.Wires i).Sink j).toNat].length ≤ 2147483648 by simp; omega), w64_succ (show j < 9223372036854775807 by omega)]
      exact hX) 0 (Nat.zero_le _) [] rfl
  refine ⟨x3, i3, ?_⟩
  unfold impl_Block_exactDelays impl_Block_nodeDelays
  rw [idx_gt hi]
  simp only [Option.bind_some]
  refine Ev.bind (b := x2) (Ev.bind e1 ?_) (Ev.bind e3 .done)
  rw [hmk]
  simp only [Option.bind_some]
  exact Ev.bind e2 .done
end Go.Fw
