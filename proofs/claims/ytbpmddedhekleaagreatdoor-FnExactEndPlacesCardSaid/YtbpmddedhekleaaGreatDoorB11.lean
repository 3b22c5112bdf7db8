/- Plain laws: the view of a valid block is made. -/
import Derived.Test.YtbpmddedhekleaaGreatDoorB10
namespace Go.Fw
open Go
set_option maxRecDepth 100000

instance : Inhabited TLink := ⟨⟨0, 0, 0, 0⟩⟩
instance : Inhabited TA2_Int := ⟨⟨0, 0⟩⟩

theorem mkS_nat {α : Type} {m : Nat} {z : α} (h : m ≤ 2147483648) : mkS (m : Int) z = some (List.replicate m z) := by
  unfold mkS big
  rw [if_pos ⟨by omega, by omega⟩, Int.toNat_natCast]
theorem gt_set_ne {α : Type} [Inhabited α] {xs : List α} {a k : Nat} {y : α} (h : k ≠ a) : gt (xs.set a y) k = gt xs k := by
  unfold gt
  rw [List.getD_eq_getElem?_getD, List.getElem?_set_ne (by omega), ← List.getD_eq_getElem?_getD]
theorem gt_set_self {α : Type} [Inhabited α] {xs : List α} {a : Nat} {y : α} (h : a < xs.length) : gt (xs.set a y) a = y := by
  rw [gt_eq (by rw [List.length_set]; exact h), List.getElem_set_self]
theorem trans_eq {a : TArc} : ∃ r : List TA2_Int, r.length ≤ 4 ∧ ∀ n, impl_Arc_transitions n a = some r := by
  unfold impl_Arc_transitions
  simp only [bne, bnot_bif]
  cases (a.Kind == 2)
  · cases (a.Kind == 3)
    · cases (a.Kind == 1)
      · exact ⟨_, by decide, fun _ => rfl⟩
      · cases (a.Sense == 1)
        · cases (a.Sense == 2)
          · exact ⟨[⟨0, 0⟩, ⟨0, 1⟩, ⟨1, 0⟩, ⟨1, 1⟩], by decide, fun _ => rfl⟩
          · exact ⟨[⟨0, 1⟩, ⟨1, 0⟩], by decide, fun _ => rfl⟩
        · exact ⟨[⟨0, 0⟩, ⟨1, 1⟩], by decide, fun _ => rfl⟩
    · exact ⟨[⟨1, 0⟩, ⟨1, 1⟩], by decide, fun _ => rfl⟩
  · exact ⟨[⟨0, 0⟩, ⟨0, 1⟩], by decide, fun _ => rfl⟩

theorem cellLinks_ev {b : TBlock} {first : Int} (h : blockB b = true) {i : Nat} (hi : i < b.Design.Instances.length) : ∃ r : List TLink, r.length ≤ 32 ∧ Ev (fun n => impl_Block_cellLinks n b (gt b.Design.Instances i) first) r := by
  obtain ⟨⟨c0, c1⟩, _, hcb⟩ := inst_cell (blockB_des h) hi
  have ha := cellB_arcs hcb
  obtain ⟨x1, i1, e1⟩ := loopE (Lf := impl_Block_cellLinks_L1 first (gt b.Library.Cells (gt b.Design.Instances i).Cell.toNat)) (fin := fun t => (t, ((gt b.Library.Cells (gt b.Design.Instances i).Cell.toNat).Arcs.length : Int))) (fun j t => t.length ≤ 4 * j) (len := (gt b.Library.Cells (gt b.Design.Instances i).Cell.toNat).Arcs.length)
    (fun n t => by simp only [impl_Block_cellLinks_L1, lt_nat_f (Nat.le_refl _), cond_false])
    (fun j t hj ht => by
      obtain ⟨r, hr, er⟩ := trans_eq (a := gt (gt b.Library.Cells (gt b.Design.Instances i).Cell.toNat).Arcs j)
      obtain ⟨x2, i2, e2⟩ := loopE (Lf := impl_Block_cellLinks_L2 first (j : Int) (gt (gt b.Library.Cells (gt b.Design.Instances i).Cell.toNat).Arcs j) r) (fin := fun t => (t, (r.length : Int))) (fun k t' => t'.length = t.length + k) (len := r.length)
        (fun n t => by simp only [impl_Block_cellLinks_L2, lt_nat_f (Nat.le_refl _), cond_false])
        (fun k t' hk ht' => ⟨t' ++ [_], by rw [List.length_append, ht', List.length_singleton]; omega, fun X hX => by
          simp only [impl_Block_cellLinks_L2, lt_nat_t hk, cond_true, idx_gt hk, Option.bind_some, w64_succ (show k < 9223372036854775807 by omega)]
          rw [appS_ok (by rw [List.length_singleton]; omega)]
          exact hX⟩) 0 (Nat.zero_le _) t rfl
      refine ⟨x2, by omega, fun X hX => ?_⟩
      simp only [impl_Block_cellLinks_L1, lt_nat_t hj, cond_true, idx_gt hj, Option.bind_some, er, w64_succ (show j < 9223372036854775807 by omega)]
      exact Ev.bind e2 hX) 0 (Nat.zero_le _) [] (Nat.le_refl _)
  refine ⟨x1, by omega, ?_⟩
  unfold impl_Block_cellLinks
  rw [idx_gi c0 c1]
  simp only [Option.bind_some]
  exact Ev.bind e1 .done

theorem newView_ev {b : TBlock} (h : blockB b = true) : ∃ ls lo de, Ev (fun n => impl_newView n b) (some ⟨b, places b.Design, ls, lo, de, []⟩) := by
  have hd := blockB_des h
  have hs := designB_small hd
  have hl := places_len hs
  have hni := hs.ni
  have hnn := hs.nn
  have hwl := blockB_len h
  obtain ⟨⟨x1, z1⟩, i1, e1⟩ := loopE (τ := List TLink × Int) (Lf := fun n t j => impl_newView_L1 b n t.1 t.2 j) (fin := fun t => (t.1, t.2, (b.Design.Instances.length : Int))) (fun j t => t.1.length ≤ 32 * j) (len := b.Design.Instances.length)
    (fun n t => by simp only [impl_newView_L1, lt_nat_f (Nat.le_refl _), cond_false])
    (fun j t hj ht => by
      obtain ⟨r, hr, er⟩ := cellLinks_ev (first := t.2) h hj
      refine ⟨(t.1 ++ r, W64 (t.2 + ((gt b.Design.Instances j).Nets.length : Int))), by rw [List.length_append]; omega, fun X hX => ?_⟩
      simp only [impl_newView_L1, lt_nat_t hj, cond_true, idx_gt hj, Option.bind_some, impl_length_int64, w64_succ (show j < 9223372036854775807 by omega)]
      have ht' : t.1.length ≤ 32 * j := ht
      refine Ev.bind er ?_
      rw [appS_ok (show t.1.length + r.length ≤ 2147483648 by omega)]
      exact hX) 0 (Nat.zero_le _) ([], 0) (Nat.le_refl _)
  have hm1 : mkS (b.Wires.length : Int) (0 : Int) = some (List.replicate b.Wires.length 0) := mkS_nat (by omega)
  have hm2 : mkS (b.Wires.length : Int) ([] : List Int) = some (List.replicate b.Wires.length []) := mkS_nat (by omega)
  obtain ⟨⟨x5, x6⟩, ⟨i5, i6, i56⟩, e2⟩ := loopE (τ := List (List Int) × List Int) (Lf := fun n t j => impl_newView_L2 (places b.Design) n t.1 t.2 j) (fin := fun t => (t.1, t.2, ((places b.Design).length : Int))) (fun j t => t.1.length = b.Wires.length ∧ t.2.length = b.Wires.length ∧ ∀ k, (gt t.1 k).length ≤ j) (len := (places b.Design).length)
    (fun n t => by simp only [impl_newView_L2, lt_nat_f (Nat.le_refl _), cond_false])
    (fun j t hj ht => by
      obtain ⟨h1, h2, h3⟩ := ht
      obtain ⟨n0, n1⟩ := places_net hd hj
      cases hdr : (gt (places b.Design) j).drives
      · refine ⟨(setS t.1 (gt (places b.Design) j).net (gt t.1 (gt (places b.Design) j).net.toNat ++ [(j : Int)]), t.2), ⟨by rw [setS_len]; exact h1, h2, fun k => ?_⟩, fun X hX => ?_⟩
        · show (gt (t.1.set _ _) k).length ≤ j + 1
          by_cases hk : k = (gt (places b.Design) j).net.toNat
          · subst hk
            rw [gt_set_self (by omega), List.length_append, List.length_singleton]
            have := h3 (gt (places b.Design) j).net.toNat
            omega
          · rw [gt_set_ne hk]
            have := h3 k
            omega
        · have := h3 (gt (places b.Design) j).net.toNat
          simp only [impl_newView_L2, lt_nat_t hj, cond_true, idx_gt hj, Option.bind_some, hdr, cond_false, idx_gi n0 (show (gt (places b.Design) j).net < (t.1.length : Int) by omega), w64_succ (show j < 9223372036854775807 by omega)]
          rw [appS_ok (by rw [List.length_singleton]; omega)]
          exact hX
      · refine ⟨(t.1, setS t.2 (gt (places b.Design) j).net (j : Int)), ⟨h1, by rw [setS_len]; exact h2, fun k => Nat.le_succ_of_le (h3 k)⟩, fun X hX => ?_⟩
        simp only [impl_newView_L2, lt_nat_t hj, cond_true, idx_gt hj, Option.bind_some, hdr, idx_gi n0 (show (gt (places b.Design) j).net < (t.2.length : Int) by omega), w64_succ (show j < 9223372036854775807 by omega)]
        exact hX) 0 (Nat.zero_le _) (List.replicate b.Wires.length [], List.replicate b.Wires.length 0) ⟨by simp, by simp, fun k => by
      have : gt (List.replicate b.Wires.length ([] : List Int)) k = [] := by
        unfold gt
        rw [List.getD_eq_getElem?_getD, List.getElem?_replicate]
        by_cases hk : k < b.Wires.length <;> simp [hk] <;> rfl
      rw [this]; exact Nat.le_refl _⟩
  have i5 : x5.length = b.Wires.length := i5
  have i6 : x6.length = b.Wires.length := i6
  have i56 : ∀ k, (gt x5 k).length ≤ (places b.Design).length := i56
  have hL5 : ∀ (i4 i5 y7 : Int) (y8 : Int) (t : List TLink), idx x6 i4 = some y8 → t.length ≤ 1000000 → ∃ t', t'.length = t.length + 2 ∧ Ev (fun n => impl_newView_L5 x6 i4 i5 y7 n t 0) (t', 2) := by
    intro i4 i5 y7 y8 t hy ht
    obtain ⟨t', h1, h2⟩ := loopE (Lf := impl_newView_L5 x6 i4 i5 y7) (fin := fun t => (t, (2 : Int))) (fun k t' => t'.length = t.length + k) (len := 2)
      (fun n t => by simp only [impl_newView_L5]; rfl)
      (fun k t' hk ht' => ⟨t' ++ [_], by rw [List.length_append, ht', List.length_singleton]; omega, fun X hX => by
        simp only [impl_newView_L5, show decide ((k : Int) < 2) = true by simp; omega, cond_true, hy, Option.bind_some, w64_succ (show k < 9223372036854775807 by omega)]
        rw [appS_ok (by rw [List.length_singleton]; omega)]
        exact hX⟩) 0 (Nat.zero_le _) t rfl
    exact ⟨t', h1, h2⟩
  have hL4 : ∀ (i4 y8 : Int) (y6 : List Int) (t : List TLink), idx x6 i4 = some y8 → y6.length ≤ 78 → t.length ≤ 900000 → ∃ t', t'.length = t.length + 2 * y6.length ∧ Ev (fun n => impl_newView_L4 x6 i4 y6 n t 0) (t', (y6.length : Int)) := by
    intro i4 y8 y6 t hy hy6 ht
    obtain ⟨t', h1, h2⟩ := loopE (Lf := impl_newView_L4 x6 i4 y6) (fin := fun t => (t, (y6.length : Int))) (fun k t' => t'.length = t.length + 2 * k) (len := y6.length)
      (fun n t => by simp only [impl_newView_L4, lt_nat_f (Nat.le_refl _), cond_false])
      (fun k t' hk ht' => by
        obtain ⟨t2, q1, q2⟩ := hL5 i4 (k : Int) (gt y6 k) y8 t' hy (by omega)
        refine ⟨t2, by omega, fun X hX => ?_⟩
        simp only [impl_newView_L4, lt_nat_t hk, cond_true, idx_gt hk, Option.bind_some, w64_succ (show k < 9223372036854775807 by omega)]
        exact Ev.bind q2 hX) 0 (Nat.zero_le _) t rfl
    exact ⟨t', h1, h2⟩
  obtain ⟨⟨x8, x9, x10⟩, _, e3⟩ := loopE (τ := List (List Int) × List Int × List TLink) (Lf := fun n t j => impl_newView_L3 b x5 x6 n t.1 t.2.1 t.2.2 j) (fin := fun t => (t.1, t.2.1, t.2.2, (b.Wires.length : Int))) (fun j t => t.1.length = j ∧ t.2.1.length = j ∧ t.2.2.length ≤ 448 + 156 * j) (len := b.Wires.length)
    (fun n t => by simp only [impl_newView_L3, lt_nat_f (Nat.le_refl _), cond_false])
    (fun j t hj ht => by
      obtain ⟨h1, h2, h3⟩ := ht
      have h1 : t.1.length = j := h1
      have h2 : t.2.1.length = j := h2
      have h3 : t.2.2.length ≤ 448 + 156 * j := h3
      have hw := blockB_wire h hj
      have hlo := hw.lo
      obtain ⟨r4, l4, e4⟩ := nodeLoads_ev h hj
      obtain ⟨r5, l5, e5⟩ := exactDelays_ev h hj
      have h6 := i56 j
      have hy8 : idx x6 (j : Int) = some (gt x6 j) := idx_gt (by omega)
      obtain ⟨t', q1, q2⟩ := hL4 (j : Int) (gt x6 j) (gt x5 j) t.2.2 hy8 (by omega) (by omega)
      refine ⟨(t.1 ++ [r5], t.2.1 ++ [gt r4 0], t'), ⟨by simp [h1], by simp [h2], ?_⟩, fun X hX => ?_⟩
      · show t'.length ≤ _
        omega
      · simp only [impl_newView_L3, lt_nat_t hj, cond_true, w64_succ (show j < 9223372036854775807 by omega)]
        refine Ev.bind e4 ?_
        rw [show idx r4 (0 : Int) = some (gt r4 0) from idx_gt (j := 0) (by omega)]
        simp only [Option.bind_some]
        rw [appS_ok (by rw [List.length_singleton]; omega)]
        simp only [Option.bind_some]
        refine Ev.bind e5 ?_
        rw [appS_ok (by rw [List.length_singleton]; omega), idx_gt (show j < x5.length by omega)]
        simp only [Option.bind_some]
        exact Ev.bind q2 hX) 0 (Nat.zero_le _) ([], [], x1) ⟨rfl, rfl, by show x1.length ≤ _; have : x1.length ≤ 32 * b.Design.Instances.length := i1; omega⟩
  refine ⟨x10, x9, x8, ?_⟩
  unfold impl_newView
  refine Ev.bind (places_ev hs) (Ev.bind e1 ?_)
  rw [hm1, hm2]
  simp only [Option.bind_some]
  exact Ev.bind e2 (Ev.bind e3 .done)
end Go.Fw
