/- Plain laws: successors in the data graph; data paths. -/
import Derived.Test.YtbpmddedhekleaaGreatDoorB11
namespace Go.Fw
open Go
set_option maxRecDepth 100000

def clkB (b : TBlock) (p : Tplace) : Bool := bif decide (p.instance_ ≥ 0) then clkAt (cellAt b p.instance_).Pins p.pin else false

theorem isClockPin_eq {b : TBlock} {V : Tview} {n j : Nat} (h : blockB b = true) (hV : V.Block = b) (hj : j < (places b.Design).length) : impl_view_isClockPin n (some V) (gt (places b.Design) j) = some (clkB b (gt (places b.Design) j)) := by
  rcases place_cases hj with ⟨i, k, hi, hk, _, e⟩ | ⟨i, hi, _, e⟩
  · obtain ⟨⟨c0, c1⟩, hn, _⟩ := inst_cell (blockB_des h) hi
    rw [e]
    unfold place1 clkB clkAt cellAt
    simp only [impl_view_isClockPin, show decide ((i : Int) ≥ 0) = true by simp, cond_true, Option.bind_some, hV, idx_gt hi, idx_gi c0 c1, idx_gt (show k < (gt b.Library.Cells (gt b.Design.Instances i).Cell.toNat).Pins.length by omega), Int.toNat_natCast]
  · rw [e]; rfl

theorem l05At_ev {b : TBlock} {j : Nat} (hok : ok_Block b) (h : blockB b = true) (hj : j < (places b.Design).length) : Ev (fun n => spec_l05At n b.Library b.Design (j : Int)) (toSp (gt (places b.Design) j), true) := by
  have hd := blockB_des h
  have hs := designB_small hd
  have hl := places_len hs
  unfold spec_l05At
  refine Ev.bind (sIsDesign_ev hok.Library hok.Design) (Ev.ff (by rw [hd]; rfl) (Ev.bind (sPlaces_ev hs) ?_))
  simp only [l01In_eq, Option.bind_some, List.length_map, w64_pred (show (places b.Design).length ≤ 9223372036854775807 by omega)]
  rw [show inI (j : Int) 0 (((places b.Design).length : Int) - 1) = true from inI_iff.2 ⟨by omega, by omega⟩]
  simp only [Bool.not_true, cond_false]
  rw [idx_gt (show j < ((places b.Design).map toSp).length by simpa using hj), gt_map hj]
  exact .done

theorem l22Clock_ev {b : TBlock} {j : Nat} (hok : ok_Block b) (h : blockB b = true) (hj : j < (places b.Design).length) : Ev (fun n => spec_l22Clock n b (j : Int)) (clkB b (gt (places b.Design) j)) := by
  unfold spec_l22Clock
  refine Ev.bind (l05At_ev hok h hj) ?_
  rcases place_cases hj with ⟨i, k, hi, hk, _, e⟩ | ⟨i, hi, _, e⟩
  · obtain ⟨⟨c0, c1⟩, hn, _⟩ := inst_cell (blockB_des h) hi
    rw [e]
    unfold place1 clkB clkAt cellAt toSp
    simp only [spec_l22Cell, show decide ((i : Int) ≥ 0) = true by simp, cond_true, Option.bind_some, idx_gt hi, idx_gi c0 c1, idx_gt (show k < (gt b.Library.Cells (gt b.Design.Instances i).Cell.toNat).Pins.length by omega), Int.toNat_natCast]
    exact .done
  · rw [e]; exact .done

theorem NetOfPlace_ev {b : TBlock} {j : Nat} (hok : ok_Block b) (h : blockB b = true) (hj : j < (places b.Design).length) : Ev (fun n => spec_NetOfPlace n b.Library b.Design (j : Int)) (gt (places b.Design) j).net := by
  unfold spec_NetOfPlace
  exact Ev.bind (l05At_ev hok h hj) .done

theorem l05Driver_ev {b : TBlock} {k : Int} (h : blockB b = true) {j : Nat} (hj : j < (places b.Design).length) (hk : (gt (places b.Design) j).net = k) (hdr : (gt (places b.Design) j).drives = true) : Ev (fun n => spec_l05Driver n b.Design k) (j : Int) := by
  have hd := blockB_des h
  have hs := designB_small hd
  have hl := places_len hs
  have e : ixL (fun q : Tl05Place => (q.net == k) && q.drives) ((places b.Design).map toSp) = (j : Int) := by
    refine ixL_gt (by simpa using hj) ?_ (fun i hi hq => ?_)
    · rw [gt_map hj]
      show (((gt (places b.Design) j).net == k) && (gt (places b.Design) j).drives) = true
      rw [hk, hdr]; simp
    · have hi' : i < (places b.Design).length := by simpa using hi
      rw [gt_map hi'] at hq
      have hq' : (((gt (places b.Design) i).net == k) && (gt (places b.Design) i).drives) = true := hq
      simp only [Bool.and_eq_true, beq_iff_eq] at hq'
      exact drv_uniq hd hi' hj (by rw [hq'.1, hk]) hq'.2 hdr
  unfold spec_l05Driver
  refine Ev.bind (sPlaces_ev hs) ?_
  rw [← e]
  exact index_ev (fin := (((places b.Design).map toSp).length : Int)) (Lf := spec_l05Driver_L1 k ((places b.Design).map toSp)) (pf := fun _ q => some ((q.net == k) && q.drives)) (fun _ _ => .done)
    (fun n => by simp only [spec_l05Driver_L1, lt_nat_f (Nat.le_refl _), cond_false])
    (fun n j x hx => by
      have hj := (List.getElem?_eq_some_iff.1 hx).1
      have hj' : j < (places b.Design).length := by simpa using hj
      simp only [spec_l05Driver_L1, lt_nat_t hj, cond_true, idx_at hx, Option.bind_some, w64_succ (show j < 9223372036854775807 by omega)]
      cases (x.net == k) <;> cases x.drives <;> rfl)
    (fun n => by congr 1; funext o; cases o <;> rfl)

theorem l05Find_ev {b : TBlock} {i k : Nat} (h : blockB b = true) (hi : i < b.Design.Instances.length) (hk : k < (gt b.Design.Instances i).Nets.length) : Ev (fun n => spec_l05Find n b.Design (i : Int) (k : Int)) ((off b.Design i + k : Nat) : Int) := by
  have hd := blockB_des h
  have hs := designB_small hd
  have hl := places_len hs
  obtain ⟨hj, ej⟩ := place_at1 hi hk
  have e : ixL (fun q : Tl05Place => (q.instance_ == (i : Int)) && (q.pin == (k : Int))) ((places b.Design).map toSp) = ((off b.Design i + k : Nat) : Int) := by
    refine ixL_gt (by simpa using hj) ?_ (fun m hm hq => ?_)
    · rw [gt_map hj, ej]
      unfold place1 toSp
      simp
    · have hm' : m < (places b.Design).length := by simpa using hm
      rw [gt_map hm'] at hq
      rcases place_cases hm' with ⟨i', k', hi', hk', em, e'⟩ | ⟨i', hi', em, e'⟩
      · rw [e'] at hq
        unfold place1 toSp at hq
        simp only [Bool.and_eq_true, beq_iff_eq] at hq
        obtain rfl : i' = i := by omega
        obtain rfl : k' = k := by omega
        exact em
      · rw [e'] at hq
        unfold place2 toSp at hq
        simp only [Bool.and_eq_true, beq_iff_eq] at hq
        omega
  unfold spec_l05Find
  refine Ev.bind (sPlaces_ev hs) ?_
  rw [← e]
  exact index_ev (fin := (((places b.Design).map toSp).length : Int)) (Lf := spec_l05Find_L1 (i : Int) (k : Int) ((places b.Design).map toSp)) (pf := fun _ q => some ((q.instance_ == (i : Int)) && (q.pin == (k : Int)))) (fun _ _ => .done)
    (fun n => by simp only [spec_l05Find_L1, lt_nat_f (Nat.le_refl _), cond_false])
    (fun n j x hx => by
      have hj := (List.getElem?_eq_some_iff.1 hx).1
      have hj' : j < (places b.Design).length := by simpa using hj
      simp only [spec_l05Find_L1, lt_nat_t hj, cond_true, idx_at hx, Option.bind_some, w64_succ (show j < 9223372036854775807 by omega)]
      cases (x.instance_ == (i : Int)) <;> cases (x.pin == (k : Int)) <;> rfl)
    (fun n => by congr 1; funext o; cases o <;> rfl)

/-! ### Successors -/

def freeB (b : TBlock) (y : Int) : Bool := !clkB b (gt (places b.Design) y.toNat)
def dataB (c : TCell) (pin : Int) : Bool := c.Arcs.any fun a => (a.From == pin) && decide (a.Kind ≤ 3)
def succL (b : TBlock) (j : Nat) : List Int :=
  bif (gt (places b.Design) j).drives then (sinksL b.Design (gt (places b.Design) j).net (places b.Design).length).filter (freeB b)
  else bif decide ((gt (places b.Design) j).instance_ < 0) then []
  else bif dataB (cellAt b (gt (places b.Design) j).instance_) (gt (places b.Design) j).pin then [(j : Int) - (gt (places b.Design) j).pin + (((cellAt b (gt (places b.Design) j).instance_).Pins.length : Int) - 1)] else []

theorem dataArc_ev {c : TCell} {p : Tplace} (hc : cellB c = true) : Ev (fun n => slices_ContainsFunc_impl_Arc_impl_view_successors_1 n c.Arcs p) (dataB c p.pin) := by
  have ha := cellB_arcs hc
  unfold slices_ContainsFunc_impl_Arc_impl_view_successors_1
  refine Ev.bind (b := ixL (fun a : TArc => (a.From == p.pin) && decide (a.Kind ≤ 3)) c.Arcs) (index_ev (fin := (c.Arcs.length : Int)) (Lf := slices_IndexFunc_impl_Arc_impl_view_successors_1_L1 c.Arcs p) (pf := fun n x => impl_view_successors_1 n x p) (fun x hx => ?_)
    (fun n => by simp only [slices_IndexFunc_impl_Arc_impl_view_successors_1_L1, lt_nat_f (Nat.le_refl _), cond_false])
    (fun n j x hx => by
      have hj := (List.getElem?_eq_some_iff.1 hx).1
      simp only [slices_IndexFunc_impl_Arc_impl_view_successors_1_L1, lt_nat_t hj, cond_true, idx_at hx, Option.bind_some, w64_succ (show j < 9223372036854775807 by omega)])
    (fun n => by unfold slices_IndexFunc_impl_Arc_impl_view_successors_1; congr 1; funext o; cases o <;> rfl)) (Ev.now (by rw [ixL_ge]; rfl))
  obtain ⟨j, hj, rfl⟩ := List.getElem_of_mem hx
  have hk := (cellB_kinds hc hj).1
  rw [gt_eq hj] at hk
  refine ⟨0, fun n _ => ?_⟩
  have e : decide (c.Arcs[j].Kind ≤ 3) = ((c.Arcs[j].Kind == 1) || ((c.Arcs[j].Kind == 2) || (c.Arcs[j].Kind == 3))) := by
    rw [Bool.eq_iff_iff]; simp; omega
  rw [e]
  unfold impl_view_successors_1 impl_isDataArc
  cases (c.Arcs[j].Kind == 1) <;> cases (c.Arcs[j].Kind == 2) <;> cases (c.Arcs[j].Kind == 3) <;> simp

theorem successors_ev {b : TBlock} {V : Tview} {j : Nat} (h : blockB b = true) (hV : V.Block = b) (hP : V.places = places b.Design) (hj : j < (places b.Design).length) : Ev (fun n => impl_view_successors n (some V) (j : Int)) (succL b j) := by
  have hd := blockB_des h
  have hs := designB_small hd
  have hl := places_len hs
  unfold impl_view_successors succL
  simp only [Option.bind_some, hP, idx_gt hj]
  refine Ev.iff (fun _ => ?_) (fun _ => Ev.iff (fun _ => .done) (fun h0 => ?_))
  · have hL : Ev (fun n => impl_view_successors_L1 (some V) V (gt (places b.Design) j) n ([] : List Int) 0) ((sinksL b.Design (gt (places b.Design) j).net (places b.Design).length).filter (freeB b), ((places b.Design).length : Int)) := by
      refine loopF (Lf := impl_view_successors_L1 (some V) V (gt (places b.Design) j)) (S := fun m => (sinksL b.Design (gt (places b.Design) j).net m).filter (freeB b)) (len := (places b.Design).length) (fun n => ?_) (fun m hm X hX => ?_)
      · simp only [impl_view_successors_L1, hP, lt_nat_f (Nat.le_refl _), cond_false]
      · have hc : ((sinksL b.Design (gt (places b.Design) j).net m).filter (freeB b)).length + [(m : Int)].length ≤ 2147483648 := by
          have h1 := List.length_filter_le (freeB b) (sinksL b.Design (gt (places b.Design) j).net m)
          rw [sinksL_len] at h1
          have : cntP (snkQ b.Design (gt (places b.Design) j).net) m ≤ m := cntP_le
          rw [List.length_singleton]; omega
        simp only [impl_view_successors_L1, hP, lt_nat_t hm, cond_true, idx_gt hm, Option.bind_some, isClockPin_eq h hV hm, w64_succ (show m < 9223372036854775807 by omega)]
        rw [sinksL_succ] at hX
        unfold snkQ at hX
        cases h1 : ((gt (places b.Design) m).net == (gt (places b.Design) j).net)
        · rw [h1] at hX
          simp only [Bool.false_and, cond_false, List.append_nil] at hX ⊢
          exact hX
        · cases h2 : (gt (places b.Design) m).drives
          · rw [h1, h2] at hX
            simp only [Bool.not_false, Bool.and_self, cond_true, List.filter_append] at hX ⊢
            have hf : freeB b (m : Int) = !clkB b (gt (places b.Design) m) := by unfold freeB; rw [Int.toNat_natCast]
            cases h3 : clkB b (gt (places b.Design) m)
            · rw [h3] at hf
              rw [List.filter_cons_of_pos (by rw [hf]; rfl), List.filter_nil] at hX
              simp only [Bool.not_false, cond_true, appS_ok hc, Option.bind_some]
              exact hX
            · rw [h3] at hf
              rw [List.filter_cons_of_neg (by rw [hf]; decide), List.filter_nil, List.append_nil] at hX
              exact hX
          · rw [h1, h2] at hX
            simp only [Bool.not_true, Bool.and_false, cond_false, List.append_nil, cond_true] at hX ⊢
            exact hX
    exact Ev.bind hL .done
  · rcases place_cases hj with ⟨i, k, hi, hk, ej, e⟩ | ⟨i, hi, _, e⟩
    · obtain ⟨⟨c0, c1⟩, hn, hcb⟩ := inst_cell hd hi
      have hxs := hs.nx i hi
      rw [e]
      have ec : cellAt b (place1 b.Design i k).instance_ = gt b.Library.Cells (gt b.Design.Instances i).Cell.toNat := by
        unfold cellAt place1; rw [Int.toNat_natCast]
      rw [ec]
      have e1 : ∀ n, impl_Block_cellOf n V.Block (place1 b.Design i k).instance_ = some (gt b.Library.Cells (gt b.Design.Instances i).Cell.toNat) := by
        intro n
        rw [hV]
        unfold place1
        simp only [impl_Block_cellOf, idx_gt hi, idx_gi c0 c1, Option.bind_some]
      refine Ev.bind ⟨0, fun n _ => e1 n⟩ (Ev.bind (dataArc_ev hcb) (Ev.iff (fun _ => ?_) (fun _ => .done)))
      simp only [impl_Cell_output, impl_length_impl_Pin, Option.bind_some]
      refine Ev.now ?_
      have ep : (place1 b.Design i k).pin = (k : Int) := rfl
      rw [ep, w64_pred (by omega), w64_of (show -9223372036854775808 ≤ (j : Int) - (k : Int) by omega) (by omega), w64_of (by omega) (by omega)]
    · rw [e] at h0
      exact absurd h0 (by show ¬ decide ((-1 : Int) < 0) = false; decide)

theorem l22After_ev {b : TBlock} {j : Nat} (hok : ok_Block b) (h : blockB b = true) (hj : j < (places b.Design).length) : Ev (fun n => spec_l22After n b (j : Int)) (succL b j) := by
  have hd := blockB_des h
  have hs := designB_small hd
  have hl := places_len hs
  obtain ⟨n0, n1⟩ := places_net hd hj
  obtain ⟨jd, hjd, nd, dd⟩ := drv_ex hd n0 n1
  have hsl : (sinksL b.Design (gt (places b.Design) j).net (places b.Design).length).length ≤ 78 := by
    rw [sinksL_len]
    have : cntP (snkQ b.Design (gt (places b.Design) j).net) (places b.Design).length ≤ (places b.Design).length := cntP_le
    omega
  unfold spec_l22After
  refine Ev.bind (l05At_ev hok h hj) (Ev.bind (NetOfPlace_ev hok h hj) (Ev.bind (l05Driver_ev h hjd nd dd) ?_))
  have e0 : ((jd : Int) == (j : Int)) = (gt (places b.Design) j).drives := by
    rw [Bool.eq_iff_iff, beq_iff_eq]
    constructor
    · intro e
      obtain rfl : jd = j := by omega
      exact dd
    · intro hdj
      have := drv_uniq hd hjd hj nd dd hdj
      omega
  rw [e0]
  unfold succL
  refine Ev.iff (fun _ => ?_) (fun _ => Ev.iff (fun _ => .done) (fun h0 => ?_))
  · refine Ev.bind (l05Sinks_ev hs) ?_
    have hL : Ev (fun n => spec_l22After_L1 b (sinksL b.Design (gt (places b.Design) j).net (places b.Design).length) n ([] : List Int) 0) ((sinksL b.Design (gt (places b.Design) j).net (places b.Design).length).filter (freeB b), ((sinksL b.Design (gt (places b.Design) j).net (places b.Design).length).length : Int)) := by
      refine loopF (Lf := spec_l22After_L1 b (sinksL b.Design (gt (places b.Design) j).net (places b.Design).length)) (S := fun m => ((sinksL b.Design (gt (places b.Design) j).net (places b.Design).length).take m).filter (freeB b)) (len := (sinksL b.Design (gt (places b.Design) j).net (places b.Design).length).length) (fun n => ?_) (fun m hm X hX => ?_)
      · simp only [spec_l22After_L1, lt_nat_f (Nat.le_refl _), cond_false, List.take_length]
      · obtain ⟨y, hy, ey, _⟩ := sinksL_at hm
        have hc : (((sinksL b.Design (gt (places b.Design) j).net (places b.Design).length).take m).filter (freeB b)).length + [(y : Int)].length ≤ 2147483648 := by
          have h1 := List.length_filter_le (freeB b) ((sinksL b.Design (gt (places b.Design) j).net (places b.Design).length).take m)
          rw [List.length_take] at h1
          rw [List.length_singleton]; omega
        have eg : (sinksL b.Design (gt (places b.Design) j).net (places b.Design).length)[m] = (y : Int) := by
          rw [idx_lt hm] at ey; exact Option.some.inj ey
        rw [List.take_succ_eq_append_getElem hm, List.filter_append, eg] at hX
        simp only [spec_l22After_L1, lt_nat_t hm, cond_true, ey, Option.bind_some, w64_succ (show m < 9223372036854775807 by omega)]
        refine Ev.bind (l22Clock_ev hok h hy) ?_
        have hf : freeB b (y : Int) = !clkB b (gt (places b.Design) y) := by unfold freeB; rw [Int.toNat_natCast]
        cases h3 : clkB b (gt (places b.Design) y)
        · rw [h3] at hf
          rw [List.filter_cons_of_pos (by rw [hf]; rfl), List.filter_nil] at hX
          simp only [Bool.not_false, cond_true, appS_ok hc, Option.bind_some]
          exact hX
        · rw [h3] at hf
          rw [List.filter_cons_of_neg (by rw [hf]; decide), List.filter_nil, List.append_nil] at hX
          exact hX
    exact Ev.bind hL .done
  · rcases place_cases hj with ⟨i, k, hi, hk, ej, e⟩ | ⟨i, hi, _, e⟩
    · obtain ⟨⟨c0, c1⟩, hn, hcb⟩ := inst_cell hd hi
      have hxs := hs.nx i hi
      rw [e]
      have ec : cellAt b (place1 b.Design i k).instance_ = gt b.Library.Cells (gt b.Design.Instances i).Cell.toNat := by
        unfold cellAt place1; rw [Int.toNat_natCast]
      rw [ec]
      have hA := cellB_arcs hcb
      have e1 : ∀ n, spec_l22Cell n b (toSp (place1 b.Design i k)).instance_ = some (gt b.Library.Cells (gt b.Design.Instances i).Cell.toNat) := by
        intro n
        unfold place1 toSp
        simp only [spec_l22Cell, idx_gt hi, idx_gi c0 c1, Option.bind_some]
      have e2 : Ev (fun n => spec_l05Find n b.Design (toSp (place1 b.Design i k)).instance_ (W64 (((gt b.Library.Cells (gt b.Design.Instances i).Cell.toNat).Pins.length : Int) - 1))) ((j : Int) - (k : Int) + (((gt b.Library.Cells (gt b.Design.Instances i).Cell.toNat).Pins.length : Int) - 1)) := by
        have := l05Find_ev h hi (k := (gt b.Library.Cells (gt b.Design.Instances i).Cell.toNat).Pins.length - 1) (by omega)
        rw [w64_pred (by omega), show ((gt b.Library.Cells (gt b.Design.Instances i).Cell.toNat).Pins.length : Int) - 1 = (((gt b.Library.Cells (gt b.Design.Instances i).Cell.toNat).Pins.length - 1 : Nat) : Int) by omega]
        refine this.cast ?_
        omega
      have hL2 : Ev (fun n => spec_l22After_L2 b (toSp (place1 b.Design i k)) (gt b.Library.Cells (gt b.Design.Instances i).Cell.toNat) n 0) (bif ((gt b.Library.Cells (gt b.Design.Instances i).Cell.toNat).Arcs.all fun a => !((a.From == (k : Int)) && decide (a.Kind ≤ 3))) then .nxt ((gt b.Library.Cells (gt b.Design.Instances i).Cell.toNat).Arcs.length : Int) else .ret [(j : Int) - (k : Int) + (((gt b.Library.Cells (gt b.Design.Instances i).Cell.toNat).Pins.length : Int) - 1)]) :=
        all_loop (fun n => by simp only [spec_l22After_L2, lt_nat_f (Nat.le_refl _), cond_false]) (fun m hm X hX => by
          simp only [spec_l22After_L2, lt_nat_t hm, cond_true, idx_lt hm, Option.bind_some, w64_succ (show m < 9223372036854775807 by omega)]
          rw [show (toSp (place1 b.Design i k)).pin = (k : Int) from rfl]
          refine Ev.bind (b := ((gt b.Library.Cells (gt b.Design.Instances i).Cell.toNat).Arcs[m].From == (k : Int)) && decide ((gt b.Library.Cells (gt b.Design.Instances i).Cell.toNat).Arcs[m].Kind ≤ 3)) (Ev.andP fun _ => .done) ?_
          cases (((gt b.Library.Cells (gt b.Design.Instances i).Cell.toNat).Arcs[m].From == (k : Int)) && decide ((gt b.Library.Cells (gt b.Design.Instances i).Cell.toNat).Arcs[m].Kind ≤ 3))
          · exact hX
          · exact Ev.bind e2 .done)
      refine Ev.bind ⟨0, fun n _ => e1 n⟩ (Ev.bind hL2 ?_)
      have e3 : dataB (gt b.Library.Cells (gt b.Design.Instances i).Cell.toNat) (place1 b.Design i k).pin = !((gt b.Library.Cells (gt b.Design.Instances i).Cell.toNat).Arcs.all fun a => !((a.From == (k : Int)) && decide (a.Kind ≤ 3))) := by
        unfold dataB
        rw [show (place1 b.Design i k).pin = (k : Int) from rfl, Bool.eq_iff_iff]
        simp
      rw [e3, show (place1 b.Design i k).pin = (k : Int) from rfl]
      cases ((gt b.Library.Cells (gt b.Design.Instances i).Cell.toNat).Arcs.all fun a => !((a.From == (k : Int)) && decide (a.Kind ≤ 3))) <;> exact .done
    · rw [e] at h0
      exact absurd h0 (by show ¬ decide ((-1 : Int) < 0) = false; decide)

/-! ### Data paths -/

def hasI (xs : List Int) (y : Int) : Bool := xs.any fun x => x == y
theorem l28Has_ev {xs : List Int} {y : Int} (hl : xs.length ≤ 1048576) : Ev (fun n => spec_l28Has n xs y) (ixL (fun x => x == y) xs) :=
  index_ev (fin := (xs.length : Int)) (Lf := spec_l28Has_L1 xs y) (pf := fun _ x => some (x == y)) (fun _ _ => .done)
    (fun n => by simp only [spec_l28Has_L1, lt_nat_f (Nat.le_refl _), cond_false])
    (fun n j x hx => by
      have hj := (List.getElem?_eq_some_iff.1 hx).1
      simp only [spec_l28Has_L1, lt_nat_t hj, cond_true, idx_at hx, Option.bind_some, w64_succ (show j < 9223372036854775807 by omega)])
    (fun n => by unfold spec_l28Has; congr 1; funext o; cases o <;> rfl)
theorem contains_ev {xs : List Int} {y : Int} (hl : xs.length ≤ 1048576) : Ev (fun n => slices_Contains_int64 n xs y) (hasI xs y) := by
  unfold slices_Contains_int64
  refine Ev.bind (b := ixL (fun x => y == x) xs) (index_ev (fin := (xs.length : Int)) (Lf := slices_Index_int64_L1 xs y) (pf := fun _ x => some (y == x)) (fun _ _ => .done)
    (fun n => by simp only [slices_Index_int64_L1, lt_nat_f (Nat.le_refl _), cond_false])
    (fun n j x hx => by
      have hj := (List.getElem?_eq_some_iff.1 hx).1
      simp only [slices_Index_int64_L1, lt_nat_t hj, cond_true, idx_at hx, Option.bind_some, w64_succ (show j < 9223372036854775807 by omega)])
    (fun n => by unfold slices_Index_int64; congr 1; funext o; cases o <;> rfl)) (Ev.now ?_)
  rw [ixL_ge]
  unfold hasI
  congr 2
  funext x
  rw [Bool.eq_iff_iff, beq_iff_eq, beq_iff_eq]
  exact eq_comm
theorem ixL_lt {p : Int → Bool} {xs : List Int} : decide (ixL p xs < 0) = !xs.any p := by
  rw [← ixL_ge, Bool.eq_iff_iff]; simp

theorem succL_len {b : TBlock} (h : blockB b = true) {j : Nat} : (succL b j).length ≤ 78 := by
  have hs := designB_small (blockB_des h)
  have hl := places_len hs
  unfold succL
  cases (gt (places b.Design) j).drives
  · cases decide ((gt (places b.Design) j).instance_ < 0)
    · cases dataB (cellAt b (gt (places b.Design) j).instance_) (gt (places b.Design) j).pin
      · exact Nat.zero_le _
      · show 1 ≤ 78; omega
    · exact Nat.zero_le _
  · have h1 := List.length_filter_le (freeB b) (sinksL b.Design (gt (places b.Design) j).net (places b.Design).length)
    rw [sinksL_len] at h1
    have : cntP (snkQ b.Design (gt (places b.Design) j).net) (places b.Design).length ≤ (places b.Design).length := cntP_le
    simp only [cond_true]
    omega

def inPl (b : TBlock) (x : Int) : Bool := inI x 0 (((places b.Design).length : Int) - 1)
def stepP (b : TBlock) (path : List Int) (j : Nat) : Bool := decide (j = 0) || hasI (succL b (at0 path (j - 1)).toNat) (at0 path j)
def dpathB (b : TBlock) (path : List Int) : Bool := lenB path 1 60 && (allN (fun j => inPl b (at0 path j)) path.length && allN (stepP b path) path.length)

theorem isDataPath_ev {b : TBlock} {V : Tview} {path : List Int} (h : blockB b = true) (hV : V.Block = b) (hP : V.places = places b.Design) (hl : path.length ≤ 1048576) : Ev (fun n => impl_view_isDataPath n (some V) path) (dpathB b path) := by
  have hs := designB_small (blockB_des h)
  have hpl := places_len hs
  unfold impl_view_isDataPath dpathB
  simp only [impl_length_int64, impl_length_impl_place, within_eq, Option.bind_some, hP, w64_pred (show (places b.Design).length ≤ 9223372036854775807 by omega), bnot_bif]
  rw [← Bool.and_assoc, show inI (path.length : Int) 1 60 = lenB path 1 60 from lenB_in (lo := 1) (hi := 60)]
  refine Ev.guardB (Ev.orBP fun _ => Ev.neg ((areWithin_ev hl).cast (by rw [all_allN (d := 0)]; rfl))) fun hb => ?_
  rw [Bool.and_eq_true, allN_iff] at hb
  obtain ⟨hlen, hin⟩ := hb
  have hlen' : 1 ≤ path.length := by unfold lenB at hlen; simp only [Bool.and_eq_true, decide_eq_true_eq] at hlen; exact hlen.1
  have hL := ev_from (Lf := impl_view_isDataPath_L1 (some V) path) (len := path.length) (i0 := 1) (f := stepP b path) (bad := false) (fin := .nxt (path.length : Int)) hlen'
    (Ev.succ (by simp only [impl_view_isDataPath_L1, lt_nat_f (Nat.le_refl _), cond_false]; exact .done))
    (fun j h1 hj X hX => Ev.succ (by
      have hp : inPl b (at0 path (j - 1)) = true := hin (j - 1) (by omega)
      unfold inPl at hp
      rw [inI_iff] at hp
      have ep := nat_of hp.1
      simp only [impl_view_isDataPath_L1, lt_nat_t hj, cond_true, show (j : Int) - 1 = ((j - 1 : Nat) : Int) by omega, w64_of (show -9223372036854775808 ≤ ((j - 1 : Nat) : Int) by omega) (by omega), w64_succ (show j < 9223372036854775807 by omega), idx_at0 (show j - 1 < path.length by omega), idx_at0 hj, Option.bind_some]
      unfold stepP
      rw [show decide (j = 0) = false by simp; omega, Bool.false_or]
      refine Ev.bind (b := succL b (at0 path (j - 1)).toNat) ?_ ?_
      · have := successors_ev h hV hP (j := (at0 path (j - 1)).toNat) (by omega)
        rw [← ep] at this
        exact this
      · exact Ev.chk1 (contains_ev (by have := succL_len h (j := (at0 path (j - 1)).toNat); omega)) fun _ => hX))
  have e : allN (fun j => stepP b path (1 + j)) (path.length - 1) = allN (stepP b path) path.length := by
    rw [Bool.eq_iff_iff, allN_iff, allN_iff]
    constructor
    · intro h j hj
      cases j with
      | zero => rfl
      | succ j => have := h j (by omega); rwa [Nat.add_comm] at this
    · intro h j hj
      exact h (1 + j) (by omega)
  rw [e] at hL
  refine Ev.bind hL ?_
  cases allN (stepP b path) path.length <;> exact .done

theorem IsDataPath_ev {b : TBlock} {path : List Int} (hok : ok_Block b) (hl : path.length ≤ 1048576) : Ev (fun n => impl_IsDataPath n b path) (blockB b && dpathB b path) := by
  unfold impl_IsDataPath
  refine Ev.and (IsBlock_ev hok) fun h => ?_
  obtain ⟨ls, lo, de, e⟩ := newView_ev h
  exact Ev.bind e (Ev.last (isDataPath_ev h rfl rfl hl))

theorem sIsDataPath_ev {b : TBlock} {path : List Int} (hok : ok_Block b) (hl : path.length ≤ 1048576) : Ev (fun n => spec_IsDataPath n b path) (blockB b && dpathB b path) := by
  unfold spec_IsDataPath dpathB
  rw [← Bool.and_assoc, ← allN_and]
  refine Ev.guardB ?_ fun hb => ?_
  · unfold lenB
    rw [show decide ((path.length : Int) < 1) = !decide (1 ≤ path.length) from lt_natB (k := 1), show decide ((path.length : Int) > 60) = !decide (path.length ≤ 60) from gt_natB (k := 60)]
    refine Ev.or (sIsBlock_ev hok) fun _ => ?_
    simp only [bnot_bif]
    exact Ev.orBP fun _ => .done
  · rw [Bool.and_eq_true] at hb
    have h := hb.1
    have hs := designB_small (blockB_des h)
    have hpl := places_len hs
    have hL : Ev (fun n => spec_IsDataPath_L1 b path n 0) (bif allN (fun j => inPl b (at0 path j) && stepP b path j) path.length then .nxt (path.length : Int) else .ret false) := by
      refine loopN (τ := Unit) (Lf := fun n _ j => spec_IsDataPath_L1 b path n j) (S := fun _ => ()) (fun j => inPl b (at0 path j) && stepP b path j) (fun n => ?_) (fun j hj hp X hX => ?_)
      · simp only [spec_IsDataPath_L1, lt_nat_f (Nat.le_refl _), cond_false]
      · simp only [spec_IsDataPath_L1, lt_nat_t hj, cond_true, idx_at0 hj, Option.bind_some, l01In_eq, w64_succ (show j < 9223372036854775807 by omega)]
        have e1 : Ev (fun n => spec_l22Count n b) ((places b.Design).length : Int) := by
          unfold spec_l22Count
          exact Ev.bind (sPlaces_ev hs) (Ev.now (by rw [List.length_map]))
        refine Ev.bind e1 ?_
        rw [w64_pred (show (places b.Design).length ≤ 9223372036854775807 by omega)]
        simp only [bnot_bif]
        refine Ev.okP fun hin => ?_
        have hX := fun hst => hX (by rw [Bool.and_eq_true]; exact ⟨hin, hst⟩)
        unfold stepP at hX ⊢
        by_cases h0 : j = 0
        · subst h0
          refine Ev.ff (by decide) ?_
          exact hX rfl
        · have hq := hp (j - 1) (by omega)
          rw [Bool.and_eq_true] at hq
          have hq := hq.1
          unfold inPl at hq
          rw [inI_iff] at hq
          have ep := nat_of hq.1
          rw [show decide (j = 0) = false by simp; omega, Bool.false_or] at hX ⊢
          refine Ev.tt (by simp; omega) ?_
          rw [w64_pred (show j ≤ 9223372036854775807 by omega), show (j : Int) - 1 = ((j - 1 : Nat) : Int) by omega, idx_at0 (show j - 1 < path.length by omega)]
          simp only [Option.bind_some]
          refine Ev.bind (b := succL b (at0 path (j - 1)).toNat) ?_ (Ev.bind (l28Has_ev (by have := succL_len h (j := (at0 path (j - 1)).toNat); omega)) ?_)
          · have := l22After_ev hok h (j := (at0 path (j - 1)).toNat) (by omega)
            rw [← ep] at this
            exact this
          · rw [ixL_lt]
            simp only [bnot_bif]
            exact Ev.okP1 hX
    refine Ev.bind hL ?_
    cases allN (fun j => inPl b (at0 path j) && stepP b path j) path.length <;> exact .done

theorem law_IsDataPath {b : TBlock} {path : List Int} (hb : rng_Block b) (hk : (rngL rngI) path) : Ev (fun n => laws_FnExactIsDataPath n b path) true := by
  unfold laws_FnExactIsDataPath
  by_cases hlen : path.length ≤ 1048576
  · refine Ev.ff (by simp; omega) ?_
    obtain ⟨r1, e1, q1⟩ := sz_Block (a := b) (left := 1048576) hb (by omega) (by omega)
    refine Ev.bind e1 ?_
    rcases q1 with q1 | ⟨p1, q1⟩
    · exact Ev.tt (by simpa using q1) .done
    · refine Ev.ff (by simp; omega) ?_
      have wb : w_Block b ≤ 1048576 := by omega
      have wk : w_Int64S path ≤ 1048576 := hlen
      have hok := okof_Block hb wb
      exact Ev.bind (to_Block wb) (Ev.bind (to_Int64S wk) (Ev.bind (sIsDataPath_ev hok hlen) (Ev.bind (to_Block wb) (Ev.bind (to_Int64S wk) (Ev.bind (IsDataPath_ev hok hlen) (Ev.ff (by simp) (Ev.bind (to_Block wb) (Ev.bind (eq_Block wb) (Ev.ff rfl (Ev.bind (to_Int64S wk) (Ev.bind (eq_Int64S wk) (Ev.ff rfl .done))))))))))))
  · exact Ev.tt (by simp; omega) .done
end Go.Fw
