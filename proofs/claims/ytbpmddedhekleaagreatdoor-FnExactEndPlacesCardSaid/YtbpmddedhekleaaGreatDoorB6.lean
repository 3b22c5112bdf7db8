/- Plain laws: designs. -/
import Derived.Test.YtbpmddedhekleaaGreatDoorB5
namespace Go.Fw
open Go
set_option maxRecDepth 100000

theorem cellB_name {c : TCell} (h : cellB c = true) : nameB c.Name = true := by
  unfold cellB at h; rw [Bool.and_eq_true] at h; exact h.1
theorem cellB_pins {c : TCell} (h : cellB c = true) : pinsB c.Pins = true := by
  unfold cellB at h; simp only [Bool.and_eq_true] at h; exact h.2.1

theorem sIsLibrary_ev {l : TLibrary} (h : ok_Library l) : Ev (fun n => spec_IsLibrary n l) (libB l) := by
  have hl := h.Cells.len
  have hL2 : ∀ j, j < l.Cells.length → Ev (fun n => spec_IsLibrary_L2 l (j : Int) n 0) (bif allN (neB (l.Cells.map TCell.Name) j) j then .nxt (j : Int) else .ret false) := by
    intro j hj
    refine ev_all ?_ (fun i hi X hX => Ev.succ ?_)
    · exact Ev.succ (by simp only [spec_IsLibrary_L2, lt_nat_f (Nat.le_refl _), cond_false]; exact .done)
    · simp only [spec_IsLibrary_L2, lt_nat_t hi, cond_true, idx_gt (show i < l.Cells.length by omega), idx_gt hj, Option.bind_some, toList_eq_iff, w64_succ (show i < 9223372036854775807 by omega)]
      unfold neB
      rw [strAt_map (g := TCell.Name) (show i < l.Cells.length by omega), strAt_map (g := TCell.Name) hj]
      exact Ev.chkP1 (fun _ => hX)
  have hL1 : Ev (fun n => spec_IsLibrary_L1 l n 0) (bif allN (fun j => cellB (gt l.Cells j) && allN (neB (l.Cells.map TCell.Name) j) j) l.Cells.length then .nxt (l.Cells.length : Int) else .ret false) := by
    refine ev_all ?_ (fun j hj X hX => Ev.succ ?_)
    · exact Ev.succ (by simp only [spec_IsLibrary_L1, lt_nat_f (Nat.le_refl _), cond_false]; exact .done)
    · simp only [spec_IsLibrary_L1, lt_nat_t hj, cond_true, idx_gt hj, Option.bind_some, w64_succ (show j < 9223372036854775807 by omega)]
      refine Ev.chk (sIsCell_ev (gt_ok h.Cells hj)) fun _ => Ev.bind (hL2 j hj) ?_
      cases allN (neB (l.Cells.map TCell.Name) j) j
      · exact .done
      · exact hX
  have e : libB l = (allN (fun j => cellB (gt l.Cells j) && allN (neB (l.Cells.map TCell.Name) j) j) l.Cells.length && decide (l.Cells.length ≤ 8)) := by
    unfold libB namesB
    rw [all_gt, List.length_map, Bool.and_comm (decide (l.Cells.length ≤ 8)), ← Bool.and_assoc, ← allN_and]
    congr 1
    refine allN_congr (fun j hj => ?_)
    rw [strAt_map (g := TCell.Name) hj]
    cases hc : cellB (gt l.Cells j)
    · rfl
    · rw [cellB_name hc]; rfl
  rw [e]
  unfold spec_IsLibrary
  refine Ev.bind hL1 ?_
  cases allN (fun j => cellB (gt l.Cells j) && allN (neB (l.Cells.map TCell.Name) j) j) l.Cells.length
  · exact .done
  · refine Ev.now ?_
    show some (decide ((l.Cells.length : Int) ≤ ((8 : Nat) : Int))) = some (true && decide (l.Cells.length ≤ 8))
    rw [le_natB, Bool.true_and]

theorem vecC_step {c c' : Nat → Nat} {m : Nat} {x : Int} (h0 : 0 ≤ x) (h1 : x < m) (hc : c x.toNat < 9223372036854775807) (he : ∀ k, k < m → c' k = c k + (bif x == (k : Int) then 1 else 0)) :
    idx (vecC c m) x = some (c x.toNat : Int) ∧ setS (vecC c m) x (W64 ((c x.toNat : Int) + 1)) = vecC c' m := by
  have ex : x = (x.toNat : Int) := nat_of h0
  have e1 := vecC_idx (c := c) (m := m) (k := x.toNat) (by omega)
  have e2 := vecC_bump (c := c) (m := m) (k := x.toNat) hc
  rw [← ex] at e1 e2
  refine ⟨e1, e2.trans (vecC_congr (fun k hk => ?_))⟩
  rw [he k hk]
  congr 2
  rw [Bool.eq_iff_iff]; simp; omega

/-! ### Parts of a design -/

def netB (d : TDesign) (x : Int) : Bool := inI x 0 ((d.Nets.length : Int) - 1)
theorem isNet_eq {n : Nat} {d : TDesign} {x : Int} (hl : d.Nets.length ≤ 1048576) : impl_Design_isNet n d x = some (netB d x) := by
  simp only [impl_Design_isNet, impl_length_string, Option.bind_some, within_eq, w64_pred (show d.Nets.length ≤ 9223372036854775807 by omega)]; rfl
theorem l01Net_eq {n : Nat} {d : TDesign} {x : Int} (hl : d.Nets.length ≤ 1048576) : spec_l01In n x 0 (W64 ((d.Nets.length : Int) - 1)) = some (netB d x) := by
  rw [l01In_eq, w64_pred (show d.Nets.length ≤ 9223372036854775807 by omega)]; rfl

def hasNamesB (d : TDesign) : Bool := (decide (d.Instances.length ≤ 14) && (decide (d.Nets.length ≤ 30) && decide (d.Ports.length ≤ 8))) && (namesB (d.Instances.map TInstance.Name) && (namesB d.Nets && namesB (d.Ports.map TPort.Name)))

theorem hasNames_ev {d : TDesign} (h : ok_Design d) : Ev (fun n => impl_Design_hasNames n d) (hasNamesB d) := by
  have hli := h.Instances.len
  have hlp := h.Ports.len
  have hL1 : Ev (fun n => impl_Design_hasNames_L1 d n ([] : List ByteArray) 0) (d.Instances.map TInstance.Name, (d.Instances.length : Int)) := by
    refine loopF (Lf := impl_Design_hasNames_L1 d) (S := fun j => (d.Instances.take j).map TInstance.Name) (len := d.Instances.length) (fun n => ?_) (fun j hj X hX => ?_)
    · simp only [impl_Design_hasNames_L1, lt_nat_f (Nat.le_refl _), cond_false, List.take_length]
    · simpa only [impl_Design_hasNames_L1, lt_nat_t hj, cond_true, idx_gt hj, Option.bind_some, appS_one hj hli, take_succ_gt (g := TInstance.Name) hj, w64_succ (show j < 9223372036854775807 by omega)] using hX
  have hL2 : Ev (fun n => impl_Design_hasNames_L2 d n ([] : List ByteArray) 0) (d.Ports.map TPort.Name, (d.Ports.length : Int)) := by
    refine loopF (Lf := impl_Design_hasNames_L2 d) (S := fun j => (d.Ports.take j).map TPort.Name) (len := d.Ports.length) (fun n => ?_) (fun j hj X hX => ?_)
    · simp only [impl_Design_hasNames_L2, lt_nat_f (Nat.le_refl _), cond_false, List.take_length]
    · simpa only [impl_Design_hasNames_L2, lt_nat_t hj, cond_true, idx_gt hj, Option.bind_some, appS_one hj hlp, take_succ_gt (g := TPort.Name) hj, w64_succ (show j < 9223372036854775807 by omega)] using hX
  unfold impl_Design_hasNames hasNamesB
  refine Ev.bind hL1 (Ev.bind hL2 ?_)
  simp only [List.length_map]
  rw [show decide ((d.Instances.length : Int) ≤ 14) = decide (d.Instances.length ≤ 14) from le_natB (k := 14), show decide ((d.Nets.length : Int) ≤ 30) = decide (d.Nets.length ≤ 30) from le_natB (k := 30), show decide ((d.Ports.length : Int) ≤ 8) = decide (d.Ports.length ≤ 8) from le_natB (k := 8)]
  rw [Bool.and_assoc, Bool.and_assoc]
  exact Ev.andP fun _ => Ev.andP fun _ => Ev.andP fun _ => Ev.and (areNames_ev (okS_map h.Instances (fun x hx => hx.Name))) fun _ => Ev.and (areNames_ev h.Nets) fun _ => Ev.last (areNames_ev (okS_map h.Ports (fun x hx => hx.Name)))

def instB (l : TLibrary) (d : TDesign) (x : TInstance) : Bool := inI x.Cell 0 ((l.Cells.length : Int) - 1) && (((x.Nets.length : Int) == ((gt l.Cells x.Cell.toNat).Pins.length : Int)) && x.Nets.all (netB d))

theorem isInstance_ev {d : TDesign} {l : TLibrary} {x : TInstance} (hn : d.Nets.length ≤ 1048576) (hc : l.Cells.length ≤ 1048576) (hx : x.Nets.length ≤ 1048576) : Ev (fun n => impl_Design_isInstance n d l x) (instB l d x) := by
  simp only [impl_Design_isInstance, impl_length_impl_Cell, Option.bind_some, within_eq, w64_pred (show l.Cells.length ≤ 9223372036854775807 by omega)]
  unfold instB
  refine Ev.andP fun hI => ?_
  rw [inI_iff] at hI
  rw [idx_gi hI.1 (by omega)]
  simp only [Option.bind_some]
  refine Ev.andP fun _ => Ev.bind (b := x.Nets.any fun y => !netB d y) ?_ (Ev.now (by rw [not_any]))
  unfold slices_ContainsFunc_int64_impl_Design_isInstance_1
  exact Ev.bind (b := ixL (fun y => !netB d y) x.Nets) (index_ev (fin := (x.Nets.length : Int)) (Lf := slices_IndexFunc_int64_impl_Design_isInstance_1_L1 x.Nets d) (pf := fun n y => impl_Design_isInstance_1 n y d) (fun y _ => ⟨0, fun n _ => by simp only [impl_Design_isInstance_1, isNet_eq hn, Option.bind_some]⟩)
      (fun n => by simp only [slices_IndexFunc_int64_impl_Design_isInstance_1_L1, lt_nat_f (Nat.le_refl _), cond_false])
      (fun n j y hx => by
        have hj := (List.getElem?_eq_some_iff.1 hx).1
        simp only [slices_IndexFunc_int64_impl_Design_isInstance_1_L1, lt_nat_t hj, cond_true, idx_at hx, Option.bind_some, w64_succ (show j < 9223372036854775807 by omega)])
      (fun n => by unfold slices_IndexFunc_int64_impl_Design_isInstance_1; congr 1; funext o; cases o <;> rfl)) (Ev.now (by rw [ixL_ge]))

def portB (d : TDesign) (p : TPort) : Bool := inI p.Dir 1 2 && netB d p.Net
theorem dir_eq {x : Int} : inI x 1 2 = ((x == 1) || (x == 2)) := by
  unfold inI; rw [Bool.eq_iff_iff]; simp; omega

/-- The net that an instance drives. -/
def lastN (x : TInstance) : Int := at0 x.Nets (x.Nets.length - 1)
theorem idx_last {x : TInstance} (h1 : 1 ≤ x.Nets.length) (h2 : x.Nets.length ≤ 1048576) : idx x.Nets (W64 ((x.Nets.length : Int) - 1)) = some (lastN x) := by
  rw [w64_pred (by omega), show ((x.Nets.length : Int) - 1) = ((x.Nets.length - 1 : Nat) : Int) by omega, idx_at0 (by omega)]; rfl
theorem netB_last {d : TDesign} {x : TInstance} (h1 : 1 ≤ x.Nets.length) (h : x.Nets.all (netB d) = true) : 0 ≤ lastN x ∧ lastN x < d.Nets.length := by
  rw [all_allN (d := 0), allN_iff] at h
  have := h (x.Nets.length - 1) (by omega)
  unfold netB at this
  rw [inI_iff] at this
  unfold lastN at0
  omega
theorem instB_last {l : TLibrary} {d : TDesign} {x : TInstance} (hl : libB l = true) (h : instB l d x = true) : 1 ≤ x.Nets.length ∧ 0 ≤ lastN x ∧ lastN x < d.Nets.length := by
  unfold instB at h
  simp only [Bool.and_eq_true, inI_iff, beq_iff_eq] at h
  obtain ⟨h1, h2, h3⟩ := h
  unfold libB at hl
  simp only [Bool.and_eq_true] at hl
  have hc := hl.1
  rw [all_gt, allN_iff] at hc
  have := pinsB_last (cellB_pins (hc x.Cell.toNat (by omega)))
  have h4 : 1 ≤ x.Nets.length := by omega
  exact ⟨h4, netB_last h4 h3⟩

def drvI (d : TDesign) (k j : Nat) : Nat := cntP (fun i => lastN (gt d.Instances i) == (k : Int)) j
def drvP (d : TDesign) (k j : Nat) : Nat := cntP (fun i => ((gt d.Ports i).Dir == 1) && ((gt d.Ports i).Net == (k : Int))) j
def drvB (d : TDesign) : Bool := allN (fun k => ((drvI d k d.Instances.length + drvP d k d.Ports.length : Nat) : Int) == 1) d.Nets.length
def designB (l : TLibrary) (d : TDesign) : Bool := (libB l && hasNamesB d) && (d.Instances.all (instB l d) && (d.Ports.all (portB d) && drvB d))

theorem drvI_step {d : TDesign} {k j : Nat} : drvI d k (j + 1) = drvI d k j + (bif lastN (gt d.Instances j) == (k : Int) then 1 else 0) := rfl
theorem drvP_step {d : TDesign} {k j : Nat} : drvP d k (j + 1) = drvP d k j + (bif ((gt d.Ports j).Dir == 1) && ((gt d.Ports j).Net == (k : Int)) then 1 else 0) := rfl

theorem IsDesign_ev {l : TLibrary} {d : TDesign} (h : ok_Library l) (hd : ok_Design d) : Ev (fun n => impl_IsDesign n l d) (designB l d) := by
  have hli := hd.Instances.len
  have hlp := hd.Ports.len
  have hln := hd.Nets.len
  have hlc := h.Cells.len
  unfold impl_IsDesign designB
  refine Ev.guardB (Ev.or (IsLibrary_ev h) fun _ => Ev.neg (hasNames_ev hd)) fun hb => ?_
  rw [Bool.and_eq_true] at hb
  rw [vecC_zero (m := d.Nets.length) (by omega)]
  simp only [Option.bind_some]
  have hL1 : Ev (fun n => impl_IsDesign_L1 l d n (vecC (fun _ => 0) d.Nets.length) 0) (bif allN (fun j => instB l d (gt d.Instances j)) d.Instances.length then .nxt (vecC (fun k => drvI d k d.Instances.length) d.Nets.length, (d.Instances.length : Int)) else .ret false) := by
    refine loopN (Lf := impl_IsDesign_L1 l d) (S := fun j => vecC (fun k => drvI d k j) d.Nets.length) (fun j => instB l d (gt d.Instances j)) (fun n => ?_) (fun j hj hp X hX => ?_)
    · simp only [impl_IsDesign_L1, lt_nat_f (Nat.le_refl _), cond_false]
    · simp only [impl_IsDesign_L1, lt_nat_t hj, cond_true, idx_gt hj, Option.bind_some, w64_succ (show j < 9223372036854775807 by omega)]
      have hxl := (gt_ok hd.Instances hj).Nets.len
      refine Ev.chk1 (isInstance_ev hln hlc hxl) fun hi => ?_
      obtain ⟨h1, h2, h3⟩ := instB_last hb.1 hi
      have hc : drvI d (lastN (gt d.Instances j)).toNat j ≤ j := cntP_le
      obtain ⟨e1, e2⟩ := vecC_step (c := fun k => drvI d k j) (c' := fun k => drvI d k (j + 1)) h2 h3 (by show drvI _ _ _ < _; omega) (fun k _ => drvI_step)
      simp only [idx_last h1 hxl, Option.bind_some, e1, e2]
      exact hX hi
  have hL2 : Ev (fun n => impl_IsDesign_L2 d n (vecC (fun k => drvI d k d.Instances.length) d.Nets.length) 0) (bif allN (fun j => portB d (gt d.Ports j)) d.Ports.length then .nxt (vecC (fun k => drvI d k d.Instances.length + drvP d k d.Ports.length) d.Nets.length, (d.Ports.length : Int)) else .ret false) := by
    refine loopN (Lf := impl_IsDesign_L2 d) (S := fun j => vecC (fun k => drvI d k d.Instances.length + drvP d k j) d.Nets.length) (fun j => portB d (gt d.Ports j)) (fun n => ?_) (fun j hj hp X hX => ?_)
    · simp only [impl_IsDesign_L2, lt_nat_f (Nat.le_refl _), cond_false]
    · simp only [impl_IsDesign_L2, lt_nat_t hj, cond_true, idx_gt hj, Option.bind_some, isNet_eq hln, bne, w64_succ (show j < 9223372036854775807 by omega)]
      refine Ev.chkT1 ?_ fun hi => ?_
      · unfold portB
        rw [dir_eq]
        cases ((gt d.Ports j).Dir == 1) <;> cases ((gt d.Ports j).Dir == 2) <;> exact .done
      · have hX := hX hi
        unfold portB netB at hi
        simp only [Bool.and_eq_true, inI_iff] at hi
        have hc1 : drvI d (gt d.Ports j).Net.toNat d.Instances.length ≤ d.Instances.length := cntP_le
        have hc2 : drvP d (gt d.Ports j).Net.toNat j ≤ j := cntP_le
        cases h1 : ((gt d.Ports j).Dir == 1)
        · have : vecC (fun k => drvI d k d.Instances.length + drvP d k (j + 1)) d.Nets.length = vecC (fun k => drvI d k d.Instances.length + drvP d k j) d.Nets.length := by
            refine vecC_congr (fun k _ => ?_)
            rw [drvP_step, h1]; rfl
          rw [this] at hX
          exact hX
        · obtain ⟨e1, e2⟩ := vecC_step (c := fun k => drvI d k d.Instances.length + drvP d k j) (c' := fun k => drvI d k d.Instances.length + drvP d k (j + 1)) (x := (gt d.Ports j).Net) (m := d.Nets.length) hi.2.1 (by omega) (by show drvI _ _ _ + drvP _ _ _ < _; omega) (fun k _ => by rw [drvP_step, h1, Bool.true_and]; omega)
          simp only [cond_true, Option.bind_some, e1, e2]
          exact hX
  rw [all_gt, all_gt]
  refine Ev.bind hL1 ?_
  cases allN (fun j => instB l d (gt d.Instances j)) d.Instances.length
  · exact .done
  · refine Ev.bind hL2 ?_
    cases allN (fun j => portB d (gt d.Ports j)) d.Ports.length
    · exact .done
    · simp only [cond_true, Bool.true_and]
      unfold slices_ContainsFunc_int_impl_IsDesign_1
      refine Ev.bind (b := (vecC (fun k => drvI d k d.Instances.length + drvP d k d.Ports.length) d.Nets.length).any fun x => !(x == 1)) (Ev.bind (b := ixL (fun x => !(x == 1)) (vecC (fun k => drvI d k d.Instances.length + drvP d k d.Ports.length) d.Nets.length)) (index_ev (fin := (((vecC (fun k => drvI d k d.Instances.length + drvP d k d.Ports.length) d.Nets.length).length : Nat) : Int)) (Lf := slices_IndexFunc_int_impl_IsDesign_1_L1 (vecC (fun k => drvI d k d.Instances.length + drvP d k d.Ports.length) d.Nets.length)) (pf := fun n y => impl_IsDesign_1 n y) (fun y _ => .done)
        (fun n => by simp only [slices_IndexFunc_int_impl_IsDesign_1_L1, lt_nat_f (Nat.le_refl _), cond_false])
        (fun n j y hx => by
          have hj := (List.getElem?_eq_some_iff.1 hx).1
          have : j < d.Nets.length := by rw [vecC_len] at hj; exact hj
          simp only [slices_IndexFunc_int_impl_IsDesign_1_L1, lt_nat_t hj, cond_true, idx_at hx, Option.bind_some, w64_succ (show j < 9223372036854775807 by omega)])
        (fun n => by unfold slices_IndexFunc_int_impl_IsDesign_1; congr 1; funext o; cases o <;> rfl)) (Ev.now (by rw [ixL_ge]))) (Ev.now ?_)
      rw [not_any, all_allN (d := 0), vecC_len]
      unfold drvB
      congr 1
      exact allN_congr (fun k hk => by
        have := vecC_at0 (c := fun k => drvI d k d.Instances.length + drvP d k d.Ports.length) hk
        unfold at0 at this
        rw [this])

theorem l05Parts_ev {l : TLibrary} {d : TDesign} (h : ok_Library l) (hd : ok_Design d) : Ev (fun n => spec_l05Parts n l d) (d.Instances.all (instB l d) && d.Ports.all (portB d)) := by
  have hli := hd.Instances.len
  have hlp := hd.Ports.len
  have hln := hd.Nets.len
  have hlc := h.Cells.len
  have hL2 : ∀ x : TInstance, x.Nets.length ≤ 1048576 → Ev (fun n => spec_l05Parts_L2 d x n 0) (bif x.Nets.all (netB d) then .nxt (x.Nets.length : Int) else .ret false) := fun x hx =>
    all_loop (fun n => by simp only [spec_l05Parts_L2, lt_nat_f (Nat.le_refl _), cond_false]) (fun j hj X hX => by
      simp only [spec_l05Parts_L2, lt_nat_t hj, cond_true, idx_lt hj, Option.bind_some, l01Net_eq hln, w64_succ (show j < 9223372036854775807 by omega), bnot_bif]
      exact Ev.okP1 fun _ => hX)
  have hL1 : Ev (fun n => spec_l05Parts_L1 l d n 0) (bif allN (fun j => instB l d (gt d.Instances j)) d.Instances.length then .nxt (d.Instances.length : Int) else .ret false) := by
    refine ev_all ?_ (fun j hj X hX => Ev.succ ?_)
    · exact Ev.succ (by simp only [spec_l05Parts_L1, lt_nat_f (Nat.le_refl _), cond_false]; exact .done)
    · simp only [spec_l05Parts_L1, lt_nat_t hj, cond_true, idx_gt hj, Option.bind_some, l01In_eq, w64_pred (show l.Cells.length ≤ 9223372036854775807 by omega), w64_succ (show j < 9223372036854775807 by omega), bne]
      have hxl := (gt_ok hd.Instances hj).Nets.len
      unfold instB
      rw [← Bool.and_assoc]
      refine Ev.chkT ?_ fun _ => Ev.bind (hL2 _ hxl) ?_
      · simp only [bnot_bif]
        refine Ev.orBP fun hI => ?_
        rw [inI_iff] at hI
        rw [idx_gi hI.1 (by omega)]
        exact .done
      · cases (gt d.Instances j).Nets.all (netB d)
        · exact .done
        · exact hX
  have hL3 : Ev (fun n => spec_l05Parts_L3 d n 0) (bif allN (fun j => portB d (gt d.Ports j)) d.Ports.length then .nxt (d.Ports.length : Int) else .ret false) := by
    refine ev_all ?_ (fun j hj X hX => Ev.succ ?_)
    · exact Ev.succ (by simp only [spec_l05Parts_L3, lt_nat_f (Nat.le_refl _), cond_false]; exact .done)
    · simp only [spec_l05Parts_L3, lt_nat_t hj, cond_true, idx_gt hj, Option.bind_some, l01Net_eq hln, w64_succ (show j < 9223372036854775807 by omega)]
      simp only [l01In_eq, Option.bind_some, bnot_bif]
      unfold portB
      exact Ev.okP fun _ => Ev.okP1 fun _ => hX
  unfold spec_l05Parts
  rw [all_gt, all_gt]
  refine Ev.bind hL1 ?_
  cases allN (fun j => instB l d (gt d.Instances j)) d.Instances.length
  · exact .done
  · refine Ev.bind hL3 ?_
    cases allN (fun j => portB d (gt d.Ports j)) d.Ports.length <;> exact .done

theorem sIsDesign_ev {l : TLibrary} {d : TDesign} (h : ok_Library l) (hd : ok_Design d) : Ev (fun n => spec_IsDesign n l d) (designB l d) := by
  have hli := hd.Instances.len
  have hlp := hd.Ports.len
  have hln := hd.Nets.len
  have hlc := h.Cells.len
  have e : designB l d = ((libB l && (decide (d.Instances.length ≤ 14) && (decide (d.Nets.length ≤ 30) && (decide (d.Ports.length ≤ 8) && (d.Instances.all (instB l d) && d.Ports.all (portB d)))))) && ((namesB (d.Instances.map TInstance.Name) && (namesB (d.Ports.map TPort.Name) && namesB d.Nets)) && drvB d)) := by
    unfold designB hasNamesB
    generalize libB l = a1
    generalize decide (d.Instances.length ≤ 14) = a2
    generalize decide (d.Nets.length ≤ 30) = a3
    generalize decide (d.Ports.length ≤ 8) = a4
    generalize d.Instances.all (instB l d) = a5
    generalize d.Ports.all (portB d) = a6
    generalize namesB (d.Instances.map TInstance.Name) = a7
    generalize namesB (d.Ports.map TPort.Name) = a8
    generalize namesB d.Nets = a9
    generalize drvB d = a10
    rw [Bool.eq_iff_iff]
    simp only [Bool.and_eq_true]
    constructor
    · rintro ⟨⟨h1, ⟨h2, h3, h4⟩, h7, h9, h8⟩, h5, h6, h10⟩
      exact ⟨⟨h1, h2, h3, h4, h5, h6⟩, ⟨h7, h8, h9⟩, h10⟩
    · rintro ⟨⟨h1, h2, h3, h4, h5, h6⟩, ⟨h7, h8, h9⟩, h10⟩
      exact ⟨⟨h1, ⟨h2, h3, h4⟩, h7, h9, h8⟩, h5, h6, h10⟩
  rw [e]
  unfold spec_IsDesign
  refine Ev.guardB ?_ fun hb => ?_
  · refine Ev.or (sIsLibrary_ev h) fun _ => ?_
    rw [show decide ((d.Instances.length : Int) > 14) = !decide (d.Instances.length ≤ 14) by rw [Bool.eq_iff_iff]; simp; omega, show decide ((d.Nets.length : Int) > 30) = !decide (d.Nets.length ≤ 30) by rw [Bool.eq_iff_iff]; simp; omega, show decide ((d.Ports.length : Int) > 8) = !decide (d.Ports.length ≤ 8) by rw [Bool.eq_iff_iff]; simp; omega]
    simp only [bnot_bif]
    exact Ev.orBP fun _ => Ev.orBP fun _ => Ev.orBP fun _ => Ev.neg (l05Parts_ev h hd)
  · simp only [Bool.and_eq_true] at hb
    obtain ⟨hlib, _, _, _, hI, hP⟩ := hb
    rw [all_gt, allN_iff] at hI hP
    have hL1 : Ev (fun n => spec_IsDesign_L1 d n ([] : List ByteArray) 0) (d.Instances.map TInstance.Name, (d.Instances.length : Int)) := by
      refine loopF (Lf := spec_IsDesign_L1 d) (S := fun j => (d.Instances.take j).map TInstance.Name) (len := d.Instances.length) (fun n => ?_) (fun j hj X hX => ?_)
      · simp only [spec_IsDesign_L1, lt_nat_f (Nat.le_refl _), cond_false, List.take_length]
      · simpa only [spec_IsDesign_L1, lt_nat_t hj, cond_true, idx_gt hj, Option.bind_some, appS_one hj hli, take_succ_gt (g := TInstance.Name) hj, w64_succ (show j < 9223372036854775807 by omega)] using hX
    have hL2 : Ev (fun n => spec_IsDesign_L2 d n ([] : List ByteArray) 0) (d.Ports.map TPort.Name, (d.Ports.length : Int)) := by
      refine loopF (Lf := spec_IsDesign_L2 d) (S := fun j => (d.Ports.take j).map TPort.Name) (len := d.Ports.length) (fun n => ?_) (fun j hj X hX => ?_)
      · simp only [spec_IsDesign_L2, lt_nat_f (Nat.le_refl _), cond_false, List.take_length]
      · simpa only [spec_IsDesign_L2, lt_nat_t hj, cond_true, idx_gt hj, Option.bind_some, appS_one hj hlp, take_succ_gt (g := TPort.Name) hj, w64_succ (show j < 9223372036854775807 by omega)] using hX
    have hL3 : Ev (fun n => spec_IsDesign_L3 d n (vecC (fun _ => 0) d.Nets.length) 0) (vecC (fun k => drvI d k d.Instances.length) d.Nets.length, (d.Instances.length : Int)) := by
      refine loopF (Lf := spec_IsDesign_L3 d) (S := fun j => vecC (fun k => drvI d k j) d.Nets.length) (len := d.Instances.length) (fun n => ?_) (fun j hj X hX => ?_)
      · simp only [spec_IsDesign_L3, lt_nat_f (Nat.le_refl _), cond_false]
      · have hxl := (gt_ok hd.Instances hj).Nets.len
        obtain ⟨h1, h2, h3⟩ := instB_last hlib (hI j hj)
        have hc : drvI d (lastN (gt d.Instances j)).toNat j ≤ j := cntP_le
        obtain ⟨e1, e2⟩ := vecC_step (c := fun k => drvI d k j) (c' := fun k => drvI d k (j + 1)) h2 h3 (by show drvI _ _ _ < _; omega) (fun k _ => drvI_step)
        simpa only [spec_IsDesign_L3, lt_nat_t hj, cond_true, idx_gt hj, Option.bind_some, w64_succ (show j < 9223372036854775807 by omega), idx_last h1 hxl, e1, e2] using hX
    have hL4 : Ev (fun n => spec_IsDesign_L4 d n (vecC (fun k => drvI d k d.Instances.length) d.Nets.length) 0) (vecC (fun k => drvI d k d.Instances.length + drvP d k d.Ports.length) d.Nets.length, (d.Ports.length : Int)) := by
      refine loopF (Lf := spec_IsDesign_L4 d) (S := fun j => vecC (fun k => drvI d k d.Instances.length + drvP d k j) d.Nets.length) (len := d.Ports.length) (fun n => ?_) (fun j hj X hX => ?_)
      · simp only [spec_IsDesign_L4, lt_nat_f (Nat.le_refl _), cond_false]
      · have hi := hP j hj
        unfold portB netB at hi
        simp only [Bool.and_eq_true, inI_iff] at hi
        have hc1 : drvI d (gt d.Ports j).Net.toNat d.Instances.length ≤ d.Instances.length := cntP_le
        have hc2 : drvP d (gt d.Ports j).Net.toNat j ≤ j := cntP_le
        simp only [spec_IsDesign_L4, lt_nat_t hj, cond_true, idx_gt hj, Option.bind_some, w64_succ (show j < 9223372036854775807 by omega)]
        cases h1 : ((gt d.Ports j).Dir == 1)
        · have : vecC (fun k => drvI d k d.Instances.length + drvP d k (j + 1)) d.Nets.length = vecC (fun k => drvI d k d.Instances.length + drvP d k j) d.Nets.length := by
            refine vecC_congr (fun k _ => ?_)
            rw [drvP_step, h1]; rfl
          rw [this] at hX
          exact hX
        · obtain ⟨e1, e2⟩ := vecC_step (c := fun k => drvI d k d.Instances.length + drvP d k j) (c' := fun k => drvI d k d.Instances.length + drvP d k (j + 1)) (x := (gt d.Ports j).Net) (m := d.Nets.length) hi.2.1 (by omega) (by show drvI _ _ _ + drvP _ _ _ < _; omega) (fun k _ => by rw [drvP_step, h1, Bool.true_and]; omega)
          simp only [cond_true, Option.bind_some, e1, e2]
          exact hX
    have hL5 : Ev (fun n => spec_IsDesign_L5 (vecC (fun _ => 0) d.Nets.length) (vecC (fun k => drvI d k d.Instances.length + drvP d k d.Ports.length) d.Nets.length) n 0) (bif drvB d then .nxt (d.Nets.length : Int) else .ret false) := by
      refine ev_all ?_ (fun j hj X hX => Ev.succ ?_)
      · exact Ev.succ (by simp only [spec_IsDesign_L5, vecC_len, lt_nat_f (Nat.le_refl _), cond_false]; exact .done)
      · simp only [spec_IsDesign_L5, vecC_len, lt_nat_t hj, cond_true, vecC_idx hj, Option.bind_some, bne, bnot_bif, w64_succ (show j < 9223372036854775807 by omega)]
        exact Ev.okP1 fun _ => hX
    refine Ev.bind hL1 (Ev.bind hL2 ?_)
    refine Ev.guardB (Ev.or (l05Names_ev (okS_map hd.Instances (fun x hx => hx.Name))) fun _ => Ev.or (l05Names_ev (okS_map hd.Ports (fun x hx => hx.Name))) fun _ => Ev.neg (l05Names_ev hd.Nets)) fun _ => ?_
    rw [vecC_zero (m := d.Nets.length) (by omega)]
    simp only [Option.bind_some]
    refine Ev.bind hL3 (Ev.bind hL4 (Ev.bind hL5 ?_))
    cases drvB d <;> exact .done
end Go.Fw
