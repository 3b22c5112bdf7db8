/- Plain laws: wires, places, blocks. -/
import Derived.Test.YtbpmddedhekleaaGreatDoorB6
namespace Go.Fw
open Go
set_option maxRecDepth 100000

theorem lt_natB {m k : Nat} : decide ((m : Int) < (k : Int)) = !decide (k ≤ m) := by rw [Bool.eq_iff_iff]; simp
theorem gt_natB {m k : Nat} : decide ((m : Int) > (k : Int)) = !decide (m ≤ k) := by rw [Bool.eq_iff_iff]; simp
/-! ### Wires -/

def treeB (w : TWire) (j : Nat) : Bool := bif decide (j = 0) then (at0 w.Parent j == -1) && (at0 w.Res j == 0) else inI (at0 w.Parent j) 0 ((j : Int) - 1)
def wireB (w : TWire) (s : Int) : Bool :=
  lenB w.Parent 1 8 && (((w.Res.length : Int) == (w.Parent.length : Int)) && (((w.Cap.length : Int) == (w.Parent.length : Int)) && (allN (treeB w) w.Parent.length &&
    ((w.Res.all fun x => inI x 0 1000) && ((w.Cap.all fun x => inI x 0 500) && (((w.Sink.length : Int) == s) && (w.Sink.all fun x => inI x 0 ((w.Parent.length : Int) - 1))))))))

theorem isTree_ev {w : TWire} (hl : w.Parent.length ≤ 1048576) (hr : ((w.Res.length : Int) == (w.Parent.length : Int)) = true) : Ev (fun n => impl_Wire_isTree n w) (allN (treeB w) w.Parent.length) := by
  rw [beq_iff_eq] at hr
  have hL : Ev (fun n => impl_Wire_isTree_L1 w n 0) (bif allN (treeB w) w.Parent.length then .nxt (w.Parent.length : Int) else .ret false) := by
    refine ev_all ?_ (fun j hj X hX => Ev.succ ?_)
    · exact Ev.succ (by simp only [impl_Wire_isTree_L1, lt_nat_f (Nat.le_refl _), cond_false]; exact .done)
    · simp only [impl_Wire_isTree_L1, lt_nat_t hj, cond_true, idx_at0 hj, Option.bind_some, within_eq, w64_succ (show j < 9223372036854775807 by omega), bne, bnot_bif]
      unfold treeB
      by_cases h0 : j = 0
      · subst h0
        rw [show idx w.Res (0 : Int) = some (at0 w.Res 0) from idx_at0 (j := 0) (by omega)]
        simp only [Option.bind_some]
        refine Ev.tt (by simp) (Ev.okP fun _ => Ev.okP1 fun _ => Ev.ff (by simp) hX)
      · have e1 : decide (j = 0) = false := by simp; omega
        have e2 : ((j : Int) == 0) = false := by simp; omega
        have e3 : decide ((j : Int) > 0) = true := by simp; omega
        rw [e1, e2, e3, w64_pred (show j ≤ 9223372036854775807 by omega)]
        simp only [cond_false, cond_true]
        exact Ev.okP1 fun _ => hX
  unfold impl_Wire_isTree
  refine Ev.bind hL ?_
  cases allN (treeB w) w.Parent.length <;> exact .done

theorem IsWire_ev {w : TWire} {s : Int} (h : ok_Wire w) : Ev (fun n => impl_IsWire n w s) (wireB w s) := by
  have hl := h.Parent.len
  simp only [impl_IsWire, impl_length_int64, Option.bind_some, within_eq, w64_pred (show w.Parent.length ≤ 9223372036854775807 by omega)]
  unfold wireB
  rw [show inI (w.Parent.length : Int) 1 8 = lenB w.Parent 1 8 from lenB_in (lo := 1) (hi := 8)]
  exact Ev.andP fun _ => Ev.andP fun hr => Ev.andP fun _ => Ev.and (isTree_ev hl hr) fun _ => Ev.and (areWithin_ev h.Res.len) fun _ => Ev.and (areWithin_ev h.Cap.len) fun _ => Ev.andP fun _ => Ev.last (areWithin_ev h.Sink.len)

theorem sIsWire_ev {w : TWire} {s : Int} (h : ok_Wire w) : Ev (fun n => spec_IsWire n w s) (wireB w s) := by
  have hl := h.Parent.len
  have hsl := h.Sink.len
  have e : wireB w s = ((decide (1 ≤ w.Parent.length) && (decide (w.Parent.length ≤ 8) && (((w.Res.length : Int) == (w.Parent.length : Int)) && (((w.Cap.length : Int) == (w.Parent.length : Int)) && ((w.Sink.length : Int) == s))))) && (allN (fun j => (inI (at0 w.Cap j) 0 500 && inI (at0 w.Res j) 0 1000) && treeB w j) w.Parent.length && (w.Sink.all fun x => inI x 0 ((w.Parent.length : Int) - 1)))) := by
    unfold wireB lenB
    cases h1 : ((w.Res.length : Int) == (w.Parent.length : Int))
    · simp
    · cases h2 : ((w.Cap.length : Int) == (w.Parent.length : Int))
      · simp
      · rw [beq_iff_eq] at h1 h2
        rw [allN_and, allN_and]
        rw [all_allN (p := fun x => inI x 0 1000) (d := 0), all_allN (p := fun x => inI x 0 500) (d := 0), show w.Res.length = w.Parent.length by omega, show w.Cap.length = w.Parent.length by omega]
        show _ = (_ && ((allN (fun j => inI (w.Cap.getD j 0) 0 500) _ && allN (fun j => inI (w.Res.getD j 0) 0 1000) _ && _) && _))
        generalize allN (fun j => inI (w.Cap.getD j 0) 0 500) w.Parent.length = a1
        generalize allN (fun j => inI (w.Res.getD j 0) 0 1000) w.Parent.length = a2
        generalize allN (fun j => treeB w j) w.Parent.length = a3
        generalize ((w.Sink.length : Int) == s) = a4
        generalize decide (1 ≤ w.Parent.length) = a5
        generalize decide (w.Parent.length ≤ 8) = a6
        generalize (w.Sink.all fun x => inI x 0 ((w.Parent.length : Int) - 1)) = a7
        cases a1 <;> cases a2 <;> cases a3 <;> cases a4 <;> cases a5 <;> cases a6 <;> rfl
  rw [e]
  unfold spec_IsWire
  refine Ev.guardB ?_ fun hb => ?_
  · rw [show decide ((w.Parent.length : Int) < 1) = !decide (1 ≤ w.Parent.length) from lt_natB (k := 1), show decide ((w.Parent.length : Int) > 8) = !decide (w.Parent.length ≤ 8) from gt_natB (k := 8)]
    simp only [bne, bnot_bif]
    exact Ev.orBP fun _ => Ev.orBP fun _ => Ev.orBP fun _ => Ev.orBP fun _ => .done
  · simp only [Bool.and_eq_true, beq_iff_eq] at hb
    have hL1 : Ev (fun n => spec_IsWire_L1 w n 0) (bif allN (fun j => (inI (at0 w.Cap j) 0 500 && inI (at0 w.Res j) 0 1000) && treeB w j) w.Parent.length then .nxt (w.Parent.length : Int) else .ret false) := by
      refine ev_all ?_ (fun j hj X hX => Ev.succ ?_)
      · exact Ev.succ (by simp only [spec_IsWire_L1, lt_nat_f (Nat.le_refl _), cond_false]; exact .done)
      · simp only [spec_IsWire_L1, lt_nat_t hj, cond_true, idx_at0 hj, idx_at0 (show j < w.Cap.length by omega), idx_at0 (show j < w.Res.length by omega), Option.bind_some, l01In_eq, w64_succ (show j < 9223372036854775807 by omega), bne, bnot_bif]
        refine Ev.chkT (Ev.orBP fun _ => .done) fun _ => ?_
        unfold treeB
        by_cases h0 : j = 0
        · subst h0
          refine Ev.tt (by simp) (Ev.okP fun _ => Ev.okP1 fun _ => Ev.ff (by simp) hX)
        · have e1 : decide (j = 0) = false := by simp; omega
          have e2 : ((j : Int) == 0) = false := by simp; omega
          have e3 : decide ((j : Int) > 0) = true := by simp; omega
          rw [e1, e2, e3, w64_pred (show j ≤ 9223372036854775807 by omega)]
          simp only [cond_false, cond_true]
          exact Ev.okP1 fun _ => hX
    have hL2 : Ev (fun n => spec_IsWire_L2 w n 0) (bif (w.Sink.all fun x => inI x 0 ((w.Parent.length : Int) - 1)) then .nxt (w.Sink.length : Int) else .ret false) :=
      all_loop (fun n => by simp only [spec_IsWire_L2, lt_nat_f (Nat.le_refl _), cond_false]) (fun j hj X hX => by
        simp only [spec_IsWire_L2, lt_nat_t hj, cond_true, idx_lt hj, Option.bind_some, l01In_eq, w64_pred (show w.Parent.length ≤ 9223372036854775807 by omega), w64_succ (show j < 9223372036854775807 by omega), bnot_bif]
        exact Ev.okP1 fun _ => hX)
    refine Ev.bind hL1 ?_
    cases allN (fun j => (inI (at0 w.Cap j) 0 500 && inI (at0 w.Res j) 0 1000) && treeB w j) w.Parent.length
    · exact .done
    · refine Ev.bind hL2 ?_
      cases (w.Sink.all fun x => inI x 0 ((w.Parent.length : Int) - 1)) <;> exact .done

/-! ### Places -/

instance : Inhabited Tplace := ⟨⟨0, 0, 0, false⟩⟩
instance : Inhabited Tl05Place := ⟨⟨0, 0, 0, false⟩⟩
def toSp (p : Tplace) : Tl05Place := ⟨p.instance_, p.pin, p.net, p.drives⟩
def plX (i : Nat) (x : TInstance) (j : Nat) : List Tplace := (List.range j).map fun (k : Nat) => ⟨(i : Int), (k : Int), at0 x.Nets k, decide (k + 1 = x.Nets.length)⟩
def plI (d : TDesign) (j : Nat) : List Tplace := (List.range j).flatMap fun (i : Nat) => plX i (gt d.Instances i) (gt d.Instances i).Nets.length
def plP (d : TDesign) (j : Nat) : List Tplace := (List.range j).map fun (i : Nat) => ⟨-1, (i : Int), (gt d.Ports i).Net, (gt d.Ports i).Dir == 1⟩
def places (d : TDesign) : List Tplace := plI d d.Instances.length ++ plP d d.Ports.length

theorem plX_succ {i : Nat} {x : TInstance} {j : Nat} : plX i x (j + 1) = plX i x j ++ [⟨(i : Int), (j : Int), at0 x.Nets j, decide (j + 1 = x.Nets.length)⟩] := by
  unfold plX; rw [List.range_succ, List.map_append]; rfl
theorem plI_succ {d : TDesign} {j : Nat} : plI d (j + 1) = plI d j ++ plX j (gt d.Instances j) (gt d.Instances j).Nets.length := by
  unfold plI; rw [List.range_succ, List.flatMap_append]; simp
theorem plP_succ {d : TDesign} {j : Nat} : plP d (j + 1) = plP d j ++ [⟨-1, (j : Int), (gt d.Ports j).Net, (gt d.Ports j).Dir == 1⟩] := by
  unfold plP; rw [List.range_succ, List.map_append]; rfl
theorem plX_len {i : Nat} {x : TInstance} {j : Nat} : (plX i x j).length = j := by simp [plX]
theorem plP_len {d : TDesign} {j : Nat} : (plP d j).length = j := by simp [plP]

/-- What a valid design says of its sizes. -/
structure smallD (d : TDesign) : Prop where
  ni : d.Instances.length ≤ 14
  nn : d.Nets.length ≤ 30
  np : d.Ports.length ≤ 8
  nx : ∀ i, i < d.Instances.length → 2 ≤ (gt d.Instances i).Nets.length ∧ (gt d.Instances i).Nets.length ≤ 5

theorem designB_small {l : TLibrary} {d : TDesign} (h : designB l d = true) : smallD d := by
  unfold designB hasNamesB libB at h
  simp only [Bool.and_eq_true, decide_eq_true_eq] at h
  obtain ⟨⟨⟨hc, _⟩, ⟨h1, h2, h3⟩, _⟩, hI, _⟩ := h
  refine ⟨h1, h2, h3, fun i hi => ?_⟩
  rw [all_gt, allN_iff] at hI hc
  have := hI i hi
  unfold instB at this
  simp only [Bool.and_eq_true, inI_iff, beq_iff_eq] at this
  have h5 := pinsB_last (cellB_pins (hc (gt d.Instances i).Cell.toNat (by omega)))
  omega
theorem plI_len {d : TDesign} (h : smallD d) {j : Nat} (hj : j ≤ d.Instances.length) : (plI d j).length ≤ 5 * j := by
  induction j with
  | zero => exact Nat.le_refl _
  | succ j ih =>
    rw [plI_succ, List.length_append, plX_len]
    have := ih (by omega)
    have := h.nx j (by omega)
    omega
theorem places_len {d : TDesign} (h : smallD d) : (places d).length ≤ 78 := by
  unfold places
  rw [List.length_append, plP_len]
  have := plI_len h (Nat.le_refl _)
  have := h.ni
  have := h.np
  omega

theorem places_ev {d : TDesign} (h : smallD d) : Ev (fun n => impl_Design_places n d) (places d) := by
  have h1 := h.ni
  have h2 := h.np
  have hL2 : ∀ i, i < d.Instances.length → ∀ pre : List Tplace, pre.length ≤ 100 → Ev (fun n => impl_Design_places_L2 (i : Int) (gt d.Instances i) n pre 0) (pre ++ plX i (gt d.Instances i) (gt d.Instances i).Nets.length, ((gt d.Instances i).Nets.length : Int)) := by
    intro i hi pre hp
    have h5 := h.nx i hi
    have := loopF (Lf := impl_Design_places_L2 (i : Int) (gt d.Instances i)) (S := fun j => pre ++ plX i (gt d.Instances i) j) (len := (gt d.Instances i).Nets.length) (fin := (pre ++ plX i (gt d.Instances i) (gt d.Instances i).Nets.length, ((gt d.Instances i).Nets.length : Int))) (fun n => by
        simp only [impl_Design_places_L2, lt_nat_f (Nat.le_refl _), cond_false])
      (fun j hj X hX => by
        have hc : (pre ++ plX i (gt d.Instances i) j).length + [(⟨(i : Int), (j : Int), at0 (gt d.Instances i).Nets j, decide (j + 1 = (gt d.Instances i).Nets.length)⟩ : Tplace)].length ≤ 2147483648 := by
          rw [List.length_append, plX_len]; simp; omega
        simp only [impl_Design_places_L2, lt_nat_t hj, cond_true, idx_at0 hj, Option.bind_some, lastE hj (show (gt d.Instances i).Nets.length ≤ 1048576 by omega), appS_ok hc, List.append_assoc, ← plX_succ, w64_succ (show j < 9223372036854775807 by omega)]
        exact hX)
    simpa [plX] using this
  have hL1 : Ev (fun n => impl_Design_places_L1 d n ([] : List Tplace) 0) (plI d d.Instances.length, (d.Instances.length : Int)) := by
    refine loopF (Lf := impl_Design_places_L1 d) (S := fun j => plI d j) (len := d.Instances.length) (fun n => ?_) (fun j hj X hX => ?_)
    · simp only [impl_Design_places_L1, lt_nat_f (Nat.le_refl _), cond_false]
    · simp only [impl_Design_places_L1, lt_nat_t hj, cond_true, idx_gt hj, Option.bind_some, w64_succ (show j < 9223372036854775807 by omega)]
      refine Ev.bind (hL2 j hj _ (by have := plI_len h (Nat.le_of_lt hj); omega)) ?_
      rw [← plI_succ]
      exact hX
  have hL3 : Ev (fun n => impl_Design_places_L3 d n (plI d d.Instances.length) 0) (places d, (d.Ports.length : Int)) := by
    have := loopF (Lf := impl_Design_places_L3 d) (S := fun j => plI d d.Instances.length ++ plP d j) (len := d.Ports.length) (fin := (places d, (d.Ports.length : Int))) (fun n => by
        simp only [impl_Design_places_L3, lt_nat_f (Nat.le_refl _), cond_false]; rfl)
      (fun j hj X hX => by
        have hc : (plI d d.Instances.length ++ plP d j).length + [(⟨-1, (j : Int), (gt d.Ports j).Net, (gt d.Ports j).Dir == 1⟩ : Tplace)].length ≤ 2147483648 := by
          rw [List.length_append, plP_len]; have := plI_len h (Nat.le_refl _); simp; omega
        simp only [impl_Design_places_L3, lt_nat_t hj, cond_true, idx_gt hj, Option.bind_some, appS_ok hc, List.append_assoc, ← plP_succ, w64_succ (show j < 9223372036854775807 by omega)]
        exact hX)
    simpa [plP] using this
  unfold impl_Design_places
  exact Ev.bind hL1 (Ev.bind hL3 .done)

theorem sPlaces_ev {d : TDesign} (h : smallD d) : Ev (fun n => spec_l05Places n d) ((places d).map toSp) := by
  have h1 := h.ni
  have h2 := h.np
  have hL2 : ∀ i, i < d.Instances.length → ∀ pre : List Tplace, pre.length ≤ 100 → Ev (fun n => spec_l05Places_L2 (i : Int) (gt d.Instances i) n (pre.map toSp) 0) ((pre ++ plX i (gt d.Instances i) (gt d.Instances i).Nets.length).map toSp, ((gt d.Instances i).Nets.length : Int)) := by
    intro i hi pre hp
    have h5 := h.nx i hi
    have := loopF (Lf := spec_l05Places_L2 (i : Int) (gt d.Instances i)) (S := fun j => (pre ++ plX i (gt d.Instances i) j).map toSp) (len := (gt d.Instances i).Nets.length) (fin := ((pre ++ plX i (gt d.Instances i) (gt d.Instances i).Nets.length).map toSp, ((gt d.Instances i).Nets.length : Int))) (fun n => by
        simp only [spec_l05Places_L2, lt_nat_f (Nat.le_refl _), cond_false])
      (fun j hj X hX => by
        have hc : ((pre ++ plX i (gt d.Instances i) j).map toSp).length + [(⟨(i : Int), (j : Int), at0 (gt d.Instances i).Nets j, decide (j + 1 = (gt d.Instances i).Nets.length)⟩ : Tl05Place)].length ≤ 2147483648 := by
          rw [List.length_map, List.length_append, plX_len]; simp; omega
        simp only [spec_l05Places_L2, lt_nat_t hj, cond_true, idx_at0 hj, Option.bind_some, lastE hj (show (gt d.Instances i).Nets.length ≤ 1048576 by omega), appS_ok hc, w64_succ (show j < 9223372036854775807 by omega)]
        rw [plX_succ, ← List.append_assoc, List.map_append] at hX
        exact hX)
    simpa [plX] using this
  have hL1 : Ev (fun n => spec_l05Places_L1 d n ([] : List Tl05Place) 0) ((plI d d.Instances.length).map toSp, (d.Instances.length : Int)) := by
    refine loopF (Lf := spec_l05Places_L1 d) (S := fun j => (plI d j).map toSp) (len := d.Instances.length) (fun n => ?_) (fun j hj X hX => ?_)
    · simp only [spec_l05Places_L1, lt_nat_f (Nat.le_refl _), cond_false]
    · simp only [spec_l05Places_L1, lt_nat_t hj, cond_true, idx_gt hj, Option.bind_some, w64_succ (show j < 9223372036854775807 by omega)]
      refine Ev.bind (hL2 j hj _ (by have := plI_len h (Nat.le_of_lt hj); omega)) ?_
      rw [← plI_succ]
      exact hX
  have hL3 : Ev (fun n => spec_l05Places_L3 d n ((plI d d.Instances.length).map toSp) 0) ((places d).map toSp, (d.Ports.length : Int)) := by
    have := loopF (Lf := spec_l05Places_L3 d) (S := fun j => (plI d d.Instances.length ++ plP d j).map toSp) (len := d.Ports.length) (fin := ((places d).map toSp, (d.Ports.length : Int))) (fun n => by
        simp only [spec_l05Places_L3, lt_nat_f (Nat.le_refl _), cond_false]; rfl)
      (fun j hj X hX => by
        have hc : ((plI d d.Instances.length ++ plP d j).map toSp).length + [(⟨-1, (j : Int), (gt d.Ports j).Net, (gt d.Ports j).Dir == 1⟩ : Tl05Place)].length ≤ 2147483648 := by
          rw [List.length_map, List.length_append, plP_len]; have := plI_len h (Nat.le_refl _); simp; omega
        simp only [spec_l05Places_L3, lt_nat_t hj, cond_true, idx_gt hj, Option.bind_some, appS_ok hc, w64_succ (show j < 9223372036854775807 by omega)]
        rw [plP_succ, ← List.append_assoc, List.map_append] at hX
        exact hX)
    simpa [plP] using this
  unfold spec_l05Places
  exact Ev.bind hL1 (Ev.bind hL3 .done)

def snkQ (d : TDesign) (k : Int) (i : Nat) : Bool := ((gt (places d) i).net == k) && !(gt (places d) i).drives
def sinksL (d : TDesign) (k : Int) (j : Nat) : List Int := ((List.range j).filter (snkQ d k)).map fun (i : Nat) => (i : Int)
def snkN (d : TDesign) (k : Int) : Nat := cntP (snkQ d k) (places d).length
theorem sinksL_succ {d : TDesign} {k : Int} {j : Nat} : sinksL d k (j + 1) = sinksL d k j ++ (bif snkQ d k j then [(j : Int)] else []) := by
  unfold sinksL
  rw [List.range_succ, List.filter_append, List.map_append]
  congr 1
  cases h : snkQ d k j <;> simp [h]
theorem sinksL_len {d : TDesign} {k : Int} {j : Nat} : (sinksL d k j).length = cntP (snkQ d k) j := by
  induction j with
  | zero => rfl
  | succ j ih =>
    rw [sinksL_succ, List.length_append, ih]
    show _ = cntP (snkQ d k) j + _
    congr 1
    cases snkQ d k j <;> rfl
theorem gt_map {α β : Type} [Inhabited α] [Inhabited β] {xs : List α} {g : α → β} {j : Nat} (h : j < xs.length) : gt (xs.map g) j = g (gt xs j) := by
  rw [gt_eq (by simpa using h), gt_eq h]; simp

theorem l05Sinks_ev {d : TDesign} {k : Int} (h : smallD d) : Ev (fun n => spec_l05Sinks n d k) (sinksL d k (places d).length) := by
  have hl := places_len h
  have hL : Ev (fun n => spec_l05Sinks_L1 k ((places d).map toSp) n ([] : List Int) 0) (sinksL d k (places d).length, ((places d).length : Int)) := by
    refine loopF (Lf := spec_l05Sinks_L1 k ((places d).map toSp)) (S := fun j => sinksL d k j) (len := (places d).length) (fun n => ?_) (fun j hj X hX => ?_)
    · simp only [spec_l05Sinks_L1, List.length_map, lt_nat_f (Nat.le_refl _), cond_false]
    · have hj' : j < ((places d).map toSp).length := by simpa using hj
      have hc : (sinksL d k j).length + [(j : Int)].length ≤ 2147483648 := by
        rw [sinksL_len]
        have : cntP (snkQ d k) j ≤ j := cntP_le
        simp; omega
      simp only [spec_l05Sinks_L1, lt_nat_t hj', cond_true, idx_gt hj', gt_map hj, Option.bind_some, w64_succ (show j < 9223372036854775807 by omega)]
      rw [show ∀ p : Tplace, (toSp p).net = p.net from fun _ => rfl, show ∀ p : Tplace, (toSp p).drives = p.drives from fun _ => rfl]
      refine Ev.bind (b := snkQ d k j) (Ev.andP fun _ => .done) ?_
      rw [sinksL_succ] at hX
      cases hq : snkQ d k j
      · rw [hq] at hX
        simp only [cond_false, List.append_nil] at hX ⊢
        exact hX
      · rw [hq] at hX
        simp only [cond_true, appS_ok hc, Option.bind_some] at hX ⊢
        exact hX
  unfold spec_l05Sinks
  exact Ev.bind (sPlaces_ev h) (Ev.bind hL .done)

theorem places_net {l : TLibrary} {d : TDesign} (h : designB l d = true) {i : Nat} (hi : i < (places d).length) : 0 ≤ (gt (places d) i).net ∧ (gt (places d) i).net < d.Nets.length := by
  unfold designB at h
  simp only [Bool.and_eq_true] at h
  obtain ⟨_, hI, hP, _⟩ := h
  rw [all_gt, allN_iff] at hI hP
  have hm : gt (places d) i ∈ places d := by rw [gt_eq hi]; exact List.getElem_mem hi
  generalize gt (places d) i = p at hm
  unfold places at hm
  rcases List.mem_append.1 hm with hm | hm
  · unfold plI at hm
    obtain ⟨i, hi, hm⟩ := List.mem_flatMap.1 hm
    unfold plX at hm
    obtain ⟨k, hk, rfl⟩ := List.mem_map.1 hm
    have := hI i (List.mem_range.1 hi)
    unfold instB at this
    simp only [Bool.and_eq_true] at this
    have h3 := this.2.2
    rw [all_allN (d := 0), allN_iff] at h3
    have h4 := h3 k (List.mem_range.1 hk)
    unfold netB at h4
    rw [inI_iff] at h4
    show 0 ≤ at0 _ _ ∧ at0 _ _ < _
    unfold at0
    omega
  · unfold plP at hm
    obtain ⟨i, hi, rfl⟩ := List.mem_map.1 hm
    have := hP i (List.mem_range.1 hi)
    unfold portB netB at this
    simp only [Bool.and_eq_true, inI_iff] at this
    show 0 ≤ (gt d.Ports i).Net ∧ (gt d.Ports i).Net < _
    omega

/-! ### Blocks -/

def blockB (b : TBlock) : Bool := (designB b.Library b.Design && ((b.Wires.length : Int) == (b.Design.Nets.length : Int))) && allN (fun j => wireB (gt b.Wires j) (snkN b.Design (j : Int))) b.Wires.length

theorem IsBlock_ev {b : TBlock} (h : ok_Block b) : Ev (fun n => impl_IsBlock n b) (blockB b) := by
  have hwl := h.Wires.len
  unfold impl_IsBlock blockB
  refine Ev.guardB (Ev.or (IsDesign_ev h.Library h.Design) fun _ => .done) fun hb => ?_
  rw [Bool.and_eq_true, beq_iff_eq] at hb
  obtain ⟨hd, hw⟩ := hb
  have hs := designB_small hd
  have hl := places_len hs
  have hn := hs.nn
  rw [vecC_zero (m := b.Wires.length) (by omega)]
  simp only [Option.bind_some]
  have hL1 : Ev (fun n => impl_IsBlock_L1 (places b.Design) n (vecC (fun _ => 0) b.Wires.length) 0) (vecC (fun k => snkN b.Design (k : Int)) b.Wires.length, ((places b.Design).length : Int)) := by
    refine loopF (Lf := impl_IsBlock_L1 (places b.Design)) (S := fun j => vecC (fun k => cntP (snkQ b.Design (k : Int)) j) b.Wires.length) (len := (places b.Design).length) (fun n => ?_) (fun j hj X hX => ?_)
    · simp only [impl_IsBlock_L1, lt_nat_f (Nat.le_refl _), cond_false]; rfl
    · simp only [impl_IsBlock_L1, lt_nat_t hj, cond_true, idx_gt hj, Option.bind_some, w64_succ (show j < 9223372036854775807 by omega)]
      obtain ⟨n0, n1⟩ := places_net hd hj
      cases h1 : (gt (places b.Design) j).drives
      · have hc : cntP (snkQ b.Design (((gt (places b.Design) j).net.toNat : Nat) : Int)) j ≤ j := cntP_le
        obtain ⟨e1, e2⟩ := vecC_step (c := fun k => cntP (snkQ b.Design (k : Int)) j) (c' := fun k => cntP (snkQ b.Design (k : Int)) (j + 1)) (x := (gt (places b.Design) j).net) (m := b.Wires.length) n0 (by omega) (by show cntP _ _ < _; omega) (fun k _ => by
          show cntP _ j + (bif snkQ b.Design (k : Int) j then 1 else 0) = _
          unfold snkQ
          rw [h1, Bool.not_false, Bool.and_true])
        simp only [Bool.not_false, cond_true, Option.bind_some, e1, e2]
        exact hX
      · have : vecC (fun k => cntP (snkQ b.Design (k : Int)) (j + 1)) b.Wires.length = vecC (fun k => cntP (snkQ b.Design (k : Int)) j) b.Wires.length := by
          refine vecC_congr (fun k _ => ?_)
          show cntP _ j + (bif snkQ b.Design (k : Int) j then 1 else 0) = _
          unfold snkQ
          rw [h1, Bool.not_true, Bool.and_false]; rfl
        rw [this] at hX
        exact hX
  have hL2 : Ev (fun n => impl_IsBlock_L2 b (vecC (fun k => snkN b.Design (k : Int)) b.Wires.length) n 0) (bif allN (fun j => wireB (gt b.Wires j) (snkN b.Design (j : Int))) b.Wires.length then .nxt (b.Wires.length : Int) else .ret false) := by
    refine ev_all ?_ (fun j hj X hX => Ev.succ ?_)
    · exact Ev.succ (by simp only [impl_IsBlock_L2, lt_nat_f (Nat.le_refl _), cond_false]; exact .done)
    · simp only [impl_IsBlock_L2, lt_nat_t hj, cond_true, idx_gt hj, vecC_idx hj, Option.bind_some, w64_succ (show j < 9223372036854775807 by omega)]
      exact Ev.chk1 (IsWire_ev (gt_ok h.Wires hj)) fun _ => hX
  refine Ev.bind (places_ev hs) (Ev.bind hL1 (Ev.bind hL2 ?_))
  cases allN (fun j => wireB (gt b.Wires j) (snkN b.Design (j : Int))) b.Wires.length <;> exact .done

theorem sIsBlock_ev {b : TBlock} (h : ok_Block b) : Ev (fun n => spec_IsBlock n b) (blockB b) := by
  have hwl := h.Wires.len
  unfold spec_IsBlock blockB
  refine Ev.guardB (Ev.or (sIsDesign_ev h.Library h.Design) fun _ => .done) fun hb => ?_
  rw [Bool.and_eq_true] at hb
  have hs := designB_small hb.1
  have hL : Ev (fun n => spec_IsBlock_L1 b n 0) (bif allN (fun j => wireB (gt b.Wires j) (snkN b.Design (j : Int))) b.Wires.length then .nxt (b.Wires.length : Int) else .ret false) := by
    refine ev_all ?_ (fun j hj X hX => Ev.succ ?_)
    · exact Ev.succ (by simp only [spec_IsBlock_L1, lt_nat_f (Nat.le_refl _), cond_false]; exact .done)
    · simp only [spec_IsBlock_L1, lt_nat_t hj, cond_true, idx_gt hj, Option.bind_some, w64_succ (show j < 9223372036854775807 by omega)]
      refine Ev.bind (l05Sinks_ev hs) ?_
      rw [sinksL_len]
      exact Ev.chk1 (sIsWire_ev (gt_ok h.Wires hj)) fun _ => hX
  refine Ev.bind hL ?_
  cases allN (fun j => wireB (gt b.Wires j) (snkN b.Design (j : Int))) b.Wires.length <;> exact .done
end Go.Fw
