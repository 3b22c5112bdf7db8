/- Plain laws: the places of a design, one by one. -/
import Derived.Test.YtbpmddedhekleaaGreatDoorB7
import Derived.Test.YtbpmddedhekleaaGreatDoorFw30
namespace Go.Fw
open Go
set_option maxRecDepth 100000

def off (d : TDesign) (i : Nat) : Nat := (plI d i).length
def place1 (d : TDesign) (i k : Nat) : Tplace := ⟨(i : Int), (k : Int), at0 (gt d.Instances i).Nets k, decide (k + 1 = (gt d.Instances i).Nets.length)⟩
def place2 (d : TDesign) (i : Nat) : Tplace := ⟨-1, (i : Int), (gt d.Ports i).Net, (gt d.Ports i).Dir == 1⟩

theorem off_succ {d : TDesign} {i : Nat} : off d (i + 1) = off d i + (gt d.Instances i).Nets.length := by
  unfold off; rw [plI_succ, List.length_append, plX_len]
theorem places_len' {d : TDesign} : (places d).length = off d d.Instances.length + d.Ports.length := by
  unfold places off; rw [List.length_append, plP_len]
theorem plI_at {d : TDesign} {n i k : Nat} (hi : i < n) (hk : k < (gt d.Instances i).Nets.length) : off d i + k < off d n ∧ gt (plI d n) (off d i + k) = place1 d i k := by
  induction n with
  | zero => omega
  | succ n ih =>
    rw [plI_succ, gt_append]
    rcases Nat.lt_succ_iff_lt_or_eq.1 hi with h | rfl
    · obtain ⟨h1, h2⟩ := ih h
      refine ⟨by rw [off_succ]; omega, ?_⟩
      rw [if_pos (show off d i + k < (plI d n).length from h1), h2]
    · refine ⟨by rw [off_succ]; omega, ?_⟩
      rw [if_neg (by unfold off; omega), show off d i + k - (plI d i).length = k by unfold off; omega]
      exact gt_range hk
theorem place_at1 {d : TDesign} {i k : Nat} (hi : i < d.Instances.length) (hk : k < (gt d.Instances i).Nets.length) : off d i + k < (places d).length ∧ gt (places d) (off d i + k) = place1 d i k := by
  obtain ⟨h1, h2⟩ := plI_at hi hk
  refine ⟨by rw [places_len']; omega, ?_⟩
  unfold places
  rw [gt_append, if_pos (show off d i + k < (plI d d.Instances.length).length from h1), h2]
theorem place_at2 {d : TDesign} {i : Nat} (hi : i < d.Ports.length) : off d d.Instances.length + i < (places d).length ∧ gt (places d) (off d d.Instances.length + i) = place2 d i := by
  refine ⟨by rw [places_len']; omega, ?_⟩
  unfold places
  rw [gt_append, if_neg (by unfold off; omega), show off d d.Instances.length + i - (plI d d.Instances.length).length = i by unfold off; omega]
  exact gt_range hi
theorem plI_cases {d : TDesign} {n j : Nat} (hj : j < off d n) : ∃ i k, i < n ∧ k < (gt d.Instances i).Nets.length ∧ j = off d i + k := by
  induction n with
  | zero => exact absurd hj (Nat.not_lt_zero _)
  | succ n ih =>
    by_cases h : j < off d n
    · obtain ⟨i, k, h1, h2, h3⟩ := ih h
      exact ⟨i, k, by omega, h2, h3⟩
    · rw [off_succ] at hj
      exact ⟨n, j - off d n, by omega, by omega, by omega⟩
/-- Every place is a pin of an instance or a port. -/
theorem place_cases {d : TDesign} {j : Nat} (hj : j < (places d).length) :
    (∃ i k, i < d.Instances.length ∧ k < (gt d.Instances i).Nets.length ∧ j = off d i + k ∧ gt (places d) j = place1 d i k) ∨
    (∃ i, i < d.Ports.length ∧ j = off d d.Instances.length + i ∧ gt (places d) j = place2 d i) := by
  rw [places_len'] at hj
  by_cases h : j < off d d.Instances.length
  · obtain ⟨i, k, h1, h2, rfl⟩ := plI_cases h
    exact .inl ⟨i, k, h1, h2, rfl, (place_at1 h1 h2).2⟩
  · refine .inr ⟨j - off d d.Instances.length, by omega, by omega, ?_⟩
    have := (place_at2 (d := d) (i := j - off d d.Instances.length) (by omega)).2
    rwa [show off d d.Instances.length + (j - off d d.Instances.length) = j by omega] at this

/-! ### Drivers -/

/-! ### Cells of instances -/

def cellAt (b : TBlock) (i : Int) : TCell := gt b.Library.Cells (gt b.Design.Instances i.toNat).Cell.toNat
theorem inst_cell {l : TLibrary} {d : TDesign} (h : designB l d = true) {i : Nat} (hi : i < d.Instances.length) :
    (0 ≤ (gt d.Instances i).Cell ∧ (gt d.Instances i).Cell < l.Cells.length) ∧ (gt d.Instances i).Nets.length = (gt l.Cells (gt d.Instances i).Cell.toNat).Pins.length ∧ cellB (gt l.Cells (gt d.Instances i).Cell.toNat) = true := by
  unfold designB libB at h
  simp only [Bool.and_eq_true] at h
  obtain ⟨⟨⟨hc, _⟩, _⟩, hI, _⟩ := h
  rw [all_gt, allN_iff] at hI hc
  have := hI i hi
  unfold instB at this
  simp only [Bool.and_eq_true, inI_iff, beq_iff_eq] at this
  exact ⟨⟨this.1.1, by omega⟩, by omega, hc _ (by omega)⟩
theorem cellB_kinds {c : TCell} (h : cellB c = true) {j : Nat} (hj : j < c.Arcs.length) : (1 ≤ (gt c.Arcs j).Kind ∧ (gt c.Arcs j).Kind ≤ 5) ∧ (0 ≤ (gt c.Arcs j).From ∧ (gt c.Arcs j).From < (c.Pins.length : Int) - 1) ∧ (0 ≤ (gt c.Arcs j).To ∧ (gt c.Arcs j).To ≤ (c.Pins.length : Int) - 1) ∧ arcS c.Pins (gt c.Arcs j) = true := by
  unfold cellB at h
  simp only [Bool.and_eq_true] at h
  obtain ⟨_, hp, ⟨ha, _⟩, _, _, hk⟩ := h
  have := allN_iff.1 ha j hj
  rw [Bool.and_eq_true, arc_eq hp (kindB_clk hk)] at this
  have h1 := this.1
  refine ⟨arcS_kind h1, ?_⟩
  have h2 := h1
  unfold arcS at h2
  simp only [Bool.and_eq_true, inI_iff] at h2
  refine ⟨⟨h2.1.1.1, by omega⟩, h2.1.2, h1⟩
theorem cellB_arcs {c : TCell} (h : cellB c = true) : c.Arcs.length ≤ 8 := by
  unfold cellB at h
  simp only [Bool.and_eq_true, decide_eq_true_eq] at h
  exact h.2.2.1.2
theorem blockB_des {b : TBlock} (h : blockB b = true) : designB b.Library b.Design = true := by
  unfold blockB at h; simp only [Bool.and_eq_true] at h; exact h.1.1
end Go.Fw
