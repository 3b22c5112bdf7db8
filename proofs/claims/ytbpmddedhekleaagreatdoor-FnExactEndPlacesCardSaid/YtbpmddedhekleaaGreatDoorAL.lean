/- By a program of mine (lawgen2.py): what the laws own helpers do. -/
import Derived.Test.YtbpmddedhekleaaGreatDoorA4
namespace Go.Fw
open Go

def w_Int64S (a : (List Int)) : Nat := a.length
theorem okof_Int64S {a : (List Int)} (h : (rngL rngI) a) (w : w_Int64S a ≤ 1048576) : (okL okI) a :=
  ⟨by simp only [w_Int64S] at w; omega, fun x hx => h.2 x hx⟩
def rng_Table (x : TTable) : Prop := (rngL rngI) x.Slews ∧ (rngL rngI) x.Loads ∧ (rngL rngI) x.Values
def w_Table (x : TTable) : Nat := w_Int64S x.Slews + w_Int64S x.Loads + w_Int64S x.Values
structure ok_Table (x : TTable) : Prop where
  Slews : (okL okI) x.Slews
  Loads : (okL okI) x.Loads
  Values : (okL okI) x.Values
theorem okof_Table {x : TTable} (h : rng_Table x) (w : w_Table x ≤ 1048576) : ok_Table x := ⟨okof_Int64S (h.1) (by simp only [w_Table] at w; omega), okof_Int64S (h.2.1) (by simp only [w_Table] at w; omega), okof_Int64S (h.2.2) (by simp only [w_Table] at w; omega)⟩
def w_TableS (a : (List TTable)) : Nat := a.length + (a.map fun x => w_Table x).sum
theorem okof_TableS {a : (List TTable)} (h : (rngL rng_Table) a) (w : w_TableS a ≤ 1048576) : (okL ok_Table) a :=
  ⟨by simp only [w_TableS] at w; omega, fun x hx => okof_Table (h.2 x hx) (by have := sum_le (wt := fun x : TTable => w_Table x) hx; simp only [w_TableS] at w; omega)⟩
def rng_Arc (x : TArc) : Prop := rngI x.Kind ∧ rngI x.From ∧ rngI x.To ∧ rngI x.Sense ∧ (rngL rng_Table) x.Delay ∧ (rngL rng_Table) x.Slew
def w_Arc (x : TArc) : Nat := w_TableS x.Delay + w_TableS x.Slew
structure ok_Arc (x : TArc) : Prop where
  Kind : okI x.Kind
  From : okI x.From
  To : okI x.To
  Sense : okI x.Sense
  Delay : (okL ok_Table) x.Delay
  Slew : (okL ok_Table) x.Slew
theorem okof_Arc {x : TArc} (h : rng_Arc x) (w : w_Arc x ≤ 1048576) : ok_Arc x := ⟨h.1, h.2.1, h.2.2.1, h.2.2.2.1, okof_TableS (h.2.2.2.2.1) (by simp only [w_Arc] at w; omega), okof_TableS (h.2.2.2.2.2) (by simp only [w_Arc] at w; omega)⟩
theorem eq_Int64S {a : (List Int)} (h : w_Int64S a ≤ 1048576) : Ev (fun n => laws_eqInt64S n a a) true := by
  have hl : a.length ≤ 1048576 := by simp only [w_Int64S] at h; omega
  unfold laws_eqInt64S
  exact Ev.ff (by simp) (Ev.bind (b := .nxt (a.length : Int)) (eq_loop (eqf := fun _ x y => some (!(x != y))) (fun x _ => Ev.now (by simp))
    (fun n => by simp only [laws_eqInt64S_L1, lt_nat_f (Nat.le_refl _), cond_false])
    (fun n j x hx => by
      have hj := (List.getElem?_eq_some_iff.1 hx).1
      simp only [laws_eqInt64S_L1, lt_nat_t hj, cond_true, idx_at hx, Option.bind_some, Bool.not_not, w64_succ (show j < 9223372036854775807 by omega)])) .done)

theorem eq_Table {a : TTable} (h : w_Table a ≤ 1048576) : Ev (fun n => laws_eqTable n a a) true := by
  unfold laws_eqTable
  simp only [w_Table] at h
  exact Ev.bind (eq_Int64S (a := a.Slews) (by omega)) (Ev.ff rfl (Ev.bind (eq_Int64S (a := a.Loads) (by omega)) (Ev.ff rfl (Ev.bind (eq_Int64S (a := a.Values) (by omega)) (Ev.ff rfl (.done))))))

theorem eq_TableS {a : (List TTable)} (h : w_TableS a ≤ 1048576) : Ev (fun n => laws_eqTableS n a a) true := by
  have hl : a.length ≤ 1048576 := by simp only [w_TableS] at h; omega
  unfold laws_eqTableS
  exact Ev.ff (by simp) (Ev.bind (b := .nxt (a.length : Int)) (eq_loop (eqf := laws_eqTable) (fun x hx => eq_Table (by have := sum_le (wt := fun x : TTable => w_Table x) hx; simp only [w_TableS] at h; omega))
    (fun n => by simp only [laws_eqTableS_L1, lt_nat_f (Nat.le_refl _), cond_false])
    (fun n j x hx => by
      have hj := (List.getElem?_eq_some_iff.1 hx).1
      simp only [laws_eqTableS_L1, lt_nat_t hj, cond_true, idx_at hx, Option.bind_some, Bool.not_not, w64_succ (show j < 9223372036854775807 by omega)])) .done)

theorem eq_Arc {a : TArc} (h : w_Arc a ≤ 1048576) : Ev (fun n => laws_eqArc n a a) true := by
  unfold laws_eqArc
  simp only [w_Arc] at h
  exact Ev.ff not_ne_self (Ev.ff not_ne_self (Ev.ff not_ne_self (Ev.ff not_ne_self (Ev.bind (eq_TableS (a := a.Delay) (by omega)) (Ev.ff rfl (Ev.bind (eq_TableS (a := a.Slew) (by omega)) (Ev.ff rfl (.done))))))))

def w_ArcS (a : (List TArc)) : Nat := a.length + (a.map fun x => w_Arc x).sum
theorem okof_ArcS {a : (List TArc)} (h : (rngL rng_Arc) a) (w : w_ArcS a ≤ 1048576) : (okL ok_Arc) a :=
  ⟨by simp only [w_ArcS] at w; omega, fun x hx => okof_Arc (h.2 x hx) (by have := sum_le (wt := fun x : TArc => w_Arc x) hx; simp only [w_ArcS] at w; omega)⟩
theorem eq_ArcS {a : (List TArc)} (h : w_ArcS a ≤ 1048576) : Ev (fun n => laws_eqArcS n a a) true := by
  have hl : a.length ≤ 1048576 := by simp only [w_ArcS] at h; omega
  unfold laws_eqArcS
  exact Ev.ff (by simp) (Ev.bind (b := .nxt (a.length : Int)) (eq_loop (eqf := laws_eqArc) (fun x hx => eq_Arc (by have := sum_le (wt := fun x : TArc => w_Arc x) hx; simp only [w_ArcS] at h; omega))
    (fun n => by simp only [laws_eqArcS_L1, lt_nat_f (Nat.le_refl _), cond_false])
    (fun n j x hx => by
      have hj := (List.getElem?_eq_some_iff.1 hx).1
      simp only [laws_eqArcS_L1, lt_nat_t hj, cond_true, idx_at hx, Option.bind_some, Bool.not_not, w64_succ (show j < 9223372036854775807 by omega)])) .done)

def rng_Pin (x : TPin) : Prop := rngS x.Name ∧ rngI x.Dir ∧ rngI x.Cap ∧ rngB x.Clock
def w_Pin (x : TPin) : Nat := x.Name.size
structure ok_Pin (x : TPin) : Prop where
  Name : okS x.Name
  Dir : okI x.Dir
  Cap : okI x.Cap
  Clock : okT x.Clock
theorem okof_Pin {x : TPin} (h : rng_Pin x) (w : w_Pin x ≤ 1048576) : ok_Pin x := ⟨(by unfold okS; simp only [w_Pin] at w; omega), h.2.1, h.2.2.1, trivial⟩
def w_PinS (a : (List TPin)) : Nat := a.length + (a.map fun x => w_Pin x).sum
theorem okof_PinS {a : (List TPin)} (h : (rngL rng_Pin) a) (w : w_PinS a ≤ 1048576) : (okL ok_Pin) a :=
  ⟨by simp only [w_PinS] at w; omega, fun x hx => okof_Pin (h.2 x hx) (by have := sum_le (wt := fun x : TPin => w_Pin x) hx; simp only [w_PinS] at w; omega)⟩
def rng_Cell (x : TCell) : Prop := rngS x.Name ∧ rngI x.Kind ∧ (rngL rng_Pin) x.Pins ∧ (rngL rng_Arc) x.Arcs ∧ (rngL rngI) x.Truth ∧ rngI x.Leak ∧ rngI x.Energy
def w_Cell (x : TCell) : Nat := x.Name.size + w_PinS x.Pins + w_ArcS x.Arcs + w_Int64S x.Truth
structure ok_Cell (x : TCell) : Prop where
  Name : okS x.Name
  Kind : okI x.Kind
  Pins : (okL ok_Pin) x.Pins
  Arcs : (okL ok_Arc) x.Arcs
  Truth : (okL okI) x.Truth
  Leak : okI x.Leak
  Energy : okI x.Energy
theorem okof_Cell {x : TCell} (h : rng_Cell x) (w : w_Cell x ≤ 1048576) : ok_Cell x := ⟨(by unfold okS; simp only [w_Cell] at w; omega), h.2.1, okof_PinS (h.2.2.1) (by simp only [w_Cell] at w; omega), okof_ArcS (h.2.2.2.1) (by simp only [w_Cell] at w; omega), okof_Int64S (h.2.2.2.2.1) (by simp only [w_Cell] at w; omega), h.2.2.2.2.2.1, h.2.2.2.2.2.2⟩
def w_CellS (a : (List TCell)) : Nat := a.length + (a.map fun x => w_Cell x).sum
theorem okof_CellS {a : (List TCell)} (h : (rngL rng_Cell) a) (w : w_CellS a ≤ 1048576) : (okL ok_Cell) a :=
  ⟨by simp only [w_CellS] at w; omega, fun x hx => okof_Cell (h.2 x hx) (by have := sum_le (wt := fun x : TCell => w_Cell x) hx; simp only [w_CellS] at w; omega)⟩
def rng_Library (x : TLibrary) : Prop := (rngL rng_Cell) x.Cells
def w_Library (x : TLibrary) : Nat := w_CellS x.Cells
structure ok_Library (x : TLibrary) : Prop where
  Cells : (okL ok_Cell) x.Cells
theorem okof_Library {x : TLibrary} (h : rng_Library x) (w : w_Library x ≤ 1048576) : ok_Library x := ⟨okof_CellS (h) (by simp only [w_Library] at w; omega)⟩
def rng_Instance (x : TInstance) : Prop := rngS x.Name ∧ rngI x.Cell ∧ (rngL rngI) x.Nets
def w_Instance (x : TInstance) : Nat := x.Name.size + w_Int64S x.Nets
structure ok_Instance (x : TInstance) : Prop where
  Name : okS x.Name
  Cell : okI x.Cell
  Nets : (okL okI) x.Nets
theorem okof_Instance {x : TInstance} (h : rng_Instance x) (w : w_Instance x ≤ 1048576) : ok_Instance x := ⟨(by unfold okS; simp only [w_Instance] at w; omega), h.2.1, okof_Int64S (h.2.2) (by simp only [w_Instance] at w; omega)⟩
def w_InstanceS (a : (List TInstance)) : Nat := a.length + (a.map fun x => w_Instance x).sum
theorem okof_InstanceS {a : (List TInstance)} (h : (rngL rng_Instance) a) (w : w_InstanceS a ≤ 1048576) : (okL ok_Instance) a :=
  ⟨by simp only [w_InstanceS] at w; omega, fun x hx => okof_Instance (h.2 x hx) (by have := sum_le (wt := fun x : TInstance => w_Instance x) hx; simp only [w_InstanceS] at w; omega)⟩
def w_StringS (a : (List ByteArray)) : Nat := a.length + (a.map fun x => x.size).sum
theorem okof_StringS {a : (List ByteArray)} (h : (rngL rngS) a) (w : w_StringS a ≤ 1048576) : (okL okS) a :=
  ⟨by simp only [w_StringS] at w; omega, fun x hx => (by unfold okS; have := sum_le (wt := fun x : ByteArray => x.size) hx; simp only [w_StringS] at w; omega)⟩
def rng_Port (x : TPort) : Prop := rngS x.Name ∧ rngI x.Dir ∧ rngI x.Net
def w_Port (x : TPort) : Nat := x.Name.size
structure ok_Port (x : TPort) : Prop where
  Name : okS x.Name
  Dir : okI x.Dir
  Net : okI x.Net
theorem okof_Port {x : TPort} (h : rng_Port x) (w : w_Port x ≤ 1048576) : ok_Port x := ⟨(by unfold okS; simp only [w_Port] at w; omega), h.2.1, h.2.2⟩
def w_PortS (a : (List TPort)) : Nat := a.length + (a.map fun x => w_Port x).sum
theorem okof_PortS {a : (List TPort)} (h : (rngL rng_Port) a) (w : w_PortS a ≤ 1048576) : (okL ok_Port) a :=
  ⟨by simp only [w_PortS] at w; omega, fun x hx => okof_Port (h.2 x hx) (by have := sum_le (wt := fun x : TPort => w_Port x) hx; simp only [w_PortS] at w; omega)⟩
def rng_Design (x : TDesign) : Prop := (rngL rng_Instance) x.Instances ∧ (rngL rngS) x.Nets ∧ (rngL rng_Port) x.Ports
def w_Design (x : TDesign) : Nat := w_InstanceS x.Instances + w_StringS x.Nets + w_PortS x.Ports
structure ok_Design (x : TDesign) : Prop where
  Instances : (okL ok_Instance) x.Instances
  Nets : (okL okS) x.Nets
  Ports : (okL ok_Port) x.Ports
theorem okof_Design {x : TDesign} (h : rng_Design x) (w : w_Design x ≤ 1048576) : ok_Design x := ⟨okof_InstanceS (h.1) (by simp only [w_Design] at w; omega), okof_StringS (h.2.1) (by simp only [w_Design] at w; omega), okof_PortS (h.2.2) (by simp only [w_Design] at w; omega)⟩
def rng_Wire (x : TWire) : Prop := (rngL rngI) x.Parent ∧ (rngL rngI) x.Res ∧ (rngL rngI) x.Cap ∧ (rngL rngI) x.Sink
def w_Wire (x : TWire) : Nat := w_Int64S x.Parent + w_Int64S x.Res + w_Int64S x.Cap + w_Int64S x.Sink
structure ok_Wire (x : TWire) : Prop where
  Parent : (okL okI) x.Parent
  Res : (okL okI) x.Res
  Cap : (okL okI) x.Cap
  Sink : (okL okI) x.Sink
theorem okof_Wire {x : TWire} (h : rng_Wire x) (w : w_Wire x ≤ 1048576) : ok_Wire x := ⟨okof_Int64S (h.1) (by simp only [w_Wire] at w; omega), okof_Int64S (h.2.1) (by simp only [w_Wire] at w; omega), okof_Int64S (h.2.2.1) (by simp only [w_Wire] at w; omega), okof_Int64S (h.2.2.2) (by simp only [w_Wire] at w; omega)⟩
def w_WireS (a : (List TWire)) : Nat := a.length + (a.map fun x => w_Wire x).sum
theorem okof_WireS {a : (List TWire)} (h : (rngL rng_Wire) a) (w : w_WireS a ≤ 1048576) : (okL ok_Wire) a :=
  ⟨by simp only [w_WireS] at w; omega, fun x hx => okof_Wire (h.2 x hx) (by have := sum_le (wt := fun x : TWire => w_Wire x) hx; simp only [w_WireS] at w; omega)⟩
def rng_Block (x : TBlock) : Prop := rng_Library x.Library ∧ rng_Design x.Design ∧ (rngL rng_Wire) x.Wires
def w_Block (x : TBlock) : Nat := w_Library x.Library + w_Design x.Design + w_WireS x.Wires
structure ok_Block (x : TBlock) : Prop where
  Library : ok_Library x.Library
  Design : ok_Design x.Design
  Wires : (okL ok_Wire) x.Wires
theorem okof_Block {x : TBlock} (h : rng_Block x) (w : w_Block x ≤ 1048576) : ok_Block x := ⟨okof_Library (h.1) (by simp only [w_Block] at w; omega), okof_Design (h.2.1) (by simp only [w_Block] at w; omega), okof_WireS (h.2.2) (by simp only [w_Block] at w; omega)⟩
theorem eq_Pin {a : TPin} (h : w_Pin a ≤ 1048576) : Ev (fun n => laws_eqPin n a a) true := by
  unfold laws_eqPin
  simp only [w_Pin] at h
  exact Ev.ff not_ne_selfS (Ev.ff not_ne_self (Ev.ff not_ne_self (Ev.ff not_ne_selfB (.done))))

theorem eq_PinS {a : (List TPin)} (h : w_PinS a ≤ 1048576) : Ev (fun n => laws_eqPinS n a a) true := by
  have hl : a.length ≤ 1048576 := by simp only [w_PinS] at h; omega
  unfold laws_eqPinS
  exact Ev.ff (by simp) (Ev.bind (b := .nxt (a.length : Int)) (eq_loop (eqf := laws_eqPin) (fun x hx => eq_Pin (by have := sum_le (wt := fun x : TPin => w_Pin x) hx; simp only [w_PinS] at h; omega))
    (fun n => by simp only [laws_eqPinS_L1, lt_nat_f (Nat.le_refl _), cond_false])
    (fun n j x hx => by
      have hj := (List.getElem?_eq_some_iff.1 hx).1
      simp only [laws_eqPinS_L1, lt_nat_t hj, cond_true, idx_at hx, Option.bind_some, Bool.not_not, w64_succ (show j < 9223372036854775807 by omega)])) .done)

theorem eq_Cell {a : TCell} (h : w_Cell a ≤ 1048576) : Ev (fun n => laws_eqCell n a a) true := by
  unfold laws_eqCell
  simp only [w_Cell] at h
  exact Ev.ff not_ne_selfS (Ev.ff not_ne_self (Ev.bind (eq_PinS (a := a.Pins) (by omega)) (Ev.ff rfl (Ev.bind (eq_ArcS (a := a.Arcs) (by omega)) (Ev.ff rfl (Ev.bind (eq_Int64S (a := a.Truth) (by omega)) (Ev.ff rfl (Ev.ff not_ne_self (Ev.ff not_ne_self (.done))))))))))

theorem eq_CellS {a : (List TCell)} (h : w_CellS a ≤ 1048576) : Ev (fun n => laws_eqCellS n a a) true := by
  have hl : a.length ≤ 1048576 := by simp only [w_CellS] at h; omega
  unfold laws_eqCellS
  exact Ev.ff (by simp) (Ev.bind (b := .nxt (a.length : Int)) (eq_loop (eqf := laws_eqCell) (fun x hx => eq_Cell (by have := sum_le (wt := fun x : TCell => w_Cell x) hx; simp only [w_CellS] at h; omega))
    (fun n => by simp only [laws_eqCellS_L1, lt_nat_f (Nat.le_refl _), cond_false])
    (fun n j x hx => by
      have hj := (List.getElem?_eq_some_iff.1 hx).1
      simp only [laws_eqCellS_L1, lt_nat_t hj, cond_true, idx_at hx, Option.bind_some, Bool.not_not, w64_succ (show j < 9223372036854775807 by omega)])) .done)

theorem eq_Library {a : TLibrary} (h : w_Library a ≤ 1048576) : Ev (fun n => laws_eqLibrary n a a) true := by
  unfold laws_eqLibrary
  simp only [w_Library] at h
  exact Ev.bind (eq_CellS (a := a.Cells) (by omega)) (Ev.ff rfl (.done))

theorem eq_Instance {a : TInstance} (h : w_Instance a ≤ 1048576) : Ev (fun n => laws_eqInstance n a a) true := by
  unfold laws_eqInstance
  simp only [w_Instance] at h
  exact Ev.ff not_ne_selfS (Ev.ff not_ne_self (Ev.bind (eq_Int64S (a := a.Nets) (by omega)) (Ev.ff rfl (.done))))

theorem eq_InstanceS {a : (List TInstance)} (h : w_InstanceS a ≤ 1048576) : Ev (fun n => laws_eqInstanceS n a a) true := by
  have hl : a.length ≤ 1048576 := by simp only [w_InstanceS] at h; omega
  unfold laws_eqInstanceS
  exact Ev.ff (by simp) (Ev.bind (b := .nxt (a.length : Int)) (eq_loop (eqf := laws_eqInstance) (fun x hx => eq_Instance (by have := sum_le (wt := fun x : TInstance => w_Instance x) hx; simp only [w_InstanceS] at h; omega))
    (fun n => by simp only [laws_eqInstanceS_L1, lt_nat_f (Nat.le_refl _), cond_false])
    (fun n j x hx => by
      have hj := (List.getElem?_eq_some_iff.1 hx).1
      simp only [laws_eqInstanceS_L1, lt_nat_t hj, cond_true, idx_at hx, Option.bind_some, Bool.not_not, w64_succ (show j < 9223372036854775807 by omega)])) .done)

theorem eq_StringS {a : (List ByteArray)} (h : w_StringS a ≤ 1048576) : Ev (fun n => laws_eqStringS n a a) true := by
  have hl : a.length ≤ 1048576 := by simp only [w_StringS] at h; omega
  unfold laws_eqStringS
  exact Ev.ff (by simp) (Ev.bind (b := .nxt (a.length : Int)) (eq_loop (eqf := fun _ x y => some (!(x.toList != y.toList))) (fun x _ => Ev.now (by simp))
    (fun n => by simp only [laws_eqStringS_L1, lt_nat_f (Nat.le_refl _), cond_false])
    (fun n j x hx => by
      have hj := (List.getElem?_eq_some_iff.1 hx).1
      simp only [laws_eqStringS_L1, lt_nat_t hj, cond_true, idx_at hx, Option.bind_some, Bool.not_not, w64_succ (show j < 9223372036854775807 by omega)])) .done)

theorem eq_Port {a : TPort} (h : w_Port a ≤ 1048576) : Ev (fun n => laws_eqPort n a a) true := by
  unfold laws_eqPort
  simp only [w_Port] at h
  exact Ev.ff not_ne_selfS (Ev.ff not_ne_self (Ev.ff not_ne_self (.done)))

theorem eq_PortS {a : (List TPort)} (h : w_PortS a ≤ 1048576) : Ev (fun n => laws_eqPortS n a a) true := by
  have hl : a.length ≤ 1048576 := by simp only [w_PortS] at h; omega
  unfold laws_eqPortS
  exact Ev.ff (by simp) (Ev.bind (b := .nxt (a.length : Int)) (eq_loop (eqf := laws_eqPort) (fun x hx => eq_Port (by have := sum_le (wt := fun x : TPort => w_Port x) hx; simp only [w_PortS] at h; omega))
    (fun n => by simp only [laws_eqPortS_L1, lt_nat_f (Nat.le_refl _), cond_false])
    (fun n j x hx => by
      have hj := (List.getElem?_eq_some_iff.1 hx).1
      simp only [laws_eqPortS_L1, lt_nat_t hj, cond_true, idx_at hx, Option.bind_some, Bool.not_not, w64_succ (show j < 9223372036854775807 by omega)])) .done)

theorem eq_Design {a : TDesign} (h : w_Design a ≤ 1048576) : Ev (fun n => laws_eqDesign n a a) true := by
  unfold laws_eqDesign
  simp only [w_Design] at h
  exact Ev.bind (eq_InstanceS (a := a.Instances) (by omega)) (Ev.ff rfl (Ev.bind (eq_StringS (a := a.Nets) (by omega)) (Ev.ff rfl (Ev.bind (eq_PortS (a := a.Ports) (by omega)) (Ev.ff rfl (.done))))))

theorem eq_Wire {a : TWire} (h : w_Wire a ≤ 1048576) : Ev (fun n => laws_eqWire n a a) true := by
  unfold laws_eqWire
  simp only [w_Wire] at h
  exact Ev.bind (eq_Int64S (a := a.Parent) (by omega)) (Ev.ff rfl (Ev.bind (eq_Int64S (a := a.Res) (by omega)) (Ev.ff rfl (Ev.bind (eq_Int64S (a := a.Cap) (by omega)) (Ev.ff rfl (Ev.bind (eq_Int64S (a := a.Sink) (by omega)) (Ev.ff rfl (.done))))))))

theorem eq_WireS {a : (List TWire)} (h : w_WireS a ≤ 1048576) : Ev (fun n => laws_eqWireS n a a) true := by
  have hl : a.length ≤ 1048576 := by simp only [w_WireS] at h; omega
  unfold laws_eqWireS
  exact Ev.ff (by simp) (Ev.bind (b := .nxt (a.length : Int)) (eq_loop (eqf := laws_eqWire) (fun x hx => eq_Wire (by have := sum_le (wt := fun x : TWire => w_Wire x) hx; simp only [w_WireS] at h; omega))
    (fun n => by simp only [laws_eqWireS_L1, lt_nat_f (Nat.le_refl _), cond_false])
    (fun n j x hx => by
      have hj := (List.getElem?_eq_some_iff.1 hx).1
      simp only [laws_eqWireS_L1, lt_nat_t hj, cond_true, idx_at hx, Option.bind_some, Bool.not_not, w64_succ (show j < 9223372036854775807 by omega)])) .done)

theorem eq_Block {a : TBlock} (h : w_Block a ≤ 1048576) : Ev (fun n => laws_eqBlock n a a) true := by
  unfold laws_eqBlock
  simp only [w_Block] at h
  exact Ev.bind (eq_Library (a := a.Library) (by omega)) (Ev.ff rfl (Ev.bind (eq_Design (a := a.Design) (by omega)) (Ev.ff rfl (Ev.bind (eq_WireS (a := a.Wires) (by omega)) (Ev.ff rfl (.done))))))

theorem sz_Int64S {a : (List Int)} {left : Int} (h : (rngL rngI) a) (h0 : 0 ≤ left) (h1 : left ≤ 1048576) : Sz (fun n => laws_szInt64S n a left) (fun r => r = left - (w_Int64S a : Int)) :=
  Sz.less h0 h1 (by omega) (by have := h.1; omega) (fun _ => rfl)

theorem sz_Table {a : TTable} {left : Int} (h : rng_Table a) (h0 : 0 ≤ left) (h1 : left ≤ 1048576) : Sz (fun n => laws_szTable n a left) (fun r => r = left - (w_Table a : Int)) := by
  unfold laws_szTable
  obtain ⟨h_0, h_1, h_2⟩ := h
  exact Sz.step (sz_Int64S (a := a.Slews) h_0 (by omega) (by omega)) fun r0 p0 q0 => Sz.step (sz_Int64S (a := a.Loads) h_1 (by omega) (by omega)) fun r1 p1 q1 => Sz.step (sz_Int64S (a := a.Values) h_2 (by omega) (by omega)) fun r2 p2 q2 => Sz.done p2 (by simp only [w_Table]; omega)

theorem sz_TableS {a : (List TTable)} {left : Int} (h : (rngL rng_Table) a) (h0 : 0 ≤ left) (h1 : left ≤ 1048576) : Sz (fun n => laws_szTableS n a left) (fun r => r = left - (w_TableS a : Int)) :=
  Sz.list (Lf := laws_szTableS_L1 a) (wt := fun x : TTable => w_Table x) (el := laws_szTable) h0 h1 h.1 (fun x hx left p q => sz_Table (h.2 x hx) p q)
    (fun acc n => by simp only [laws_szTableS_L1, lt_nat_f (Nat.le_refl _), cond_false])
    (fun acc n j x hx => by
      have hj := (List.getElem?_eq_some_iff.1 hx).1
      have hl := h.1
      simp only [laws_szTableS_L1, lt_nat_t hj, cond_true, idx_at hx, Option.bind_some, w64_succ (show j < 9223372036854775807 by omega)])
    (fun _ => rfl)

theorem sz_Arc {a : TArc} {left : Int} (h : rng_Arc a) (h0 : 0 ≤ left) (h1 : left ≤ 1048576) : Sz (fun n => laws_szArc n a left) (fun r => r = left - (w_Arc a : Int)) := by
  unfold laws_szArc
  obtain ⟨h_0, h_1, h_2, h_3, h_4, h_5⟩ := h
  exact Sz.step (sz_TableS (a := a.Delay) h_4 (by omega) (by omega)) fun r0 p0 q0 => Sz.step (sz_TableS (a := a.Slew) h_5 (by omega) (by omega)) fun r1 p1 q1 => Sz.done p1 (by simp only [w_Arc]; omega)

theorem sz_ArcS {a : (List TArc)} {left : Int} (h : (rngL rng_Arc) a) (h0 : 0 ≤ left) (h1 : left ≤ 1048576) : Sz (fun n => laws_szArcS n a left) (fun r => r = left - (w_ArcS a : Int)) :=
  Sz.list (Lf := laws_szArcS_L1 a) (wt := fun x : TArc => w_Arc x) (el := laws_szArc) h0 h1 h.1 (fun x hx left p q => sz_Arc (h.2 x hx) p q)
    (fun acc n => by simp only [laws_szArcS_L1, lt_nat_f (Nat.le_refl _), cond_false])
    (fun acc n j x hx => by
      have hj := (List.getElem?_eq_some_iff.1 hx).1
      have hl := h.1
      simp only [laws_szArcS_L1, lt_nat_t hj, cond_true, idx_at hx, Option.bind_some, w64_succ (show j < 9223372036854775807 by omega)])
    (fun _ => rfl)

theorem sz_Pin {a : TPin} {left : Int} (h : rng_Pin a) (h0 : 0 ≤ left) (h1 : left ≤ 1048576) : Sz (fun n => laws_szPin n a left) (fun r => r = left - (w_Pin a : Int)) := by
  unfold laws_szPin
  obtain ⟨h_0, h_1, h_2, h_3⟩ := h
  exact Sz.strStep h_0 (by omega) (by omega) fun p0 q0 => Sz.done p0 (by simp only [w_Pin]; omega)

theorem sz_PinS {a : (List TPin)} {left : Int} (h : (rngL rng_Pin) a) (h0 : 0 ≤ left) (h1 : left ≤ 1048576) : Sz (fun n => laws_szPinS n a left) (fun r => r = left - (w_PinS a : Int)) :=
  Sz.list (Lf := laws_szPinS_L1 a) (wt := fun x : TPin => w_Pin x) (el := laws_szPin) h0 h1 h.1 (fun x hx left p q => sz_Pin (h.2 x hx) p q)
    (fun acc n => by simp only [laws_szPinS_L1, lt_nat_f (Nat.le_refl _), cond_false])
    (fun acc n j x hx => by
      have hj := (List.getElem?_eq_some_iff.1 hx).1
      have hl := h.1
      simp only [laws_szPinS_L1, lt_nat_t hj, cond_true, idx_at hx, Option.bind_some, w64_succ (show j < 9223372036854775807 by omega)])
    (fun _ => rfl)

theorem sz_Cell {a : TCell} {left : Int} (h : rng_Cell a) (h0 : 0 ≤ left) (h1 : left ≤ 1048576) : Sz (fun n => laws_szCell n a left) (fun r => r = left - (w_Cell a : Int)) := by
  unfold laws_szCell
  obtain ⟨h_0, h_1, h_2, h_3, h_4, h_5, h_6⟩ := h
  exact Sz.strStep h_0 (by omega) (by omega) fun p0 q0 => Sz.step (sz_PinS (a := a.Pins) h_2 (by omega) (by omega)) fun r1 p1 q1 => Sz.step (sz_ArcS (a := a.Arcs) h_3 (by omega) (by omega)) fun r2 p2 q2 => Sz.step (sz_Int64S (a := a.Truth) h_4 (by omega) (by omega)) fun r3 p3 q3 => Sz.done p3 (by simp only [w_Cell]; omega)

theorem sz_CellS {a : (List TCell)} {left : Int} (h : (rngL rng_Cell) a) (h0 : 0 ≤ left) (h1 : left ≤ 1048576) : Sz (fun n => laws_szCellS n a left) (fun r => r = left - (w_CellS a : Int)) :=
  Sz.list (Lf := laws_szCellS_L1 a) (wt := fun x : TCell => w_Cell x) (el := laws_szCell) h0 h1 h.1 (fun x hx left p q => sz_Cell (h.2 x hx) p q)
    (fun acc n => by simp only [laws_szCellS_L1, lt_nat_f (Nat.le_refl _), cond_false])
    (fun acc n j x hx => by
      have hj := (List.getElem?_eq_some_iff.1 hx).1
      have hl := h.1
      simp only [laws_szCellS_L1, lt_nat_t hj, cond_true, idx_at hx, Option.bind_some, w64_succ (show j < 9223372036854775807 by omega)])
    (fun _ => rfl)

theorem sz_Library {a : TLibrary} {left : Int} (h : rng_Library a) (h0 : 0 ≤ left) (h1 : left ≤ 1048576) : Sz (fun n => laws_szLibrary n a left) (fun r => r = left - (w_Library a : Int)) := by
  unfold laws_szLibrary
  have h_0 := h
  exact Sz.step (sz_CellS (a := a.Cells) h_0 (by omega) (by omega)) fun r0 p0 q0 => Sz.done p0 (by simp only [w_Library]; omega)

theorem sz_Instance {a : TInstance} {left : Int} (h : rng_Instance a) (h0 : 0 ≤ left) (h1 : left ≤ 1048576) : Sz (fun n => laws_szInstance n a left) (fun r => r = left - (w_Instance a : Int)) := by
  unfold laws_szInstance
  obtain ⟨h_0, h_1, h_2⟩ := h
  exact Sz.strStep h_0 (by omega) (by omega) fun p0 q0 => Sz.step (sz_Int64S (a := a.Nets) h_2 (by omega) (by omega)) fun r1 p1 q1 => Sz.done p1 (by simp only [w_Instance]; omega)

theorem sz_InstanceS {a : (List TInstance)} {left : Int} (h : (rngL rng_Instance) a) (h0 : 0 ≤ left) (h1 : left ≤ 1048576) : Sz (fun n => laws_szInstanceS n a left) (fun r => r = left - (w_InstanceS a : Int)) :=
  Sz.list (Lf := laws_szInstanceS_L1 a) (wt := fun x : TInstance => w_Instance x) (el := laws_szInstance) h0 h1 h.1 (fun x hx left p q => sz_Instance (h.2 x hx) p q)
    (fun acc n => by simp only [laws_szInstanceS_L1, lt_nat_f (Nat.le_refl _), cond_false])
    (fun acc n j x hx => by
      have hj := (List.getElem?_eq_some_iff.1 hx).1
      have hl := h.1
      simp only [laws_szInstanceS_L1, lt_nat_t hj, cond_true, idx_at hx, Option.bind_some, w64_succ (show j < 9223372036854775807 by omega)])
    (fun _ => rfl)

theorem sz_StringS {a : (List ByteArray)} {left : Int} (h : (rngL rngS) a) (h0 : 0 ≤ left) (h1 : left ≤ 1048576) : Sz (fun n => laws_szStringS n a left) (fun r => r = left - (w_StringS a : Int)) :=
  Sz.list (Lf := laws_szStringS_L1 a) (wt := fun x : ByteArray => x.size) (el := fun _ (x : ByteArray) acc => some (W64 (acc - (x.size : Int)))) h0 h1 h.1 (fun x hx left p q => Sz.str (h.2 x hx) p q)
    (fun acc n => by simp only [laws_szStringS_L1, lt_nat_f (Nat.le_refl _), cond_false])
    (fun acc n j x hx => by
      have hj := (List.getElem?_eq_some_iff.1 hx).1
      have hl := h.1
      simp only [laws_szStringS_L1, lt_nat_t hj, cond_true, idx_at hx, Option.bind_some, w64_succ (show j < 9223372036854775807 by omega)])
    (fun _ => rfl)

theorem sz_Port {a : TPort} {left : Int} (h : rng_Port a) (h0 : 0 ≤ left) (h1 : left ≤ 1048576) : Sz (fun n => laws_szPort n a left) (fun r => r = left - (w_Port a : Int)) := by
  unfold laws_szPort
  obtain ⟨h_0, h_1, h_2⟩ := h
  exact Sz.strStep h_0 (by omega) (by omega) fun p0 q0 => Sz.done p0 (by simp only [w_Port]; omega)

theorem sz_PortS {a : (List TPort)} {left : Int} (h : (rngL rng_Port) a) (h0 : 0 ≤ left) (h1 : left ≤ 1048576) : Sz (fun n => laws_szPortS n a left) (fun r => r = left - (w_PortS a : Int)) :=
  Sz.list (Lf := laws_szPortS_L1 a) (wt := fun x : TPort => w_Port x) (el := laws_szPort) h0 h1 h.1 (fun x hx left p q => sz_Port (h.2 x hx) p q)
    (fun acc n => by simp only [laws_szPortS_L1, lt_nat_f (Nat.le_refl _), cond_false])
    (fun acc n j x hx => by
      have hj := (List.getElem?_eq_some_iff.1 hx).1
      have hl := h.1
      simp only [laws_szPortS_L1, lt_nat_t hj, cond_true, idx_at hx, Option.bind_some, w64_succ (show j < 9223372036854775807 by omega)])
    (fun _ => rfl)

theorem sz_Design {a : TDesign} {left : Int} (h : rng_Design a) (h0 : 0 ≤ left) (h1 : left ≤ 1048576) : Sz (fun n => laws_szDesign n a left) (fun r => r = left - (w_Design a : Int)) := by
  unfold laws_szDesign
  obtain ⟨h_0, h_1, h_2⟩ := h
  exact Sz.step (sz_InstanceS (a := a.Instances) h_0 (by omega) (by omega)) fun r0 p0 q0 => Sz.step (sz_StringS (a := a.Nets) h_1 (by omega) (by omega)) fun r1 p1 q1 => Sz.step (sz_PortS (a := a.Ports) h_2 (by omega) (by omega)) fun r2 p2 q2 => Sz.done p2 (by simp only [w_Design]; omega)

theorem sz_Wire {a : TWire} {left : Int} (h : rng_Wire a) (h0 : 0 ≤ left) (h1 : left ≤ 1048576) : Sz (fun n => laws_szWire n a left) (fun r => r = left - (w_Wire a : Int)) := by
  unfold laws_szWire
  obtain ⟨h_0, h_1, h_2, h_3⟩ := h
  exact Sz.step (sz_Int64S (a := a.Parent) h_0 (by omega) (by omega)) fun r0 p0 q0 => Sz.step (sz_Int64S (a := a.Res) h_1 (by omega) (by omega)) fun r1 p1 q1 => Sz.step (sz_Int64S (a := a.Cap) h_2 (by omega) (by omega)) fun r2 p2 q2 => Sz.step (sz_Int64S (a := a.Sink) h_3 (by omega) (by omega)) fun r3 p3 q3 => Sz.done p3 (by simp only [w_Wire]; omega)

theorem sz_WireS {a : (List TWire)} {left : Int} (h : (rngL rng_Wire) a) (h0 : 0 ≤ left) (h1 : left ≤ 1048576) : Sz (fun n => laws_szWireS n a left) (fun r => r = left - (w_WireS a : Int)) :=
  Sz.list (Lf := laws_szWireS_L1 a) (wt := fun x : TWire => w_Wire x) (el := laws_szWire) h0 h1 h.1 (fun x hx left p q => sz_Wire (h.2 x hx) p q)
    (fun acc n => by simp only [laws_szWireS_L1, lt_nat_f (Nat.le_refl _), cond_false])
    (fun acc n j x hx => by
      have hj := (List.getElem?_eq_some_iff.1 hx).1
      have hl := h.1
      simp only [laws_szWireS_L1, lt_nat_t hj, cond_true, idx_at hx, Option.bind_some, w64_succ (show j < 9223372036854775807 by omega)])
    (fun _ => rfl)

theorem sz_Block {a : TBlock} {left : Int} (h : rng_Block a) (h0 : 0 ≤ left) (h1 : left ≤ 1048576) : Sz (fun n => laws_szBlock n a left) (fun r => r = left - (w_Block a : Int)) := by
  unfold laws_szBlock
  obtain ⟨h_0, h_1, h_2⟩ := h
  exact Sz.step (sz_Library (a := a.Library) h_0 (by omega) (by omega)) fun r0 p0 q0 => Sz.step (sz_Design (a := a.Design) h_1 (by omega) (by omega)) fun r1 p1 q1 => Sz.step (sz_WireS (a := a.Wires) h_2 (by omega) (by omega)) fun r2 p2 q2 => Sz.done p2 (by simp only [w_Block]; omega)

theorem to_Int64S {a : (List Int)} (h : w_Int64S a ≤ 1048576) : Ev (fun n => laws_toInt64S n a) a := by
  have hl : a.length ≤ 1048576 := by simp only [w_Int64S] at h; omega
  unfold laws_toInt64S
  exact Ev.bindN (mkS_len (by omega)) (Ev.bind (b := (a, (a.length : Int))) (to_loop (cp := fun _ x => some x) (fun _ _ => .done)
    (fun acc n => by simp only [laws_toInt64S_L1, lt_nat_f (Nat.le_refl _), cond_false])
    (fun acc n j x y hx hy => by
      have hj := (List.getElem?_eq_some_iff.1 hx).1
      simp only [laws_toInt64S_L1, lt_nat_t hj, cond_true, idx_at hx, idx_at hy, Option.bind_some, w64_succ (show j < 9223372036854775807 by omega)])) .done)

theorem to_Table {a : TTable} (h : w_Table a ≤ 1048576) : Ev (fun n => laws_toTable n a) a := by
  unfold laws_toTable
  simp only [w_Table] at h
  exact Ev.bind (to_Int64S (a := a.Slews) (by omega)) (Ev.bind (to_Int64S (a := a.Loads) (by omega)) (Ev.bind (to_Int64S (a := a.Values) (by omega)) (.done)))

theorem to_TableS {a : (List TTable)} (h : w_TableS a ≤ 1048576) : Ev (fun n => laws_toTableS n a) a := by
  have hl : a.length ≤ 1048576 := by simp only [w_TableS] at h; omega
  unfold laws_toTableS
  exact Ev.bindN (mkS_len (by omega)) (Ev.bind (b := (a, (a.length : Int))) (to_loop (cp := laws_toTable) (fun x hx => to_Table (by have := sum_le (wt := fun x : TTable => w_Table x) hx; simp only [w_TableS] at h; omega))
    (fun acc n => by simp only [laws_toTableS_L1, lt_nat_f (Nat.le_refl _), cond_false])
    (fun acc n j x y hx hy => by
      have hj := (List.getElem?_eq_some_iff.1 hx).1
      simp only [laws_toTableS_L1, lt_nat_t hj, cond_true, idx_at hx, idx_at hy, Option.bind_some, w64_succ (show j < 9223372036854775807 by omega)])) .done)

theorem to_Arc {a : TArc} (h : w_Arc a ≤ 1048576) : Ev (fun n => laws_toArc n a) a := by
  unfold laws_toArc
  simp only [w_Arc] at h
  exact Ev.bind (to_TableS (a := a.Delay) (by omega)) (Ev.bind (to_TableS (a := a.Slew) (by omega)) (.done))

theorem to_ArcS {a : (List TArc)} (h : w_ArcS a ≤ 1048576) : Ev (fun n => laws_toArcS n a) a := by
  have hl : a.length ≤ 1048576 := by simp only [w_ArcS] at h; omega
  unfold laws_toArcS
  exact Ev.bindN (mkS_len (by omega)) (Ev.bind (b := (a, (a.length : Int))) (to_loop (cp := laws_toArc) (fun x hx => to_Arc (by have := sum_le (wt := fun x : TArc => w_Arc x) hx; simp only [w_ArcS] at h; omega))
    (fun acc n => by simp only [laws_toArcS_L1, lt_nat_f (Nat.le_refl _), cond_false])
    (fun acc n j x y hx hy => by
      have hj := (List.getElem?_eq_some_iff.1 hx).1
      simp only [laws_toArcS_L1, lt_nat_t hj, cond_true, idx_at hx, idx_at hy, Option.bind_some, w64_succ (show j < 9223372036854775807 by omega)])) .done)

theorem to_Pin {a : TPin} (h : w_Pin a ≤ 1048576) : Ev (fun n => laws_toPin n a) a := by
  unfold laws_toPin
  simp only [w_Pin] at h
  exact .done

theorem to_PinS {a : (List TPin)} (h : w_PinS a ≤ 1048576) : Ev (fun n => laws_toPinS n a) a := by
  have hl : a.length ≤ 1048576 := by simp only [w_PinS] at h; omega
  unfold laws_toPinS
  exact Ev.bindN (mkS_len (by omega)) (Ev.bind (b := (a, (a.length : Int))) (to_loop (cp := laws_toPin) (fun x hx => to_Pin (by have := sum_le (wt := fun x : TPin => w_Pin x) hx; simp only [w_PinS] at h; omega))
    (fun acc n => by simp only [laws_toPinS_L1, lt_nat_f (Nat.le_refl _), cond_false])
    (fun acc n j x y hx hy => by
      have hj := (List.getElem?_eq_some_iff.1 hx).1
      simp only [laws_toPinS_L1, lt_nat_t hj, cond_true, idx_at hx, idx_at hy, Option.bind_some, w64_succ (show j < 9223372036854775807 by omega)])) .done)

theorem to_Cell {a : TCell} (h : w_Cell a ≤ 1048576) : Ev (fun n => laws_toCell n a) a := by
  unfold laws_toCell
  simp only [w_Cell] at h
  exact Ev.bind (to_PinS (a := a.Pins) (by omega)) (Ev.bind (to_ArcS (a := a.Arcs) (by omega)) (Ev.bind (to_Int64S (a := a.Truth) (by omega)) (.done)))

theorem to_CellS {a : (List TCell)} (h : w_CellS a ≤ 1048576) : Ev (fun n => laws_toCellS n a) a := by
  have hl : a.length ≤ 1048576 := by simp only [w_CellS] at h; omega
  unfold laws_toCellS
  exact Ev.bindN (mkS_len (by omega)) (Ev.bind (b := (a, (a.length : Int))) (to_loop (cp := laws_toCell) (fun x hx => to_Cell (by have := sum_le (wt := fun x : TCell => w_Cell x) hx; simp only [w_CellS] at h; omega))
    (fun acc n => by simp only [laws_toCellS_L1, lt_nat_f (Nat.le_refl _), cond_false])
    (fun acc n j x y hx hy => by
      have hj := (List.getElem?_eq_some_iff.1 hx).1
      simp only [laws_toCellS_L1, lt_nat_t hj, cond_true, idx_at hx, idx_at hy, Option.bind_some, w64_succ (show j < 9223372036854775807 by omega)])) .done)

theorem to_Library {a : TLibrary} (h : w_Library a ≤ 1048576) : Ev (fun n => laws_toLibrary n a) a := by
  unfold laws_toLibrary
  simp only [w_Library] at h
  exact Ev.bind (to_CellS (a := a.Cells) (by omega)) (.done)

theorem to_Instance {a : TInstance} (h : w_Instance a ≤ 1048576) : Ev (fun n => laws_toInstance n a) a := by
  unfold laws_toInstance
  simp only [w_Instance] at h
  exact Ev.bind (to_Int64S (a := a.Nets) (by omega)) (.done)

theorem to_InstanceS {a : (List TInstance)} (h : w_InstanceS a ≤ 1048576) : Ev (fun n => laws_toInstanceS n a) a := by
  have hl : a.length ≤ 1048576 := by simp only [w_InstanceS] at h; omega
  unfold laws_toInstanceS
  exact Ev.bindN (mkS_len (by omega)) (Ev.bind (b := (a, (a.length : Int))) (to_loop (cp := laws_toInstance) (fun x hx => to_Instance (by have := sum_le (wt := fun x : TInstance => w_Instance x) hx; simp only [w_InstanceS] at h; omega))
    (fun acc n => by simp only [laws_toInstanceS_L1, lt_nat_f (Nat.le_refl _), cond_false])
    (fun acc n j x y hx hy => by
      have hj := (List.getElem?_eq_some_iff.1 hx).1
      simp only [laws_toInstanceS_L1, lt_nat_t hj, cond_true, idx_at hx, idx_at hy, Option.bind_some, w64_succ (show j < 9223372036854775807 by omega)])) .done)

theorem to_StringS {a : (List ByteArray)} (h : w_StringS a ≤ 1048576) : Ev (fun n => laws_toStringS n a) a := by
  have hl : a.length ≤ 1048576 := by simp only [w_StringS] at h; omega
  unfold laws_toStringS
  exact Ev.bindN (mkS_len (by omega)) (Ev.bind (b := (a, (a.length : Int))) (to_loop (cp := fun _ x => some x) (fun _ _ => .done)
    (fun acc n => by simp only [laws_toStringS_L1, lt_nat_f (Nat.le_refl _), cond_false])
    (fun acc n j x y hx hy => by
      have hj := (List.getElem?_eq_some_iff.1 hx).1
      simp only [laws_toStringS_L1, lt_nat_t hj, cond_true, idx_at hx, idx_at hy, Option.bind_some, w64_succ (show j < 9223372036854775807 by omega)])) .done)

theorem to_Port {a : TPort} (h : w_Port a ≤ 1048576) : Ev (fun n => laws_toPort n a) a := by
  unfold laws_toPort
  simp only [w_Port] at h
  exact .done

theorem to_PortS {a : (List TPort)} (h : w_PortS a ≤ 1048576) : Ev (fun n => laws_toPortS n a) a := by
  have hl : a.length ≤ 1048576 := by simp only [w_PortS] at h; omega
  unfold laws_toPortS
  exact Ev.bindN (mkS_len (by omega)) (Ev.bind (b := (a, (a.length : Int))) (to_loop (cp := laws_toPort) (fun x hx => to_Port (by have := sum_le (wt := fun x : TPort => w_Port x) hx; simp only [w_PortS] at h; omega))
    (fun acc n => by simp only [laws_toPortS_L1, lt_nat_f (Nat.le_refl _), cond_false])
    (fun acc n j x y hx hy => by
      have hj := (List.getElem?_eq_some_iff.1 hx).1
      simp only [laws_toPortS_L1, lt_nat_t hj, cond_true, idx_at hx, idx_at hy, Option.bind_some, w64_succ (show j < 9223372036854775807 by omega)])) .done)

theorem to_Design {a : TDesign} (h : w_Design a ≤ 1048576) : Ev (fun n => laws_toDesign n a) a := by
  unfold laws_toDesign
  simp only [w_Design] at h
  exact Ev.bind (to_InstanceS (a := a.Instances) (by omega)) (Ev.bind (to_StringS (a := a.Nets) (by omega)) (Ev.bind (to_PortS (a := a.Ports) (by omega)) (.done)))

theorem to_Wire {a : TWire} (h : w_Wire a ≤ 1048576) : Ev (fun n => laws_toWire n a) a := by
  unfold laws_toWire
  simp only [w_Wire] at h
  exact Ev.bind (to_Int64S (a := a.Parent) (by omega)) (Ev.bind (to_Int64S (a := a.Res) (by omega)) (Ev.bind (to_Int64S (a := a.Cap) (by omega)) (Ev.bind (to_Int64S (a := a.Sink) (by omega)) (.done))))

theorem to_WireS {a : (List TWire)} (h : w_WireS a ≤ 1048576) : Ev (fun n => laws_toWireS n a) a := by
  have hl : a.length ≤ 1048576 := by simp only [w_WireS] at h; omega
  unfold laws_toWireS
  exact Ev.bindN (mkS_len (by omega)) (Ev.bind (b := (a, (a.length : Int))) (to_loop (cp := laws_toWire) (fun x hx => to_Wire (by have := sum_le (wt := fun x : TWire => w_Wire x) hx; simp only [w_WireS] at h; omega))
    (fun acc n => by simp only [laws_toWireS_L1, lt_nat_f (Nat.le_refl _), cond_false])
    (fun acc n j x y hx hy => by
      have hj := (List.getElem?_eq_some_iff.1 hx).1
      simp only [laws_toWireS_L1, lt_nat_t hj, cond_true, idx_at hx, idx_at hy, Option.bind_some, w64_succ (show j < 9223372036854775807 by omega)])) .done)

theorem to_Block {a : TBlock} (h : w_Block a ≤ 1048576) : Ev (fun n => laws_toBlock n a) a := by
  unfold laws_toBlock
  simp only [w_Block] at h
  exact Ev.bind (to_Library (a := a.Library) (by omega)) (Ev.bind (to_Design (a := a.Design) (by omega)) (Ev.bind (to_WireS (a := a.Wires) (by omega)) (.done)))

end Go.Fw
