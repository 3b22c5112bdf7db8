/- By a program of mine (lawgen2.py): what the laws own helpers do. -/
import Derived.Test.YthcphhbmdpepkaaGreatDoorA4
import Derived.Test.YthcphhbmdpepkaaGreatDoorFw33

namespace Go.Fw
open Go

def qdr (a : (List Int)) : Nat := a.length
theorem qdZ {a : (List Int)} (h : (rngL rngI) a) (w : qdr a ≤ 1048576) : (okL okI) a :=
  ⟨by simp only [qdr] at w; omega, fun x hx => h.2 x hx⟩
def qfP (x : qE) : Prop := (rngL rngI) x.Slews ∧ (rngL rngI) x.Loads ∧ (rngL rngI) x.Values
def qet (x : qE) : Nat := qdr x.Slews + qdr x.Loads + qdr x.Values
structure qgo (x : qE) : Prop where
  Slews : (okL okI) x.Slews
  Loads : (okL okI) x.Loads
  Values : (okL okI) x.Values
theorem qnn {x : qE} (h : qfP x) (w : qet x ≤ 1048576) : qgo x := ⟨qdZ (h.1) (by simp only [qet] at w; omega), qdZ (h.2.1) (by simp only [qet] at w; omega), qdZ (h.2.2) (by simp only [qet] at w; omega)⟩
def qeE (a : (List qE)) : Nat := a.length + (a.map fun x => qet x).sum
theorem qkg {a : (List qE)} (h : (rngL qfP) a) (w : qeE a ≤ 1048576) : (okL qgo) a :=
  ⟨by simp only [qeE] at w; omega, fun x hx => qnn (h.2 x hx) (by have := qdM (wt := fun x : qE => qet x) hx; simp only [qeE] at w; omega)⟩
def qie (x : qX) : Prop := rngI x.Kind ∧ rngI x.From ∧ rngI x.To ∧ rngI x.Sense ∧ (rngL qfP) x.Delay ∧ (rngL qfP) x.Slew
def qhK (x : qX) : Nat := qeE x.Delay + qeE x.Slew
structure qjh (x : qX) : Prop where
  Kind : okI x.Kind
  From : okI x.From
  To : okI x.To
  Sense : okI x.Sense
  Delay : (okL qgo) x.Delay
  Slew : (okL qgo) x.Slew
theorem qpf {x : qX} (h : qie x) (w : qhK x ≤ 1048576) : qjh x := ⟨h.1, h.2.1, h.2.2.1, h.2.2.2.1, qkg (h.2.2.2.2.1) (by simp only [qhK] at w; omega), qkg (h.2.2.2.2.2) (by simp only [qhK] at w; omega)⟩
theorem qfj {a : (List Int)} (h : qdr a ≤ 1048576) : Ev (fun n => qbm n a a) true := by
  have hl : a.length ≤ 1048576 := by simp only [qdr] at h; omega
  unfold qbm
  exact Ev.ff (by simp) (Ev.bind (b := .nxt (a.length : Int)) (qhc (eqf := fun _ x y => some (!(x != y))) (fun x _ => Ev.now (by simp))
    (fun n => by simp only [qcO, qr (Nat.le_refl _), cond_false])
    (fun n j x hx => by
      have hj := (List.getElem?_eq_some_iff.1 hx).1
      simp only [qcO, qq hj, cond_true, qaQ hx, Option.bind_some, Bool.not_not, qm (show j < 9223372036854775807 by omega)])) .done)

theorem qpq {a : qE} (h : qet a ≤ 1048576) : Ev (fun n => qfb n a a) true := by
  unfold qfb
  simp only [qet] at h
  exact Ev.bind (qfj (a := a.Slews) (by omega)) (Ev.ff rfl (Ev.bind (qfj (a := a.Loads) (by omega)) (Ev.ff rfl (Ev.bind (qfj (a := a.Values) (by omega)) (Ev.ff rfl (.done))))))

theorem qlH {a : (List qE)} (h : qeE a ≤ 1048576) : Ev (fun n => qeK n a a) true := by
  have hl : a.length ≤ 1048576 := by simp only [qeE] at h; omega
  unfold qeK
  exact Ev.ff (by simp) (Ev.bind (b := .nxt (a.length : Int)) (qhc (eqf := qfb) (fun x hx => qpq (by have := qdM (wt := fun x : qE => qet x) hx; simp only [qeE] at h; omega))
    (fun n => by simp only [qcT, qr (Nat.le_refl _), cond_false])
    (fun n j x hx => by
      have hj := (List.getElem?_eq_some_iff.1 hx).1
      simp only [qcT, qq hj, cond_true, qaQ hx, Option.bind_some, qm (show j < 9223372036854775807 by omega)])) .done)

theorem qql {a : qX} (h : qhK a ≤ 1048576) : Ev (fun n => qgG n a a) true := by
  unfold qgG
  simp only [qhK] at h
  exact Ev.ff qcA (Ev.ff qcA (Ev.ff qcA (Ev.ff qcA (Ev.bind (qlH (a := a.Delay) (by omega)) (Ev.ff rfl (Ev.bind (qlH (a := a.Slew) (by omega)) (Ev.ff rfl (.done))))))))

def qhj (a : (List qX)) : Nat := a.length + (a.map fun x => qhK x).sum
theorem qn2 {a : (List qX)} (h : (rngL qie) a) (w : qhj a ≤ 1048576) : (okL qjh) a :=
  ⟨by simp only [qhj] at w; omega, fun x hx => qpf (h.2 x hx) (by have := qdM (wt := fun x : qX => qhK x) hx; simp only [qhj] at w; omega)⟩
theorem qpX {a : (List qX)} (h : qhj a ≤ 1048576) : Ev (fun n => qgS n a a) true := by
  have hl : a.length ≤ 1048576 := by simp only [qhj] at h; omega
  unfold qgS
  exact Ev.ff (by simp) (Ev.bind (b := .nxt (a.length : Int)) (qhc (eqf := qgG) (fun x hx => qql (by have := qdM (wt := fun x : qX => qhK x) hx; simp only [qhj] at h; omega))
    (fun n => by simp only [qdG, qr (Nat.le_refl _), cond_false])
    (fun n j x hx => by
      have hj := (List.getElem?_eq_some_iff.1 hx).1
      simp only [qdG, qq hj, cond_true, qaQ hx, Option.bind_some, qm (show j < 9223372036854775807 by omega)])) .done)

def qid (x : qal) : Prop := rngS x.Name ∧ rngI x.Dir ∧ rngI x.Cap ∧ rngB x.Clock
def qiB (x : qal) : Nat := x.Name.size
structure qiK (x : qal) : Prop where
  Name : okS x.Name
  Dir : okI x.Dir
  Cap : okI x.Cap
  Clock : okT x.Clock
theorem qoM {x : qal} (h : qid x) (w : qiB x ≤ 1048576) : qiK x := ⟨(by unfold okS; simp only [qiB] at w; omega), h.2.1, h.2.2.1, trivial⟩
def qhx (a : (List qal)) : Nat := a.length + (a.map fun x => qiB x).sum
theorem qnW {a : (List qal)} (h : (rngL qid) a) (w : qhx a ≤ 1048576) : (okL qiK) a :=
  ⟨by simp only [qhx] at w; omega, fun x hx => qoM (h.2 x hx) (by have := qdM (wt := fun x : qal => qiB x) hx; simp only [qhx] at w; omega)⟩
def qhs (x : qA) : Prop := rngS x.Name ∧ rngI x.Kind ∧ (rngL qid) x.Pins ∧ (rngL qie) x.Arcs ∧ (rngL rngI) x.Truth ∧ rngI x.Leak ∧ rngI x.Energy
def qfp (x : qA) : Nat := x.Name.size + qhx x.Pins + qhj x.Arcs + qdr x.Truth
structure qiU (x : qA) : Prop where
  Name : okS x.Name
  Kind : okI x.Kind
  Pins : (okL qiK) x.Pins
  Arcs : (okL qjh) x.Arcs
  Truth : (okL okI) x.Truth
  Leak : okI x.Leak
  Energy : okI x.Energy
theorem qn3 {x : qA} (h : qhs x) (w : qfp x ≤ 1048576) : qiU x := ⟨(by unfold okS; simp only [qfp] at w; omega), h.2.1, qnW (h.2.2.1) (by simp only [qfp] at w; omega), qn2 (h.2.2.2.1) (by simp only [qfp] at w; omega), qdZ (h.2.2.2.2.1) (by simp only [qfp] at w; omega), h.2.2.2.2.2.1, h.2.2.2.2.2.2⟩
def qgq (a : (List qA)) : Nat := a.length + (a.map fun x => qfp x).sum
theorem qnv {a : (List qA)} (h : (rngL qhs) a) (w : qgq a ≤ 1048576) : (okL qiU) a :=
  ⟨by simp only [qgq] at w; omega, fun x hx => qn3 (h.2 x hx) (by have := qdM (wt := fun x : qA => qfp x) hx; simp only [qgq] at w; omega)⟩
def qhJ (x : qn) : Prop := (rngL qhs) x.Cells
def qfk (x : qn) : Nat := qgq x.Cells
structure qfJ (x : qn) : Prop where
  Cells : (okL qiU) x.Cells
theorem qma {x : qn} (h : qhJ x) (w : qfk x ≤ 1048576) : qfJ x := ⟨qnv (h) (by simp only [qfk] at w; omega)⟩
def qeo (x : ql) : Prop := rngS x.Name ∧ rngI x.Cell ∧ (rngL rngI) x.Nets
def qcq (x : ql) : Nat := x.Name.size + qdr x.Nets
structure qiO (x : ql) : Prop where
  Name : okS x.Name
  Cell : okI x.Cell
  Nets : (okL okI) x.Nets
theorem qlB {x : ql} (h : qeo x) (w : qcq x ≤ 1048576) : qiO x := ⟨(by unfold okS; simp only [qcq] at w; omega), h.2.1, qdZ (h.2.2) (by simp only [qcq] at w; omega)⟩
def qc4 (a : (List ql)) : Nat := a.length + (a.map fun x => qcq x).sum
theorem qkR {a : (List ql)} (h : (rngL qeo) a) (w : qc4 a ≤ 1048576) : (okL qiO) a :=
  ⟨by simp only [qc4] at w; omega, fun x hx => qlB (h.2 x hx) (by have := qdM (wt := fun x : ql => qcq x) hx; simp only [qc4] at w; omega)⟩
def qe8 (a : (List ByteArray)) : Nat := a.length + (a.map fun x => x.size).sum
theorem qms {a : (List ByteArray)} (_ : (rngL rngS) a) (w : qe8 a ≤ 1048576) : (okL okS) a :=
  ⟨by simp only [qe8] at w; omega, fun x hx => (by unfold okS; have := qdM (wt := fun x : ByteArray => x.size) hx; simp only [qe8] at w; omega)⟩
def qho (x : qae) : Prop := rngS x.Name ∧ rngI x.Dir ∧ rngI x.Net
def qhv (x : qae) : Nat := x.Name.size
structure qmr (x : qae) : Prop where
  Name : okS x.Name
  Dir : okI x.Dir
  Net : okI x.Net
theorem qnX {x : qae} (h : qho x) (w : qhv x ≤ 1048576) : qmr x := ⟨(by unfold okS; simp only [qhv] at w; omega), h.2.1, h.2.2⟩
def qgt (a : (List qae)) : Nat := a.length + (a.map fun x => qhv x).sum
theorem qnC {a : (List qae)} (h : (rngL qho) a) (w : qgt a ≤ 1048576) : (okL qmr) a :=
  ⟨by simp only [qgt] at w; omega, fun x hx => qnX (h.2 x hx) (by have := qdM (wt := fun x : qae => qhv x) hx; simp only [qgt] at w; omega)⟩
def qig (x : qh) : Prop := (rngL qeo) x.Instances ∧ (rngL rngS) x.Nets ∧ (rngL qho) x.Ports
def qe3 (x : qh) : Nat := qc4 x.Instances + qe8 x.Nets + qgt x.Ports
structure qhf (x : qh) : Prop where
  Instances : (okL qiO) x.Instances
  Nets : (okL okS) x.Nets
  Ports : (okL qmr) x.Ports
theorem qmL {x : qh} (h : qig x) (w : qe3 x ≤ 1048576) : qhf x := ⟨qkR (h.1) (by simp only [qe3] at w; omega), qms (h.2.1) (by simp only [qe3] at w; omega), qnC (h.2.2) (by simp only [qe3] at w; omega)⟩
def qhu (x : qY) : Prop := (rngL rngI) x.Parent ∧ (rngL rngI) x.Res ∧ (rngL rngI) x.Cap ∧ (rngL rngI) x.Sink
def qfr (x : qY) : Nat := qdr x.Parent + qdr x.Res + qdr x.Cap + qdr x.Sink
structure qjt (x : qY) : Prop where
  Parent : (okL okI) x.Parent
  Res : (okL okI) x.Res
  Cap : (okL okI) x.Cap
  Sink : (okL okI) x.Sink
theorem qog {x : qY} (h : qhu x) (w : qfr x ≤ 1048576) : qjt x := ⟨qdZ (h.1) (by simp only [qfr] at w; omega), qdZ (h.2.1) (by simp only [qfr] at w; omega), qdZ (h.2.2.1) (by simp only [qfr] at w; omega), qdZ (h.2.2.2) (by simp only [qfr] at w; omega)⟩
def qgl (a : (List qY)) : Nat := a.length + (a.map fun x => qfr x).sum
theorem qm8 {a : (List qY)} (h : (rngL qhu) a) (w : qgl a ≤ 1048576) : (okL qjt) a :=
  ⟨by simp only [qgl] at w; omega, fun x hx => qog (h.2 x hx) (by have := qdM (wt := fun x : qY => qfr x) hx; simp only [qgl] at w; omega)⟩
def qiT (x : qw) : Prop := qhJ x.Library ∧ qig x.Design ∧ (rngL qhu) x.Wires
def qf3 (x : qw) : Nat := qfk x.Library + qe3 x.Design + qgl x.Wires
structure qe6 (x : qw) : Prop where
  Library : qfJ x.Library
  Design : qhf x.Design
  Wires : (okL qjt) x.Wires
theorem qne {x : qw} (h : qiT x) (w : qf3 x ≤ 1048576) : qe6 x := ⟨qma (h.1) (by simp only [qf3] at w; omega), qmL (h.2.1) (by simp only [qf3] at w; omega), qm8 (h.2.2) (by simp only [qf3] at w; omega)⟩
theorem qqe {a : qal} (_ : qiB a ≤ 1048576) : Ev (fun n => qgA n a a) true := by
  unfold qgA
  exact Ev.ff qg4 (Ev.ff qcA (Ev.ff qcA (Ev.ff qmj (.done))))

theorem qpR {a : (List qal)} (h : qhx a ≤ 1048576) : Ev (fun n => qgK n a a) true := by
  have hl : a.length ≤ 1048576 := by simp only [qhx] at h; omega
  unfold qgK
  exact Ev.ff (by simp) (Ev.bind (b := .nxt (a.length : Int)) (qhc (eqf := qgA) (fun x hx => qqe (by have := qdM (wt := fun x : qal => qiB x) hx; simp only [qhx] at h; omega))
    (fun n => by simp only [qdz, qr (Nat.le_refl _), cond_false])
    (fun n j x hx => by
      have hj := (List.getElem?_eq_some_iff.1 hx).1
      simp only [qdz, qq hj, cond_true, qaQ hx, Option.bind_some, qm (show j < 9223372036854775807 by omega)])) .done)

theorem qpV {a : qA} (h : qfp a ≤ 1048576) : Ev (fun n => qfY n a a) true := by
  unfold qfY
  simp only [qfp] at h
  exact Ev.ff qg4 (Ev.ff qcA (Ev.bind (qpR (a := a.Pins) (by omega)) (Ev.ff rfl (Ev.bind (qpX (a := a.Arcs) (by omega)) (Ev.ff rfl (Ev.bind (qfj (a := a.Truth) (by omega)) (Ev.ff rfl (Ev.ff qcA (Ev.ff qcA (.done))))))))))

theorem qpc {a : (List qA)} (h : qgq a ≤ 1048576) : Ev (fun n => qgc n a a) true := by
  have hl : a.length ≤ 1048576 := by simp only [qgq] at h; omega
  unfold qgc
  exact Ev.ff (by simp) (Ev.bind (b := .nxt (a.length : Int)) (qhc (eqf := qfY) (fun x hx => qpV (by have := qdM (wt := fun x : qA => qfp x) hx; simp only [qgq] at h; omega))
    (fun n => by simp only [qdj, qr (Nat.le_refl _), cond_false])
    (fun n j x hx => by
      have hj := (List.getElem?_eq_some_iff.1 hx).1
      simp only [qdj, qq hj, cond_true, qaQ hx, Option.bind_some, qm (show j < 9223372036854775807 by omega)])) .done)

theorem qnc {a : qn} (h : qfk a ≤ 1048576) : Ev (fun n => qeV n a a) true := by
  unfold qeV
  simp only [qfk] at h
  exact Ev.bind (qpc (a := a.Cells) (by omega)) (Ev.ff rfl (.done))

theorem qmO {a : ql} (h : qcq a ≤ 1048576) : Ev (fun n => qdP n a a) true := by
  unfold qdP
  simp only [qcq] at h
  exact Ev.ff qg4 (Ev.ff qcA (Ev.bind (qfj (a := a.Nets) (by omega)) (Ev.ff rfl (.done))))

theorem qmt {a : (List ql)} (h : qc4 a ≤ 1048576) : Ev (fun n => qej n a a) true := by
  have hl : a.length ≤ 1048576 := by simp only [qc4] at h; omega
  unfold qej
  exact Ev.ff (by simp) (Ev.bind (b := .nxt (a.length : Int)) (qhc (eqf := qdP) (fun x hx => qmO (by have := qdM (wt := fun x : ql => qcq x) hx; simp only [qc4] at h; omega))
    (fun n => by simp only [qbX, qr (Nat.le_refl _), cond_false])
    (fun n j x hx => by
      have hj := (List.getElem?_eq_some_iff.1 hx).1
      simp only [qbX, qq hj, cond_true, qaQ hx, Option.bind_some, qm (show j < 9223372036854775807 by omega)])) .done)

theorem qnz {a : (List ByteArray)} (h : qe8 a ≤ 1048576) : Ev (fun n => qeT n a a) true := by
  have hl : a.length ≤ 1048576 := by simp only [qe8] at h; omega
  unfold qeT
  exact Ev.ff (by simp) (Ev.bind (b := .nxt (a.length : Int)) (qhc (eqf := fun _ x y => some (!(x.toList != y.toList))) (fun x _ => Ev.now (by simp))
    (fun n => by simp only [qcp, qr (Nat.le_refl _), cond_false])
    (fun n j x hx => by
      have hj := (List.getElem?_eq_some_iff.1 hx).1
      simp only [qcp, qq hj, cond_true, qaQ hx, Option.bind_some, Bool.not_not, qm (show j < 9223372036854775807 by omega)])) .done)

theorem qpu {a : qae} (_ : qhv a ≤ 1048576) : Ev (fun n => qfN n a a) true := by
  unfold qfN
  exact Ev.ff qg4 (Ev.ff qcA (Ev.ff qcA (.done)))

theorem qoZ {a : (List qae)} (h : qgt a ≤ 1048576) : Ev (fun n => qgr n a a) true := by
  have hl : a.length ≤ 1048576 := by simp only [qgt] at h; omega
  unfold qgr
  exact Ev.ff (by simp) (Ev.bind (b := .nxt (a.length : Int)) (qhc (eqf := qfN) (fun x hx => qpu (by have := qdM (wt := fun x : qae => qhv x) hx; simp only [qgt] at h; omega))
    (fun n => by simp only [qdm, qr (Nat.le_refl _), cond_false])
    (fun n j x hx => by
      have hj := (List.getElem?_eq_some_iff.1 hx).1
      simp only [qdm, qq hj, cond_true, qaQ hx, Option.bind_some, qm (show j < 9223372036854775807 by omega)])) .done)

theorem qow {a : qh} (h : qe3 a ≤ 1048576) : Ev (fun n => qft n a a) true := by
  unfold qft
  simp only [qe3] at h
  exact Ev.bind (qmt (a := a.Instances) (by omega)) (Ev.ff rfl (Ev.bind (qnz (a := a.Nets) (by omega)) (Ev.ff rfl (Ev.bind (qoZ (a := a.Ports) (by omega)) (Ev.ff rfl (.done))))))

theorem qpz {a : qY} (h : qfr a ≤ 1048576) : Ev (fun n => qf2 n a a) true := by
  unfold qf2
  simp only [qfr] at h
  exact Ev.bind (qfj (a := a.Parent) (by omega)) (Ev.ff rfl (Ev.bind (qfj (a := a.Res) (by omega)) (Ev.ff rfl (Ev.bind (qfj (a := a.Cap) (by omega)) (Ev.ff rfl (Ev.bind (qfj (a := a.Sink) (by omega)) (Ev.ff rfl (.done))))))))

theorem qo3 {a : (List qY)} (h : qgl a ≤ 1048576) : Ev (fun n => qgd n a a) true := by
  have hl : a.length ≤ 1048576 := by simp only [qgl] at h; omega
  unfold qgd
  exact Ev.ff (by simp) (Ev.bind (b := .nxt (a.length : Int)) (qhc (eqf := qf2) (fun x hx => qpz (by have := qdM (wt := fun x : qY => qfr x) hx; simp only [qgl] at h; omega))
    (fun n => by simp only [qdk, qr (Nat.le_refl _), cond_false])
    (fun n j x hx => by
      have hj := (List.getElem?_eq_some_iff.1 hx).1
      simp only [qdk, qq hj, cond_true, qaQ hx, Option.bind_some, qm (show j < 9223372036854775807 by omega)])) .done)

theorem qpe {a : qw} (h : qf3 a ≤ 1048576) : Ev (fun n => qf4 n a a) true := by
  unfold qf4
  simp only [qf3] at h
  exact Ev.bind (qnc (a := a.Library) (by omega)) (Ev.ff rfl (Ev.bind (qow (a := a.Design) (by omega)) (Ev.ff rfl (Ev.bind (qo3 (a := a.Wires) (by omega)) (Ev.ff rfl (.done))))))

theorem qfh {a : (List Int)} {left : Int} (h : (rngL rngI) a) (h0 : 0 ≤ left) (h1 : left ≤ 1048576) : Sz (fun n => qbG n a left) (fun r => r = left - (qdr a : Int)) :=
  Sz.less h0 h1 (by omega) (by have := h.1; omega) (fun _ => rfl)

theorem qpj {a : qE} {left : Int} (h : qfP a) (h0 : 0 ≤ left) (h1 : left ≤ 1048576) : Sz (fun n => qfg n a left) (fun r => r = left - (qet a : Int)) := by
  unfold qfg
  obtain ⟨h_0, h_1, h_2⟩ := h
  exact Sz.step (qfh (a := a.Slews) h_0 (by omega) (by omega)) fun r0 p0 q0 => Sz.step (qfh (a := a.Loads) h_1 (by omega) (by omega)) fun r1 p1 q1 => Sz.step (qfh (a := a.Values) h_2 (by omega) (by omega)) fun r2 p2 q2 => Sz.done p2 (by simp only [qet]; omega)

theorem ql1 {a : (List qE)} {left : Int} (h : (rngL qfP) a) (h0 : 0 ≤ left) (h1 : left ≤ 1048576) : Sz (fun n => qfz n a left) (fun r => r = left - (qeE a : Int)) :=
  Sz.list (Lf := qck a) (wt := fun x : qE => qet x) (el := qfg) h0 h1 h.1 (fun x hx left p q => qpj (h.2 x hx) p q)
    (fun acc n => by simp only [qck, qr (Nat.le_refl _), cond_false])
    (fun acc n j x hx => by
      have hj := (List.getElem?_eq_some_iff.1 hx).1
      have hl := h.1
      simp only [qck, qq hj, cond_true, qaQ hx, Option.bind_some, qm (show j < 9223372036854775807 by omega)])
    (fun _ => rfl)

theorem qqj {a : qX} {left : Int} (h : qie a) (h0 : 0 ≤ left) (h1 : left ≤ 1048576) : Sz (fun n => qgH n a left) (fun r => r = left - (qhK a : Int)) := by
  unfold qgH
  obtain ⟨h_0, h_1, h_2, h_3, h_4, h_5⟩ := h
  exact Sz.step (ql1 (a := a.Delay) h_4 (by omega) (by omega)) fun r0 p0 q0 => Sz.step (ql1 (a := a.Slew) h_5 (by omega) (by omega)) fun r1 p1 q1 => Sz.done p1 (by simp only [qhK]; omega)

theorem qpF {a : (List qX)} {left : Int} (h : (rngL qie) a) (h0 : 0 ≤ left) (h1 : left ≤ 1048576) : Sz (fun n => qhG n a left) (fun r => r = left - (qhj a : Int)) :=
  Sz.list (Lf := qc7 a) (wt := fun x : qX => qhK x) (el := qgH) h0 h1 h.1 (fun x hx left p q => qqj (h.2 x hx) p q)
    (fun acc n => by simp only [qc7, qr (Nat.le_refl _), cond_false])
    (fun acc n j x hx => by
      have hj := (List.getElem?_eq_some_iff.1 hx).1
      have hl := h.1
      simp only [qc7, qq hj, cond_true, qaQ hx, Option.bind_some, qm (show j < 9223372036854775807 by omega)])
    (fun _ => rfl)

theorem qqd {a : qal} {left : Int} (h : qid a) (h0 : 0 ≤ left) (h1 : left ≤ 1048576) : Sz (fun n => qgB n a left) (fun r => r = left - (qiB a : Int)) := by
  unfold qgB
  obtain ⟨h_0, h_1, h_2, h_3⟩ := h
  exact Sz.strStep h_0 (by omega) (by omega) fun p0 q0 => Sz.done p0 (by simp only [qiB]; omega)

theorem qpO {a : (List qal)} {left : Int} (h : (rngL qid) a) (h0 : 0 ≤ left) (h1 : left ≤ 1048576) : Sz (fun n => qhD n a left) (fun r => r = left - (qhx a : Int)) :=
  Sz.list (Lf := qc2 a) (wt := fun x : qal => qiB x) (el := qgB) h0 h1 h.1 (fun x hx left p q => qqd (h.2 x hx) p q)
    (fun acc n => by simp only [qc2, qr (Nat.le_refl _), cond_false])
    (fun acc n j x hx => by
      have hj := (List.getElem?_eq_some_iff.1 hx).1
      have hl := h.1
      simp only [qc2, qq hj, cond_true, qaQ hx, Option.bind_some, qm (show j < 9223372036854775807 by omega)])
    (fun _ => rfl)

theorem qpC {a : qA} {left : Int} (h : qhs a) (h0 : 0 ≤ left) (h1 : left ≤ 1048576) : Sz (fun n => qfZ n a left) (fun r => r = left - (qfp a : Int)) := by
  unfold qfZ
  obtain ⟨h_0, h_1, h_2, h_3, h_4, h_5, h_6⟩ := h
  exact Sz.strStep h_0 (by omega) (by omega) fun p0 q0 => Sz.step (qpO (a := a.Pins) h_2 (by omega) (by omega)) fun r1 p1 q1 => Sz.step (qpF (a := a.Arcs) h_3 (by omega) (by omega)) fun r2 p2 q2 => Sz.step (qfh (a := a.Truth) h_4 (by omega) (by omega)) fun r3 p3 q3 => Sz.done p3 (by simp only [qfp]; omega)

theorem qpl {a : (List qA)} {left : Int} (h : (rngL qhs) a) (h0 : 0 ≤ left) (h1 : left ≤ 1048576) : Sz (fun n => qhb n a left) (fun r => r = left - (qgq a : Int)) :=
  Sz.list (Lf := qcJ a) (wt := fun x : qA => qfp x) (el := qfZ) h0 h1 h.1 (fun x hx left p q => qpC (h.2 x hx) p q)
    (fun acc n => by simp only [qcJ, qr (Nat.le_refl _), cond_false])
    (fun acc n j x hx => by
      have hj := (List.getElem?_eq_some_iff.1 hx).1
      have hl := h.1
      simp only [qcJ, qq hj, cond_true, qaQ hx, Option.bind_some, qm (show j < 9223372036854775807 by omega)])
    (fun _ => rfl)

theorem qng {a : qn} {left : Int} (h : qhJ a) (h0 : 0 ≤ left) (h1 : left ≤ 1048576) : Sz (fun n => qeY n a left) (fun r => r = left - (qfk a : Int)) := by
  unfold qeY
  have h_0 := h
  exact Sz.step (qpl (a := a.Cells) h_0 (by omega) (by omega)) fun r0 p0 q0 => Sz.done p0 (by simp only [qfk]; omega)

theorem qmJ {a : ql} {left : Int} (h : qeo a) (h0 : 0 ≤ left) (h1 : left ≤ 1048576) : Sz (fun n => qdO n a left) (fun r => r = left - (qcq a : Int)) := by
  unfold qdO
  obtain ⟨h_0, h_1, h_2⟩ := h
  exact Sz.strStep h_0 (by omega) (by omega) fun p0 q0 => Sz.step (qfh (a := a.Nets) h_2 (by omega) (by omega)) fun r1 p1 q1 => Sz.done p1 (by simp only [qcq]; omega)

theorem qmp {a : (List ql)} {left : Int} (h : (rngL qeo) a) (h0 : 0 ≤ left) (h1 : left ≤ 1048576) : Sz (fun n => qfc n a left) (fun r => r = left - (qc4 a : Int)) :=
  Sz.list (Lf := qbv a) (wt := fun x : ql => qcq x) (el := qdO) h0 h1 h.1 (fun x hx left p q => qmJ (h.2 x hx) p q)
    (fun acc n => by simp only [qbv, qr (Nat.le_refl _), cond_false])
    (fun acc n j x hx => by
      have hj := (List.getElem?_eq_some_iff.1 hx).1
      have hl := h.1
      simp only [qbv, qq hj, cond_true, qaQ hx, Option.bind_some, qm (show j < 9223372036854775807 by omega)])
    (fun _ => rfl)

theorem qnF {a : (List ByteArray)} {left : Int} (h : (rngL rngS) a) (h0 : 0 ≤ left) (h1 : left ≤ 1048576) : Sz (fun n => qgh n a left) (fun r => r = left - (qe8 a : Int)) :=
  Sz.list (Lf := qb1 a) (wt := fun x : ByteArray => x.size) (el := fun _ (x : ByteArray) acc => some (W64 (acc - (x.size : Int)))) h0 h1 h.1 (fun x hx left p q => Sz.str (h.2 x hx) p q)
    (fun acc n => by simp only [qb1, qr (Nat.le_refl _), cond_false])
    (fun acc n j x hx => by
      have hj := (List.getElem?_eq_some_iff.1 hx).1
      have hl := h.1
      simp only [qb1, qq hj, cond_true, qaQ hx, Option.bind_some, qm (show j < 9223372036854775807 by omega)])
    (fun _ => rfl)

theorem qp5 {a : qae} {left : Int} (h : qho a) (h0 : 0 ≤ left) (h1 : left ≤ 1048576) : Sz (fun n => qfS n a left) (fun r => r = left - (qhv a : Int)) := by
  unfold qfS
  obtain ⟨h_0, h_1, h_2⟩ := h
  exact Sz.strStep h_0 (by omega) (by omega) fun p0 q0 => Sz.done p0 (by simp only [qhv]; omega)

theorem qoN {a : (List qae)} {left : Int} (h : (rngL qho) a) (h0 : 0 ≤ left) (h1 : left ≤ 1048576) : Sz (fun n => qg7 n a left) (fun r => r = left - (qgt a : Int)) :=
  Sz.list (Lf := qcH a) (wt := fun x : qae => qhv x) (el := qfS) h0 h1 h.1 (fun x hx left p q => qp5 (h.2 x hx) p q)
    (fun acc n => by simp only [qcH, qr (Nat.le_refl _), cond_false])
    (fun acc n j x hx => by
      have hj := (List.getElem?_eq_some_iff.1 hx).1
      have hl := h.1
      simp only [qcH, qq hj, cond_true, qaQ hx, Option.bind_some, qm (show j < 9223372036854775807 by omega)])
    (fun _ => rfl)

theorem qol {a : qh} {left : Int} (h : qig a) (h0 : 0 ≤ left) (h1 : left ≤ 1048576) : Sz (fun n => qfy n a left) (fun r => r = left - (qe3 a : Int)) := by
  unfold qfy
  obtain ⟨h_0, h_1, h_2⟩ := h
  exact Sz.step (qmp (a := a.Instances) h_0 (by omega) (by omega)) fun r0 p0 q0 => Sz.step (qnF (a := a.Nets) h_1 (by omega) (by omega)) fun r1 p1 q1 => Sz.step (qoN (a := a.Ports) h_2 (by omega) (by omega)) fun r2 p2 q2 => Sz.done p2 (by simp only [qe3]; omega)

theorem qpE {a : qY} {left : Int} (h : qhu a) (h0 : 0 ≤ left) (h1 : left ≤ 1048576) : Sz (fun n => qfU n a left) (fun r => r = left - (qfr a : Int)) := by
  unfold qfU
  obtain ⟨h_0, h_1, h_2, h_3⟩ := h
  exact Sz.step (qfh (a := a.Parent) h_0 (by omega) (by omega)) fun r0 p0 q0 => Sz.step (qfh (a := a.Res) h_1 (by omega) (by omega)) fun r1 p1 q1 => Sz.step (qfh (a := a.Cap) h_2 (by omega) (by omega)) fun r2 p2 q2 => Sz.step (qfh (a := a.Sink) h_3 (by omega) (by omega)) fun r3 p3 q3 => Sz.done p3 (by simp only [qfr]; omega)

theorem qpb {a : (List qY)} {left : Int} (h : (rngL qhu) a) (h0 : 0 ≤ left) (h1 : left ≤ 1048576) : Sz (fun n => qha n a left) (fun r => r = left - (qgl a : Int)) :=
  Sz.list (Lf := qcI a) (wt := fun x : qY => qfr x) (el := qfU) h0 h1 h.1 (fun x hx left p q => qpE (h.2 x hx) p q)
    (fun acc n => by simp only [qcI, qr (Nat.le_refl _), cond_false])
    (fun acc n j x hx => by
      have hj := (List.getElem?_eq_some_iff.1 hx).1
      have hl := h.1
      simp only [qcI, qq hj, cond_true, qaQ hx, Option.bind_some, qm (show j < 9223372036854775807 by omega)])
    (fun _ => rfl)

theorem qo6 {a : qw} {left : Int} (h : qiT a) (h0 : 0 ≤ left) (h1 : left ≤ 1048576) : Sz (fun n => qgj n a left) (fun r => r = left - (qf3 a : Int)) := by
  unfold qgj
  obtain ⟨h_0, h_1, h_2⟩ := h
  exact Sz.step (qng (a := a.Library) h_0 (by omega) (by omega)) fun r0 p0 q0 => Sz.step (qol (a := a.Design) h_1 (by omega) (by omega)) fun r1 p1 q1 => Sz.step (qpb (a := a.Wires) h_2 (by omega) (by omega)) fun r2 p2 q2 => Sz.done p2 (by simp only [qf3]; omega)

theorem qe9 {a : (List Int)} (h : qdr a ≤ 1048576) : Ev (fun n => qbp n a) a := by
  have hl : a.length ≤ 1048576 := by simp only [qdr] at h; omega
  unfold qbp
  exact Ev.bindN (qgI (by omega)) (Ev.bind (b := (a, (a.length : Int))) (qg9 (cp := fun _ x => some x) (fun _ _ => .done)
    (fun acc n => by simp only [qcU, qr (Nat.le_refl _), cond_false])
    (fun acc n j x y hx hy => by
      have hj := (List.getElem?_eq_some_iff.1 hx).1
      simp only [qcU, qq hj, cond_true, qaQ hx, qaQ hy, Option.bind_some, qm (show j < 9223372036854775807 by omega)])) .done)

theorem qoP {a : qE} (h : qet a ≤ 1048576) : Ev (fun n => qff n a) a := by
  unfold qff
  simp only [qet] at h
  exact Ev.bind (qe9 (a := a.Slews) (by omega)) (Ev.bind (qe9 (a := a.Loads) (by omega)) (Ev.bind (qe9 (a := a.Values) (by omega)) (.done)))

theorem ql3 {a : (List qE)} (h : qeE a ≤ 1048576) : Ev (fun n => qeJ n a) a := by
  have hl : a.length ≤ 1048576 := by simp only [qeE] at h; omega
  unfold qeJ
  exact Ev.bindN (qgI (by omega)) (Ev.bind (b := (a, (a.length : Int))) (qg9 (cp := qff) (fun x hx => qoP (by have := qdM (wt := fun x : qE => qet x) hx; simp only [qeE] at h; omega))
    (fun acc n => by simp only [qcS, qr (Nat.le_refl _), cond_false])
    (fun acc n j x y hx hy => by
      have hj := (List.getElem?_eq_some_iff.1 hx).1
      simp only [qcS, qq hj, cond_true, qaQ hx, qaQ hy, Option.bind_some, qm (show j < 9223372036854775807 by omega)])) .done)

theorem qqk {a : qX} (h : qhK a ≤ 1048576) : Ev (fun n => qgz n a) a := by
  unfold qgz
  simp only [qhK] at h
  exact Ev.bind (ql3 (a := a.Delay) (by omega)) (Ev.bind (ql3 (a := a.Slew) (by omega)) (.done))

theorem qpM {a : (List qX)} (h : qhj a ≤ 1048576) : Ev (fun n => qgM n a) a := by
  have hl : a.length ≤ 1048576 := by simp only [qhj] at h; omega
  unfold qgM
  exact Ev.bindN (qgI (by omega)) (Ev.bind (b := (a, (a.length : Int))) (qg9 (cp := qgz) (fun x hx => qqk (by have := qdM (wt := fun x : qX => qhK x) hx; simp only [qhj] at h; omega))
    (fun acc n => by simp only [qdF, qr (Nat.le_refl _), cond_false])
    (fun acc n j x y hx hy => by
      have hj := (List.getElem?_eq_some_iff.1 hx).1
      simp only [qdF, qq hj, cond_true, qaQ hx, qaQ hy, Option.bind_some, qm (show j < 9223372036854775807 by omega)])) .done)

theorem qqp {a : qal} (_ : qiB a ≤ 1048576) : Ev (fun n => qgv n a) a := by
  unfold qgv
  exact .done

theorem qpU {a : (List qal)} (h : qhx a ≤ 1048576) : Ev (fun n => qgW n a) a := by
  have hl : a.length ≤ 1048576 := by simp only [qhx] at h; omega
  unfold qgW
  exact Ev.bindN (qgI (by omega)) (Ev.bind (b := (a, (a.length : Int))) (qg9 (cp := qgv) (fun x hx => qqp (by have := qdM (wt := fun x : qal => qiB x) hx; simp only [qhx] at h; omega))
    (fun acc n => by simp only [qdE, qr (Nat.le_refl _), cond_false])
    (fun acc n j x y hx hy => by
      have hj := (List.getElem?_eq_some_iff.1 hx).1
      simp only [qdE, qq hj, cond_true, qaQ hx, qaQ hy, Option.bind_some, qm (show j < 9223372036854775807 by omega)])) .done)

theorem qpx {a : qA} (h : qfp a ≤ 1048576) : Ev (fun n => qf0 n a) a := by
  unfold qf0
  simp only [qfp] at h
  exact Ev.bind (qpU (a := a.Pins) (by omega)) (Ev.bind (qpM (a := a.Arcs) (by omega)) (Ev.bind (qe9 (a := a.Truth) (by omega)) (.done)))

theorem qoE {a : (List qA)} (h : qgq a ≤ 1048576) : Ev (fun n => qga n a) a := by
  have hl : a.length ≤ 1048576 := by simp only [qgq] at h; omega
  unfold qga
  exact Ev.bindN (qgI (by omega)) (Ev.bind (b := (a, (a.length : Int))) (qg9 (cp := qf0) (fun x hx => qpx (by have := qdM (wt := fun x : qA => qfp x) hx; simp only [qgq] at h; omega))
    (fun acc n => by simp only [qdg, qr (Nat.le_refl _), cond_false])
    (fun acc n j x y hx hy => by
      have hj := (List.getElem?_eq_some_iff.1 hx).1
      simp only [qdg, qq hj, cond_true, qaQ hx, qaQ hy, Option.bind_some, qm (show j < 9223372036854775807 by omega)])) .done)

theorem qnE {a : qn} (h : qfk a ≤ 1048576) : Ev (fun n => qeW n a) a := by
  unfold qeW
  simp only [qfk] at h
  exact Ev.bind (qoE (a := a.Cells) (by omega)) (.done)

theorem qmB {a : ql} (h : qcq a ≤ 1048576) : Ev (fun n => qdQ n a) a := by
  unfold qdQ
  simp only [qcq] at h
  exact Ev.bind (qe9 (a := a.Nets) (by omega)) (.done)

theorem qme {a : (List ql)} (h : qc4 a ≤ 1048576) : Ev (fun n => qee n a) a := by
  have hl : a.length ≤ 1048576 := by simp only [qc4] at h; omega
  unfold qee
  exact Ev.bindN (qgI (by omega)) (Ev.bind (b := (a, (a.length : Int))) (qg9 (cp := qdQ) (fun x hx => qmB (by have := qdM (wt := fun x : ql => qcq x) hx; simp only [qc4] at h; omega))
    (fun acc n => by simp only [qbY, qr (Nat.le_refl _), cond_false])
    (fun acc n j x y hx hy => by
      have hj := (List.getElem?_eq_some_iff.1 hx).1
      simp only [qbY, qq hj, cond_true, qaQ hx, qaQ hy, Option.bind_some, qm (show j < 9223372036854775807 by omega)])) .done)

theorem qm6 {a : (List ByteArray)} (h : qe8 a ≤ 1048576) : Ev (fun n => qe0 n a) a := by
  have hl : a.length ≤ 1048576 := by simp only [qe8] at h; omega
  unfold qe0
  exact Ev.bindN (qgI (by omega)) (Ev.bind (b := (a, (a.length : Int))) (qg9 (cp := fun _ x => some x) (fun _ _ => .done)
    (fun acc n => by simp only [qcs, qr (Nat.le_refl _), cond_false])
    (fun acc n j x y hx hy => by
      have hj := (List.getElem?_eq_some_iff.1 hx).1
      simp only [qcs, qq hj, cond_true, qaQ hx, qaQ hy, Option.bind_some, qm (show j < 9223372036854775807 by omega)])) .done)

theorem qpL {a : qae} (_ : qhv a ≤ 1048576) : Ev (fun n => qfQ n a) a := by
  unfold qfQ
  exact .done

theorem qoU {a : (List qae)} (h : qgt a ≤ 1048576) : Ev (fun n => qgi n a) a := by
  have hl : a.length ≤ 1048576 := by simp only [qgt] at h; omega
  unfold qgi
  exact Ev.bindN (qgI (by omega)) (Ev.bind (b := (a, (a.length : Int))) (qg9 (cp := qfQ) (fun x hx => qpL (by have := qdM (wt := fun x : qae => qhv x) hx; simp only [qgt] at h; omega))
    (fun acc n => by simp only [qdl, qr (Nat.le_refl _), cond_false])
    (fun acc n j x y hx hy => by
      have hj := (List.getElem?_eq_some_iff.1 hx).1
      simp only [qdl, qq hj, cond_true, qaQ hx, qaQ hy, Option.bind_some, qm (show j < 9223372036854775807 by omega)])) .done)

theorem qod {a : qh} (h : qe3 a ≤ 1048576) : Ev (fun n => qfE n a) a := by
  unfold qfE
  simp only [qe3] at h
  exact Ev.bind (qme (a := a.Instances) (by omega)) (Ev.bind (qm6 (a := a.Nets) (by omega)) (Ev.bind (qoU (a := a.Ports) (by omega)) (.done)))

theorem qpP {a : qY} (h : qfr a ≤ 1048576) : Ev (fun n => qfX n a) a := by
  unfold qfX
  simp only [qfr] at h
  exact Ev.bind (qe9 (a := a.Parent) (by omega)) (Ev.bind (qe9 (a := a.Res) (by omega)) (Ev.bind (qe9 (a := a.Cap) (by omega)) (Ev.bind (qe9 (a := a.Sink) (by omega)) (.done))))

theorem qph {a : (List qY)} (h : qgl a ≤ 1048576) : Ev (fun n => qf5 n a) a := by
  have hl : a.length ≤ 1048576 := by simp only [qgl] at h; omega
  unfold qf5
  exact Ev.bindN (qgI (by omega)) (Ev.bind (b := (a, (a.length : Int))) (qg9 (cp := qfX) (fun x hx => qpP (by have := qdM (wt := fun x : qY => qfr x) hx; simp only [qgl] at h; omega))
    (fun acc n => by simp only [qdh, qr (Nat.le_refl _), cond_false])
    (fun acc n j x y hx hy => by
      have hj := (List.getElem?_eq_some_iff.1 hx).1
      simp only [qdh, qq hj, cond_true, qaQ hx, qaQ hy, Option.bind_some, qm (show j < 9223372036854775807 by omega)])) .done)

theorem qkM {a : qw} (h : qf3 a ≤ 1048576) : Ev (fun n => qez n a) a := by
  unfold qez
  simp only [qf3] at h
  exact Ev.bind (qnE (a := a.Library) (by omega)) (Ev.bind (qod (a := a.Design) (by omega)) (Ev.bind (qph (a := a.Wires) (by omega)) (.done)))

end Go.Fw


namespace Go.Fw
open Go
set_option maxRecDepth 100000


theorem qeC {n : Nat} {x lo hi : Int} : qaN n x lo hi = some (inI x lo hi) := by
  simp only [qaN, qiE, qjz]; rfl
theorem qeb {n : Nat} {x lo hi : Int} : qba n x lo hi = some (inI x lo hi) := by
  simp only [qba, qiE, qjz]; rfl

/-! ### Names -/

/-- The byte at a place, as a number. -/
def bt (s : ByteArray) (j : Nat) : Nat := (s.data.toList.getD j 0).toNat
theorem qpi {s : ByteArray} {j : Nat} (h : j < s.size) : atS s (j : Int) = some (bt s j : Int) := by
  have h' : j < s.data.size := h
  have hl : j < s.data.toList.length := by simpa using h'
  unfold atS
  rw [if_pos (by omega), Int.toNat_natCast]
  have : s[j]? = some (s.data.toList.getD j 0) := by
    rw [getElem?_pos s j h, List.getD_eq_getElem?_getD, List.getElem?_eq_getElem hl]
    rfl
  rw [this]
  rfl

def letB (b : Nat) : Bool := decide (97 ≤ b) && decide (b ≤ 122)
def digB (b : Nat) : Bool := decide (48 ≤ b) && decide (b ≤ 57)
def chB (s : ByteArray) (j : Nat) : Bool := letB (bt s j) || digB (bt s j) && decide (0 < j)
def nameB (s : ByteArray) : Bool := (decide (1 ≤ s.size) && decide (s.size ≤ 8)) && allN (chB s) s.size

theorem qjf {s : ByteArray} (h : okS s) : Ev (fun n => qer n s) (nameB s) := by
  unfold okS at h
  have hL : Ev (fun n => qb8 s n 0) (bif allN (chB s) s.size then .nxt (s.size : Int) else .ret false) := by
    refine qex ?_ (fun j hj X hX => ?_)
    · exact Ev.succ (by simp only [qb8, qr (Nat.le_refl _), cond_false]; exact .done)
    · refine Ev.succ ?_
      simp only [qb8, qq hj, cond_true, qpi hj, Option.bind_some, qiE, qjz, qm (show j < 9223372036854775807 by omega)]
      have e1 : (decide ((bt s j : Int) ≥ 97) && decide ((bt s j : Int) ≤ 122)) = letB (bt s j) := by unfold letB; rw [Bool.eq_iff_iff]; simp; omega
      have e2 : (decide ((bt s j : Int) ≥ 48) && decide ((bt s j : Int) ≤ 57)) = digB (bt s j) := by unfold digB; rw [Bool.eq_iff_iff]; simp; omega
      have e3 : decide ((j : Int) > 0) = decide (0 < j) := by rw [Bool.eq_iff_iff]; simp
      rw [e1, e2, e3]
      unfold chB
      cases letB (bt s j) <;> cases digB (bt s j) <;> cases decide (0 < j) <;> first | exact hX | exact .done
  unfold qer
  refine Ev.cast (r := bif allN (chB s) s.size then (decide (1 ≤ s.size) && decide (s.size ≤ 8)) else false) (Ev.bindB hL (fun _ => ?_) (fun _ => .done)) ?_
  · simp only [qiE, qjz]
    exact Ev.now (by congr 1; rw [Bool.eq_iff_iff]; simp; omega)
  · unfold nameB
    cases allN (chB s) s.size <;> simp

def cutset : List UInt8 := [97, 98, 99, 100, 101, 102, 103, 104, 105, 106, 107, 108, 109, 110, 111, 112, 113, 114, 115, 116, 117, 118, 119, 120, 121, 122, 48, 49, 50, 51, 52, 53, 54, 55, 56, 57]
theorem qkO (b : UInt8) : cutset.contains b = (letB b.toNat || digB b.toNat) := by
  have h0 : (List.range 256).all (fun m => cutset.contains (UInt8.ofNat m) == (letB (UInt8.ofNat m).toNat || digB (UInt8.ofNat m).toNat)) = true := by kernel_rfl
  have h := List.all_eq_true.1 h0 b.toNat (List.mem_range.2 b.toNat_lt)
  rw [beq_iff_eq] at h
  simpa using h
def letters : List UInt8 := [97, 98, 99, 100, 101, 102, 103, 104, 105, 106, 107, 108, 109, 110, 111, 112, 113, 114, 115, 116, 117, 118, 119, 120, 121, 122]
theorem qna (m : Nat) (hm : m < 256) : decide ((Lib.indexByte letters m.toUInt8) ≥ 0) = letB m := by
  have h0 : (List.range 256).all (fun m => decide ((Lib.indexByte letters m.toUInt8) ≥ 0) == letB m) = true := by kernel_rfl
  have h := List.all_eq_true.1 h0 m (List.mem_range.2 hm)
  rwa [beq_iff_eq] at h

theorem qlr {α : Type} {p : α → Bool} {l : List α} : l.dropWhile p = [] ↔ ∀ x, x ∈ l → p x = true := by
  induction l with
  | nil => simp
  | cons y l ih =>
    rw [List.dropWhile_cons]
    by_cases h : p y = true
    · rw [if_pos h, ih]; simp [h]
    · rw [if_neg h]; simp [h]

theorem qly {α : Type} {p : α → Bool} {l : List α} (h : ∀ x, x ∈ l.dropWhile p → p x = true) : ∀ x, x ∈ l → p x = true := by
  induction l with
  | nil => simp
  | cons y l ih =>
    rw [List.dropWhile_cons] at h
    by_cases hy : p y = true
    · rw [if_pos hy] at h
      intro x hx
      rcases List.mem_cons.1 hx with rfl | hx
      · exact hy
      · exact ih h x hx
    · rw [if_neg hy] at h
      exact h

theorem qoR {l cs : List UInt8} : Lib.trimS l cs = [] ↔ ∀ x, x ∈ l → cs.contains x = true := by
  unfold Lib.trimS Lib.trimRightS Lib.trimLeftS
  rw [qlr]
  constructor
  · intro h x hx
    exact qly (p := (cs.contains ·)) (l := l.reverse) (fun y hy => h y (List.mem_reverse.2 hy)) x (List.mem_reverse.2 hx)
  · intro h x hx
    exact h x (List.mem_reverse.1 ((List.dropWhile_suffix _).subset (List.mem_reverse.1 hx)))

theorem qfu {a b : ByteArray} : (a.toList == b.toList) = decide (a = b) := by
  rw [Bool.eq_iff_iff, beq_iff_eq, decide_eq_true_iff]
  constructor
  · intro h
    exact ByteArray.ext (by have := congrArg List.toArray h; simpa [ByteArray.toList_eq] using this)
  · rintro rfl; rfl
end Go.Fw


namespace Go.Fw
open Go
set_option maxRecDepth 100000

theorem qp6 {s : ByteArray} {j : Nat} (h : j < s.data.toList.length) : bt s j = (s.data.toList[j]).toNat := by
  unfold bt; rw [List.getD_eq_getElem?_getD, List.getElem?_eq_getElem h]; rfl
theorem qqt {s : ByteArray} {j : Nat} : bt s j < 256 := UInt8.toNat_lt _

theorem ql5 {n : Nat} {s : ByteArray} (h : okS s) : qf1 n s = some (nameB s) := by
  unfold okS at h
  have hl : s.data.toList.length = s.size := by simp
  simp only [qf1, qeb, Option.bind_some]
  cases hI : inI (s.size : Int) 1 8 with
  | false =>
    have hs : (decide (1 ≤ s.size) && decide (s.size ≤ 8)) = false := by rw [qn1] at hI; rw [Bool.and_eq_false_iff, decide_eq_false_iff_not, decide_eq_false_iff_not]; omega
    simp [nameB, hs]
  | true =>
    have hs : 1 ≤ s.size ∧ s.size ≤ 8 := by rw [qcY] at hI; omega
    have hT : qge n s (⟨#[97, 98, 99, 100, 101, 102, 103, 104, 105, 106, 107, 108, 109, 110, 111, 112, 113, 114, 115, 116, 117, 118, 119, 120, 121, 122, 48, 49, 50, 51, 52, 53, 54, 55, 56, 57]⟩ : ByteArray) = some ⟨(Lib.trimS s.data.toList cutset).toArray⟩ := by
      unfold qge
      rw [if_pos ⟨by omega, by decide, by decide⟩]
      rfl
    rw [hT]
    simp only [cond_true, Option.bind_some]
    have hE : (((⟨(Lib.trimS s.data.toList cutset).toArray⟩ : ByteArray).toList == (⟨#[]⟩ : ByteArray).toList)) = allN (fun j => letB (bt s j) || digB (bt s j)) s.size := by
      rw [qfu, Bool.eq_iff_iff, decide_eq_true_iff, qa8]
      have : ((⟨(Lib.trimS s.data.toList cutset).toArray⟩ : ByteArray) = ⟨#[]⟩) ↔ Lib.trimS s.data.toList cutset = [] := by
        constructor
        · intro he
          have := congrArg (fun x : ByteArray => x.data.toList) he
          simpa using this
        · intro he; rw [he]
      rw [this, qoR]
      constructor
      · intro hx j hj
        have hj' : j < s.data.toList.length := by omega
        have := hx _ (List.getElem_mem hj')
        rw [qkO, ← qp6 hj'] at this
        exact this
      · intro hx x hm
        obtain ⟨j, hj, rfl⟩ := List.getElem_of_mem hm
        have := hx j (by omega)
        rw [qkO, ← qp6 hj]
        exact this
    rw [hE]
    have h0 : atS s 0 = some (bt s 0 : Int) := qpi (j := 0) (by omega)
    have hI2 : decide (Lib.indexByte letters (bt s 0 : Int).toNat.toUInt8 ≥ 0) = letB (bt s 0) := by
      rw [Int.toNat_natCast]; exact qna _ qqt
    have hF : ∀ b : Bool, (bif b then (atS s 0).bind fun y1 => (qeP n (⟨#[97, 98, 99, 100, 101, 102, 103, 104, 105, 106, 107, 108, 109, 110, 111, 112, 113, 114, 115, 116, 117, 118, 119, 120, 121, 122]⟩ : ByteArray) (⟨y1⟩ : IntK .u8)).bind fun r3 => some (decide (r3 ≥ 0)) else some false) = some (b && letB (bt s 0)) := by
      intro b
      cases b with
      | false => rfl
      | true =>
        rw [h0]
        simp only [cond_true, Option.bind_some, qeP, Bool.true_and]
        exact congrArg some hI2
    rw [hF]
    congr 1
    have hs' : (decide (1 ≤ s.size) && decide (s.size ≤ 8)) = true := by simp [hs]
    unfold nameB
    rw [hs', Bool.true_and, Bool.eq_iff_iff, Bool.and_eq_true, qa8, qa8]
    simp only [chB, Bool.or_eq_true, Bool.and_eq_true, decide_eq_true_eq]
    constructor
    · rintro ⟨h1, h2⟩ j hj
      rcases Nat.eq_zero_or_pos j with rfl | hp
      · exact .inl h2
      · exact (h1 j hj).imp id (fun h => ⟨h, hp⟩)
    · intro h1
      refine ⟨fun j hj => (h1 j hj).imp id (fun h => h.1), ?_⟩
      rcases h1 0 (by omega) with h2 | h2
      · exact h2
      · omega

/-! ### Lists of names -/

def strAt (xs : List ByteArray) (j : Nat) : ByteArray := xs.getD j ByteArray.empty
theorem qjC {xs : List ByteArray} {j : Nat} (h : j < xs.length) : strAt xs j = xs[j] := by simp [strAt, h]
theorem qkH {xs : List ByteArray} {j : Nat} (h : j < xs.length) : idx xs (j : Int) = some (strAt xs j) := by rw [qfI h, qjC h]
def neB (xs : List ByteArray) (j i : Nat) : Bool := !decide (strAt xs i = strAt xs j)
def namesB (xs : List ByteArray) : Bool := allN (fun j => nameB (strAt xs j) && allN (neB xs j) j) xs.length

theorem qiC {xs : List ByteArray} (h : okL okS xs) : Ev (fun n => qd6 n xs) (namesB xs) := by
  have hl := h.len
  have hL2 : ∀ j, j < xs.length → Ev (fun n => qcj xs (j : Int) n 0) (bif allN (neB xs j) j then .nxt (j : Int) else .ret false) := by
    intro j hj
    refine qex ?_ (fun i hi X hX => Ev.succ ?_)
    · exact Ev.succ (by simp only [qcj, qr (Nat.le_refl _), cond_false]; exact .done)
    · simp only [qcj, qq hi, cond_true, qkH (show i < xs.length by omega), qkH hj, Option.bind_some, qfu, qm (show i < 9223372036854775807 by omega)]
      unfold neB
      cases decide (strAt xs i = strAt xs j)
      · exact hX
      · exact .done
  have hL1 : Ev (fun n => qcb xs n 0) (bif namesB xs then .nxt (xs.length : Int) else .ret false) := by
    refine qex ?_ (fun j hj X hX => Ev.succ ?_)
    · exact Ev.succ (by simp only [qcb, qr (Nat.le_refl _), cond_false]; exact .done)
    · simp only [qcb, qq hj, cond_true, qkH hj, Option.bind_some, qm (show j < 9223372036854775807 by omega)]
      refine Ev.bind (qjf (by rw [qjC hj]; exact h.at hj)) ?_
      cases nameB (strAt xs j)
      · exact .done
      · refine Ev.ff rfl (Ev.bind (hL2 j hj) ?_)
        cases allN (neB xs j) j
        · exact .done
        · exact hX
  unfold qd6
  refine Ev.bind hL1 ?_
  cases namesB xs <;> exact .done

theorem qmE {xs : List ByteArray} {v : ByteArray} (hl : xs.length ≤ 1048576) : Ev (fun n => qdp n xs v) (ixL (fun x => decide (v = x)) xs) :=
  qeD (fin := (xs.length : Int)) (Lf := qa4 xs v) (pf := fun _ x => some (decide (v = x))) (fun _ _ => .done)
    (fun n => by simp only [qa4, qr (Nat.le_refl _), cond_false])
    (fun n j x hx => by
      have hj := (List.getElem?_eq_some_iff.1 hx).1
      simp only [qa4, qq hj, cond_true, qaQ hx, Option.bind_some, qfu, qm (show j < 9223372036854775807 by omega)])
    (fun n => by unfold qdp; congr 1; funext o; cases o <;> rfl)

theorem qk7 {xs : List ByteArray} {v : ByteArray} (hl : xs.length ≤ 1048576) : Ev (fun n => qcv n xs v) (xs.any fun x => decide (v = x)) := by
  unfold qcv
  exact Ev.bind (qmE hl) (Ev.now (by rw [qiI]))

theorem qgT {xs : List ByteArray} (h : okL okS xs) : Ev (fun n => qcX n xs) (namesB xs) := by
  have hl := h.len
  have hL1 : Ev (fun n => qcm xs n 0) (bif namesB xs then .nxt (xs.length : Int) else .ret false) := by
    refine qex ?_ (fun j hj X hX => Ev.succ ?_)
    · exact Ev.succ (by simp only [qcm, qr (Nat.le_refl _), cond_false]; exact .done)
    · have hs : subS xs 0 (j : Int) = some (xs.take j) := by
        unfold subS
        rw [if_pos ⟨by omega, by omega, by omega⟩]
        simp
      simp only [qcm, qq hj, cond_true, qkH hj, Option.bind_some, hs, ql5 (show okS (strAt xs j) by rw [qjC hj]; exact h.at hj), qm (show j < 9223372036854775807 by omega)]
      cases nameB (strAt xs j)
      · exact .done
      · refine Ev.ff rfl (Ev.bind (qk7 (by simp; omega)) ?_)
        have : ((xs.take j).any fun x => decide (strAt xs j = x)) = !allN (neB xs j) j := by
          rw [qm0 (d := ByteArray.empty)]
          congr 1
          rw [List.length_take, Nat.min_eq_left (by omega)]
          refine qfM (fun i hi => ?_)
          unfold neB strAt
          congr 1
          have : (xs.take j).getD i ByteArray.empty = xs.getD i ByteArray.empty := by simp [List.getD_eq_getElem?_getD, hi]
          rw [this]
          exact decide_eq_decide.2 eq_comm
        rw [this]
        cases allN (neB xs j) j
        · exact .done
        · exact hX
  unfold qcX
  refine Ev.bind hL1 ?_
  cases namesB xs <;> exact .done
end Go.Fw


namespace Go.Fw
open Go
set_option maxRecDepth 100000

theorem qlq {n : Nat} {x lo hi : Int} : qei n x lo hi = some (!inI x lo hi) := by simp only [qei, qeb, Option.bind_some]

theorem qfl {xs : List Int} {lo hi : Int} (hl : xs.length ≤ 1048576) : Ev (fun n => qb3 n xs lo hi) (xs.all fun x => inI x lo hi) := by
  have h1 : Ev (fun n => qat n xs lo hi) (ixL (fun x => !inI x lo hi) xs) :=
    qeD (fin := (xs.length : Int)) (Lf := qN xs lo hi) (pf := fun _ x => some (!inI x lo hi)) (fun _ _ => .done)
      (fun n => by simp only [qN, qr (Nat.le_refl _), cond_false])
      (fun n j x hx => by
        have hj := (List.getElem?_eq_some_iff.1 hx).1
        simp only [qN, qq hj, cond_true, qaQ hx, Option.bind_some, qlq, qm (show j < 9223372036854775807 by omega)])
      (fun n => by unfold qat; congr 1; funext o; cases o <;> rfl)
  unfold qb3 qaI
  refine Ev.bind (Ev.bind h1 (Ev.now rfl)) (Ev.now ?_)
  rw [qiI, qkJ]

def stepB (xs : List Int) (j : Nat) : Bool := decide (j = 0) || decide (at0 xs (j - 1) < at0 xs j)
def incB (xs : List Int) : Bool := allN (stepB xs) xs.length

theorem qkx {xs : List Int} (hl : xs.length ≤ 1048576) : Ev (fun n => qdY n xs) (incB xs) := by
  have hL : Ev (fun n => qaO xs n 1) (bif incB xs then .nxt (max 1 xs.length : Int) else .ret false) := by
    by_cases h0 : xs.length = 0
    · have hb : incB xs = true := by unfold incB; rw [h0]; rfl
      rw [hb]
      refine Ev.succ ?_
      have : decide ((1 : Int) < (xs.length : Int)) = false := by rw [h0]; decide
      simp only [qaO, this, cond_false]
      exact Ev.now (by rw [h0]; rfl)
    · have := qnR (Lf := qaO xs) (len := xs.length) (i0 := 1) (f := stepB xs) (bad := false) (fin := .nxt (max 1 xs.length : Int)) (by omega)
        (Ev.succ (by
          simp only [qaO, qr (Nat.le_refl _), cond_false]
          exact Ev.now (by congr 2; omega)))
        (fun j h1 hj X hX => Ev.succ (by
          simp only [qaO, qq hj, cond_true, qm (show j < 9223372036854775807 by omega), show (j : Int) - 1 = ((j - 1 : Nat) : Int) by omega, qd9 (show -9223372036854775808 ≤ ((j - 1 : Nat) : Int) by omega) (by omega), qdf (show j - 1 < xs.length by omega), qdf hj, Option.bind_some]
          unfold stepB
          by_cases hc : at0 xs (j - 1) < at0 xs j
          · have e1 : decide (at0 xs (j - 1) ≥ at0 xs j) = false := by simp; omega
            rw [e1]; simp only [hc, decide_true, Bool.or_true, cond_true, cond_false]; exact hX
          · have e1 : decide (at0 xs (j - 1) ≥ at0 xs j) = true := by simp; omega
            have e2 : decide (j = 0) = false := by simp; omega
            rw [e1, e2]; simp only [hc, decide_false, Bool.or_self, cond_true, cond_false]; exact .done))
      have e : allN (fun j => stepB xs (1 + j)) (xs.length - 1) = incB xs := by
        unfold incB
        rw [Bool.eq_iff_iff, qa8, qa8]
        constructor
        · intro h j hj
          cases j with
          | zero => rfl
          | succ j => have := h j (by omega); rwa [Nat.add_comm] at this
        · intro h j hj
          exact h (1 + j) (by omega)
      rw [e] at this
      exact this
  unfold qdY
  refine Ev.bind hL ?_
  cases incB xs <;> exact .done

def lenB {α : Type} (xs : List α) (lo hi : Nat) : Bool := decide (lo ≤ xs.length) && decide (xs.length ≤ hi)
theorem qmu {α : Type} {xs : List α} {lo hi : Nat} : inI (xs.length : Int) (lo : Int) (hi : Int) = lenB xs lo hi := by
  unfold inI lenB; rw [Bool.eq_iff_iff]; simp
def axisB (xs : List Int) : Bool := lenB xs 1 4 && ((xs.all fun x => inI x 0 100000) && incB xs)

theorem qlN {xs : List Int} (hl : xs.length ≤ 1048576) : Ev (fun n => qfV n xs) (axisB xs) := by
  simp only [qfV, qa5, Option.bind_some, qeb, show inI (xs.length : Int) 1 4 = lenB xs 1 4 from qmu (lo := 1) (hi := 4)]
  unfold axisB
  cases lenB xs 1 4
  · exact .done
  · refine Ev.tt rfl (Ev.bind (qfl hl) ?_)
    cases (xs.all fun x => inI x 0 100000)
    · exact .done
    · exact Ev.tt rfl (Ev.bind (qkx hl) .done)

theorem qla {xs : List Int} (hl : xs.length ≤ 1048576) : Ev (fun n => qfi n xs) (axisB xs) := by
  have hL : Ev (fun n => qb7 xs n 0) (bif allN (fun j => inI (at0 xs j) 0 100000 && stepB xs j) xs.length then .nxt (xs.length : Int) else .ret false) := by
    refine qex ?_ (fun j hj X hX => Ev.succ ?_)
    · exact Ev.succ (by simp only [qb7, qr (Nat.le_refl _), cond_false]; exact .done)
    · simp only [qb7, qq hj, cond_true, qdf hj, Option.bind_some, qeC, qm (show j < 9223372036854775807 by omega)]
      cases inI (at0 xs j) 0 100000
      · exact .done
      · simp only [Bool.not_true, cond_false, Bool.true_and]
        unfold stepB
        by_cases h0 : j = 0
        · subst h0
          exact Ev.ff (by decide) hX
        · simp only [show (j : Int) - 1 = ((j - 1 : Nat) : Int) by omega, qd9 (show -9223372036854775808 ≤ ((j - 1 : Nat) : Int) by omega) (by omega), qdf (show j - 1 < xs.length by omega), Option.bind_some]
          have e2 : decide (j = 0) = false := by simp; omega
          have e3 : decide ((j : Int) > 0) = true := by simp; omega
          rw [e2, e3]
          simp only [cond_true, Bool.false_or]
          by_cases hc : at0 xs (j - 1) < at0 xs j
          · have e1 : decide (at0 xs (j - 1) ≥ at0 xs j) = false := by simp; omega
            rw [e1]; simp only [hc, decide_true, cond_true, cond_false]; exact hX
          · have e1 : decide (at0 xs (j - 1) ≥ at0 xs j) = true := by simp; omega
            rw [e1]; simp only [hc, decide_false, cond_true, cond_false]; exact .done
  have e : axisB xs = (allN (fun j => inI (at0 xs j) 0 100000 && stepB xs j) xs.length && lenB xs 1 4) := by
    unfold axisB incB
    rw [qit, qgP (d := 0), Bool.and_comm]
    rfl
  rw [e]
  unfold qfi
  refine Ev.bind hL ?_
  cases allN (fun j => inI (at0 xs j) 0 100000 && stepB xs j) xs.length
  · exact .done
  · simp only [cond_true, qiE, qjz, Bool.true_and]
    exact Ev.now (by congr 1; unfold lenB; rw [Bool.eq_iff_iff]; simp; omega)

def tableB (t : qE) : Bool := axisB t.Slews && (axisB t.Loads && (decide (t.Values.length = t.Slews.length * t.Loads.length) && (t.Values.all fun x => inI x (-1000000) 1000000)))

theorem qnS {a b : Nat} (ha : a ≤ 1048576) (hb : b ≤ 1048576) : W64 ((a : Int) * (b : Int)) = ((a * b : Nat) : Int) := by
  have h : a * b ≤ 1048576 * 1048576 := Nat.mul_le_mul ha hb
  have e : (a : Int) * (b : Int) = ((a * b : Nat) : Int) := by simp
  rw [e]
  exact qd9 (by omega) (by omega)

theorem qnl {t : qE} (h : qgo t) : Ev (fun n => qgp n t) (tableB t) := by
  unfold qgp tableB
  refine Ev.bind (qlN h.Slews.len) ?_
  cases axisB t.Slews
  · exact .done
  · refine Ev.tt rfl (Ev.bind (qlN h.Loads.len) ?_)
    cases axisB t.Loads
    · exact .done
    · rw [qnS h.Slews.len h.Loads.len]
      have e : (((t.Values.length : Nat) : Int) == ((t.Slews.length * t.Loads.length : Nat) : Int)) = decide (t.Values.length = t.Slews.length * t.Loads.length) := by rw [Bool.eq_iff_iff]; simp; omega
      rw [e]
      cases decide (t.Values.length = t.Slews.length * t.Loads.length)
      · exact .done
      · exact Ev.tt rfl (Ev.tt rfl (Ev.bind (qfl h.Values.len) .done))

theorem qmK {t : qE} (h : qgo t) : Ev (fun n => qgb n t) (tableB t) := by
  have hl := h.Values.len
  have hL : Ev (fun n => qcG t n 0) (bif (t.Values.all fun x => inI x (-1000000) 1000000) then .nxt (t.Values.length : Int) else .ret false) :=
    qiN (fun n => by simp only [qcG, qr (Nat.le_refl _), cond_false]) (fun j hj X hX => by
      simp only [qcG, qq hj, cond_true, qfI hj, Option.bind_some, qeC, qm (show j < 9223372036854775807 by omega)]
      cases inI t.Values[j] (-1000000) 1000000
      · exact .done
      · exact hX)
  unfold qgb tableB
  refine Ev.bind (b := !(axisB t.Slews && (axisB t.Loads && decide (t.Values.length = t.Slews.length * t.Loads.length)))) ?_ ?_
  · refine Ev.bind (qla h.Slews.len) ?_
    cases axisB t.Slews
    · exact .done
    · refine Ev.ff rfl (Ev.bind (qla h.Loads.len) ?_)
      cases axisB t.Loads
      · exact .done
      · refine Ev.ff rfl (Ev.now ?_)
        rw [qnS h.Slews.len h.Loads.len]
        congr 1
        rw [Bool.eq_iff_iff]; simp; omega
  · cases axisB t.Slews
    · exact .done
    · cases axisB t.Loads
      · exact .done
      · cases decide (t.Values.length = t.Slews.length * t.Loads.length)
        · exact .done
        · refine Ev.ff rfl (Ev.bind hL ?_)
          cases (t.Values.all fun x => inI x (-1000000) 1000000) <;> exact .done
end Go.Fw


namespace Go.Fw
open Go
set_option maxRecDepth 100000

instance : Inhabited qal := ⟨⟨ByteArray.empty, 0, 0, false⟩⟩
instance : Inhabited qE := ⟨⟨[], [], []⟩⟩
instance : Inhabited qX := ⟨⟨0, 0, 0, 0, [], []⟩⟩
instance : Inhabited qA := ⟨⟨ByteArray.empty, 0, [], [], [], 0, 0⟩⟩
instance : Inhabited ql := ⟨⟨ByteArray.empty, 0, []⟩⟩
instance : Inhabited qae := ⟨⟨ByteArray.empty, 0, 0⟩⟩
instance : Inhabited qY := ⟨⟨[], [], [], []⟩⟩

theorem lastE {j m : Nat} (h : j < m) (hm : m ≤ 1048576) : ((j : Int) == W64 ((m : Int) - 1)) = decide (j + 1 = m) := by
  rcases qpt h with h | h
  · exact h
  · omega
theorem qhd {α : Type} [Inhabited α] {xs : List α} {g : α → ByteArray} {j : Nat} (h : j < xs.length) : strAt (xs.map g) j = g (gt xs j) := by
  rw [qjC (by simpa using h), qhY h]; simp
/-- Names that differ, by the list that they are taken from. -/
theorem qiY {α : Type} {xs : List α} {g : α → ByteArray} {ok : α → Prop} (h : okL ok xs) (hg : ∀ x, ok x → okS (g x)) : okL okS (xs.map g) :=
  ⟨by rw [List.length_map]; exact h.1, fun y hy => by
    obtain ⟨x, hx, rfl⟩ := List.mem_map.1 hy
    exact hg x (h.2 x hx)⟩
theorem qh1 {α β : Type} {xs : List α} {g : α → β} {j : Nat} (h : j < xs.length) (hl : xs.length ≤ 1048576) {y : β} : appS ((xs.take j).map g) [y] = some ((xs.take j).map g ++ [y]) :=
  qde (by simp; omega)

/-! ### Pins -/

def pinB (ps : List qal) (j : Nat) : Bool :=
  bif decide (j + 1 = ps.length) then ((gt ps j).Dir == 2) && (((gt ps j).Cap == 0) && !(gt ps j).Clock) else ((gt ps j).Dir == 1) && inI (gt ps j).Cap 0 500
def pinsB (ps : List qal) : Bool := allN (pinB ps) ps.length && (lenB ps 2 5 && namesB (ps.map qal.Name))
def clkN (ps : List qal) (j : Nat) : Nat := cntP (fun i => (gt ps i).Clock) j

theorem qm9 {ps : List qal} (h : okL qiK ps) : Ev (fun n => qf7 n ps) (pinsB ps) := by
  have hl := h.len
  have hL : Ev (fun n => qbI ps n ([] : List ByteArray) 0) (bif allN (pinB ps) ps.length then .nxt (ps.map qal.Name, (ps.length : Int)) else .ret false) := by
    refine loopN (Lf := qbI ps) (S := fun j => (ps.take j).map qal.Name) (pinB ps) (fun n => ?_) (fun j hj hp X hX => ?_)
    · simp only [qbI, qr (Nat.le_refl _), cond_false, List.take_length]
    · simp only [qbI, qq hj, cond_true, qak hj, Option.bind_some, qh1 hj hl, qfn (g := qal.Name) hj, lastE hj hl, bne, qcr, qeb, qm (show j < 9223372036854775807 by omega)]
      generalize hc : pinB ps j = c at hX ⊢
      unfold pinB at hc
      cases hd : decide (j + 1 = ps.length)
      · rw [hd] at hc
        simp only [cond_false] at hc ⊢
        subst hc
        exact Ev.okP (fun h1 => Ev.okP1 (fun h2 => hX (by rw [h1, h2]; rfl)))
      · rw [hd] at hc
        simp only [cond_true] at hc ⊢
        subst hc
        refine Ev.okP (fun h1 => Ev.okP (fun h2 => Ev.chkP1 (fun h3 => hX (by rw [h1, h2, h3]; rfl))))
  unfold qf7 pinsB
  refine Ev.bind hL ?_
  cases allN (pinB ps) ps.length
  · exact .done
  · simp only [cond_true, qbi, qeb, Option.bind_some, show inI (ps.length : Int) 2 5 = lenB ps 2 5 from qmu (lo := 2) (hi := 5), Bool.true_and]
    exact Ev.andP (fun _ => Ev.last (qgT (qiY h (fun x hx => hx.Name))))

/-- A check of the reference, one pin. -/
def pinS (ps : List qal) (j : Nat) : Bool := allN (neB (ps.map qal.Name) j) j && ((nameB (gt ps j).Name && inI (gt ps j).Cap 0 500) && (bif decide (j + 1 = ps.length) then ((gt ps j).Dir == 2) && (((gt ps j).Cap == 0) && !(gt ps j).Clock) else ((gt ps j).Dir == 1)))

theorem qpW {ps : List qal} : (lenB ps 2 5 && allN (pinS ps) ps.length) = pinsB ps := by
  have e : namesB (ps.map qal.Name) = allN (fun j => nameB (gt ps j).Name && allN (neB (ps.map qal.Name) j) j) ps.length := by
    unfold namesB
    rw [List.length_map]
    exact qfM (fun j hj => by rw [qhd hj])
  unfold pinsB
  rw [e, ← Bool.and_assoc, Bool.and_comm (allN (pinB ps) ps.length), Bool.and_assoc, ← qit]
  congr 1
  refine qfM (fun j hj => ?_)
  unfold pinS pinB
  cases hd : decide (j + 1 = ps.length)
  · simp only [cond_false]
    cases allN (neB (ps.map qal.Name) j) j <;> cases nameB (gt ps j).Name <;> cases inI (gt ps j).Cap 0 500 <;> cases ((gt ps j).Dir == 1) <;> rfl
  · simp only [cond_true]
    cases hcap : ((gt ps j).Cap == 0)
    · simp
    · have : inI (gt ps j).Cap 0 500 = true := by rw [beq_iff_eq] at hcap; rw [hcap]; rfl
      rw [this]
      cases allN (neB (ps.map qal.Name) j) j <;> cases nameB (gt ps j).Name <;> cases ((gt ps j).Dir == 2) <;> cases (gt ps j).Clock <;> rfl

theorem qno {c : qA} (h : okL qiK c.Pins) : Ev (fun n => qgm n c) (bif pinsB c.Pins then (((clkN c.Pins c.Pins.length : Nat) : Int), true) else (0, false)) := by
  have hl := h.len
  have hL2 : ∀ j, j < c.Pins.length → Ev (fun n => qcF c (j : Int) (gt c.Pins j) n 0) (bif allN (neB (c.Pins.map qal.Name) j) j then .nxt (j : Int) else .ret (0, false)) := by
    intro j hj
    refine qex ?_ (fun i hi X hX => Ev.succ ?_)
    · exact Ev.succ (by simp only [qcF, qr (Nat.le_refl _), cond_false]; exact .done)
    · simp only [qcF, qq hi, cond_true, qak (show i < c.Pins.length by omega), Option.bind_some, qfu, qm (show i < 9223372036854775807 by omega)]
      unfold neB
      rw [qhd (g := qal.Name) (show i < c.Pins.length by omega), qhd (g := qal.Name) hj]
      exact Ev.chkP1 (fun _ => hX)
  have hL1 : Ev (fun n => qbJ c n 0 0) (bif allN (pinS c.Pins) c.Pins.length then .nxt (((clkN c.Pins c.Pins.length : Nat) : Int), (c.Pins.length : Int)) else .ret (0, false)) := by
    refine loopN (Lf := qbJ c) (S := fun j => ((clkN c.Pins j : Nat) : Int)) (pinS c.Pins) (fun n => ?_) (fun j hj hp X hX => ?_)
    · simp only [qbJ, qr (Nat.le_refl _), cond_false]
    · have hn : clkN c.Pins j ≤ j := qdV
      have ejl : ((j : Int) == W64 ((c.Pins.length : Int) - 1)) = decide (j + 1 = c.Pins.length) := lastE hj hl
      have elt : decide ((j : Int) < W64 ((c.Pins.length : Int) - 1)) = !decide (j + 1 = c.Pins.length) := by
        rw [qd9 (by omega) (by omega), Bool.eq_iff_iff]; simp; omega
      simp only [qbJ, qq hj, cond_true, qak hj, Option.bind_some, qm (show j < 9223372036854775807 by omega), qm (show clkN c.Pins j < 9223372036854775807 by omega), ejl, elt, qeC]
      unfold pinS
      refine Ev.bind (hL2 j hj) ?_
      cases ha : allN (neB (c.Pins.map qal.Name) j) j
      · exact .done
      · simp only [cond_true, Bool.true_and]
        refine Ev.chkT ?_ (fun h1 => ?_)
        · exact Ev.or (qjf (qiA h hj).Name) (fun _ => .done)
        · refine Ev.chkT1 ?_ (fun h2 => ?_)
          · cases decide (j + 1 = c.Pins.length)
            · exact .done
            · simp only [cond_true, Bool.not_true, cond_false, bne, qcr]
              cases ((gt c.Pins j).Dir == 2) <;> cases ((gt c.Pins j).Cap == 0) <;> cases (gt c.Pins j).Clock <;> exact .done
          · have hX := hX (by unfold pinS; rw [ha, h1, h2]; rfl)
            have hck : clkN c.Pins (j + 1) = clkN c.Pins j + (bif (gt c.Pins j).Clock then 1 else 0) := rfl
            rw [hck] at hX
            cases hc : (gt c.Pins j).Clock
            · rw [hc] at hX; exact Ev.ff rfl hX
            · rw [hc] at hX; exact Ev.tt rfl hX
  rw [← qpW]
  unfold qgm
  refine Ev.guard ?_ (fun h1 => ?_)
  · unfold lenB
    have e1 : decide ((c.Pins.length : Int) < 2) = !decide (2 ≤ c.Pins.length) := by rw [Bool.eq_iff_iff]; simp; omega
    have e2 : decide ((c.Pins.length : Int) > 5) = !decide (c.Pins.length ≤ 5) := by rw [Bool.eq_iff_iff]; simp; omega
    rw [e1, e2]
    cases decide (2 ≤ c.Pins.length) <;> cases decide (c.Pins.length ≤ 5) <;> exact .done
  · refine Ev.bind hL1 ?_
    cases allN (pinS c.Pins) c.Pins.length <;> exact .done

/-! ### Lists of tables -/

def mnL (xs : List Int) : Int := (xs.drop 1).foldl (fun m y => if y < m then y else m) (at0 xs 0)
def mxL (xs : List Int) : Int := (xs.drop 1).foldl (fun m y => if y > m then y else m) (at0 xs 0)

theorem qkS {t : qE} (h : tableB t = true) : 1 ≤ t.Values.length := by
  unfold tableB axisB lenB at h
  simp only [Bool.and_eq_true, decide_eq_true_eq] at h
  obtain ⟨⟨⟨h1, _⟩, _⟩, ⟨⟨h2, _⟩, _⟩, h3, _⟩ := h
  rw [h3]
  exact Nat.mul_pos h1 h2

theorem qpN {xs : List Int} (h1 : 1 ≤ xs.length) (hl : xs.length ≤ 1048576) : Ev (fun n => qek n xs) (mnL xs) := by
  have hL := (qlK (Lf := fun n t j => qbt xs n t j) (xs := xs) (step := fun (m y : Int) => if y < m then y else m) (fin := fun t => (t, (xs.length : Int))) 1 (at0 xs 0) (fun _ _ => True) h1 trivial (fun _ _ _ _ => trivial)
    (fun n t => by simp only [qbt, qr (Nat.le_refl _), cond_false])
    (fun j t hj _ X hX => by simpa only [qbt, qq hj, cond_true, qfI hj, Option.bind_some, qm (show j < 9223372036854775807 by omega)] using hX)).1
  unfold qek
  rw [show decide ((xs.length : Int) < 1) = false by simp; omega, show idx xs (0 : Int) = some (at0 xs 0) from qdf (j := 0) (by omega)]
  simp only [cond_false, Option.bind_some]
  exact Ev.bind hL .done

theorem qnb {t : qE} (h : qgo t) : Ev (fun n => qed n t) (bif tableB t then (⟨mnL t.Values, mxL t.Values⟩, 0) else (⟨0, 0⟩, 1)) := by
  unfold qed
  refine Ev.chk1 (qmK h) (fun hb => ?_)
  have h1 := qkS hb
  have hl := h.Values.len
  have hL := (qlK (Lf := fun n (t' : Int × Int) j => qbu t n t'.1 t'.2 j) (xs := t.Values) (step := fun (m : Int × Int) y => (if y < m.1 then y else m.1, if y > m.2 then y else m.2)) (fin := fun t' => (t'.1, t'.2, (t.Values.length : Int))) 1 (at0 t.Values 0, at0 t.Values 0) (fun _ _ => True) h1 trivial (fun _ _ _ _ => trivial)
    (fun n t => by simp only [qbu, qr (Nat.le_refl _), cond_false])
    (fun j t hj _ X hX => by simpa only [qbu, qq hj, cond_true, qfI hj, Option.bind_some, qm (show j < 9223372036854775807 by omega)] using hX)).1
  have hf : ∀ (ys : List Int) (a b : Int), ys.foldl (fun (m : Int × Int) y => (if y < m.1 then y else m.1, if y > m.2 then y else m.2)) (a, b) = (ys.foldl (fun m y => if y < m then y else m) a, ys.foldl (fun m y => if y > m then y else m) b) := by
    intro ys
    induction ys with
    | nil => intro a b; rfl
    | cons y ys ih => intro a b; simp only [List.foldl_cons, ih]
  rw [hf] at hL
  rw [show idx t.Values (0 : Int) = some (at0 t.Values 0) from qdf (j := 0) (by omega)]
  simp only [Option.bind_some]
  exact Ev.bind hL .done

def tabB (pos : Bool) (t : qE) : Bool := tableB t && (!pos || decide (0 ≤ mnL t.Values))
def tablesB (ts : List qE) (pos : Bool) : Bool := decide (ts.length = 2) && ts.all (tabB pos)

theorem qif {ts : List qE} {pos : Bool} (h : okL qgo ts) : Ev (fun n => qdB n ts pos) (tablesB ts pos) := by
  have hl := h.len
  have h1 : Ev (fun n => qad n ts pos) (ixL (fun x => !tabB pos x) ts) :=
    qeD (fin := (ts.length : Int)) (Lf := qK ts pos) (pf := fun n x => qef n x pos) (fun x hx => by
        unfold qef tabB
        refine Ev.or (qnl (h.2 x hx)) (fun hb => ?_)
        cases pos
        · exact .done
        · refine Ev.tt rfl (Ev.bind (qpN (qkS hb) (h.2 x hx).Values.len) (Ev.now ?_))
          congr 1
          rw [Bool.eq_iff_iff]; simp)
      (fun n => by simp only [qK, qr (Nat.le_refl _), cond_false])
      (fun n j x hx => by
        have hj := (List.getElem?_eq_some_iff.1 hx).1
        simp only [qK, qq hj, cond_true, qaQ hx, Option.bind_some, qm (show j < 9223372036854775807 by omega)])
      (fun n => by unfold qad; congr 1; funext o; cases o <;> rfl)
  unfold qdB qaq tablesB
  rw [show ((ts.length : Int) == 2) = decide (ts.length = 2) by rw [Bool.eq_iff_iff]; simp; omega]
  refine Ev.andP (fun _ => Ev.bind (Ev.bind h1 (Ev.now rfl)) (Ev.now ?_))
  rw [qiI, qkJ]

theorem qgn {ts : List qE} {pos : Bool} (h : okL qgo ts) : Ev (fun n => qcy n ts pos) (tablesB ts pos) := by
  unfold qcy tablesB
  rw [show ((ts.length : Int) != 2) = !decide (ts.length = 2) by rw [Bool.eq_iff_iff]; simp; omega]
  simp only [qcr]
  refine Ev.andP (fun h2 => ?_)
  have h2 : ts.length = 2 := by simpa using h2
  have hL : Ev (fun n => qbD ts pos n 0) (bif allN (fun j => tabB pos (gt ts j)) ts.length then .nxt (2 : Int) else .ret false) := by
    refine qex (len := ts.length) ?_ (fun j hj X hX => Ev.succ ?_)
    · rw [h2]; exact Ev.succ (by simp only [qbD]; exact .done)
    · simp only [qbD, show decide ((j : Int) < 2) = true by simp; omega, cond_true, qak hj, Option.bind_some, qm (show j < 9223372036854775807 by omega)]
      refine Ev.bind (qnb (qiA h hj)) ?_
      unfold tabB
      cases tableB (gt ts j)
      · exact .done
      · simp only [cond_true, Bool.true_and]
        refine Ev.ff rfl ?_
        cases pos
        · exact hX
        · refine Ev.tt rfl ?_
          rw [show decide (mnL (gt ts j).Values < 0) = !decide (0 ≤ mnL (gt ts j).Values) by rw [Bool.eq_iff_iff]; simp]
          simp only [qcr]
          exact Ev.okP1 (fun _ => hX)
  rw [qg2]
  refine Ev.bind hL ?_
  cases allN (fun j => tabB pos (gt ts j)) ts.length <;> exact .done
end Go.Fw


namespace Go.Fw
open Go
set_option maxRecDepth 100000

theorem qe5 {α : Type} [Inhabited α] {xs : List α} {x : Int} (h0 : 0 ≤ x) (h1 : x < xs.length) : idx xs x = some (gt xs x.toNat) := by
  have := qak (xs := xs) (j := x.toNat) (by omega)
  rwa [← qlo h0] at this
theorem ql4 {q : Nat → Bool} {m n : Nat} (h : m ≤ n) : cntP q m ≤ cntP q n := by
  induction n with
  | zero => obtain rfl : m = 0 := by omega
            exact Nat.le_refl _
  | succ n ih =>
    rcases Nat.lt_or_eq_of_le h with h | rfl
    · exact Nat.le_trans (ih (by omega)) (Nat.le_add_right _ _)
    · exact Nat.le_refl _
theorem qiX {m k : Nat} : decide ((m : Int) ≤ (k : Int)) = decide (m ≤ k) := by rw [Bool.eq_iff_iff]; simp
theorem qmY {q : Nat → Bool} {n i j : Nat} (hi : i < j) (hj : j < n) (h1 : q i = true) (h2 : q j = true) : 2 ≤ cntP q n := by
  have e1 : cntP q (i + 1) = cntP q i + 1 := by rw [cntP, h1]; rfl
  have e2 : cntP q (j + 1) = cntP q j + 1 := by rw [cntP, h2]; rfl
  have m1 := ql4 (q := q) (show i + 1 ≤ j by omega)
  have m2 := ql4 (q := q) (show j + 1 ≤ n by omega)
  omega
theorem qm2 {q : Nat → Bool} {n i j : Nat} (hn : cntP q n ≤ 1) (hi : i < n) (hj : j < n) (h1 : q i = true) (h2 : q j = true) : i = j := by
  rcases Nat.lt_trichotomy i j with h | h | h
  · have := qmY h hj h1 h2; omega
  · exact h
  · have := qmY h hi h2 h1; omega

/-! ### Arcs -/

def clkIx (ps : List qal) : Int := ixL (fun p => p.Clock) ps
def clkAt (ps : List qal) (x : Int) : Bool := (gt ps x.toNat).Clock

theorem qo7 {c : qA} (hl : c.Pins.length ≤ 1048576) : Ev (fun n => qeH n c) (clkIx c.Pins) := by
  unfold qeH
  refine Ev.bind (b := clkIx c.Pins) ?_ .done
  exact qeD (fin := (c.Pins.length : Int)) (Lf := qL c.Pins) (pf := fun n x => qeQ n x) (fun _ _ => .done)
    (fun n => by simp only [qL, qr (Nat.le_refl _), cond_false])
    (fun n j x hx => by
      have hj := (List.getElem?_eq_some_iff.1 hx).1
      simp only [qL, qq hj, cond_true, qaQ hx, Option.bind_some, qm (show j < 9223372036854775807 by omega)])
    (fun n => by unfold qaG; congr 1; funext o; cases o <;> rfl)

def arcI (ps : List qal) (a : qX) : Bool :=
  bif (a.Kind == 4) || (a.Kind == 5) then
    (a.Sense == 0) && (((a.Slew.length : Int) == 0) && (tablesB a.Delay false && ((a.From == clkIx ps) && (decide (a.From ≥ 0) && (inI a.To 0 (ps.length - 2) && !(a.To == a.From))))))
  else
    (tablesB a.Delay true && (tablesB a.Slew true && ((a.To == (ps.length : Int) - 1) && inI a.From 0 (ps.length - 2)))) &&
      (bif a.Kind == 1 then !clkAt ps a.From && inI a.Sense 1 3 else (bif (a.Kind == 2) || (a.Kind == 3) then clkAt ps a.From && (a.Sense == 0) else false))

def arcS (ps : List qal) (a : qX) : Bool :=
  (inI a.From 0 (ps.length - 2) && inI a.To 0 (ps.length - 1)) &&
    (bif a.Kind == 1 then !clkAt ps a.From && ((a.To == (ps.length : Int) - 1) && (inI a.Sense 1 3 && (tablesB a.Delay true && tablesB a.Slew true)))
     else (bif (a.Kind == 2) || (a.Kind == 3) then clkAt ps a.From && ((a.To == (ps.length : Int) - 1) && ((a.Sense == 0) && (tablesB a.Delay true && tablesB a.Slew true)))
     else (bif (a.Kind == 4) || (a.Kind == 5) then clkAt ps a.From && (decide (a.To < (ps.length : Int) - 1) && (!clkAt ps a.To && ((a.Sense == 0) && (tablesB a.Delay false && ((a.Slew.length : Int) == 0))))) else false)))

theorem qkb {c d : Bool} : (bif c then some c else some d) = some (c || d) := by cases c <;> rfl
theorem qmM {c d : Bool} : (bif c then some true else some d) = some (c || d) := by cases c <;> rfl

theorem qnq {n : Nat} {k : Int} : qf9 n k = some ((k == 4) || (k == 5)) := by simp only [qf9, qmM]
theorem qpk {c : qA} {a : qX} (h : okL qiK c.Pins) (ha : qjh a) (hm : 2 ≤ c.Pins.length) : Ev (fun n => qeG n c a) (arcI c.Pins a) := by
  have hl := h.len
  have e1 : W64 ((c.Pins.length : Int) - 1) = (c.Pins.length : Int) - 1 := qdC (by omega)
  have e2 : W64 ((c.Pins.length : Int) - 1 - 1) = (c.Pins.length : Int) - 2 := by rw [qd9 (by omega) (by omega)]; omega
  simp only [qeG, qnq, Option.bind_some, qdR, qbR, qbi, e1, e2, qeb, qkb, bne]
  unfold arcI
  refine Ev.iff (fun _ => Ev.last ?_) (fun _ => Ev.guardB ?_ (fun hb => ?_))
  · exact Ev.andP fun _ => Ev.andP fun _ => Ev.and (qif ha.Delay) fun _ => Ev.bind (qo7 hl) (Ev.andP fun _ => Ev.andP fun _ => Ev.andP fun _ => .done)
  · refine Ev.or (qif ha.Delay) fun _ => Ev.or (qif ha.Slew) fun _ => ?_
    simp only [qcr]
    exact Ev.orBP fun _ => .done
  · have hf : 0 ≤ a.From ∧ a.From ≤ (c.Pins.length : Int) - 2 := by
      simp only [Bool.and_eq_true, qcY] at hb
      exact hb.2.2.2
    simp only [qe5 hf.1 (show a.From < (c.Pins.length : Int) by omega), Option.bind_some]
    exact Ev.iff (fun _ => Ev.andP fun _ => .done) (fun _ => Ev.iff (fun _ => Ev.andP fun _ => .done) (fun _ => .done))

theorem qoe {c : qA} {a : qX} (h : okL qiK c.Pins) (ha : qjh a) (hm : 2 ≤ c.Pins.length) : Ev (fun n => qgL n c a) (arcS c.Pins a) := by
  have hl := h.len
  have e1 : W64 ((c.Pins.length : Int) - 1) = (c.Pins.length : Int) - 1 := qdC (by omega)
  have e2 : W64 ((c.Pins.length : Int) - 1 - 1) = (c.Pins.length : Int) - 2 := by rw [qd9 (by omega) (by omega)]; omega
  simp only [qgL, Option.bind_some, e1, e2, qeC, qkb]
  unfold arcS
  refine Ev.guardB ?_ (fun hb => ?_)
  · simp only [qcr]
    exact Ev.orBP fun _ => .done
  · have hf : (0 ≤ a.From ∧ a.From ≤ (c.Pins.length : Int) - 2) ∧ (0 ≤ a.To ∧ a.To ≤ (c.Pins.length : Int) - 1) := by
      simp only [Bool.and_eq_true, qcY] at hb
      exact hb
    simp only [qe5 hf.1.1 (show a.From < (c.Pins.length : Int) by omega), qe5 hf.2.1 (show a.To < (c.Pins.length : Int) by omega), Option.bind_some]
    refine Ev.iff (fun _ => ?_) (fun _ => Ev.iff (fun _ => ?_) (fun _ => Ev.iff (fun _ => ?_) (fun _ => .done)))
    · exact Ev.andP fun _ => Ev.andP fun _ => Ev.andP fun _ => Ev.and (qgn ha.Delay) fun _ => Ev.last (qgn ha.Slew)
    · exact Ev.andP fun _ => Ev.andP fun _ => Ev.andP fun _ => Ev.and (qgn ha.Delay) fun _ => Ev.last (qgn ha.Slew)
    · exact Ev.andP fun _ => Ev.andP fun _ => Ev.andP fun _ => Ev.andP fun _ => Ev.and (qgn ha.Delay) fun _ => .done

/-- The place of the clock, where there is one at most. -/
theorem qj2 {ps : List qal} (h1 : clkN ps ps.length ≤ 1) {x : Int} (hx : 0 ≤ x) : clkIx ps = x ↔ x < ps.length ∧ clkAt ps x = true := by
  unfold clkIx ixL
  cases hf : ps.findIdx? (fun p => p.Clock) with
  | some j =>
    obtain ⟨hj, hp, _⟩ := List.findIdx?_eq_some_iff_getElem.1 hf
    have hpj : (gt ps j).Clock = true := by rw [qhY hj]; exact hp
    constructor
    · intro e
      have e : (j : Int) = x := e
      subst e
      exact ⟨by omega, by unfold clkAt; rw [Int.toNat_natCast]; exact hpj⟩
    · rintro ⟨hl, hc⟩
      have := qm2 h1 hj (show x.toNat < ps.length by omega) hpj hc
      show (j : Int) = x
      omega
  | none =>
    have hn := List.findIdx?_eq_none_iff.1 hf
    constructor
    · intro e
      have e : (-1 : Int) = x := e
      omega
    · rintro ⟨hl, hc⟩
      have hxl : x.toNat < ps.length := by omega
      unfold clkAt at hc
      rw [qhY hxl] at hc
      have := hn _ (List.getElem_mem hxl)
      rw [hc] at this
      exact absurd this (by decide)

theorem qhl {ps : List qal} (h : pinsB ps = true) : (2 ≤ ps.length ∧ ps.length ≤ 5) ∧ clkAt ps ((ps.length : Int) - 1) = false := by
  unfold pinsB lenB at h
  simp only [Bool.and_eq_true, decide_eq_true_eq] at h
  refine ⟨h.2.1, ?_⟩
  have h1 := qa8.1 h.1 (ps.length - 1) (by omega)
  unfold pinB at h1
  rw [show decide (ps.length - 1 + 1 = ps.length) = true by simp; omega] at h1
  simp only [cond_true, Bool.and_eq_true, Bool.not_eq_true'] at h1
  unfold clkAt
  rw [show ((ps.length : Int) - 1).toNat = ps.length - 1 by omega]
  exact h1.2.2

theorem qo8 {ps : List qal} {a : qX} (h : pinsB ps = true) (h1 : clkN ps ps.length ≤ 1) : arcI ps a = arcS ps a := by
  obtain ⟨⟨hm, hm5⟩, hlast⟩ := qhl h
  rw [Bool.eq_iff_iff]
  unfold arcI arcS
  cases h45 : ((a.Kind == 4) || (a.Kind == 5)) with
  | true =>
    have k1 : (a.Kind == 1) = false := by simp at h45 ⊢; omega
    have k23 : ((a.Kind == 2) || (a.Kind == 3)) = false := by simp at h45 ⊢; omega
    rw [k1, k23]
    simp only [cond_true, cond_false, Bool.and_eq_true, qcY, decide_eq_true_eq, beq_iff_eq, Bool.not_eq_true', beq_eq_false_iff_ne, ne_eq]
    constructor
    · rintro ⟨hs, hsl, hd, hf, hf0, ht, hne⟩
      obtain ⟨hl, hc⟩ := (qj2 h1 hf0).1 hf.symm
      have hfl : a.From ≠ (ps.length : Int) - 1 := by intro e; rw [e, hlast] at hc; cases hc
      refine ⟨⟨⟨hf0, by omega⟩, ⟨ht.1, by omega⟩⟩, hc, by omega, ?_, hs, hd, hsl⟩
      cases hct : clkAt ps a.To with
      | false => rfl
      | true =>
        have := (qj2 h1 ht.1).2 ⟨by omega, hct⟩
        omega
    · rintro ⟨⟨hf, ht⟩, hc, hlt, hct, hs, hd, hsl⟩
      have := (qj2 h1 hf.1).2 ⟨by omega, hc⟩
      refine ⟨hs, hsl, hd, this.symm, hf.1, ⟨ht.1, by omega⟩, ?_⟩
      intro e
      rw [e, hc] at hct
      cases hct
  | false =>
    simp only [cond_false, Bool.and_eq_true, qcY, beq_iff_eq]
    cases (a.Kind == 1)
    · cases ((a.Kind == 2) || (a.Kind == 3))
      · simp
      · simp only [cond_true, cond_false, Bool.and_eq_true, beq_iff_eq]
        constructor
        · rintro ⟨⟨h1, h2, h3, h4⟩, h5, h6⟩
          exact ⟨⟨h4, by omega⟩, h5, h3, h6, h1, h2⟩
        · rintro ⟨⟨h4, h7⟩, h5, h3, h6, h1, h2⟩
          exact ⟨⟨h1, h2, h3, h4⟩, h5, h6⟩
    · simp only [cond_true, Bool.and_eq_true, qcY, Bool.not_eq_true', beq_iff_eq]
      constructor
      · rintro ⟨⟨h1, h2, h3, h4⟩, h5, h6⟩
        exact ⟨⟨h4, by omega⟩, h5, h3, h6, h1, h2⟩
      · rintro ⟨⟨h4, h7⟩, h5, h3, h6, h1, h2⟩
        exact ⟨⟨h1, h2, h3, h4⟩, h5, h6⟩

theorem qlV {ps : List qal} {a : qX} (h : arcS ps a = true) : 1 ≤ a.Kind ∧ a.Kind ≤ 5 := by
  unfold arcS at h
  rw [Bool.and_eq_true] at h
  have h := h.2
  cases h1 : (a.Kind == 1)
  · cases h2 : ((a.Kind == 2) || (a.Kind == 3))
    · cases h4 : ((a.Kind == 4) || (a.Kind == 5))
      · rw [h1, h2, h4] at h; cases h
      · simp at h4; omega
    · simp at h2; omega
  · simp at h1; omega

def sameArc (x y : qX) : Bool := (x.Kind == y.Kind) && ((x.From == y.From) && (x.To == y.To))
def newArc (ar : List qX) (j : Nat) : Bool := allN (fun i => !sameArc (gt ar i) (gt ar j)) j

theorem qnp {c : qA} (h : okL qiK c.Pins) (ha : okL qjh c.Arcs) (hm : 2 ≤ c.Pins.length) : Ev (fun n => qd3 n c) (allN (fun j => arcI c.Pins (gt c.Arcs j) && newArc c.Arcs j) c.Arcs.length && decide (c.Arcs.length ≤ 8)) := by
  have hl := ha.len
  have h1 : ∀ (ar : List qX) (y : qX), ar.length ≤ 1048576 → Ev (fun n => qZ n ar y) (ar.any fun x => sameArc x y) := by
    intro ar y hl
    unfold qZ
    refine Ev.bind (b := ixL (fun x => sameArc x y) ar) (qeD (fin := (ar.length : Int)) (Lf := qJ ar y) (pf := fun n x => qdo n x y) (fun x _ => ?_)
      (fun n => by simp only [qJ, qr (Nat.le_refl _), cond_false])
      (fun n j x hx => by
        have hj := (List.getElem?_eq_some_iff.1 hx).1
        simp only [qJ, qq hj, cond_true, qaQ hx, Option.bind_some, qm (show j < 9223372036854775807 by omega)])
      (fun n => by unfold qaA; congr 1; funext o; cases o <;> rfl)) (Ev.now (by rw [qiI]))
    unfold qdo sameArc
    exact Ev.andP fun _ => Ev.andP fun _ => .done
  have hL : Ev (fun n => qbh c n 0) (bif allN (fun j => arcI c.Pins (gt c.Arcs j) && newArc c.Arcs j) c.Arcs.length then .nxt (c.Arcs.length : Int) else .ret false) := by
    refine qex ?_ (fun j hj X hX => Ev.succ ?_)
    · exact Ev.succ (by simp only [qbh, qr (Nat.le_refl _), cond_false]; exact .done)
    · simp only [qbh, qq hj, cond_true, qak hj, Option.bind_some, qnU (Nat.le_of_lt hj), qm (show j < 9223372036854775807 by omega)]
      refine Ev.chk (qpk h (qiA ha hj) hm) fun _ => Ev.chkT1 ?_ (fun _ => hX)
      refine (h1 _ _ (by simp; omega)).cast ?_
      rw [qoI (Nat.le_of_lt hj)]; rfl
  unfold qd3
  refine Ev.bind hL ?_
  cases allN (fun j => arcI c.Pins (gt c.Arcs j) && newArc c.Arcs j) c.Arcs.length
  · exact .done
  · refine Ev.now ?_
    show some (decide ((c.Arcs.length : Int) ≤ ((8 : Nat) : Int))) = some (true && decide (c.Arcs.length ≤ 8))
    rw [qiX, Bool.true_and]

def hasB (ar : List qX) (k : Int) : Bool := ar.any fun a => a.Kind == k
theorem qj1 {c : qA} {k : Int} (hl : c.Arcs.length ≤ 1048576) : Ev (fun n => qcn n c k) (hasB c.Arcs k) := by
  unfold qcn qaB
  exact Ev.last (Ev.bind (b := ixL (fun x => x.Kind == k) c.Arcs) (qeD (fin := (c.Arcs.length : Int)) (Lf := qM c.Arcs k) (pf := fun n x => qfF n x k) (fun x _ => .done)
      (fun n => by simp only [qM, qr (Nat.le_refl _), cond_false])
      (fun n j x hx => by
        have hj := (List.getElem?_eq_some_iff.1 hx).1
        simp only [qM, qq hj, cond_true, qaQ hx, Option.bind_some, qm (show j < 9223372036854775807 by omega)])
      (fun n => by unfold qaR; congr 1; funext o; cases o <;> rfl)) (Ev.now (by rw [qiI]; rfl)))

def kindN (ar : List qX) (k : Nat) (j : Nat) : Nat := cntP (fun i => (gt ar i).Kind == (k : Int)) j
theorem qlT {ar : List qX} {k : Nat} : decide (((kindN ar k ar.length : Nat) : Int) > 0) = hasB ar k := by
  rw [show decide (((kindN ar k ar.length : Nat) : Int) > 0) = decide (0 < kindN ar k ar.length) by simp]
  unfold kindN hasB
  rw [qmD, qoW]
theorem qnJ {ar : List qX} {k : Nat} : (((kindN ar k ar.length : Nat) : Int) == 0) = !hasB ar k := by
  rw [← qlT, Bool.eq_iff_iff]; simp

theorem qmW {c : qA} (ha : okL qjh c.Arcs) (hk : ∀ j, j < c.Arcs.length → 1 ≤ (gt c.Arcs j).Kind ∧ (gt c.Arcs j).Kind ≤ 5) : Ev (fun n => qfD n c) (vecC (fun k => kindN c.Arcs k c.Arcs.length) 6) := by
  have hl := ha.len
  have hL : Ev (fun n => qbN c n (vecC (fun _ => 0) 6) 0) (vecC (fun k => kindN c.Arcs k c.Arcs.length) 6, (c.Arcs.length : Int)) := by
    refine loopF (Lf := qbN c) (S := fun j => vecC (fun k => kindN c.Arcs k j) 6) (len := c.Arcs.length) (fun n => ?_) (fun j hj X hX => ?_)
    · simp only [qbN, qr (Nat.le_refl _), cond_false]
    · obtain ⟨k1, k5⟩ := hk j hj
      have ek : (gt c.Arcs j).Kind = (((gt c.Arcs j).Kind.toNat : Nat) : Int) := qlo (by omega)
      have hc : kindN c.Arcs (gt c.Arcs j).Kind.toNat j ≤ j := qdV
      simp only [qbN, qq hj, cond_true, qak hj, Option.bind_some, qm (show j < 9223372036854775807 by omega)]
      rw [ek, qhm (show (gt c.Arcs j).Kind.toNat < 6 by omega)]
      simp only [Option.bind_some]
      rw [qlP (c := fun k => kindN c.Arcs k j) (by show kindN c.Arcs _ j < _; omega)]
      have : vecC (fun i => kindN c.Arcs i j + (bif decide ((gt c.Arcs j).Kind.toNat = i) then 1 else 0)) 6 = vecC (fun k => kindN c.Arcs k (j + 1)) 6 := by
        refine qhp (fun k _ => ?_)
        show _ = kindN c.Arcs k j + (bif (gt c.Arcs j).Kind == (k : Int) then 1 else 0)
        congr 2
        rw [Bool.eq_iff_iff]; simp; omega
      rw [this]
      exact hX
  unfold qfD
  rw [show mkS 6 (0 : Int) = some (vecC (fun _ => 0) 6) from qiZ (m := 6) (by omega)]
  simp only [Option.bind_some]
  exact Ev.bind hL .done

/-! ### Cells -/

def kindB (c : qA) : Bool :=
  bif c.Kind == 1 then (((clkN c.Pins c.Pins.length : Nat) : Int) == 0) && (((c.Truth.length : Int) == ((2 ^ (c.Pins.length - 1) : Nat) : Int)) && (c.Truth.all fun x => inI x 0 1))
  else bif c.Kind == 2 then (((clkN c.Pins c.Pins.length : Nat) : Int) == 1) && (((c.Truth.length : Int) == 0) && (!hasB c.Arcs 1 && !(hasB c.Arcs 2 == hasB c.Arcs 3)))
  else bif c.Kind == 3 then (((clkN c.Pins c.Pins.length : Nat) : Int) == 1) && (((c.Truth.length : Int) == 0) && (hasB c.Arcs 1 && (hasB c.Arcs 2 && !hasB c.Arcs 3)))
  else false

theorem ql7 {c : qA} (h : kindB c = true) : clkN c.Pins c.Pins.length ≤ 1 := by
  unfold kindB at h
  cases h1 : (c.Kind == 1)
  · cases h2 : (c.Kind == 2)
    · cases h3 : (c.Kind == 3)
      · rw [h1, h2, h3] at h; cases h
      · rw [h1, h2, h3] at h
        simp only [cond_true, cond_false, Bool.and_eq_true, beq_iff_eq] at h
        omega
    · rw [h1, h2] at h
      simp only [cond_true, cond_false, Bool.and_eq_true, beq_iff_eq] at h
      omega
  · rw [h1] at h
    simp only [cond_true, Bool.and_eq_true, beq_iff_eq] at h
    omega

theorem qm1 {m : Nat} (h1 : 2 ≤ m) (h2 : m ≤ 5) : shlS 1 (W64 ((m : Int) - 1)) = some ((2 ^ (m - 1) : Nat) : Int) ∧ shlS 1 (IntKind.wrap .u64 (W64 ((m : Int) - 1))) = some ((2 ^ (m - 1) : Nat) : Int) := by
  have : m = 2 ∨ m = 3 ∨ m = 4 ∨ m = 5 := by omega
  rcases this with rfl | rfl | rfl | rfl <;> exact ⟨by decide, by decide⟩

theorem qmx {c : qA} (hc : qiU c) (hm : 2 ≤ c.Pins.length) (hm5 : c.Pins.length ≤ 5) : Ev (fun n => qdH n c) (kindB c) := by
  have hl := hc.Pins.len
  have hL : Ev (fun n => qaE c n 0 0) (((clkN c.Pins c.Pins.length : Nat) : Int), (c.Pins.length : Int)) := by
    refine loopF (Lf := qaE c) (S := fun j => ((clkN c.Pins j : Nat) : Int)) (len := c.Pins.length) (fun n => ?_) (fun j hj X hX => ?_)
    · simp only [qaE, qr (Nat.le_refl _), cond_false]
    · have hn : clkN c.Pins j ≤ j := qdV
      simp only [qaE, qq hj, cond_true, qak hj, Option.bind_some, qm (show j < 9223372036854775807 by omega), qm (show clkN c.Pins j < 9223372036854775807 by omega)]
      have hck : clkN c.Pins (j + 1) = clkN c.Pins j + (bif (gt c.Pins j).Clock then 1 else 0) := rfl
      rw [hck] at hX
      cases hc : (gt c.Pins j).Clock
      · rw [hc] at hX; exact Ev.ff rfl hX
      · rw [hc] at hX; exact Ev.tt rfl hX
  unfold qdH kindB
  refine Ev.bind hL ?_
  simp only [qbR, qbi, Option.bind_some, (qm1 hm hm5).1]
  have hal := hc.Arcs.len
  refine Ev.iff (fun _ => ?_) (fun _ => Ev.iff (fun _ => ?_) (fun _ => Ev.iff (fun _ => ?_) (fun _ => .done)))
  · exact Ev.andP fun _ => Ev.andP fun _ => Ev.last (qfl hc.Truth.len)
  · exact Ev.andP fun _ => Ev.andP fun _ => Ev.bind (qj1 hal) (Ev.andP fun _ => Ev.bind (qj1 hal) (Ev.bind (qj1 hal) .done))
  · exact Ev.andP fun _ => Ev.andP fun _ => Ev.and (qj1 hal) fun _ => Ev.and (qj1 hal) fun _ => Ev.bind (qj1 hal) .done

def cellB (c : qA) : Bool :=
  nameB c.Name && (pinsB c.Pins && ((allN (fun j => arcI c.Pins (gt c.Arcs j) && newArc c.Arcs j) c.Arcs.length && decide (c.Arcs.length ≤ 8)) && (inI c.Leak 0 100000 && (inI c.Energy 0 100000 && kindB c))))

theorem qnZ {c : qA} (hc : qiU c) : Ev (fun n => qgX n c) (cellB c) := by
  simp only [qgX, ql5 hc.Name, qeb, Option.bind_some]
  unfold cellB
  refine Ev.andP fun _ => Ev.and (qm9 hc.Pins) fun hp => ?_
  obtain ⟨⟨hm, hm5⟩, _⟩ := qhl hp
  exact Ev.and (qnp hc.Pins hc.Arcs hm) fun _ => Ev.andP fun _ => Ev.andP fun _ => Ev.last (qmx hc hm hm5)

theorem qnk {c : qA} (hc : qiU c) : Ev (fun n => qgQ n c) (cellB c) := by
  have hal := hc.Arcs.len
  have htl := hc.Truth.len
  have e : cellB c = ((pinsB c.Pins && (nameB c.Name && (decide (c.Arcs.length ≤ 8) && (inI c.Leak 0 100000 && inI c.Energy 0 100000)))) && (allN (fun j => arcS c.Pins (gt c.Arcs j) && newArc c.Arcs j) c.Arcs.length && kindB c)) := by
    unfold cellB
    cases hk : kindB c
    · simp
    · cases hp : pinsB c.Pins
      · simp
      · rw [qfM (fun j _ => by rw [qo8 hp (ql7 hk)])]
        cases nameB c.Name <;> cases allN (fun j => arcS c.Pins (gt c.Arcs j) && newArc c.Arcs j) c.Arcs.length <;> cases decide (c.Arcs.length ≤ 8) <;> cases inI c.Leak 0 100000 <;> cases inI c.Energy 0 100000 <;> rfl
  rw [e]
  unfold qgQ
  refine Ev.bind (qno hc.Pins) ?_
  cases hp : pinsB c.Pins
  · exact .done
  · obtain ⟨⟨hm, hm5⟩, _⟩ := qhl hp
    simp only [cond_true, Bool.true_and, Bool.not_true, cond_false]
    refine Ev.guardB ?_ (fun _ => ?_)
    · simp only [qeC, Option.bind_some, qcr]
      refine Ev.orB (qjf hc.Name) fun _ => ?_
      rw [show decide ((c.Arcs.length : Int) > 8) = !decide (c.Arcs.length ≤ 8) by rw [Bool.eq_iff_iff]; simp; omega, qcr]
      exact Ev.orBP fun _ => Ev.orBP fun _ => .done
    · have hL2 : ∀ j, j < c.Arcs.length → Ev (fun n => qb4 c (j : Int) (gt c.Arcs j) n 0) (bif newArc c.Arcs j then .nxt (j : Int) else .ret false) := by
        intro j hj
        refine qex ?_ (fun i hi X hX => Ev.succ ?_)
        · exact Ev.succ (by simp only [qb4, qr (Nat.le_refl _), cond_false]; exact .done)
        · simp only [qb4, qq hi, cond_true, qak (show i < c.Arcs.length by omega), Option.bind_some, qm (show i < 9223372036854775807 by omega)]
          unfold sameArc
          cases ((gt c.Arcs i).Kind == (gt c.Arcs j).Kind)
          · exact hX
          · cases ((gt c.Arcs i).From == (gt c.Arcs j).From)
            · exact hX
            · cases ((gt c.Arcs i).To == (gt c.Arcs j).To)
              · exact hX
              · exact .done
      have hL1 : Ev (fun n => qda c n 0) (bif allN (fun j => arcS c.Pins (gt c.Arcs j) && newArc c.Arcs j) c.Arcs.length then .nxt (c.Arcs.length : Int) else .ret false) := by
        refine qex ?_ (fun j hj X hX => Ev.succ ?_)
        · exact Ev.succ (by simp only [qda, qr (Nat.le_refl _), cond_false]; exact .done)
        · simp only [qda, qq hj, cond_true, qak hj, Option.bind_some, qm (show j < 9223372036854775807 by omega)]
          refine Ev.chk (qoe hc.Pins (qiA hc.Arcs hj) hm) fun _ => Ev.bind (hL2 j hj) ?_
          cases newArc c.Arcs j
          · exact .done
          · exact hX
      have hL3 : Ev (fun n => qc1 c n 0) (bif (c.Truth.all fun x => inI x 0 1) then .nxt (c.Truth.length : Int) else .ret false) :=
        qiN (fun n => by simp only [qc1, qr (Nat.le_refl _), cond_false]) (fun j hj X hX => by
          simp only [qc1, qq hj, cond_true, qfI hj, Option.bind_some, qeC, qm (show j < 9223372036854775807 by omega), qcr]
          exact Ev.okP1 fun _ => hX)
      refine Ev.bind hL1 ?_
      cases hA : allN (fun j => arcS c.Pins (gt c.Arcs j) && newArc c.Arcs j) c.Arcs.length
      · exact .done
      · have hk : ∀ j, j < c.Arcs.length → 1 ≤ (gt c.Arcs j).Kind ∧ (gt c.Arcs j).Kind ≤ 5 := fun j hj => by
          have := qa8.1 hA j hj
          rw [Bool.and_eq_true] at this
          exact qlV this.1
        simp only [cond_true, Bool.true_and]
        refine Ev.bind (qmW hc.Arcs hk) ?_
        simp only [(qm1 hm hm5).2, Option.bind_some,
          show idx (vecC (fun k => kindN c.Arcs k c.Arcs.length) 6) (1 : Int) = some ((kindN c.Arcs 1 c.Arcs.length : Nat) : Int) from qhm (k := 1) (by omega),
          show idx (vecC (fun k => kindN c.Arcs k c.Arcs.length) 6) (2 : Int) = some ((kindN c.Arcs 2 c.Arcs.length : Nat) : Int) from qhm (k := 2) (by omega),
          show idx (vecC (fun k => kindN c.Arcs k c.Arcs.length) 6) (3 : Int) = some ((kindN c.Arcs 3 c.Arcs.length : Nat) : Int) from qhm (k := 3) (by omega), qlT, qnJ]
        unfold kindB
        refine Ev.iff (fun _ => ?_) (fun _ => Ev.iff (fun _ => ?_) (fun _ => Ev.iff (fun _ => ?_) (fun _ => .done)))
        · refine Ev.bind hL3 ?_
          cases (c.Truth.all fun x => inI x 0 1)
          · exact Ev.now (by simp)
          · exact (Ev.andP (fun _ => .done)).cast (by rw [Bool.and_true])
        · refine (Ev.andP fun _ => Ev.andP fun _ => Ev.andP fun _ => .done).cast ?_
          cases (((clkN c.Pins c.Pins.length : Nat) : Int) == 1) <;> cases ((c.Truth.length : Int) == 0) <;> cases hasB c.Arcs ((1 : Nat) : Int) <;> cases hasB c.Arcs ((2 : Nat) : Int) <;> cases hasB c.Arcs ((3 : Nat) : Int) <;> rfl
        · refine (Ev.andP fun _ => Ev.andP fun _ => Ev.andP fun _ => Ev.andP fun _ => .done).cast ?_
          cases (((clkN c.Pins c.Pins.length : Nat) : Int) == 1) <;> cases ((c.Truth.length : Int) == 0) <;> cases hasB c.Arcs ((1 : Nat) : Int) <;> cases hasB c.Arcs ((2 : Nat) : Int) <;> cases hasB c.Arcs ((3 : Nat) : Int) <;> rfl

/-! ### Libraries -/

def libB (l : qn) : Bool := l.Cells.all cellB && (decide (l.Cells.length ≤ 8) && namesB (l.Cells.map qA.Name))

theorem qmm {l : qn} (h : qfJ l) : Ev (fun n => qe7 n l) (libB l) := by
  have hl := h.Cells.len
  have hL : Ev (fun n => qbC l n ([] : List ByteArray) 0) (bif allN (fun j => cellB (gt l.Cells j)) l.Cells.length then .nxt (l.Cells.map qA.Name, (l.Cells.length : Int)) else .ret false) := by
    refine loopN (Lf := qbC l) (S := fun j => (l.Cells.take j).map qA.Name) (fun j => cellB (gt l.Cells j)) (fun n => ?_) (fun j hj hp X hX => ?_)
    · simp only [qbC, qr (Nat.le_refl _), cond_false, List.take_length]
    · simp only [qbC, qq hj, cond_true, qak hj, Option.bind_some, qh1 hj hl, qfn (g := qA.Name) hj, qm (show j < 9223372036854775807 by omega)]
      exact Ev.chk1 (qnZ (qiA h.Cells hj)) hX
  unfold qe7 libB
  rw [qg2]
  refine Ev.bind hL ?_
  cases allN (fun j => cellB (gt l.Cells j)) l.Cells.length
  · exact .done
  · simp only [cond_true, Bool.true_and, show decide ((l.Cells.length : Int) ≤ 8) = decide (l.Cells.length ≤ 8) from qiX (k := 8)]
    exact Ev.andP fun _ => Ev.last (qgT (qiY h.Cells (fun x hx => hx.Name)))
end Go.Fw


namespace Go.Fw
open Go
set_option maxRecDepth 100000

theorem qnw {c : qA} (h : cellB c = true) : nameB c.Name = true := by
  unfold cellB at h; rw [Bool.and_eq_true] at h; exact h.1
theorem qkW {c : qA} (h : cellB c = true) : pinsB c.Pins = true := by
  unfold cellB at h; simp only [Bool.and_eq_true] at h; exact h.2.1

theorem qlC {l : qn} (h : qfJ l) : Ev (fun n => qe4 n l) (libB l) := by
  have hl := h.Cells.len
  have hL2 : ∀ j, j < l.Cells.length → Ev (fun n => qb0 l (j : Int) n 0) (bif allN (neB (l.Cells.map qA.Name) j) j then .nxt (j : Int) else .ret false) := by
    intro j hj
    refine qex ?_ (fun i hi X hX => Ev.succ ?_)
    · exact Ev.succ (by simp only [qb0, qr (Nat.le_refl _), cond_false]; exact .done)
    · simp only [qb0, qq hi, cond_true, qak (show i < l.Cells.length by omega), qak hj, Option.bind_some, qfu, qm (show i < 9223372036854775807 by omega)]
      unfold neB
      rw [qhd (g := qA.Name) (show i < l.Cells.length by omega), qhd (g := qA.Name) hj]
      exact Ev.chkP1 (fun _ => hX)
  have hL1 : Ev (fun n => qbZ l n 0) (bif allN (fun j => cellB (gt l.Cells j) && allN (neB (l.Cells.map qA.Name) j) j) l.Cells.length then .nxt (l.Cells.length : Int) else .ret false) := by
    refine qex ?_ (fun j hj X hX => Ev.succ ?_)
    · exact Ev.succ (by simp only [qbZ, qr (Nat.le_refl _), cond_false]; exact .done)
    · simp only [qbZ, qq hj, cond_true, qak hj, Option.bind_some, qm (show j < 9223372036854775807 by omega)]
      refine Ev.chk (qnk (qiA h.Cells hj)) fun _ => Ev.bind (hL2 j hj) ?_
      cases allN (neB (l.Cells.map qA.Name) j) j
      · exact .done
      · exact hX
  have e : libB l = (allN (fun j => cellB (gt l.Cells j) && allN (neB (l.Cells.map qA.Name) j) j) l.Cells.length && decide (l.Cells.length ≤ 8)) := by
    unfold libB namesB
    rw [qg2, List.length_map, Bool.and_comm (decide (l.Cells.length ≤ 8)), ← Bool.and_assoc, ← qit]
    congr 1
    refine qfM (fun j hj => ?_)
    rw [qhd (g := qA.Name) hj]
    cases hc : cellB (gt l.Cells j)
    · rfl
    · rw [qnw hc]; rfl
  rw [e]
  unfold qe4
  refine Ev.bind hL1 ?_
  cases allN (fun j => cellB (gt l.Cells j) && allN (neB (l.Cells.map qA.Name) j) j) l.Cells.length
  · exact .done
  · refine Ev.now ?_
    show some (decide ((l.Cells.length : Int) ≤ ((8 : Nat) : Int))) = some (true && decide (l.Cells.length ≤ 8))
    rw [qiX, Bool.true_and]

theorem qh6 {c c' : Nat → Nat} {m : Nat} {x : Int} (h0 : 0 ≤ x) (h1 : x < m) (hc : c x.toNat < 9223372036854775807) (he : ∀ k, k < m → c' k = c k + (bif x == (k : Int) then 1 else 0)) :
    idx (vecC c m) x = some (c x.toNat : Int) ∧ setS (vecC c m) x (W64 ((c x.toNat : Int) + 1)) = vecC c' m := by
  have ex : x = (x.toNat : Int) := qlo h0
  have e1 := qhm (c := c) (m := m) (k := x.toNat) (by omega)
  have e2 := qlP (c := c) (m := m) (k := x.toNat) hc
  rw [← ex] at e1 e2
  refine ⟨e1, e2.trans (qhp (fun k hk => ?_))⟩
  rw [he k hk]
  congr 2
  rw [Bool.eq_iff_iff]; simp; omega

/-! ### Parts of a design -/

def netB (d : qh) (x : Int) : Bool := inI x 0 ((d.Nets.length : Int) - 1)
theorem qmX {n : Nat} {d : qh} {x : Int} (hl : d.Nets.length ≤ 1048576) : qco n d x = some (netB d x) := by
  simp only [qco, qey, Option.bind_some, qeb, qdC (show d.Nets.length ≤ 9223372036854775807 by omega)]; rfl
theorem qlR {n : Nat} {d : qh} {x : Int} (hl : d.Nets.length ≤ 1048576) : qaN n x 0 (W64 ((d.Nets.length : Int) - 1)) = some (netB d x) := by
  rw [qeC, qdC (show d.Nets.length ≤ 9223372036854775807 by omega)]; rfl

def hasNamesB (d : qh) : Bool := (decide (d.Instances.length ≤ 14) && (decide (d.Nets.length ≤ 30) && decide (d.Ports.length ≤ 8))) && (namesB (d.Instances.map ql.Name) && (namesB d.Nets && namesB (d.Ports.map qae.Name)))

theorem qmI {d : qh} (h : qhf d) : Ev (fun n => qdb n d) (hasNamesB d) := by
  have hli := h.Instances.len
  have hlp := h.Ports.len
  have hL1 : Ev (fun n => qaC d n ([] : List ByteArray) 0) (d.Instances.map ql.Name, (d.Instances.length : Int)) := by
    refine loopF (Lf := qaC d) (S := fun j => (d.Instances.take j).map ql.Name) (len := d.Instances.length) (fun n => ?_) (fun j hj X hX => ?_)
    · simp only [qaC, qr (Nat.le_refl _), cond_false, List.take_length]
    · simpa only [qaC, qq hj, cond_true, qak hj, Option.bind_some, qh1 hj hli, qfn (g := ql.Name) hj, qm (show j < 9223372036854775807 by omega)] using hX
  have hL2 : Ev (fun n => qaD d n ([] : List ByteArray) 0) (d.Ports.map qae.Name, (d.Ports.length : Int)) := by
    refine loopF (Lf := qaD d) (S := fun j => (d.Ports.take j).map qae.Name) (len := d.Ports.length) (fun n => ?_) (fun j hj X hX => ?_)
    · simp only [qaD, qr (Nat.le_refl _), cond_false, List.take_length]
    · simpa only [qaD, qq hj, cond_true, qak hj, Option.bind_some, qh1 hj hlp, qfn (g := qae.Name) hj, qm (show j < 9223372036854775807 by omega)] using hX
  unfold qdb hasNamesB
  refine Ev.bind hL1 (Ev.bind hL2 ?_)
  simp only [List.length_map]
  rw [show decide ((d.Instances.length : Int) ≤ 14) = decide (d.Instances.length ≤ 14) from qiX (k := 14), show decide ((d.Nets.length : Int) ≤ 30) = decide (d.Nets.length ≤ 30) from qiX (k := 30), show decide ((d.Ports.length : Int) ≤ 8) = decide (d.Ports.length ≤ 8) from qiX (k := 8)]
  rw [Bool.and_assoc, Bool.and_assoc]
  exact Ev.andP fun _ => Ev.andP fun _ => Ev.andP fun _ => Ev.and (qgT (qiY h.Instances (fun x hx => hx.Name))) fun _ => Ev.and (qgT h.Nets) fun _ => Ev.last (qgT (qiY h.Ports (fun x hx => hx.Name)))

def instB (l : qn) (d : qh) (x : ql) : Bool := inI x.Cell 0 ((l.Cells.length : Int) - 1) && (((x.Nets.length : Int) == ((gt l.Cells x.Cell.toNat).Pins.length : Int)) && x.Nets.all (netB d))

theorem qlt {d : qh} {l : qn} {x : ql} (hn : d.Nets.length ≤ 1048576) (hc : l.Cells.length ≤ 1048576) (hx : x.Nets.length ≤ 1048576) : Ev (fun n => qct n d l x) (instB l d x) := by
  simp only [qct, qdI, Option.bind_some, qeb, qdC (show l.Cells.length ≤ 9223372036854775807 by omega)]
  unfold instB
  refine Ev.andP fun hI => ?_
  rw [qcY] at hI
  rw [qe5 hI.1 (by omega)]
  simp only [Option.bind_some]
  refine Ev.andP fun _ => Ev.bind (b := x.Nets.any fun y => !netB d y) ?_ (Ev.now (by rw [qkJ]))
  unfold qaj
  exact Ev.bind (b := ixL (fun y => !netB d y) x.Nets) (qeD (fin := (x.Nets.length : Int)) (Lf := qI x.Nets d) (pf := fun n y => qb5 n y d) (fun y _ => ⟨0, fun n _ => by simp only [qb5, qmX hn, Option.bind_some]⟩)
      (fun n => by simp only [qI, qr (Nat.le_refl _), cond_false])
      (fun n j y hx => by
        have hj := (List.getElem?_eq_some_iff.1 hx).1
        simp only [qI, qq hj, cond_true, qaQ hx, Option.bind_some, qm (show j < 9223372036854775807 by omega)])
      (fun n => by unfold qar; congr 1; funext o; cases o <;> rfl)) (Ev.now (by rw [qiI]))

def portB (d : qh) (p : qae) : Bool := inI p.Dir 1 2 && netB d p.Net
theorem qqs {x : Int} : inI x 1 2 = ((x == 1) || (x == 2)) := by
  unfold inI; rw [Bool.eq_iff_iff]; simp; omega

/-- The net that an instance drives. -/
def lastN (x : ql) : Int := at0 x.Nets (x.Nets.length - 1)
theorem qmS {x : ql} (h1 : 1 ≤ x.Nets.length) (h2 : x.Nets.length ≤ 1048576) : idx x.Nets (W64 ((x.Nets.length : Int) - 1)) = some (lastN x) := by
  rw [qdC (by omega), show ((x.Nets.length : Int) - 1) = ((x.Nets.length - 1 : Nat) : Int) by omega, qdf (by omega)]; rfl
theorem qoz {d : qh} {x : ql} (h1 : 1 ≤ x.Nets.length) (h : x.Nets.all (netB d) = true) : 0 ≤ lastN x ∧ lastN x < d.Nets.length := by
  rw [qgP (d := 0), qa8] at h
  have := h (x.Nets.length - 1) (by omega)
  unfold netB at this
  rw [qcY] at this
  unfold lastN at0
  omega
theorem qlc {l : qn} {d : qh} {x : ql} (hl : libB l = true) (h : instB l d x = true) : 1 ≤ x.Nets.length ∧ 0 ≤ lastN x ∧ lastN x < d.Nets.length := by
  unfold instB at h
  simp only [Bool.and_eq_true, qcY, beq_iff_eq] at h
  obtain ⟨h1, h2, h3⟩ := h
  unfold libB at hl
  simp only [Bool.and_eq_true] at hl
  have hc := hl.1
  rw [qg2, qa8] at hc
  have := qhl (qkW (hc x.Cell.toNat (by omega)))
  have h4 : 1 ≤ x.Nets.length := by omega
  exact ⟨h4, qoz h4 h3⟩

def drvI (d : qh) (k j : Nat) : Nat := cntP (fun i => lastN (gt d.Instances i) == (k : Int)) j
def drvP (d : qh) (k j : Nat) : Nat := cntP (fun i => ((gt d.Ports i).Dir == 1) && ((gt d.Ports i).Net == (k : Int))) j
def drvB (d : qh) : Bool := allN (fun k => ((drvI d k d.Instances.length + drvP d k d.Ports.length : Nat) : Int) == 1) d.Nets.length
def designB (l : qn) (d : qh) : Bool := (libB l && hasNamesB d) && (d.Instances.all (instB l d) && (d.Ports.all (portB d) && drvB d))

theorem qj5 {d : qh} {k j : Nat} : drvI d k (j + 1) = drvI d k j + (bif lastN (gt d.Instances j) == (k : Int) then 1 else 0) := rfl
theorem qiV {d : qh} {k j : Nat} : drvP d k (j + 1) = drvP d k j + (bif ((gt d.Ports j).Dir == 1) && ((gt d.Ports j).Net == (k : Int)) then 1 else 0) := rfl

theorem qmN {l : qn} {d : qh} (h : qfJ l) (hd : qhf d) : Ev (fun n => qfv n l d) (designB l d) := by
  have hli := hd.Instances.len
  have hlp := hd.Ports.len
  have hln := hd.Nets.len
  have hlc := h.Cells.len
  unfold qfv designB
  refine Ev.guardB (Ev.or (qmm h) fun _ => Ev.neg (qmI hd)) fun hb => ?_
  rw [Bool.and_eq_true] at hb
  rw [qiZ (m := d.Nets.length) (by omega)]
  simp only [Option.bind_some]
  have hL1 : Ev (fun n => qbV l d n (vecC (fun _ => 0) d.Nets.length) 0) (bif allN (fun j => instB l d (gt d.Instances j)) d.Instances.length then .nxt (vecC (fun k => drvI d k d.Instances.length) d.Nets.length, (d.Instances.length : Int)) else .ret false) := by
    refine loopN (Lf := qbV l d) (S := fun j => vecC (fun k => drvI d k j) d.Nets.length) (fun j => instB l d (gt d.Instances j)) (fun n => ?_) (fun j hj hp X hX => ?_)
    · simp only [qbV, qr (Nat.le_refl _), cond_false]
    · simp only [qbV, qq hj, cond_true, qak hj, Option.bind_some, qm (show j < 9223372036854775807 by omega)]
      have hxl := (qiA hd.Instances hj).Nets.len
      refine Ev.chk1 (qlt hln hlc hxl) fun hi => ?_
      obtain ⟨h1, h2, h3⟩ := qlc hb.1 hi
      have hc : drvI d (lastN (gt d.Instances j)).toNat j ≤ j := qdV
      obtain ⟨e1, e2⟩ := qh6 (c := fun k => drvI d k j) (c' := fun k => drvI d k (j + 1)) h2 h3 (by show drvI _ _ _ < _; omega) (fun k _ => qj5)
      simp only [qmS h1 hxl, Option.bind_some, e1, e2]
      exact hX hi
  have hL2 : Ev (fun n => qbk d n (vecC (fun k => drvI d k d.Instances.length) d.Nets.length) 0) (bif allN (fun j => portB d (gt d.Ports j)) d.Ports.length then .nxt (vecC (fun k => drvI d k d.Instances.length + drvP d k d.Ports.length) d.Nets.length, (d.Ports.length : Int)) else .ret false) := by
    refine loopN (Lf := qbk d) (S := fun j => vecC (fun k => drvI d k d.Instances.length + drvP d k j) d.Nets.length) (fun j => portB d (gt d.Ports j)) (fun n => ?_) (fun j hj hp X hX => ?_)
    · simp only [qbk, qr (Nat.le_refl _), cond_false]
    · simp only [qbk, qq hj, cond_true, qak hj, Option.bind_some, qmX hln, bne, qm (show j < 9223372036854775807 by omega)]
      refine Ev.chkT1 ?_ fun hi => ?_
      · unfold portB
        rw [qqs]
        cases ((gt d.Ports j).Dir == 1) <;> cases ((gt d.Ports j).Dir == 2) <;> exact .done
      · have hX := hX hi
        unfold portB netB at hi
        simp only [Bool.and_eq_true, qcY] at hi
        have hc1 : drvI d (gt d.Ports j).Net.toNat d.Instances.length ≤ d.Instances.length := qdV
        have hc2 : drvP d (gt d.Ports j).Net.toNat j ≤ j := qdV
        cases h1 : ((gt d.Ports j).Dir == 1)
        · have : vecC (fun k => drvI d k d.Instances.length + drvP d k (j + 1)) d.Nets.length = vecC (fun k => drvI d k d.Instances.length + drvP d k j) d.Nets.length := by
            refine qhp (fun k _ => ?_)
            rw [qiV, h1]; rfl
          rw [this] at hX
          exact hX
        · obtain ⟨e1, e2⟩ := qh6 (c := fun k => drvI d k d.Instances.length + drvP d k j) (c' := fun k => drvI d k d.Instances.length + drvP d k (j + 1)) (x := (gt d.Ports j).Net) (m := d.Nets.length) hi.2.1 (by omega) (by show drvI _ _ _ + drvP _ _ _ < _; omega) (fun k _ => by rw [qiV, h1, Bool.true_and]; omega)
          simp only [cond_true, Option.bind_some, e1, e2]
          exact hX
  rw [qg2, qg2]
  refine Ev.bind hL1 ?_
  cases allN (fun j => instB l d (gt d.Instances j)) d.Instances.length
  · exact .done
  · refine Ev.bind hL2 ?_
    cases allN (fun j => portB d (gt d.Ports j)) d.Ports.length
    · exact .done
    · simp only [cond_true, Bool.true_and]
      unfold qa1
      refine Ev.bind (b := (vecC (fun k => drvI d k d.Instances.length + drvP d k d.Ports.length) d.Nets.length).any fun x => !(x == 1)) (Ev.bind (b := ixL (fun x => !(x == 1)) (vecC (fun k => drvI d k d.Instances.length + drvP d k d.Ports.length) d.Nets.length)) (qeD (fin := (((vecC (fun k => drvI d k d.Instances.length + drvP d k d.Ports.length) d.Nets.length).length : Nat) : Int)) (Lf := qQ (vecC (fun k => drvI d k d.Instances.length + drvP d k d.Ports.length) d.Nets.length)) (pf := fun n y => qfH n y) (fun y _ => .done)
        (fun n => by simp only [qQ, qr (Nat.le_refl _), cond_false])
        (fun n j y hx => by
          have hj := (List.getElem?_eq_some_iff.1 hx).1
          have : j < d.Nets.length := by rw [qiH] at hj; exact hj
          simp only [qQ, qq hj, cond_true, qaQ hx, Option.bind_some, qm (show j < 9223372036854775807 by omega)])
        (fun n => by unfold qbb; congr 1; funext o; cases o <;> rfl)) (Ev.now (by rw [qiI]))) (Ev.now ?_)
      rw [qkJ, qgP (d := 0), qiH]
      unfold drvB
      congr 1
      exact qfM (fun k hk => by
        have := qmH (c := fun k => drvI d k d.Instances.length + drvP d k d.Ports.length) hk
        unfold at0 at this
        rw [this])

theorem qmv {l : qn} {d : qh} (h : qfJ l) (hd : qhf d) : Ev (fun n => qfC n l d) (d.Instances.all (instB l d) && d.Ports.all (portB d)) := by
  have hli := hd.Instances.len
  have hlp := hd.Ports.len
  have hln := hd.Nets.len
  have hlc := h.Cells.len
  have hL2 : ∀ x : ql, x.Nets.length ≤ 1048576 → Ev (fun n => qcg d x n 0) (bif x.Nets.all (netB d) then .nxt (x.Nets.length : Int) else .ret false) := fun x hx =>
    qiN (fun n => by simp only [qcg, qr (Nat.le_refl _), cond_false]) (fun j hj X hX => by
      simp only [qcg, qq hj, cond_true, qfI hj, Option.bind_some, qlR hln, qm (show j < 9223372036854775807 by omega), qcr]
      exact Ev.okP1 fun _ => hX)
  have hL1 : Ev (fun n => qcf l d n 0) (bif allN (fun j => instB l d (gt d.Instances j)) d.Instances.length then .nxt (d.Instances.length : Int) else .ret false) := by
    refine qex ?_ (fun j hj X hX => Ev.succ ?_)
    · exact Ev.succ (by simp only [qcf, qr (Nat.le_refl _), cond_false]; exact .done)
    · simp only [qcf, qq hj, cond_true, qak hj, Option.bind_some, qeC, qdC (show l.Cells.length ≤ 9223372036854775807 by omega), qm (show j < 9223372036854775807 by omega), bne]
      have hxl := (qiA hd.Instances hj).Nets.len
      unfold instB
      rw [← Bool.and_assoc]
      refine Ev.chkT ?_ fun _ => Ev.bind (hL2 _ hxl) ?_
      · simp only [qcr]
        refine Ev.orBP fun hI => ?_
        rw [qcY] at hI
        rw [qe5 hI.1 (by omega)]
        exact .done
      · cases (gt d.Instances j).Nets.all (netB d)
        · exact .done
        · exact hX
  have hL3 : Ev (fun n => qch d n 0) (bif allN (fun j => portB d (gt d.Ports j)) d.Ports.length then .nxt (d.Ports.length : Int) else .ret false) := by
    refine qex ?_ (fun j hj X hX => Ev.succ ?_)
    · exact Ev.succ (by simp only [qch, qr (Nat.le_refl _), cond_false]; exact .done)
    · simp only [qch, qq hj, cond_true, qak hj, Option.bind_some, qlR hln, qm (show j < 9223372036854775807 by omega)]
      simp only [qeC, Option.bind_some, qcr]
      unfold portB
      exact Ev.okP fun _ => Ev.okP1 fun _ => hX
  unfold qfC
  rw [qg2, qg2]
  refine Ev.bind hL1 ?_
  cases allN (fun j => instB l d (gt d.Instances j)) d.Instances.length
  · exact .done
  · refine Ev.bind hL3 ?_
    cases allN (fun j => portB d (gt d.Ports j)) d.Ports.length <;> exact .done

theorem qjx {l : qn} {d : qh} (h : qfJ l) (hd : qhf d) : Ev (fun n => qeO n l d) (designB l d) := by
  have hli := hd.Instances.len
  have hlp := hd.Ports.len
  have hln := hd.Nets.len
  have hlc := h.Cells.len
  have e : designB l d = ((libB l && (decide (d.Instances.length ≤ 14) && (decide (d.Nets.length ≤ 30) && (decide (d.Ports.length ≤ 8) && (d.Instances.all (instB l d) && d.Ports.all (portB d)))))) && ((namesB (d.Instances.map ql.Name) && (namesB (d.Ports.map qae.Name) && namesB d.Nets)) && drvB d)) := by
    unfold designB hasNamesB
    generalize libB l = a1
    generalize decide (d.Instances.length ≤ 14) = a2
    generalize decide (d.Nets.length ≤ 30) = a3
    generalize decide (d.Ports.length ≤ 8) = a4
    generalize d.Instances.all (instB l d) = a5
    generalize d.Ports.all (portB d) = a6
    generalize namesB (d.Instances.map ql.Name) = a7
    generalize namesB (d.Ports.map qae.Name) = a8
    generalize namesB d.Nets = a9
    generalize drvB d = a10
    rw [Bool.eq_iff_iff]
    simp only [Bool.and_eq_true]
    constructor
    · rintro ⟨⟨h1, ⟨h2, h3, h4⟩, h7, h9, h8⟩, h5, h6, h10⟩
      exact ⟨⟨h1, h2, h3, h4, h5, h6⟩, ⟨h7, h8, h9⟩, h10⟩
    · rintro ⟨⟨h1, h2, h3, h4, h5, h6⟩, ⟨h7, h8, h9⟩, h10⟩
      exact ⟨⟨h1, ⟨h2, h3, h4⟩, h7, h9, h8⟩, h5, h6, h10⟩
  rw [e]
  unfold qeO
  refine Ev.guardB ?_ fun hb => ?_
  · refine Ev.or (qlC h) fun _ => ?_
    rw [show decide ((d.Instances.length : Int) > 14) = !decide (d.Instances.length ≤ 14) by rw [Bool.eq_iff_iff]; simp; omega, show decide ((d.Nets.length : Int) > 30) = !decide (d.Nets.length ≤ 30) by rw [Bool.eq_iff_iff]; simp; omega, show decide ((d.Ports.length : Int) > 8) = !decide (d.Ports.length ≤ 8) by rw [Bool.eq_iff_iff]; simp; omega]
    simp only [qcr]
    exact Ev.orBP fun _ => Ev.orBP fun _ => Ev.orBP fun _ => Ev.neg (qmv h hd)
  · simp only [Bool.and_eq_true] at hb
    obtain ⟨hlib, _, _, _, hI, hP⟩ := hb
    rw [qg2, qa8] at hI hP
    have hL1 : Ev (fun n => qbL d n ([] : List ByteArray) 0) (d.Instances.map ql.Name, (d.Instances.length : Int)) := by
      refine loopF (Lf := qbL d) (S := fun j => (d.Instances.take j).map ql.Name) (len := d.Instances.length) (fun n => ?_) (fun j hj X hX => ?_)
      · simp only [qbL, qr (Nat.le_refl _), cond_false, List.take_length]
      · simpa only [qbL, qq hj, cond_true, qak hj, Option.bind_some, qh1 hj hli, qfn (g := ql.Name) hj, qm (show j < 9223372036854775807 by omega)] using hX
    have hL2 : Ev (fun n => qbO d n ([] : List ByteArray) 0) (d.Ports.map qae.Name, (d.Ports.length : Int)) := by
      refine loopF (Lf := qbO d) (S := fun j => (d.Ports.take j).map qae.Name) (len := d.Ports.length) (fun n => ?_) (fun j hj X hX => ?_)
      · simp only [qbO, qr (Nat.le_refl _), cond_false, List.take_length]
      · simpa only [qbO, qq hj, cond_true, qak hj, Option.bind_some, qh1 hj hlp, qfn (g := qae.Name) hj, qm (show j < 9223372036854775807 by omega)] using hX
    have hL3 : Ev (fun n => qbU d n (vecC (fun _ => 0) d.Nets.length) 0) (vecC (fun k => drvI d k d.Instances.length) d.Nets.length, (d.Instances.length : Int)) := by
      refine loopF (Lf := qbU d) (S := fun j => vecC (fun k => drvI d k j) d.Nets.length) (len := d.Instances.length) (fun n => ?_) (fun j hj X hX => ?_)
      · simp only [qbU, qr (Nat.le_refl _), cond_false]
      · have hxl := (qiA hd.Instances hj).Nets.len
        obtain ⟨h1, h2, h3⟩ := qlc hlib (hI j hj)
        have hc : drvI d (lastN (gt d.Instances j)).toNat j ≤ j := qdV
        obtain ⟨e1, e2⟩ := qh6 (c := fun k => drvI d k j) (c' := fun k => drvI d k (j + 1)) h2 h3 (by show drvI _ _ _ < _; omega) (fun k _ => qj5)
        simpa only [qbU, qq hj, cond_true, qak hj, Option.bind_some, qm (show j < 9223372036854775807 by omega), qmS h1 hxl, e1, e2] using hX
    have hL4 : Ev (fun n => qbn d n (vecC (fun k => drvI d k d.Instances.length) d.Nets.length) 0) (vecC (fun k => drvI d k d.Instances.length + drvP d k d.Ports.length) d.Nets.length, (d.Ports.length : Int)) := by
      refine loopF (Lf := qbn d) (S := fun j => vecC (fun k => drvI d k d.Instances.length + drvP d k j) d.Nets.length) (len := d.Ports.length) (fun n => ?_) (fun j hj X hX => ?_)
      · simp only [qbn, qr (Nat.le_refl _), cond_false]
      · have hi := hP j hj
        unfold portB netB at hi
        simp only [Bool.and_eq_true, qcY] at hi
        have hc1 : drvI d (gt d.Ports j).Net.toNat d.Instances.length ≤ d.Instances.length := qdV
        have hc2 : drvP d (gt d.Ports j).Net.toNat j ≤ j := qdV
        simp only [qbn, qq hj, cond_true, qak hj, Option.bind_some, qm (show j < 9223372036854775807 by omega)]
        cases h1 : ((gt d.Ports j).Dir == 1)
        · have : vecC (fun k => drvI d k d.Instances.length + drvP d k (j + 1)) d.Nets.length = vecC (fun k => drvI d k d.Instances.length + drvP d k j) d.Nets.length := by
            refine qhp (fun k _ => ?_)
            rw [qiV, h1]; rfl
          rw [this] at hX
          exact hX
        · obtain ⟨e1, e2⟩ := qh6 (c := fun k => drvI d k d.Instances.length + drvP d k j) (c' := fun k => drvI d k d.Instances.length + drvP d k (j + 1)) (x := (gt d.Ports j).Net) (m := d.Nets.length) hi.2.1 (by omega) (by show drvI _ _ _ + drvP _ _ _ < _; omega) (fun k _ => by rw [qiV, h1, Bool.true_and]; omega)
          simp only [cond_true, Option.bind_some, e1, e2]
          exact hX
    have hL5 : Ev (fun n => qci (vecC (fun _ => 0) d.Nets.length) (vecC (fun k => drvI d k d.Instances.length + drvP d k d.Ports.length) d.Nets.length) n 0) (bif drvB d then .nxt (d.Nets.length : Int) else .ret false) := by
      refine qex ?_ (fun j hj X hX => Ev.succ ?_)
      · exact Ev.succ (by simp only [qci, qiH, qr (Nat.le_refl _), cond_false]; exact .done)
      · simp only [qci, qiH, qq hj, cond_true, qhm hj, Option.bind_some, bne, qcr, qm (show j < 9223372036854775807 by omega)]
        exact Ev.okP1 fun _ => hX
    refine Ev.bind hL1 (Ev.bind hL2 ?_)
    refine Ev.guardB (Ev.or (qiC (qiY hd.Instances (fun x hx => hx.Name))) fun _ => Ev.or (qiC (qiY hd.Ports (fun x hx => hx.Name))) fun _ => Ev.neg (qiC hd.Nets)) fun _ => ?_
    rw [qiZ (m := d.Nets.length) (by omega)]
    simp only [Option.bind_some]
    refine Ev.bind hL3 (Ev.bind hL4 (Ev.bind hL5 ?_))
    cases drvB d <;> exact .done
end Go.Fw


namespace Go.Fw
open Go
set_option maxRecDepth 100000

theorem qpw {m k : Nat} : decide ((m : Int) < (k : Int)) = !decide (k ≤ m) := by rw [Bool.eq_iff_iff]; simp
theorem qp3 {m k : Nat} : decide ((m : Int) > (k : Int)) = !decide (m ≤ k) := by rw [Bool.eq_iff_iff]; simp
/-! ### Wires -/

def treeB (w : qY) (j : Nat) : Bool := bif decide (j = 0) then (at0 w.Parent j == -1) && (at0 w.Res j == 0) else inI (at0 w.Parent j) 0 ((j : Int) - 1)
def wireB (w : qY) (s : Int) : Bool :=
  lenB w.Parent 1 8 && (((w.Res.length : Int) == (w.Parent.length : Int)) && (((w.Cap.length : Int) == (w.Parent.length : Int)) && (allN (treeB w) w.Parent.length &&
    ((w.Res.all fun x => inI x 0 1000) && ((w.Cap.all fun x => inI x 0 500) && (((w.Sink.length : Int) == s) && (w.Sink.all fun x => inI x 0 ((w.Parent.length : Int) - 1))))))))

theorem qn0 {w : qY} (hl : w.Parent.length ≤ 1048576) (hr : ((w.Res.length : Int) == (w.Parent.length : Int)) = true) : Ev (fun n => qec n w) (allN (treeB w) w.Parent.length) := by
  rw [beq_iff_eq] at hr
  have hL : Ev (fun n => qaH w n 0) (bif allN (treeB w) w.Parent.length then .nxt (w.Parent.length : Int) else .ret false) := by
    refine qex ?_ (fun j hj X hX => Ev.succ ?_)
    · exact Ev.succ (by simp only [qaH, qr (Nat.le_refl _), cond_false]; exact .done)
    · simp only [qaH, qq hj, cond_true, qdf hj, Option.bind_some, qeb, qm (show j < 9223372036854775807 by omega), bne, qcr]
      unfold treeB
      by_cases h0 : j = 0
      · subst h0
        rw [show idx w.Res (0 : Int) = some (at0 w.Res 0) from qdf (j := 0) (by omega)]
        simp only [Option.bind_some]
        refine Ev.tt (by simp) (Ev.okP fun _ => Ev.okP1 fun _ => Ev.ff (by simp) hX)
      · have e1 : decide (j = 0) = false := by simp; omega
        have e2 : ((j : Int) == 0) = false := by simp; omega
        have e3 : decide ((j : Int) > 0) = true := by simp; omega
        rw [e1, e2, e3, qdC (show j ≤ 9223372036854775807 by omega)]
        simp only [cond_false, cond_true]
        exact Ev.okP1 fun _ => hX
  unfold qec
  refine Ev.bind hL ?_
  cases allN (treeB w) w.Parent.length <;> exact .done

theorem qot {w : qY} {s : Int} (h : qjt w) : Ev (fun n => qgV n w s) (wireB w s) := by
  have hl := h.Parent.len
  simp only [qgV, qa5, Option.bind_some, qeb, qdC (show w.Parent.length ≤ 9223372036854775807 by omega)]
  unfold wireB
  rw [show inI (w.Parent.length : Int) 1 8 = lenB w.Parent 1 8 from qmu (lo := 1) (hi := 8)]
  exact Ev.andP fun _ => Ev.andP fun hr => Ev.andP fun _ => Ev.and (qn0 hl hr) fun _ => Ev.and (qfl h.Res.len) fun _ => Ev.and (qfl h.Cap.len) fun _ => Ev.andP fun _ => Ev.last (qfl h.Sink.len)

theorem qnm {w : qY} {s : Int} (h : qjt w) : Ev (fun n => qgO n w s) (wireB w s) := by
  have hl := h.Parent.len
  have hsl := h.Sink.len
  have e : wireB w s = ((decide (1 ≤ w.Parent.length) && (decide (w.Parent.length ≤ 8) && (((w.Res.length : Int) == (w.Parent.length : Int)) && (((w.Cap.length : Int) == (w.Parent.length : Int)) && ((w.Sink.length : Int) == s))))) && (allN (fun j => (inI (at0 w.Cap j) 0 500 && inI (at0 w.Res j) 0 1000) && treeB w j) w.Parent.length && (w.Sink.all fun x => inI x 0 ((w.Parent.length : Int) - 1)))) := by
    unfold wireB lenB
    cases h1 : ((w.Res.length : Int) == (w.Parent.length : Int))
    · simp
    · cases h2 : ((w.Cap.length : Int) == (w.Parent.length : Int))
      · simp
      · rw [beq_iff_eq] at h1 h2
        rw [qit, qit]
        rw [qgP (p := fun x => inI x 0 1000) (d := 0), qgP (p := fun x => inI x 0 500) (d := 0), show w.Res.length = w.Parent.length by omega, show w.Cap.length = w.Parent.length by omega]
        show _ = (_ && ((allN (fun j => inI (w.Cap.getD j 0) 0 500) _ && allN (fun j => inI (w.Res.getD j 0) 0 1000) _ && _) && _))
        generalize allN (fun j => inI (w.Cap.getD j 0) 0 500) w.Parent.length = a1
        generalize allN (fun j => inI (w.Res.getD j 0) 0 1000) w.Parent.length = a2
        generalize allN (fun j => treeB w j) w.Parent.length = a3
        generalize ((w.Sink.length : Int) == s) = a4
        generalize decide (1 ≤ w.Parent.length) = a5
        generalize decide (w.Parent.length ≤ 8) = a6
        generalize (w.Sink.all fun x => inI x 0 ((w.Parent.length : Int) - 1)) = a7
        cases a1 <;> cases a2 <;> cases a3 <;> cases a4 <;> cases a5 <;> cases a6 <;> rfl
  rw [e]
  unfold qgO
  refine Ev.guardB ?_ fun hb => ?_
  · rw [show decide ((w.Parent.length : Int) < 1) = !decide (1 ≤ w.Parent.length) from qpw (k := 1), show decide ((w.Parent.length : Int) > 8) = !decide (w.Parent.length ≤ 8) from qp3 (k := 8)]
    simp only [bne, qcr]
    exact Ev.orBP fun _ => Ev.orBP fun _ => Ev.orBP fun _ => Ev.orBP fun _ => .done
  · simp only [Bool.and_eq_true, beq_iff_eq] at hb
    have hL1 : Ev (fun n => qbF w n 0) (bif allN (fun j => (inI (at0 w.Cap j) 0 500 && inI (at0 w.Res j) 0 1000) && treeB w j) w.Parent.length then .nxt (w.Parent.length : Int) else .ret false) := by
      refine qex ?_ (fun j hj X hX => Ev.succ ?_)
      · exact Ev.succ (by simp only [qbF, qr (Nat.le_refl _), cond_false]; exact .done)
      · simp only [qbF, qq hj, cond_true, qdf hj, qdf (show j < w.Cap.length by omega), qdf (show j < w.Res.length by omega), Option.bind_some, qeC, qm (show j < 9223372036854775807 by omega), bne, qcr]
        refine Ev.chkT (Ev.orBP fun _ => .done) fun _ => ?_
        unfold treeB
        by_cases h0 : j = 0
        · subst h0
          refine Ev.tt (by simp) (Ev.okP fun _ => Ev.okP1 fun _ => Ev.ff (by simp) hX)
        · have e1 : decide (j = 0) = false := by simp; omega
          have e2 : ((j : Int) == 0) = false := by simp; omega
          have e3 : decide ((j : Int) > 0) = true := by simp; omega
          rw [e1, e2, e3, qdC (show j ≤ 9223372036854775807 by omega)]
          simp only [cond_false, cond_true]
          exact Ev.okP1 fun _ => hX
    have hL2 : Ev (fun n => qc3 w n 0) (bif (w.Sink.all fun x => inI x 0 ((w.Parent.length : Int) - 1)) then .nxt (w.Sink.length : Int) else .ret false) :=
      qiN (fun n => by simp only [qc3, qr (Nat.le_refl _), cond_false]) (fun j hj X hX => by
        simp only [qc3, qq hj, cond_true, qfI hj, Option.bind_some, qeC, qdC (show w.Parent.length ≤ 9223372036854775807 by omega), qm (show j < 9223372036854775807 by omega), qcr]
        exact Ev.okP1 fun _ => hX)
    refine Ev.bind hL1 ?_
    cases allN (fun j => (inI (at0 w.Cap j) 0 500 && inI (at0 w.Res j) 0 1000) && treeB w j) w.Parent.length
    · exact .done
    · refine Ev.bind hL2 ?_
      cases (w.Sink.all fun x => inI x 0 ((w.Parent.length : Int) - 1)) <;> exact .done

/-! ### Places -/

instance : Inhabited Tplace := ⟨⟨0, 0, 0, false⟩⟩
instance : Inhabited Tl05Place := ⟨⟨0, 0, 0, false⟩⟩
def toSp (p : Tplace) : Tl05Place := ⟨p.instance_, p.pin, p.net, p.drives⟩
def plX (i : Nat) (x : ql) (j : Nat) : List Tplace := (List.range j).map fun (k : Nat) => ⟨(i : Int), (k : Int), at0 x.Nets k, decide (k + 1 = x.Nets.length)⟩
def plI (d : qh) (j : Nat) : List Tplace := (List.range j).flatMap fun (i : Nat) => plX i (gt d.Instances i) (gt d.Instances i).Nets.length
def plP (d : qh) (j : Nat) : List Tplace := (List.range j).map fun (i : Nat) => ⟨-1, (i : Int), (gt d.Ports i).Net, (gt d.Ports i).Dir == 1⟩
def places (d : qh) : List Tplace := plI d d.Instances.length ++ plP d d.Ports.length

theorem qmU {i : Nat} {x : ql} {j : Nat} : plX i x (j + 1) = plX i x j ++ [⟨(i : Int), (j : Int), at0 x.Nets j, decide (j + 1 = x.Nets.length)⟩] := by
  unfold plX; rw [List.range_succ, List.map_append]; rfl
theorem qiR {d : qh} {j : Nat} : plI d (j + 1) = plI d j ++ plX j (gt d.Instances j) (gt d.Instances j).Nets.length := by
  unfold plI; rw [List.range_succ, List.flatMap_append]; simp
theorem qmy {d : qh} {j : Nat} : plP d (j + 1) = plP d j ++ [⟨-1, (j : Int), (gt d.Ports j).Net, (gt d.Ports j).Dir == 1⟩] := by
  unfold plP; rw [List.range_succ, List.map_append]; rfl
theorem qkK {i : Nat} {x : ql} {j : Nat} : (plX i x j).length = j := by simp [plX]
theorem qkL {d : qh} {j : Nat} : (plP d j).length = j := by simp [plP]

/-- What a valid design says of its sizes. -/
structure smallD (d : qh) : Prop where
  ni : d.Instances.length ≤ 14
  nn : d.Nets.length ≤ 30
  np : d.Ports.length ≤ 8
  nx : ∀ i, i < d.Instances.length → 2 ≤ (gt d.Instances i).Nets.length ∧ (gt d.Instances i).Nets.length ≤ 5

theorem qab {l : qn} {d : qh} (h : designB l d = true) : smallD d := by
  unfold designB hasNamesB libB at h
  simp only [Bool.and_eq_true, decide_eq_true_eq] at h
  obtain ⟨⟨⟨hc, _⟩, ⟨h1, h2, h3⟩, _⟩, hI, _⟩ := h
  refine ⟨h1, h2, h3, fun i hi => ?_⟩
  rw [qg2, qa8] at hI hc
  have := hI i hi
  unfold instB at this
  simp only [Bool.and_eq_true, qcY, beq_iff_eq] at this
  have h5 := qhl (qkW (hc (gt d.Instances i).Cell.toNat (by omega)))
  omega
theorem qjQ {d : qh} (h : smallD d) {j : Nat} (hj : j ≤ d.Instances.length) : (plI d j).length ≤ 5 * j := by
  induction j with
  | zero => exact Nat.le_refl _
  | succ j ih =>
    rw [qiR, List.length_append, qkK]
    have := ih (by omega)
    have := h.nx j (by omega)
    omega
theorem qa9 {d : qh} (h : smallD d) : (places d).length ≤ 78 := by
  unfold places
  rw [List.length_append, qkL]
  have := qjQ h (Nat.le_refl _)
  have := h.ni
  have := h.np
  omega

theorem qi0 {d : qh} (h : smallD d) : Ev (fun n => qbE n d) (places d) := by
  have h1 := h.ni
  have h2 := h.np
  have hL2 : ∀ i, i < d.Instances.length → ∀ pre : List Tplace, pre.length ≤ 100 → Ev (fun n => qaT (i : Int) (gt d.Instances i) n pre 0) (pre ++ plX i (gt d.Instances i) (gt d.Instances i).Nets.length, ((gt d.Instances i).Nets.length : Int)) := by
    intro i hi pre hp
    have h5 := h.nx i hi
    have := loopF (Lf := qaT (i : Int) (gt d.Instances i)) (S := fun j => pre ++ plX i (gt d.Instances i) j) (len := (gt d.Instances i).Nets.length) (fin := (pre ++ plX i (gt d.Instances i) (gt d.Instances i).Nets.length, ((gt d.Instances i).Nets.length : Int))) (fun n => by
        simp only [qaT, qr (Nat.le_refl _), cond_false])
      (fun j hj X hX => by
        have hc : (pre ++ plX i (gt d.Instances i) j).length + [(⟨(i : Int), (j : Int), at0 (gt d.Instances i).Nets j, decide (j + 1 = (gt d.Instances i).Nets.length)⟩ : Tplace)].length ≤ 2147483648 := by
          rw [List.length_append, qkK]; simp; omega
        simp only [qaT, qq hj, cond_true, qdf hj, Option.bind_some, lastE hj (show (gt d.Instances i).Nets.length ≤ 1048576 by omega), qde hc, List.append_assoc, ← qmU, qm (show j < 9223372036854775807 by omega)]
        exact hX)
    simpa [plX] using this
  have hL1 : Ev (fun n => qaV d n ([] : List Tplace) 0) (plI d d.Instances.length, (d.Instances.length : Int)) := by
    refine loopF (Lf := qaV d) (S := fun j => plI d j) (len := d.Instances.length) (fun n => ?_) (fun j hj X hX => ?_)
    · simp only [qaV, qr (Nat.le_refl _), cond_false]
    · simp only [qaV, qq hj, cond_true, qak hj, Option.bind_some, qm (show j < 9223372036854775807 by omega)]
      refine Ev.bind (hL2 j hj _ (by have := qjQ h (Nat.le_of_lt hj); omega)) ?_
      rw [← qiR]
      exact hX
  have hL3 : Ev (fun n => qaU d n (plI d d.Instances.length) 0) (places d, (d.Ports.length : Int)) := by
    have := loopF (Lf := qaU d) (S := fun j => plI d d.Instances.length ++ plP d j) (len := d.Ports.length) (fin := (places d, (d.Ports.length : Int))) (fun n => by
        simp only [qaU, qr (Nat.le_refl _), cond_false]; rfl)
      (fun j hj X hX => by
        have hc : (plI d d.Instances.length ++ plP d j).length + [(⟨-1, (j : Int), (gt d.Ports j).Net, (gt d.Ports j).Dir == 1⟩ : Tplace)].length ≤ 2147483648 := by
          rw [List.length_append, qkL]; have := qjQ h (Nat.le_refl _); simp; omega
        simp only [qaU, qq hj, cond_true, qak hj, Option.bind_some, qde hc, List.append_assoc, ← qmy, qm (show j < 9223372036854775807 by omega)]
        exact hX)
    simpa [plP] using this
  unfold qbE
  exact Ev.bind hL1 (Ev.bind hL3 .done)

theorem qhq {d : qh} (h : smallD d) : Ev (fun n => qcw n d) ((places d).map toSp) := by
  have h1 := h.ni
  have h2 := h.np
  have hL2 : ∀ i, i < d.Instances.length → ∀ pre : List Tplace, pre.length ≤ 100 → Ev (fun n => qby (i : Int) (gt d.Instances i) n (pre.map toSp) 0) ((pre ++ plX i (gt d.Instances i) (gt d.Instances i).Nets.length).map toSp, ((gt d.Instances i).Nets.length : Int)) := by
    intro i hi pre hp
    have h5 := h.nx i hi
    have := loopF (Lf := qby (i : Int) (gt d.Instances i)) (S := fun j => (pre ++ plX i (gt d.Instances i) j).map toSp) (len := (gt d.Instances i).Nets.length) (fin := ((pre ++ plX i (gt d.Instances i) (gt d.Instances i).Nets.length).map toSp, ((gt d.Instances i).Nets.length : Int))) (fun n => by
        simp only [qby, qr (Nat.le_refl _), cond_false])
      (fun j hj X hX => by
        have hc : ((pre ++ plX i (gt d.Instances i) j).map toSp).length + [(⟨(i : Int), (j : Int), at0 (gt d.Instances i).Nets j, decide (j + 1 = (gt d.Instances i).Nets.length)⟩ : Tl05Place)].length ≤ 2147483648 := by
          rw [List.length_map, List.length_append, qkK]; simp; omega
        simp only [qby, qq hj, cond_true, qdf hj, Option.bind_some, lastE hj (show (gt d.Instances i).Nets.length ≤ 1048576 by omega), qde hc, qm (show j < 9223372036854775807 by omega)]
        rw [qmU, ← List.append_assoc, List.map_append] at hX
        exact hX)
    simpa [plX] using this
  have hL1 : Ev (fun n => qbB d n ([] : List Tl05Place) 0) ((plI d d.Instances.length).map toSp, (d.Instances.length : Int)) := by
    refine loopF (Lf := qbB d) (S := fun j => (plI d j).map toSp) (len := d.Instances.length) (fun n => ?_) (fun j hj X hX => ?_)
    · simp only [qbB, qr (Nat.le_refl _), cond_false]
    · simp only [qbB, qq hj, cond_true, qak hj, Option.bind_some, qm (show j < 9223372036854775807 by omega)]
      refine Ev.bind (hL2 j hj _ (by have := qjQ h (Nat.le_of_lt hj); omega)) ?_
      rw [← qiR]
      exact hX
  have hL3 : Ev (fun n => qbz d n ((plI d d.Instances.length).map toSp) 0) ((places d).map toSp, (d.Ports.length : Int)) := by
    have := loopF (Lf := qbz d) (S := fun j => (plI d d.Instances.length ++ plP d j).map toSp) (len := d.Ports.length) (fin := ((places d).map toSp, (d.Ports.length : Int))) (fun n => by
        simp only [qbz, qr (Nat.le_refl _), cond_false]; rfl)
      (fun j hj X hX => by
        have hc : ((plI d d.Instances.length ++ plP d j).map toSp).length + [(⟨-1, (j : Int), (gt d.Ports j).Net, (gt d.Ports j).Dir == 1⟩ : Tl05Place)].length ≤ 2147483648 := by
          rw [List.length_map, List.length_append, qkL]; have := qjQ h (Nat.le_refl _); simp; omega
        simp only [qbz, qq hj, cond_true, qak hj, Option.bind_some, qde hc, qm (show j < 9223372036854775807 by omega)]
        rw [qmy, ← List.append_assoc, List.map_append] at hX
        exact hX)
    simpa [plP] using this
  unfold qcw
  exact Ev.bind hL1 (Ev.bind hL3 .done)

def snkQ (d : qh) (k : Int) (i : Nat) : Bool := ((gt (places d) i).net == k) && !(gt (places d) i).drives
def sinksL (d : qh) (k : Int) (j : Nat) : List Int := ((List.range j).filter (snkQ d k)).map fun (i : Nat) => (i : Int)
def snkN (d : qh) (k : Int) : Nat := cntP (snkQ d k) (places d).length
theorem qhE {d : qh} {k : Int} {j : Nat} : sinksL d k (j + 1) = sinksL d k j ++ (bif snkQ d k j then [(j : Int)] else []) := by
  unfold sinksL
  rw [List.range_succ, List.filter_append, List.map_append]
  congr 1
  cases h : snkQ d k j <;> simp [h]
theorem qes {d : qh} {k : Int} {j : Nat} : (sinksL d k j).length = cntP (snkQ d k) j := by
  induction j with
  | zero => rfl
  | succ j ih =>
    rw [qhE, List.length_append, ih]
    show _ = cntP (snkQ d k) j + _
    congr 1
    cases snkQ d k j <;> rfl
theorem qjT {α β : Type} [Inhabited α] [Inhabited β] {xs : List α} {g : α → β} {j : Nat} (h : j < xs.length) : gt (xs.map g) j = g (gt xs j) := by
  rw [qhY (by simpa using h), qhY h]; simp

theorem qkd {d : qh} {k : Int} (h : smallD d) : Ev (fun n => qeN n d k) (sinksL d k (places d).length) := by
  have hl := qa9 h
  have hL : Ev (fun n => qbl k ((places d).map toSp) n ([] : List Int) 0) (sinksL d k (places d).length, ((places d).length : Int)) := by
    refine loopF (Lf := qbl k ((places d).map toSp)) (S := fun j => sinksL d k j) (len := (places d).length) (fun n => ?_) (fun j hj X hX => ?_)
    · simp only [qbl, List.length_map, qr (Nat.le_refl _), cond_false]
    · have hj' : j < ((places d).map toSp).length := by simpa using hj
      have hc : (sinksL d k j).length + [(j : Int)].length ≤ 2147483648 := by
        rw [qes]
        have : cntP (snkQ d k) j ≤ j := qdV
        simp; omega
      simp only [qbl, qq hj', cond_true, qak hj', qjT hj, Option.bind_some, qm (show j < 9223372036854775807 by omega)]
      rw [show ∀ p : Tplace, (toSp p).net = p.net from fun _ => rfl, show ∀ p : Tplace, (toSp p).drives = p.drives from fun _ => rfl]
      refine Ev.bind (b := snkQ d k j) (Ev.andP fun _ => .done) ?_
      rw [qhE] at hX
      cases hq : snkQ d k j
      · rw [hq] at hX
        simp only [cond_false, List.append_nil] at hX ⊢
        exact hX
      · rw [hq] at hX
        simp only [cond_true, qde hc, Option.bind_some] at hX ⊢
        exact hX
  unfold qeN
  exact Ev.bind (qhq h) (Ev.bind hL .done)

theorem qij {l : qn} {d : qh} (h : designB l d = true) {i : Nat} (hi : i < (places d).length) : 0 ≤ (gt (places d) i).net ∧ (gt (places d) i).net < d.Nets.length := by
  unfold designB at h
  simp only [Bool.and_eq_true] at h
  obtain ⟨_, hI, hP, _⟩ := h
  rw [qg2, qa8] at hI hP
  have hm : gt (places d) i ∈ places d := by rw [qhY hi]; exact List.getElem_mem hi
  generalize gt (places d) i = p at hm
  unfold places at hm
  rcases List.mem_append.1 hm with hm | hm
  · unfold plI at hm
    obtain ⟨i, hi, hm⟩ := List.mem_flatMap.1 hm
    unfold plX at hm
    obtain ⟨k, hk, rfl⟩ := List.mem_map.1 hm
    have := hI i (List.mem_range.1 hi)
    unfold instB at this
    simp only [Bool.and_eq_true] at this
    have h3 := this.2.2
    rw [qgP (d := 0), qa8] at h3
    have h4 := h3 k (List.mem_range.1 hk)
    unfold netB at h4
    rw [qcY] at h4
    show 0 ≤ at0 _ _ ∧ at0 _ _ < _
    unfold at0
    omega
  · unfold plP at hm
    obtain ⟨i, hi, rfl⟩ := List.mem_map.1 hm
    have := hP i (List.mem_range.1 hi)
    unfold portB netB at this
    simp only [Bool.and_eq_true, qcY] at this
    show 0 ≤ (gt d.Ports i).Net ∧ (gt d.Ports i).Net < _
    omega

/-! ### Blocks -/

def blockB (b : qw) : Bool := (designB b.Library b.Design && ((b.Wires.length : Int) == (b.Design.Nets.length : Int))) && allN (fun j => wireB (gt b.Wires j) (snkN b.Design (j : Int))) b.Wires.length

theorem qll {b : qw} (h : qe6 b) : Ev (fun n => qf6 n b) (blockB b) := by
  have hwl := h.Wires.len
  unfold qf6 blockB
  refine Ev.guardB (Ev.or (qmN h.Library h.Design) fun _ => .done) fun hb => ?_
  rw [Bool.and_eq_true, beq_iff_eq] at hb
  obtain ⟨hd, hw⟩ := hb
  have hs := qab hd
  have hl := qa9 hs
  have hn := hs.nn
  rw [qiZ (m := b.Wires.length) (by omega)]
  simp only [Option.bind_some]
  have hL1 : Ev (fun n => qbK (places b.Design) n (vecC (fun _ => 0) b.Wires.length) 0) (vecC (fun k => snkN b.Design (k : Int)) b.Wires.length, ((places b.Design).length : Int)) := by
    refine loopF (Lf := qbK (places b.Design)) (S := fun j => vecC (fun k => cntP (snkQ b.Design (k : Int)) j) b.Wires.length) (len := (places b.Design).length) (fun n => ?_) (fun j hj X hX => ?_)
    · simp only [qbK, qr (Nat.le_refl _), cond_false]; rfl
    · simp only [qbK, qq hj, cond_true, qak hj, Option.bind_some, qm (show j < 9223372036854775807 by omega)]
      obtain ⟨n0, n1⟩ := qij hd hj
      cases h1 : (gt (places b.Design) j).drives
      · have hc : cntP (snkQ b.Design (((gt (places b.Design) j).net.toNat : Nat) : Int)) j ≤ j := qdV
        obtain ⟨e1, e2⟩ := qh6 (c := fun k => cntP (snkQ b.Design (k : Int)) j) (c' := fun k => cntP (snkQ b.Design (k : Int)) (j + 1)) (x := (gt (places b.Design) j).net) (m := b.Wires.length) n0 (by omega) (by show cntP _ _ < _; omega) (fun k _ => by
          show cntP _ j + (bif snkQ b.Design (k : Int) j then 1 else 0) = _
          unfold snkQ
          rw [h1, Bool.not_false, Bool.and_true])
        simp only [Bool.not_false, cond_true, Option.bind_some, e1, e2]
        exact hX
      · have : vecC (fun k => cntP (snkQ b.Design (k : Int)) (j + 1)) b.Wires.length = vecC (fun k => cntP (snkQ b.Design (k : Int)) j) b.Wires.length := by
          refine qhp (fun k _ => ?_)
          show cntP _ j + (bif snkQ b.Design (k : Int) j then 1 else 0) = _
          unfold snkQ
          rw [h1, Bool.not_true, Bool.and_false]; rfl
        rw [this] at hX
        exact hX
  have hL2 : Ev (fun n => qcK b (vecC (fun k => snkN b.Design (k : Int)) b.Wires.length) n 0) (bif allN (fun j => wireB (gt b.Wires j) (snkN b.Design (j : Int))) b.Wires.length then .nxt (b.Wires.length : Int) else .ret false) := by
    refine qex ?_ (fun j hj X hX => Ev.succ ?_)
    · exact Ev.succ (by simp only [qcK, qr (Nat.le_refl _), cond_false]; exact .done)
    · simp only [qcK, qq hj, cond_true, qak hj, qhm hj, Option.bind_some, qm (show j < 9223372036854775807 by omega)]
      exact Ev.chk1 (qot (qiA h.Wires hj)) fun _ => hX
  refine Ev.bind (qi0 hs) (Ev.bind hL1 (Ev.bind hL2 ?_))
  cases allN (fun j => wireB (gt b.Wires j) (snkN b.Design (j : Int))) b.Wires.length <;> exact .done

theorem qkc {b : qw} (h : qe6 b) : Ev (fun n => qgk n b) (blockB b) := by
  have hwl := h.Wires.len
  unfold qgk blockB
  refine Ev.guardB (Ev.or (qjx h.Library h.Design) fun _ => .done) fun hb => ?_
  rw [Bool.and_eq_true] at hb
  have hs := qab hb.1
  have hL : Ev (fun n => qcD b n 0) (bif allN (fun j => wireB (gt b.Wires j) (snkN b.Design (j : Int))) b.Wires.length then .nxt (b.Wires.length : Int) else .ret false) := by
    refine qex ?_ (fun j hj X hX => Ev.succ ?_)
    · exact Ev.succ (by simp only [qcD, qr (Nat.le_refl _), cond_false]; exact .done)
    · simp only [qcD, qq hj, cond_true, qak hj, Option.bind_some, qm (show j < 9223372036854775807 by omega)]
      refine Ev.bind (qkd hs) ?_
      rw [qes]
      exact Ev.chk1 (qnm (qiA h.Wires hj)) fun _ => hX
  refine Ev.bind hL ?_
  cases allN (fun j => wireB (gt b.Wires j) (snkN b.Design (j : Int))) b.Wires.length <;> exact .done
end Go.Fw


namespace Go.Fw
open Go
set_option maxRecDepth 100000

def off (d : qh) (i : Nat) : Nat := (plI d i).length
def place1 (d : qh) (i k : Nat) : Tplace := ⟨(i : Int), (k : Int), at0 (gt d.Instances i).Nets k, decide (k + 1 = (gt d.Instances i).Nets.length)⟩
def place2 (d : qh) (i : Nat) : Tplace := ⟨-1, (i : Int), (gt d.Ports i).Net, (gt d.Ports i).Dir == 1⟩

theorem qjI {d : qh} {i : Nat} : off d (i + 1) = off d i + (gt d.Instances i).Nets.length := by
  unfold off; rw [qiR, List.length_append, qkK]
theorem qhI {d : qh} : (places d).length = off d d.Instances.length + d.Ports.length := by
  unfold places off; rw [List.length_append, qkL]
theorem qqr {d : qh} {n i k : Nat} (hi : i < n) (hk : k < (gt d.Instances i).Nets.length) : off d i + k < off d n ∧ gt (plI d n) (off d i + k) = place1 d i k := by
  induction n with
  | zero => omega
  | succ n ih =>
    rw [qiR, qjR]
    rcases Nat.lt_succ_iff_lt_or_eq.1 hi with h | rfl
    · obtain ⟨h1, h2⟩ := ih h
      refine ⟨by rw [qjI]; omega, ?_⟩
      rw [if_pos (show off d i + k < (plI d n).length from h1), h2]
    · refine ⟨by rw [qjI]; omega, ?_⟩
      rw [if_neg (by unfold off; omega), show off d i + k - (plI d i).length = k by unfold off; omega]
      exact qmF hk
theorem qh0 {d : qh} {i k : Nat} (hi : i < d.Instances.length) (hk : k < (gt d.Instances i).Nets.length) : off d i + k < (places d).length ∧ gt (places d) (off d i + k) = place1 d i k := by
  obtain ⟨h1, h2⟩ := qqr hi hk
  refine ⟨by rw [qhI]; omega, ?_⟩
  unfold places
  rw [qjR, if_pos (show off d i + k < (plI d d.Instances.length).length from h1), h2]
theorem qlM {d : qh} {i : Nat} (hi : i < d.Ports.length) : off d d.Instances.length + i < (places d).length ∧ gt (places d) (off d d.Instances.length + i) = place2 d i := by
  refine ⟨by rw [qhI]; omega, ?_⟩
  unfold places
  rw [qjR, if_neg (by unfold off; omega), show off d d.Instances.length + i - (plI d d.Instances.length).length = i by unfold off; omega]
  exact qmF hi
theorem qn4 {d : qh} {n j : Nat} (hj : j < off d n) : ∃ i k, i < n ∧ k < (gt d.Instances i).Nets.length ∧ j = off d i + k := by
  induction n with
  | zero => exact absurd hj (Nat.not_lt_zero _)
  | succ n ih =>
    by_cases h : j < off d n
    · obtain ⟨i, k, h1, h2, h3⟩ := ih h
      exact ⟨i, k, by omega, h2, h3⟩
    · rw [qjI] at hj
      exact ⟨n, j - off d n, by omega, by omega, by omega⟩
/-- Every place is a pin of an instance or a port. -/
theorem qe1 {d : qh} {j : Nat} (hj : j < (places d).length) :
    (∃ i k, i < d.Instances.length ∧ k < (gt d.Instances i).Nets.length ∧ j = off d i + k ∧ gt (places d) j = place1 d i k) ∨
    (∃ i, i < d.Ports.length ∧ j = off d d.Instances.length + i ∧ gt (places d) j = place2 d i) := by
  rw [qhI] at hj
  by_cases h : j < off d d.Instances.length
  · obtain ⟨i, k, h1, h2, rfl⟩ := qn4 h
    exact .inl ⟨i, k, h1, h2, rfl, (qh0 h1 h2).2⟩
  · refine .inr ⟨j - off d d.Instances.length, by omega, by omega, ?_⟩
    have := (qlM (d := d) (i := j - off d d.Instances.length) (by omega)).2
    rwa [show off d d.Instances.length + (j - off d d.Instances.length) = j by omega] at this

/-! ### Drivers -/

def drvQ (d : qh) (k : Int) (j : Nat) : Bool := ((gt (places d) j).net == k) && (gt (places d) j).drives

theorem qmz {q : Nat → Bool} {m n : Nat} : cntP q (m + n) = cntP q m + cntP (fun j => q (m + j)) n := by
  induction n with
  | zero => rfl
  | succ n ih =>
    show cntP q (m + n) + (bif q (m + n) then 1 else 0) = cntP q m + (cntP (fun j => q (m + j)) n + (bif q (m + n) then 1 else 0))
    rw [ih]; omega
theorem qom {q : Nat → Bool} {n : Nat} {b : Bool} (h : 1 ≤ n) (h1 : ∀ j, j + 1 < n → q j = false) (h2 : q (n - 1) = b) : cntP q n = bif b then 1 else 0 := by
  obtain ⟨m, rfl⟩ : ∃ m, n = m + 1 := ⟨n - 1, by omega⟩
  show cntP q m + (bif q m then 1 else 0) = _
  rw [qlX.2 (fun j hj => h1 j (by omega)), show m = m + 1 - 1 by omega, h2, Nat.zero_add]

theorem qnj {d : qh} {k : Nat} (hs : smallD d) : cntP (drvQ d (k : Int)) (places d).length = drvI d k d.Instances.length + drvP d k d.Ports.length := by
  rw [qhI, qmz]
  congr 1
  · have : ∀ n, n ≤ d.Instances.length → cntP (drvQ d (k : Int)) (off d n) = drvI d k n := by
      intro n
      induction n with
      | zero => intro _; rfl
      | succ n ih =>
        intro hn
        rw [qjI, qmz, ih (by omega), qj5]
        congr 1
        have h2 := (hs.nx n (by omega)).1
        refine qom (by omega) (fun j hj => ?_) ?_
        · show drvQ d _ (off d n + j) = false
          unfold drvQ
          rw [(qh0 (by omega) (by omega)).2]
          unfold place1
          simp; omega
        · show drvQ d _ (off d n + _) = _
          unfold drvQ
          rw [(qh0 (by omega) (by omega)).2]
          unfold place1 lastN
          simp; omega
    exact this _ (Nat.le_refl _)
  · refine qnr (fun j hj => ?_)
    show drvQ d _ (off d _ + j) = _
    unfold drvQ
    rw [(qlM hj).2]
    unfold place2
    exact Bool.and_comm _ _

theorem qnN {l : qn} {d : qh} (h : designB l d = true) {k : Nat} (hk : k < d.Nets.length) : cntP (drvQ d (k : Int)) (places d).length = 1 := by
  rw [qnj (qab h)]
  unfold designB drvB at h
  simp only [Bool.and_eq_true] at h
  have := qa8.1 h.2.2.2 k hk
  rw [beq_iff_eq] at this
  omega
theorem qmQ {l : qn} {d : qh} (h : designB l d = true) {i j : Nat} (hi : i < (places d).length) (hj : j < (places d).length) (he : (gt (places d) i).net = (gt (places d) j).net) (h1 : (gt (places d) i).drives = true) (h2 : (gt (places d) j).drives = true) : i = j := by
  obtain ⟨n0, n1⟩ := qij h hi
  have e := qlo n0
  have := qnN h (k := (gt (places d) i).net.toNat) (by omega)
  refine qm2 (Nat.le_of_eq this) hi hj ?_ ?_
  · unfold drvQ; rw [← e, h1]; simp
  · unfold drvQ; rw [← e, h2, he]; simp
theorem qqq {l : qn} {d : qh} (h : designB l d = true) {k : Int} (h0 : 0 ≤ k) (h1 : k < d.Nets.length) : ∃ j, j < (places d).length ∧ (gt (places d) j).net = k ∧ (gt (places d) j).drives = true := by
  have e := qlo h0
  have := qnN h (k := k.toNat) (by omega)
  have hp : decide (0 < cntP (drvQ d ((k.toNat : Nat) : Int)) (places d).length) = true := by rw [this]; rfl
  rw [qmD, Bool.not_eq_true', qih] at hp
  obtain ⟨j, hj, hq⟩ := hp
  rw [Bool.not_eq_false', ← e] at hq
  unfold drvQ at hq
  simp only [Bool.and_eq_true, beq_iff_eq] at hq
  exact ⟨j, hj, hq.1, hq.2⟩

/-! ### Cells of instances -/

def cellAt (b : qw) (i : Int) : qA := gt b.Library.Cells (gt b.Design.Instances i.toNat).Cell.toNat
theorem qgE {l : qn} {d : qh} (h : designB l d = true) {i : Nat} (hi : i < d.Instances.length) :
    (0 ≤ (gt d.Instances i).Cell ∧ (gt d.Instances i).Cell < l.Cells.length) ∧ (gt d.Instances i).Nets.length = (gt l.Cells (gt d.Instances i).Cell.toNat).Pins.length ∧ cellB (gt l.Cells (gt d.Instances i).Cell.toNat) = true := by
  unfold designB libB at h
  simp only [Bool.and_eq_true] at h
  obtain ⟨⟨⟨hc, _⟩, _⟩, hI, _⟩ := h
  rw [qg2, qa8] at hI hc
  have := hI i hi
  unfold instB at this
  simp only [Bool.and_eq_true, qcY, beq_iff_eq] at this
  exact ⟨⟨this.1.1, by omega⟩, by omega, hc _ (by omega)⟩
theorem qmR {c : qA} (h : cellB c = true) {j : Nat} (hj : j < c.Arcs.length) : (1 ≤ (gt c.Arcs j).Kind ∧ (gt c.Arcs j).Kind ≤ 5) ∧ (0 ≤ (gt c.Arcs j).From ∧ (gt c.Arcs j).From < (c.Pins.length : Int) - 1) ∧ (0 ≤ (gt c.Arcs j).To ∧ (gt c.Arcs j).To ≤ (c.Pins.length : Int) - 1) ∧ arcS c.Pins (gt c.Arcs j) = true := by
  unfold cellB at h
  simp only [Bool.and_eq_true] at h
  obtain ⟨_, hp, ⟨ha, _⟩, _, _, hk⟩ := h
  have := qa8.1 ha j hj
  rw [Bool.and_eq_true, qo8 hp (ql7 hk)] at this
  have h1 := this.1
  refine ⟨qlV h1, ?_⟩
  have h2 := h1
  unfold arcS at h2
  simp only [Bool.and_eq_true, qcY] at h2
  refine ⟨⟨h2.1.1.1, by omega⟩, h2.1.2, h1⟩
theorem qji {c : qA} (h : cellB c = true) : c.Arcs.length ≤ 8 := by
  unfold cellB at h
  simp only [Bool.and_eq_true, decide_eq_true_eq] at h
  exact h.2.2.1.2
theorem qaK {b : qw} (h : blockB b = true) : designB b.Library b.Design = true := by
  unfold blockB at h; simp only [Bool.and_eq_true] at h; exact h.1.1
end Go.Fw
