/- By a program of mine (gen.py): for each function a plain function and the proof that the code computes it. -/
import Derived.Test.YthcphhbmdpepkaaGreatDoorFw33
import Derived.Test.YthcphhbmdpepkaaGreatDoorChecked
import Derived.Test.YthcphhbmdpepkaaGreatDoorS1

namespace Go.Fw
open Go Go.Proofs
open Go.RowKit (Below)
set_option maxRecDepth 100000
structure qal where
 Name : ByteArray
 Dir : Int
 Cap : Int
 Clock : Bool
instance gt_TPin : GoT qal := isoT (pairT instStr (pairT instInt (pairT instInt instBool))) (fun x => (x.Name, x.Dir, x.Cap, x.Clock)) ⟨ByteArray.empty, 0, 0, false⟩ rfl true (fun h => by cases h)
instance fl_TPin : Flat qal := qhk (pairT instStr (pairT instInt (pairT instInt instBool))) (fun x : qal => (x.Name, x.Dir, x.Cap, x.Clock)) ⟨ByteArray.empty, 0, 0, false⟩ rfl true (fun h => by cases h) (qcz _ _ (inferInstanceAs (Flat ByteArray)) (qcz _ _ (inferInstanceAs (Flat Int)) (qcz _ _ (inferInstanceAs (Flat Int)) (inferInstanceAs (Flat Bool)))))
theorem qbd {w : World} {S : Nat → Prop} {x : qal} {cs : List Value} (h : GoT.R w S x cs) : cs = [.string x.Name, .int .i64 x.Dir, .int .i64 x.Cap, .bool x.Clock] := by
 obtain ⟨_, _, rfl, rfl, ⟨_, _, rfl, rfl, ⟨_, _, rfl, rfl, rfl⟩⟩⟩ := h
 exact rfl
theorem qgU {w : World} {S : Nat → Prop} (x : qal) : GoT.R w S x [.string x.Name, .int .i64 x.Dir, .int .i64 x.Cap, .bool x.Clock] := ⟨[.string x.Name], [.int .i64 x.Dir, .int .i64 x.Cap, .bool x.Clock], rfl, rfl, ⟨[.int .i64 x.Dir], [.int .i64 x.Cap, .bool x.Clock], rfl, rfl, ⟨[.int .i64 x.Cap], [.bool x.Clock], rfl, rfl, rfl⟩⟩⟩
structure qE where
 Slews : (List Int)
 Loads : (List Int)
 Values : (List Int)
instance gt_TTable : GoT qE := isoT (pairT (@instList Int instInt) (pairT (@instList Int instInt) (@instList Int instInt))) (fun x => (x.Slews, x.Loads, x.Values)) ⟨[], [], []⟩ rfl true (fun h => by cases h)
theorem qbr {w : World} {S : Nat → Prop} {x : qE} {cs : List Value} (h : GoT.R w S x cs) : ∃ p0 k0 p1 k1 p2 k2, cs = [.slice p0 (x.Slews).length k0, .slice p1 (x.Loads).length k1, .slice p2 (x.Values).length k2] ∧ SlR w S x.Slews p0 k0 ∧ SlR w S x.Loads p1 k1 ∧ SlR w S x.Values p2 k2 := by
 obtain ⟨_, _, rfl, ⟨p0, k0, rfl, s0⟩, ⟨_, _, rfl, ⟨p1, k1, rfl, s1⟩, ⟨p2, k2, rfl, s2⟩⟩⟩ := h
 exact ⟨p0, k0, p1, k1, p2, k2, rfl, s0, s1, s2⟩
theorem qgx {w : World} {S : Nat → Prop} (x : qE) {p0 : Option Addr} {k0 : Nat} {p1 : Option Addr} {k1 : Nat} {p2 : Option Addr} {k2 : Nat} (s0 : SlR w S x.Slews p0 k0) (s1 : SlR w S x.Loads p1 k1) (s2 : SlR w S x.Values p2 k2) : GoT.R w S x [.slice p0 (x.Slews).length k0, .slice p1 (x.Loads).length k1, .slice p2 (x.Values).length k2] := ⟨[.slice p0 (x.Slews).length k0], [.slice p1 (x.Loads).length k1, .slice p2 (x.Values).length k2], rfl, ⟨p0, k0, rfl, s0⟩, ⟨[.slice p1 (x.Loads).length k1], [.slice p2 (x.Values).length k2], rfl, ⟨p1, k1, rfl, s1⟩, ⟨p2, k2, rfl, s2⟩⟩⟩
theorem qoc {w0 w : World} {L : List Ch} (x : qE) {I0 I1 I2 : List Nat} {c0 c1 c2 : List Value} (h : SH w0 w L) (h0 : PO w L I0 x.Slews c0) (h1 : PO w L I1 x.Loads c1) (h2 : PO w L I2 x.Values c2) (b0 : apartB I0 (I1 ++ I2) = true) (b1 : apartB I1 I2 = true) : PO w L (I0 ++ (I1 ++ I2)) x (c0 ++ (c1 ++ c2)) :=
 (qcM h h0 (qcM h h1 h2 b1) b0)

structure qX where
 Kind : Int
 From : Int
 To : Int
 Sense : Int
 Delay : (List qE)
 Slew : (List qE)
instance gt_TArc : GoT qX := isoT (pairT instInt (pairT instInt (pairT instInt (pairT instInt (pairT (@instList qE gt_TTable) (@instList qE gt_TTable)))))) (fun x => (x.Kind, x.From, x.To, x.Sense, x.Delay, x.Slew)) ⟨0, 0, 0, 0, [], []⟩ rfl true (fun h => by cases h)
theorem qao {w : World} {S : Nat → Prop} {x : qX} {cs : List Value} (h : GoT.R w S x cs) : ∃ p0 k0 p1 k1, cs = [.int .i64 x.Kind, .int .i64 x.From, .int .i64 x.To, .int .i64 x.Sense, .slice p0 (x.Delay).length k0, .slice p1 (x.Slew).length k1] ∧ SlR w S x.Delay p0 k0 ∧ SlR w S x.Slew p1 k1 := by
 obtain ⟨_, _, rfl, rfl, ⟨_, _, rfl, rfl, ⟨_, _, rfl, rfl, ⟨_, _, rfl, rfl, ⟨_, _, rfl, ⟨p0, k0, rfl, s0⟩, ⟨p1, k1, rfl, s1⟩⟩⟩⟩⟩⟩ := h
 exact ⟨p0, k0, p1, k1, rfl, s0, s1⟩
theorem qeU {w : World} {S : Nat → Prop} (x : qX) {p0 : Option Addr} {k0 : Nat} {p1 : Option Addr} {k1 : Nat} (s0 : SlR w S x.Delay p0 k0) (s1 : SlR w S x.Slew p1 k1) : GoT.R w S x [.int .i64 x.Kind, .int .i64 x.From, .int .i64 x.To, .int .i64 x.Sense, .slice p0 (x.Delay).length k0, .slice p1 (x.Slew).length k1] := ⟨[.int .i64 x.Kind], [.int .i64 x.From, .int .i64 x.To, .int .i64 x.Sense, .slice p0 (x.Delay).length k0, .slice p1 (x.Slew).length k1], rfl, rfl, ⟨[.int .i64 x.From], [.int .i64 x.To, .int .i64 x.Sense, .slice p0 (x.Delay).length k0, .slice p1 (x.Slew).length k1], rfl, rfl, ⟨[.int .i64 x.To], [.int .i64 x.Sense, .slice p0 (x.Delay).length k0, .slice p1 (x.Slew).length k1], rfl, rfl, ⟨[.int .i64 x.Sense], [.slice p0 (x.Delay).length k0, .slice p1 (x.Slew).length k1], rfl, rfl, ⟨[.slice p0 (x.Delay).length k0], [.slice p1 (x.Slew).length k1], rfl, ⟨p0, k0, rfl, s0⟩, ⟨p1, k1, rfl, s1⟩⟩⟩⟩⟩⟩
theorem qp0 {w0 w : World} {L : List Ch} (x : qX) {I0 I1 I2 I3 I4 I5 : List Nat} {c0 c1 c2 c3 c4 c5 : List Value} (h : SH w0 w L) (h0 : PO w L I0 x.Kind c0) (h1 : PO w L I1 x.From c1) (h2 : PO w L I2 x.To c2) (h3 : PO w L I3 x.Sense c3) (h4 : PO w L I4 x.Delay c4) (h5 : PO w L I5 x.Slew c5) (b0 : apartB I0 (I1 ++ (I2 ++ (I3 ++ (I4 ++ I5)))) = true) (b1 : apartB I1 (I2 ++ (I3 ++ (I4 ++ I5))) = true) (b2 : apartB I2 (I3 ++ (I4 ++ I5)) = true) (b3 : apartB I3 (I4 ++ I5) = true) (b4 : apartB I4 I5 = true) : PO w L (I0 ++ (I1 ++ (I2 ++ (I3 ++ (I4 ++ I5))))) x (c0 ++ (c1 ++ (c2 ++ (c3 ++ (c4 ++ c5))))) :=
 (qcM h h0 (qcM h h1 (qcM h h2 (qcM h h3 (qcM h h4 h5 b4) b3) b2) b1) b0)

structure qA where
 Name : ByteArray
 Kind : Int
 Pins : (List qal)
 Arcs : (List qX)
 Truth : (List Int)
 Leak : Int
 Energy : Int
instance gt_TCell : GoT qA := isoT (pairT instStr (pairT instInt (pairT (@instList qal gt_TPin) (pairT (@instList qX gt_TArc) (pairT (@instList Int instInt) (pairT instInt instInt)))))) (fun x => (x.Name, x.Kind, x.Pins, x.Arcs, x.Truth, x.Leak, x.Energy)) ⟨ByteArray.empty, 0, [], [], [], 0, 0⟩ rfl true (fun h => by cases h)
theorem qS {w : World} {S : Nat → Prop} {x : qA} {cs : List Value} (h : GoT.R w S x cs) : ∃ p0 k0 p1 k1 p2 k2, cs = [.string x.Name, .int .i64 x.Kind, .slice p0 (x.Pins).length k0, .slice p1 (x.Arcs).length k1, .slice p2 (x.Truth).length k2, .int .i64 x.Leak, .int .i64 x.Energy] ∧ SlR w S x.Pins p0 k0 ∧ SlR w S x.Arcs p1 k1 ∧ SlR w S x.Truth p2 k2 := by
 obtain ⟨_, _, rfl, rfl, ⟨_, _, rfl, rfl, ⟨_, _, rfl, ⟨p0, k0, rfl, s0⟩, ⟨_, _, rfl, ⟨p1, k1, rfl, s1⟩, ⟨_, _, rfl, ⟨p2, k2, rfl, s2⟩, ⟨_, _, rfl, rfl, rfl⟩⟩⟩⟩⟩⟩ := h
 exact ⟨p0, k0, p1, k1, p2, k2, rfl, s0, s1, s2⟩
theorem qfW {w : World} {S : Nat → Prop} (x : qA) {p0 : Option Addr} {k0 : Nat} {p1 : Option Addr} {k1 : Nat} {p2 : Option Addr} {k2 : Nat} (s0 : SlR w S x.Pins p0 k0) (s1 : SlR w S x.Arcs p1 k1) (s2 : SlR w S x.Truth p2 k2) : GoT.R w S x [.string x.Name, .int .i64 x.Kind, .slice p0 (x.Pins).length k0, .slice p1 (x.Arcs).length k1, .slice p2 (x.Truth).length k2, .int .i64 x.Leak, .int .i64 x.Energy] := ⟨[.string x.Name], [.int .i64 x.Kind, .slice p0 (x.Pins).length k0, .slice p1 (x.Arcs).length k1, .slice p2 (x.Truth).length k2, .int .i64 x.Leak, .int .i64 x.Energy], rfl, rfl, ⟨[.int .i64 x.Kind], [.slice p0 (x.Pins).length k0, .slice p1 (x.Arcs).length k1, .slice p2 (x.Truth).length k2, .int .i64 x.Leak, .int .i64 x.Energy], rfl, rfl, ⟨[.slice p0 (x.Pins).length k0], [.slice p1 (x.Arcs).length k1, .slice p2 (x.Truth).length k2, .int .i64 x.Leak, .int .i64 x.Energy], rfl, ⟨p0, k0, rfl, s0⟩, ⟨[.slice p1 (x.Arcs).length k1], [.slice p2 (x.Truth).length k2, .int .i64 x.Leak, .int .i64 x.Energy], rfl, ⟨p1, k1, rfl, s1⟩, ⟨[.slice p2 (x.Truth).length k2], [.int .i64 x.Leak, .int .i64 x.Energy], rfl, ⟨p2, k2, rfl, s2⟩, ⟨[.int .i64 x.Leak], [.int .i64 x.Energy], rfl, rfl, rfl⟩⟩⟩⟩⟩⟩
theorem qgy {w : World} {S : Nat → Prop} {x : qA} {p0 : Option Addr} {l0 k0 : Nat} {p1 : Option Addr} {l1 k1 : Nat} {p2 : Option Addr} {l2 k2 : Nat} (h : GoT.R w S x [.string x.Name, .int .i64 x.Kind, .slice p0 l0 k0, .slice p1 l1 k1, .slice p2 l2 k2, .int .i64 x.Leak, .int .i64 x.Energy]) : (SlR w S x.Pins p0 k0 ∧ l0 = (x.Pins).length) ∧ (SlR w S x.Arcs p1 k1 ∧ l1 = (x.Arcs).length) ∧ (SlR w S x.Truth p2 k2 ∧ l2 = (x.Truth).length) := by
 obtain ⟨q0, j0, q1, j1, q2, j2, he, s0, s1, s2⟩ := qS h
 cases he
 exact ⟨⟨s0, rfl⟩, ⟨s1, rfl⟩, ⟨s2, rfl⟩⟩
theorem qoY {w0 w : World} {L : List Ch} (x : qA) {I0 I1 I2 I3 I4 I5 I6 : List Nat} {c0 c1 c2 c3 c4 c5 c6 : List Value} (h : SH w0 w L) (h0 : PO w L I0 x.Name c0) (h1 : PO w L I1 x.Kind c1) (h2 : PO w L I2 x.Pins c2) (h3 : PO w L I3 x.Arcs c3) (h4 : PO w L I4 x.Truth c4) (h5 : PO w L I5 x.Leak c5) (h6 : PO w L I6 x.Energy c6) (b0 : apartB I0 (I1 ++ (I2 ++ (I3 ++ (I4 ++ (I5 ++ I6))))) = true) (b1 : apartB I1 (I2 ++ (I3 ++ (I4 ++ (I5 ++ I6)))) = true) (b2 : apartB I2 (I3 ++ (I4 ++ (I5 ++ I6))) = true) (b3 : apartB I3 (I4 ++ (I5 ++ I6)) = true) (b4 : apartB I4 (I5 ++ I6) = true) (b5 : apartB I5 I6 = true) : PO w L (I0 ++ (I1 ++ (I2 ++ (I3 ++ (I4 ++ (I5 ++ I6)))))) x (c0 ++ (c1 ++ (c2 ++ (c3 ++ (c4 ++ (c5 ++ c6)))))) :=
 (qcM h h0 (qcM h h1 (qcM h h2 (qcM h h3 (qcM h h4 (qcM h h5 h6 b5) b4) b3) b2) b1) b0)

structure qn where
 Cells : (List qA)
instance gt_TLibrary : GoT qn := isoT (@instList qA gt_TCell) (fun x => x.Cells) ⟨[]⟩ rfl true (fun h => by cases h)
theorem qbf {w : World} {S : Nat → Prop} {x : qn} {cs : List Value} (h : GoT.R w S x cs) : ∃ p0 k0, cs = [.slice p0 (x.Cells).length k0] ∧ SlR w S x.Cells p0 k0 := by
 obtain ⟨p0, k0, rfl, s0⟩ := h
 exact ⟨p0, k0, rfl, s0⟩
theorem qcW {w : World} {S : Nat → Prop} (x : qn) {p0 : Option Addr} {k0 : Nat} (s0 : SlR w S x.Cells p0 k0) : GoT.R w S x [.slice p0 (x.Cells).length k0] := ⟨p0, k0, rfl, s0⟩
theorem qmw {w0 w : World} {L : List Ch} (x : qn) {I0 : List Nat} {c0 : List Value} (_ : SH w0 w L) (h0 : PO w L I0 x.Cells c0) : PO w L I0 x c0 :=
 h0

structure ql where
 Name : ByteArray
 Cell : Int
 Nets : (List Int)
instance gt_TInstance : GoT ql := isoT (pairT instStr (pairT instInt (@instList Int instInt))) (fun x => (x.Name, x.Cell, x.Nets)) ⟨ByteArray.empty, 0, []⟩ rfl true (fun h => by cases h)
theorem qT {w : World} {S : Nat → Prop} {x : ql} {cs : List Value} (h : GoT.R w S x cs) : ∃ p0 k0, cs = [.string x.Name, .int .i64 x.Cell, .slice p0 (x.Nets).length k0] ∧ SlR w S x.Nets p0 k0 := by
 obtain ⟨_, _, rfl, rfl, ⟨_, _, rfl, rfl, ⟨p0, k0, rfl, s0⟩⟩⟩ := h
 exact ⟨p0, k0, rfl, s0⟩
theorem qeM {w : World} {S : Nat → Prop} (x : ql) {p0 : Option Addr} {k0 : Nat} (s0 : SlR w S x.Nets p0 k0) : GoT.R w S x [.string x.Name, .int .i64 x.Cell, .slice p0 (x.Nets).length k0] := ⟨[.string x.Name], [.int .i64 x.Cell, .slice p0 (x.Nets).length k0], rfl, rfl, ⟨[.int .i64 x.Cell], [.slice p0 (x.Nets).length k0], rfl, rfl, ⟨p0, k0, rfl, s0⟩⟩⟩
theorem qmk {w0 w : World} {L : List Ch} (x : ql) {I0 I1 I2 : List Nat} {c0 c1 c2 : List Value} (h : SH w0 w L) (h0 : PO w L I0 x.Name c0) (h1 : PO w L I1 x.Cell c1) (h2 : PO w L I2 x.Nets c2) (b0 : apartB I0 (I1 ++ I2) = true) (b1 : apartB I1 I2 = true) : PO w L (I0 ++ (I1 ++ I2)) x (c0 ++ (c1 ++ c2)) :=
 (qcM h h0 (qcM h h1 h2 b1) b0)

structure qae where
 Name : ByteArray
 Dir : Int
 Net : Int
instance gt_TPort : GoT qae := isoT (pairT instStr (pairT instInt instInt)) (fun x => (x.Name, x.Dir, x.Net)) ⟨ByteArray.empty, 0, 0⟩ rfl true (fun h => by cases h)
instance fl_TPort : Flat qae := qhk (pairT instStr (pairT instInt instInt)) (fun x : qae => (x.Name, x.Dir, x.Net)) ⟨ByteArray.empty, 0, 0⟩ rfl true (fun h => by cases h) (qcz _ _ (inferInstanceAs (Flat ByteArray)) (qcz _ _ (inferInstanceAs (Flat Int)) (inferInstanceAs (Flat Int))))
theorem qbc {w : World} {S : Nat → Prop} {x : qae} {cs : List Value} (h : GoT.R w S x cs) : cs = [.string x.Name, .int .i64 x.Dir, .int .i64 x.Net] := by
 obtain ⟨_, _, rfl, rfl, ⟨_, _, rfl, rfl, rfl⟩⟩ := h
 exact rfl
theorem qgw {w : World} {S : Nat → Prop} (x : qae) : GoT.R w S x [.string x.Name, .int .i64 x.Dir, .int .i64 x.Net] := ⟨[.string x.Name], [.int .i64 x.Dir, .int .i64 x.Net], rfl, rfl, ⟨[.int .i64 x.Dir], [.int .i64 x.Net], rfl, rfl, rfl⟩⟩
structure qh where
 Instances : (List ql)
 Nets : (List ByteArray)
 Ports : (List qae)
instance gt_TDesign : GoT qh := isoT (pairT (@instList ql gt_TInstance) (pairT (@instList ByteArray instStr) (@instList qae gt_TPort))) (fun x => (x.Instances, x.Nets, x.Ports)) ⟨[], [], []⟩ rfl true (fun h => by cases h)
theorem qai {w : World} {S : Nat → Prop} {x : qh} {cs : List Value} (h : GoT.R w S x cs) : ∃ p0 k0 p1 k1 p2 k2, cs = [.slice p0 (x.Instances).length k0, .slice p1 (x.Nets).length k1, .slice p2 (x.Ports).length k2] ∧ SlR w S x.Instances p0 k0 ∧ SlR w S x.Nets p1 k1 ∧ SlR w S x.Ports p2 k2 := by
 obtain ⟨_, _, rfl, ⟨p0, k0, rfl, s0⟩, ⟨_, _, rfl, ⟨p1, k1, rfl, s1⟩, ⟨p2, k2, rfl, s2⟩⟩⟩ := h
 exact ⟨p0, k0, p1, k1, p2, k2, rfl, s0, s1, s2⟩
theorem qaX {w : World} {S : Nat → Prop} (x : qh) {p0 : Option Addr} {k0 : Nat} {p1 : Option Addr} {k1 : Nat} {p2 : Option Addr} {k2 : Nat} (s0 : SlR w S x.Instances p0 k0) (s1 : SlR w S x.Nets p1 k1) (s2 : SlR w S x.Ports p2 k2) : GoT.R w S x [.slice p0 (x.Instances).length k0, .slice p1 (x.Nets).length k1, .slice p2 (x.Ports).length k2] := ⟨[.slice p0 (x.Instances).length k0], [.slice p1 (x.Nets).length k1, .slice p2 (x.Ports).length k2], rfl, ⟨p0, k0, rfl, s0⟩, ⟨[.slice p1 (x.Nets).length k1], [.slice p2 (x.Ports).length k2], rfl, ⟨p1, k1, rfl, s1⟩, ⟨p2, k2, rfl, s2⟩⟩⟩
theorem qny {w0 w : World} {L : List Ch} (x : qh) {I0 I1 I2 : List Nat} {c0 c1 c2 : List Value} (h : SH w0 w L) (h0 : PO w L I0 x.Instances c0) (h1 : PO w L I1 x.Nets c1) (h2 : PO w L I2 x.Ports c2) (b0 : apartB I0 (I1 ++ I2) = true) (b1 : apartB I1 I2 = true) : PO w L (I0 ++ (I1 ++ I2)) x (c0 ++ (c1 ++ c2)) :=
 (qcM h h0 (qcM h h1 h2 b1) b0)

structure qY where
 Parent : (List Int)
 Res : (List Int)
 Cap : (List Int)
 Sink : (List Int)
instance gt_TWire : GoT qY := isoT (pairT (@instList Int instInt) (pairT (@instList Int instInt) (pairT (@instList Int instInt) (@instList Int instInt)))) (fun x => (x.Parent, x.Res, x.Cap, x.Sink)) ⟨[], [], [], []⟩ rfl true (fun h => by cases h)
theorem qbw {w : World} {S : Nat → Prop} {x : qY} {cs : List Value} (h : GoT.R w S x cs) : ∃ p0 k0 p1 k1 p2 k2 p3 k3, cs = [.slice p0 (x.Parent).length k0, .slice p1 (x.Res).length k1, .slice p2 (x.Cap).length k2, .slice p3 (x.Sink).length k3] ∧ SlR w S x.Parent p0 k0 ∧ SlR w S x.Res p1 k1 ∧ SlR w S x.Cap p2 k2 ∧ SlR w S x.Sink p3 k3 := by
 obtain ⟨_, _, rfl, ⟨p0, k0, rfl, s0⟩, ⟨_, _, rfl, ⟨p1, k1, rfl, s1⟩, ⟨_, _, rfl, ⟨p2, k2, rfl, s2⟩, ⟨p3, k3, rfl, s3⟩⟩⟩⟩ := h
 exact ⟨p0, k0, p1, k1, p2, k2, p3, k3, rfl, s0, s1, s2, s3⟩
theorem qhe {w : World} {S : Nat → Prop} (x : qY) {p0 : Option Addr} {k0 : Nat} {p1 : Option Addr} {k1 : Nat} {p2 : Option Addr} {k2 : Nat} {p3 : Option Addr} {k3 : Nat} (s0 : SlR w S x.Parent p0 k0) (s1 : SlR w S x.Res p1 k1) (s2 : SlR w S x.Cap p2 k2) (s3 : SlR w S x.Sink p3 k3) : GoT.R w S x [.slice p0 (x.Parent).length k0, .slice p1 (x.Res).length k1, .slice p2 (x.Cap).length k2, .slice p3 (x.Sink).length k3] := ⟨[.slice p0 (x.Parent).length k0], [.slice p1 (x.Res).length k1, .slice p2 (x.Cap).length k2, .slice p3 (x.Sink).length k3], rfl, ⟨p0, k0, rfl, s0⟩, ⟨[.slice p1 (x.Res).length k1], [.slice p2 (x.Cap).length k2, .slice p3 (x.Sink).length k3], rfl, ⟨p1, k1, rfl, s1⟩, ⟨[.slice p2 (x.Cap).length k2], [.slice p3 (x.Sink).length k3], rfl, ⟨p2, k2, rfl, s2⟩, ⟨p3, k3, rfl, s3⟩⟩⟩⟩
theorem qo2 {w0 w : World} {L : List Ch} (x : qY) {I0 I1 I2 I3 : List Nat} {c0 c1 c2 c3 : List Value} (h : SH w0 w L) (h0 : PO w L I0 x.Parent c0) (h1 : PO w L I1 x.Res c1) (h2 : PO w L I2 x.Cap c2) (h3 : PO w L I3 x.Sink c3) (b0 : apartB I0 (I1 ++ (I2 ++ I3)) = true) (b1 : apartB I1 (I2 ++ I3) = true) (b2 : apartB I2 I3 = true) : PO w L (I0 ++ (I1 ++ (I2 ++ I3))) x (c0 ++ (c1 ++ (c2 ++ c3))) :=
 (qcM h h0 (qcM h h1 (qcM h h2 h3 b2) b1) b0)

structure qw where
 Library : qn
 Design : qh
 Wires : (List qY)
instance gt_TBlock : GoT qw := isoT (pairT gt_TLibrary (pairT gt_TDesign (@instList qY gt_TWire))) (fun x => (x.Library, x.Design, x.Wires)) ⟨(⟨[]⟩ : qn), (⟨[], [], []⟩ : qh), []⟩ rfl true (fun h => by cases h)
theorem qaw {w : World} {S : Nat → Prop} {x : qw} {cs : List Value} (h : GoT.R w S x cs) : ∃ p0 k0 p1 k1 p2 k2 p3 k3 p4 k4, cs = [.slice p0 (x.Library.Cells).length k0, .slice p1 (x.Design.Instances).length k1, .slice p2 (x.Design.Nets).length k2, .slice p3 (x.Design.Ports).length k3, .slice p4 (x.Wires).length k4] ∧ SlR w S x.Library.Cells p0 k0 ∧ SlR w S x.Design.Instances p1 k1 ∧ SlR w S x.Design.Nets p2 k2 ∧ SlR w S x.Design.Ports p3 k3 ∧ SlR w S x.Wires p4 k4 := by
 obtain ⟨_, _, rfl, ⟨p0, k0, rfl, s0⟩, ⟨_, _, rfl, ⟨_, _, rfl, ⟨p1, k1, rfl, s1⟩, ⟨_, _, rfl, ⟨p2, k2, rfl, s2⟩, ⟨p3, k3, rfl, s3⟩⟩⟩, ⟨p4, k4, rfl, s4⟩⟩⟩ := h
 exact ⟨p0, k0, p1, k1, p2, k2, p3, k3, p4, k4, rfl, s0, s1, s2, s3, s4⟩
theorem qk9 {w : World} {S : Nat → Prop} (x : qw) {p0 : Option Addr} {k0 : Nat} {p1 : Option Addr} {k1 : Nat} {p2 : Option Addr} {k2 : Nat} {p3 : Option Addr} {k3 : Nat} {p4 : Option Addr} {k4 : Nat} (s0 : SlR w S x.Library.Cells p0 k0) (s1 : SlR w S x.Design.Instances p1 k1) (s2 : SlR w S x.Design.Nets p2 k2) (s3 : SlR w S x.Design.Ports p3 k3) (s4 : SlR w S x.Wires p4 k4) : GoT.R w S x [.slice p0 (x.Library.Cells).length k0, .slice p1 (x.Design.Instances).length k1, .slice p2 (x.Design.Nets).length k2, .slice p3 (x.Design.Ports).length k3, .slice p4 (x.Wires).length k4] := ⟨[.slice p0 (x.Library.Cells).length k0], [.slice p1 (x.Design.Instances).length k1, .slice p2 (x.Design.Nets).length k2, .slice p3 (x.Design.Ports).length k3, .slice p4 (x.Wires).length k4], rfl, ⟨p0, k0, rfl, s0⟩, ⟨[.slice p1 (x.Design.Instances).length k1, .slice p2 (x.Design.Nets).length k2, .slice p3 (x.Design.Ports).length k3], [.slice p4 (x.Wires).length k4], rfl, ⟨[.slice p1 (x.Design.Instances).length k1], [.slice p2 (x.Design.Nets).length k2, .slice p3 (x.Design.Ports).length k3], rfl, ⟨p1, k1, rfl, s1⟩, ⟨[.slice p2 (x.Design.Nets).length k2], [.slice p3 (x.Design.Ports).length k3], rfl, ⟨p2, k2, rfl, s2⟩, ⟨p3, k3, rfl, s3⟩⟩⟩, ⟨p4, k4, rfl, s4⟩⟩⟩
theorem qn6 {w0 w : World} {L : List Ch} (x : qw) {I0 I1 I2 : List Nat} {c0 c1 c2 : List Value} (h : SH w0 w L) (h0 : PO w L I0 x.Library c0) (h1 : PO w L I1 x.Design c1) (h2 : PO w L I2 x.Wires c2) (b0 : apartB I0 (I1 ++ I2) = true) (b1 : apartB I1 I2 = true) : PO w L (I0 ++ (I1 ++ I2)) x (c0 ++ (c1 ++ c2)) :=
 (qcM h h0 (qcM h h1 h2 b1) b0)

structure qnD where
 Kind : Int
 Value : Int
 From : (List Int)
 Through : (List Int)
 To : (List Int)
instance gt_TException : GoT qnD := isoT (pairT instInt (pairT instInt (pairT (@instList Int instInt) (pairT (@instList Int instInt) (@instList Int instInt))))) (fun x => (x.Kind, x.Value, x.From, x.Through, x.To)) ⟨0, 0, [], [], []⟩ rfl true (fun h => by cases h)
structure Tplace where
 instance_ : Int
 pin : Int
 net : Int
 drives : Bool
instance gt_Tplace : GoT Tplace := isoT (pairT instInt (pairT instInt (pairT instInt instBool))) (fun x => (x.instance_, x.pin, x.net, x.drives)) ⟨0, 0, 0, false⟩ rfl true (fun h => by cases h)
instance fl_Tplace : Flat Tplace := qhk (pairT instInt (pairT instInt (pairT instInt instBool))) (fun x : Tplace => (x.instance_, x.pin, x.net, x.drives)) ⟨0, 0, 0, false⟩ rfl true (fun h => by cases h) (qcz _ _ (inferInstanceAs (Flat Int)) (qcz _ _ (inferInstanceAs (Flat Int)) (qcz _ _ (inferInstanceAs (Flat Int)) (inferInstanceAs (Flat Bool)))))
theorem qc6 {w : World} {S : Nat → Prop} {x : Tplace} {cs : List Value} (h : GoT.R w S x cs) : cs = [.int .i64 x.instance_, .int .i64 x.pin, .int .i64 x.net, .bool x.drives] := by
 obtain ⟨_, _, rfl, rfl, ⟨_, _, rfl, rfl, ⟨_, _, rfl, rfl, rfl⟩⟩⟩ := h
 exact rfl
theorem qgu {w : World} {S : Nat → Prop} (x : Tplace) : GoT.R w S x [.int .i64 x.instance_, .int .i64 x.pin, .int .i64 x.net, .bool x.drives] := ⟨[.int .i64 x.instance_], [.int .i64 x.pin, .int .i64 x.net, .bool x.drives], rfl, rfl, ⟨[.int .i64 x.pin], [.int .i64 x.net, .bool x.drives], rfl, rfl, ⟨[.int .i64 x.net], [.bool x.drives], rfl, rfl, rfl⟩⟩⟩
structure qa6 where
 From : Int
 To : Int
 Kind : Int
 Index : Int
instance gt_TLink : GoT qa6 := isoT (pairT instInt (pairT instInt (pairT instInt instInt))) (fun x => (x.From, x.To, x.Kind, x.Index)) ⟨0, 0, 0, 0⟩ rfl true (fun h => by cases h)
instance fl_TLink : Flat qa6 := qhk (pairT instInt (pairT instInt (pairT instInt instInt))) (fun x : qa6 => (x.From, x.To, x.Kind, x.Index)) ⟨0, 0, 0, 0⟩ rfl true (fun h => by cases h) (qcz _ _ (inferInstanceAs (Flat Int)) (qcz _ _ (inferInstanceAs (Flat Int)) (qcz _ _ (inferInstanceAs (Flat Int)) (inferInstanceAs (Flat Int)))))
theorem qlU {w : World} {S : Nat → Prop} (x : qa6) : GoT.R w S x [.int .i64 x.From, .int .i64 x.To, .int .i64 x.Kind, .int .i64 x.Index] := ⟨[.int .i64 x.From], [.int .i64 x.To, .int .i64 x.Kind, .int .i64 x.Index], rfl, rfl, ⟨[.int .i64 x.To], [.int .i64 x.Kind, .int .i64 x.Index], rfl, rfl, ⟨[.int .i64 x.Kind], [.int .i64 x.Index], rfl, rfl, rfl⟩⟩⟩
structure Tview where
 Block : qw
 places : (List Tplace)
 links : (List qa6)
 loads : (List Int)
 delays : (List (List Int))
 extras : (List Int)
instance gt_Tview : GoT Tview := isoT (pairT gt_TBlock (pairT (@instList Tplace gt_Tplace) (pairT (@instList qa6 gt_TLink) (pairT (@instList Int instInt) (pairT (@instList (List Int) (@instList Int instInt)) (@instList Int instInt)))))) (fun x => (x.Block, x.places, x.links, x.loads, x.delays, x.extras)) ⟨(⟨(⟨[]⟩ : qn), (⟨[], [], []⟩ : qh), []⟩ : qw), [], [], [], [], []⟩ rfl true (fun h => by cases h)
theorem qjd {w : World} {S : Nat → Prop} {x : Tview} {cs : List Value} (h : GoT.R w S x cs) : ∃ p0 k0 p1 k1 p2 k2 p3 k3 p4 k4 p5 k5 p6 k6 p7 k7 p8 k8 p9 k9, cs = [.slice p0 (x.Block.Library.Cells).length k0, .slice p1 (x.Block.Design.Instances).length k1, .slice p2 (x.Block.Design.Nets).length k2, .slice p3 (x.Block.Design.Ports).length k3, .slice p4 (x.Block.Wires).length k4, .slice p5 (x.places).length k5, .slice p6 (x.links).length k6, .slice p7 (x.loads).length k7, .slice p8 (x.delays).length k8, .slice p9 (x.extras).length k9] ∧ SlR w S x.Block.Library.Cells p0 k0 ∧ SlR w S x.Block.Design.Instances p1 k1 ∧ SlR w S x.Block.Design.Nets p2 k2 ∧ SlR w S x.Block.Design.Ports p3 k3 ∧ SlR w S x.Block.Wires p4 k4 ∧ SlR w S x.places p5 k5 ∧ SlR w S x.links p6 k6 ∧ SlR w S x.loads p7 k7 ∧ SlR w S x.delays p8 k8 ∧ SlR w S x.extras p9 k9 := by
 obtain ⟨_, _, rfl, ⟨_, _, rfl, ⟨p0, k0, rfl, s0⟩, ⟨_, _, rfl, ⟨_, _, rfl, ⟨p1, k1, rfl, s1⟩, ⟨_, _, rfl, ⟨p2, k2, rfl, s2⟩, ⟨p3, k3, rfl, s3⟩⟩⟩, ⟨p4, k4, rfl, s4⟩⟩⟩, ⟨_, _, rfl, ⟨p5, k5, rfl, s5⟩, ⟨_, _, rfl, ⟨p6, k6, rfl, s6⟩, ⟨_, _, rfl, ⟨p7, k7, rfl, s7⟩, ⟨_, _, rfl, ⟨p8, k8, rfl, s8⟩, ⟨p9, k9, rfl, s9⟩⟩⟩⟩⟩⟩ := h
 exact ⟨p0, k0, p1, k1, p2, k2, p3, k3, p4, k4, p5, k5, p6, k6, p7, k7, p8, k8, p9, k9, rfl, s0, s1, s2, s3, s4, s5, s6, s7, s8, s9⟩
structure Tl05Place where
 instance_ : Int
 pin : Int
 net : Int
 drives : Bool
instance gt_Tl05Place : GoT Tl05Place := isoT (pairT instInt (pairT instInt (pairT instInt instBool))) (fun x => (x.instance_, x.pin, x.net, x.drives)) ⟨0, 0, 0, false⟩ rfl true (fun h => by cases h)
instance fl_Tl05Place : Flat Tl05Place := qhk (pairT instInt (pairT instInt (pairT instInt instBool))) (fun x : Tl05Place => (x.instance_, x.pin, x.net, x.drives)) ⟨0, 0, 0, false⟩ rfl true (fun h => by cases h) (qcz _ _ (inferInstanceAs (Flat Int)) (qcz _ _ (inferInstanceAs (Flat Int)) (qcz _ _ (inferInstanceAs (Flat Int)) (inferInstanceAs (Flat Bool)))))
theorem qb2 {w : World} {S : Nat → Prop} {x : Tl05Place} {cs : List Value} (h : GoT.R w S x cs) : cs = [.int .i64 x.instance_, .int .i64 x.pin, .int .i64 x.net, .bool x.drives] := by
 obtain ⟨_, _, rfl, rfl, ⟨_, _, rfl, rfl, ⟨_, _, rfl, rfl, rfl⟩⟩⟩ := h
 exact rfl
theorem qfw {w : World} {S : Nat → Prop} (x : Tl05Place) : GoT.R w S x [.int .i64 x.instance_, .int .i64 x.pin, .int .i64 x.net, .bool x.drives] := ⟨[.int .i64 x.instance_], [.int .i64 x.pin, .int .i64 x.net, .bool x.drives], rfl, rfl, ⟨[.int .i64 x.pin], [.int .i64 x.net, .bool x.drives], rfl, rfl, ⟨[.int .i64 x.net], [.bool x.drives], rfl, rfl, rfl⟩⟩⟩
structure qP where
 e0 : Int
 e1 : Int
instance gt_TA2_Int : GoT qP := isoT (pairT instInt instInt) (fun x => (x.e0, x.e1)) ⟨0, 0⟩ rfl true (fun h => by cases h)
instance fl_TA2_Int : Flat qP := qhk (pairT instInt instInt) (fun x : qP => (x.e0, x.e1)) ⟨0, 0⟩ rfl true (fun h => by cases h) (qcz _ _ (inferInstanceAs (Flat Int)) (inferInstanceAs (Flat Int)))
theorem qmq {w : World} {S : Nat → Prop} {x : qP} {cs : List Value} (h : GoT.R w S x cs) : cs = [.int .i64 x.e0, .int .i64 x.e1] := by
 obtain ⟨_, _, rfl, rfl, rfl⟩ := h
 exact rfl
theorem qcC {w : World} {S : Nat → Prop} (x : qP) : GoT.R w S x [.int .i64 x.e0, .int .i64 x.e1] := ⟨[.int .i64 x.e0], [.int .i64 x.e1], rfl, rfl, rfl⟩
structure qhn where
 Early : Int
 Late : Int
instance gt_TSpan : GoT qhn := isoT (pairT instInt instInt) (fun x => (x.Early, x.Late)) ⟨0, 0⟩ rfl true (fun h => by cases h)
instance fl_TSpan : Flat qhn := qhk (pairT instInt instInt) (fun x : qhn => (x.Early, x.Late)) ⟨0, 0⟩ rfl true (fun h => by cases h) (qcz _ _ (inferInstanceAs (Flat Int)) (inferInstanceAs (Flat Int)))
theorem qnu {w : World} {S : Nat → Prop} {x : qhn} {cs : List Value} (h : GoT.R w S x cs) : cs = [.int .i64 x.Early, .int .i64 x.Late] := by
 obtain ⟨_, _, rfl, rfl, rfl⟩ := h
 exact rfl
theorem qlQ {w : World} {S : Nat → Prop} (x : qhn) : GoT.R w S x [.int .i64 x.Early, .int .i64 x.Late] := ⟨[.int .i64 x.Early], [.int .i64 x.Late], rfl, rfl, rfl⟩
def tab : Tab := [
 (2, ⟨.int .i64, 1, 8, some (.int .i64 0), []⟩),
 (3, ⟨.int .i64, 1, 8, some (.int .i64 0), []⟩),
 (4, ⟨.bool, 1, 1, some (.bool false), []⟩),
 (5, ⟨.int .u8, 1, 1, some (.int .u8 0), []⟩),
 (9, ⟨.str, 1, 16, some (.string ByteArray.empty), []⟩),
 (22, ⟨.slice 176, 1, 24, some (.slice none 0 0), []⟩),
 (24, ⟨.struct, 1, 24, some (.agg #[.slice none 0 0]), [(0, 1, some false)]⟩),
 (25, ⟨.slice 178, 1, 24, some (.slice none 0 0), []⟩),
 (26, ⟨.slice 9, 1, 24, some (.slice none 0 0), []⟩),
 (27, ⟨.slice 180, 1, 24, some (.slice none 0 0), []⟩),
 (29, ⟨.struct, 3, 72, some (.agg #[.slice none 0 0, .slice none 0 0, .slice none 0 0]), [(0, 1, some false), (1, 1, some false), (2, 1, some false)]⟩),
 (30, ⟨.slice 114, 1, 24, some (.slice none 0 0), []⟩),
 (32, ⟨.struct, 5, 120, some (.agg #[.slice none 0 0, .slice none 0 0, .slice none 0 0, .slice none 0 0, .slice none 0 0]), [(0, 1, some true), (1, 3, some true), (4, 1, some false)]⟩),
 (33, ⟨.slice 2, 1, 24, some (.slice none 0 0), []⟩),
 (35, ⟨.struct, 5, 88, some (.agg #[.int .i64 0, .int .i64 0, .slice none 0 0, .slice none 0 0, .slice none 0 0]), [(0, 1, some false), (1, 1, some false), (2, 1, some false), (3, 1, some false), (4, 1, some false)]⟩),
 (39, ⟨.slice 155, 1, 24, some (.slice none 0 0), []⟩),
 (41, ⟨.struct, 1, 24, some (.agg #[.slice none 0 0]), [(0, 1, some false)]⟩),
 (42, ⟨.slice 126, 1, 24, some (.slice none 0 0), []⟩),
 (43, ⟨.slice 148, 1, 24, some (.slice none 0 0), []⟩),
 (45, ⟨.struct, 3, 72, some (.agg #[.slice none 0 0, .slice none 0 0, .slice none 0 0]), [(0, 1, some false), (1, 1, some false), (2, 1, some false)]⟩),
 (46, ⟨.slice 117, 1, 24, some (.slice none 0 0), []⟩),
 (48, ⟨.struct, 5, 120, some (.agg #[.slice none 0 0, .slice none 0 0, .slice none 0 0, .slice none 0 0, .slice none 0 0]), [(0, 1, some true), (1, 3, some true), (4, 1, some false)]⟩),
 (50, ⟨.struct, 5, 88, some (.agg #[.int .i64 0, .int .i64 0, .slice none 0 0, .slice none 0 0, .slice none 0 0]), [(0, 1, some false), (1, 1, some false), (2, 1, some false), (3, 1, some false), (4, 1, some false)]⟩),
 (90, ⟨.slice 97, 1, 24, some (.slice none 0 0), []⟩),
 (91, ⟨.slice 130, 1, 24, some (.slice none 0 0), []⟩),
 (92, ⟨.slice 33, 1, 24, some (.slice none 0 0), []⟩),
 (94, ⟨.struct, 10, 240, some (.agg #[.slice none 0 0, .slice none 0 0, .slice none 0 0, .slice none 0 0, .slice none 0 0, .slice none 0 0, .slice none 0 0, .slice none 0 0, .slice none 0 0, .slice none 0 0]), [(0, 5, some true), (5, 1, some false), (6, 1, some false), (7, 1, some false), (8, 1, some false), (9, 1, some false)]⟩),
 (97, ⟨.struct, 4, 32, some (.agg #[.int .i64 0, .int .i64 0, .int .i64 0, .bool false]), [(0, 1, some false), (1, 1, some false), (2, 1, some false), (3, 1, some false)]⟩),
 (107, ⟨.slice 50, 1, 24, some (.slice none 0 0), []⟩),
 (114, ⟨.struct, 4, 96, some (.agg #[.slice none 0 0, .slice none 0 0, .slice none 0 0, .slice none 0 0]), [(0, 1, some false), (1, 1, some false), (2, 1, some false), (3, 1, some false)]⟩),
 (117, ⟨.struct, 4, 96, some (.agg #[.slice none 0 0, .slice none 0 0, .slice none 0 0, .slice none 0 0]), [(0, 1, some false), (1, 1, some false), (2, 1, some false), (3, 1, some false)]⟩),
 (126, ⟨.struct, 3, 48, some (.agg #[.string ByteArray.empty, .int .i64 0, .slice none 0 0]), [(0, 1, some false), (1, 1, some false), (2, 1, some false)]⟩),
 (130, ⟨.struct, 4, 32, some (.agg #[.int .i64 0, .int .i64 0, .int .i64 0, .int .i64 0]), [(0, 1, some false), (1, 1, some false), (2, 1, some false), (3, 1, some false)]⟩),
 (138, ⟨.slice 3, 1, 24, some (.slice none 0 0), []⟩),
 (141, ⟨.slice 144, 1, 24, some (.slice none 0 0), []⟩),
 (144, ⟨.struct, 4, 32, some (.agg #[.int .i64 0, .int .i64 0, .int .i64 0, .bool false]), [(0, 1, some false), (1, 1, some false), (2, 1, some false), (3, 1, some false)]⟩),
 (148, ⟨.struct, 3, 32, some (.agg #[.string ByteArray.empty, .int .i64 0, .int .i64 0]), [(0, 1, some false), (1, 1, some false), (2, 1, some false)]⟩),
 (152, ⟨.slice 199, 1, 24, some (.slice none 0 0), []⟩),
 (153, ⟨.slice 159, 1, 24, some (.slice none 0 0), []⟩),
 (155, ⟨.struct, 7, 112, some (.agg #[.string ByteArray.empty, .int .i64 0, .slice none 0 0, .slice none 0 0, .slice none 0 0, .int .i64 0, .int .i64 0]), [(0, 1, some false), (1, 1, some false), (2, 1, some false), (3, 1, some false), (4, 1, some false), (5, 1, some false), (6, 1, some false)]⟩),
 (157, ⟨.slice 238, 1, 24, some (.slice none 0 0), []⟩),
 (159, ⟨.struct, 6, 80, some (.agg #[.int .i64 0, .int .i64 0, .int .i64 0, .int .i64 0, .slice none 0 0, .slice none 0 0]), [(0, 1, some false), (1, 1, some false), (2, 1, some false), (3, 1, some false), (4, 1, some false), (5, 1, some false)]⟩),
 (173, ⟨.slice 221, 1, 24, some (.slice none 0 0), []⟩),
 (174, ⟨.slice 225, 1, 24, some (.slice none 0 0), []⟩),
 (176, ⟨.struct, 7, 112, some (.agg #[.string ByteArray.empty, .int .i64 0, .slice none 0 0, .slice none 0 0, .slice none 0 0, .int .i64 0, .int .i64 0]), [(0, 1, some false), (1, 1, some false), (2, 1, some false), (3, 1, some false), (4, 1, some false), (5, 1, some false), (6, 1, some false)]⟩),
 (178, ⟨.struct, 3, 48, some (.agg #[.string ByteArray.empty, .int .i64 0, .slice none 0 0]), [(0, 1, some false), (1, 1, some false), (2, 1, some false)]⟩),
 (180, ⟨.struct, 3, 32, some (.agg #[.string ByteArray.empty, .int .i64 0, .int .i64 0]), [(0, 1, some false), (1, 1, some false), (2, 1, some false)]⟩),
 (190, ⟨.slice 192, 1, 24, some (.slice none 0 0), []⟩),
 (192, ⟨.arr 2 2, 2, 16, some (.agg #[.int .i64 0, .int .i64 0]), []⟩),
 (199, ⟨.struct, 4, 40, some (.agg #[.string ByteArray.empty, .int .i64 0, .int .i64 0, .bool false]), [(0, 1, some false), (1, 1, some false), (2, 1, some false), (3, 1, some false)]⟩),
 (218, ⟨.slice 5, 1, 24, some (.slice none 0 0), []⟩),
 (221, ⟨.struct, 4, 40, some (.agg #[.string ByteArray.empty, .int .i64 0, .int .i64 0, .bool false]), [(0, 1, some false), (1, 1, some false), (2, 1, some false), (3, 1, some false)]⟩),
 (223, ⟨.slice 247, 1, 24, some (.slice none 0 0), []⟩),
 (225, ⟨.struct, 6, 80, some (.agg #[.int .i64 0, .int .i64 0, .int .i64 0, .int .i64 0, .slice none 0 0, .slice none 0 0]), [(0, 1, some false), (1, 1, some false), (2, 1, some false), (3, 1, some false), (4, 1, some false), (5, 1, some false)]⟩),
 (230, ⟨.int .u64, 1, 8, some (.int .u64 0), []⟩),
 (238, ⟨.struct, 3, 72, some (.agg #[.slice none 0 0, .slice none 0 0, .slice none 0 0]), [(0, 1, some false), (1, 1, some false), (2, 1, some false)]⟩),
 (247, ⟨.struct, 3, 72, some (.agg #[.slice none 0 0, .slice none 0 0, .slice none 0 0]), [(0, 1, some false), (1, 1, some false), (2, 1, some false)]⟩),
 (249, ⟨.struct, 2, 16, some (.agg #[.int .i64 0, .int .i64 0]), [(0, 1, some false), (1, 1, some false)]⟩)]
theorem qc : TabOk Tryz.prog tab := TabOk.mk (by kernel_rfl)
theorem rp {n : Nat} {Q : Exit → Act → World → Prop} {k : List It} {e : Env} {w : World} {all : Array Oper} {l : List Oper} {op : Op} {d t : Nat} {ps : String} {af : Array Edge} {v : Value}
  (h : pev tab e op = some v) (hn : Nat.blt d n = true) (hk : Run Tryz.prog n Q (.ops all l :: k) ((d, v) :: e) w) : Run Tryz.prog n Q (.ops all (⟨some d, op, t, ps, af, none⟩ :: l) :: k) e w := r_p qc h hn hk
theorem dp {n : Nat} {Q : Exit → Act → World → Prop} {k : List It} {e : Env} {w : World} {all : Array Oper} {l : List Oper} {op : Op} {d t : Nat} {ps : String} {af : Array Edge} {v : Value}
  (h : pev tab e op = some v) (hn : Nat.blt d n = true) (hk : RunD Tryz.prog n Q k all w l ((d, v) :: e)) : RunD Tryz.prog n Q k all w (⟨some d, op, t, ps, af, none⟩ :: l) e := d_p qc h hn hk
section
variable {P : Program} {n : Nat} {Q : Exit → Act → World → Prop} {k : List It} {e : Env} {w : World}
theorem zSR {i4 : Nat} {o5 : List Oper} {x3 : Code} (h : Run P n Q (.ops o5.toArray o5 :: .code x3 :: k) e w) : Run P n Q (.code (.seq (.region i4 o5.toArray false) x3) :: k) e w := qbg <| qB h
theorem zSSR {i6 : Nat} {o7 : List Oper} {x5 : Code} {x3 : Code} (h : Run P n Q (.ops o7.toArray o7 :: .code x5 :: .code x3 :: k) e w) : Run P n Q (.code (.seq (.seq (.region i6 o7.toArray false) x5) x3) :: k) e w := qbg <| qbg <| qB h
theorem zKSR {i5 : Nat} {o6 : List Oper} {x4 : Code} (h : Run P n Q (.ops o6.toArray o6 :: .code x4 :: k) e w) : Run P n Q (.code .skip :: .code (.seq (.region i5 o6.toArray false) x4) :: k) e w := qew <| qbg <| qB h
theorem zKSSR {i7 : Nat} {o8 : List Oper} {x6 : Code} {x4 : Code} (h : Run P n Q (.ops o8.toArray o8 :: .code x6 :: .code x4 :: k) e w) : Run P n Q (.code .skip :: .code (.seq (.seq (.region i7 o8.toArray false) x6) x4) :: k) e w := qew <| qbg <| qbg <| qB h
theorem zNSR {a1 : Array Oper} {i5 : Nat} {o6 : List Oper} {x4 : Code} (h : Run P n Q (.ops o6.toArray o6 :: .code x4 :: k) e w) : Run P n Q (.ops a1 [] :: .code (.seq (.region i5 o6.toArray false) x4) :: k) e w := qb <| qbg <| qB h
theorem zNSSR {a1 : Array Oper} {i7 : Nat} {o8 : List Oper} {x6 : Code} {x4 : Code} (h : Run P n Q (.ops o8.toArray o8 :: .code x6 :: .code x4 :: k) e w) : Run P n Q (.ops a1 [] :: .code (.seq (.seq (.region i7 o8.toArray false) x6) x4) :: k) e w := qb <| qbg <| qbg <| qB h
theorem zKS {x3 : Code} {x4 : Code} (h : Run P n Q (.code x3 :: .code x4 :: k) e w) : Run P n Q (.code .skip :: .code (.seq x3 x4) :: k) e w := qew <| qbg h
theorem zNS {a1 : Array Oper} {x3 : Code} {x4 : Code} (h : Run P n Q (.code x3 :: .code x4 :: k) e w) : Run P n Q (.ops a1 [] :: .code (.seq x3 x4) :: k) e w := qb <| qbg h
theorem zNSS {a1 : Array Oper} {x5 : Code} {x6 : Code} {x4 : Code} (h : Run P n Q (.code x5 :: .code x6 :: .code x4 :: k) e w) : Run P n Q (.ops a1 [] :: .code (.seq (.seq x5 x6) x4) :: k) e w := qb <| qbg <| qbg h
theorem zBSR {i2 : Nat} {i6 : Nat} {o7 : List Oper} {x5 : Code} (h : Run P n Q (.ops o7.toArray o7 :: .code x5 :: .blk i2 :: k) e w) : Run P n Q (.code (.block i2 (.seq (.region i6 o7.toArray false) x5)) :: k) e w := qv <| qbg <| qB h
theorem zKSB {i5 : Nat} {x6 : Code} {x4 : Code} (h : Run P n Q (.code x6 :: .blk i5 :: .code x4 :: k) e w) : Run P n Q (.code .skip :: .code (.seq (.block i5 x6) x4) :: k) e w := qew <| qbg <| qv h
theorem zKSBR {i5 : Nat} {i7 : Nat} {o8 : List Oper} {x4 : Code} (h : Run P n Q (.ops o8.toArray o8 :: .blk i5 :: .code x4 :: k) e w) : Run P n Q (.code .skip :: .code (.seq (.block i5 (.region i7 o8.toArray false)) x4) :: k) e w := qew <| qbg <| qv <| qB h
theorem zKSBSR {i5 : Nat} {i9 : Nat} {o10 : List Oper} {x8 : Code} {x4 : Code} (h : Run P n Q (.ops o10.toArray o10 :: .code x8 :: .blk i5 :: .code x4 :: k) e w) : Run P n Q (.code .skip :: .code (.seq (.block i5 (.seq (.region i9 o10.toArray false) x8)) x4) :: k) e w := qew <| qbg <| qv <| qbg <| qB h
theorem zKE {i2 : Nat} (h : Run P n Q (k) e w) : Run P n Q (.code .skip :: .blk i2 :: k) e w := qew <| qem h
theorem zKER {i4 : Nat} {o5 : List Oper} {i2 : Nat} (h : Run P n Q (.ops o5.toArray o5 :: k) e w) : Run P n Q (.code .skip :: .blk i2 :: .code (.region i4 o5.toArray false) :: k) e w := qew <| qem <| qB h
theorem zNER {a1 : Array Oper} {i4 : Nat} {o5 : List Oper} {i2 : Nat} (h : Run P n Q (.ops o5.toArray o5 :: k) e w) : Run P n Q (.ops a1 [] :: .blk i2 :: .code (.region i4 o5.toArray false) :: k) e w := qb <| qem <| qB h
theorem zNSB {a1 : Array Oper} {i5 : Nat} {x6 : Code} {x4 : Code} (h : Run P n Q (.code x6 :: .blk i5 :: .code x4 :: k) e w) : Run P n Q (.ops a1 [] :: .code (.seq (.block i5 x6) x4) :: k) e w := qb <| qbg <| qv h
theorem zSS {x4 : Code} {x5 : Code} {x3 : Code} (h : Run P n Q (.code x4 :: .code x5 :: .code x3 :: k) e w) : Run P n Q (.code (.seq (.seq x4 x5) x3) :: k) e w := qbg <| qbg h
theorem zKSS {x5 : Code} {x6 : Code} {x4 : Code} (h : Run P n Q (.code x5 :: .code x6 :: .code x4 :: k) e w) : Run P n Q (.code .skip :: .code (.seq (.seq x5 x6) x4) :: k) e w := qew <| qbg <| qbg h
end
section
variable {w0 w : World} {L : List Ch} {n : Nat} {Q : Exit → Act → World → Prop} {k : List It} {e : Env} {all : Array Oper} {l : List Oper}
theorem zp1 {op0 : Op} {d0 t0 : Nat} {s0 : String} {f0 : Array Edge} {v0 : Value} (h : (pev tab (e) op0, Nat.blt d0 n) = (some v0, true)) (hk : Run Tryz.prog n Q (.ops all l :: k) ((d0, v0) :: e) w) : Run Tryz.prog n Q (.ops all (⟨some d0, op0, t0, s0, f0, none⟩ :: l) :: k) e w := by
 have H := h
 simp only [Prod.mk.injEq] at H
 exact rp (H.1) (H.2) (hk)
theorem zd1 {op0 : Op} {d0 t0 : Nat} {s0 : String} {f0 : Array Edge} {v0 : Value} (h : (pev tab (e) op0, Nat.blt d0 n) = (some v0, true)) (hk : RunD Tryz.prog n Q k all w l ((d0, v0) :: e)) : RunD Tryz.prog n Q k all w (⟨some d0, op0, t0, s0, f0, none⟩ :: l) e := by
 have H := h
 simp only [Prod.mk.injEq] at H
 exact dp (H.1) (H.2) (hk)
theorem zp2 {op0 : Op} {d0 t0 : Nat} {s0 : String} {f0 : Array Edge} {v0 : Value} {op1 : Op} {d1 t1 : Nat} {s1 : String} {f1 : Array Edge} {v1 : Value} (h : (pev tab (e) op0, Nat.blt d0 n, pev tab ((d0, v0) :: e) op1, Nat.blt d1 n) = (some v0, true, some v1, true)) (hk : Run Tryz.prog n Q (.ops all l :: k) ((d1, v1) :: (d0, v0) :: e) w) : Run Tryz.prog n Q (.ops all (⟨some d0, op0, t0, s0, f0, none⟩ :: ⟨some d1, op1, t1, s1, f1, none⟩ :: l) :: k) e w := by
 have H := h
 simp only [Prod.mk.injEq] at H
 exact rp (H.1) (H.2.1) (rp (H.2.2.1) (H.2.2.2) (hk))
theorem zd2 {op0 : Op} {d0 t0 : Nat} {s0 : String} {f0 : Array Edge} {v0 : Value} {op1 : Op} {d1 t1 : Nat} {s1 : String} {f1 : Array Edge} {v1 : Value} (h : (pev tab (e) op0, Nat.blt d0 n, pev tab ((d0, v0) :: e) op1, Nat.blt d1 n) = (some v0, true, some v1, true)) (hk : RunD Tryz.prog n Q k all w l ((d1, v1) :: (d0, v0) :: e)) : RunD Tryz.prog n Q k all w (⟨some d0, op0, t0, s0, f0, none⟩ :: ⟨some d1, op1, t1, s1, f1, none⟩ :: l) e := by
 have H := h
 simp only [Prod.mk.injEq] at H
 exact dp (H.1) (H.2.1) (dp (H.2.2.1) (H.2.2.2) (hk))
theorem zp3 {op0 : Op} {d0 t0 : Nat} {s0 : String} {f0 : Array Edge} {v0 : Value} {op1 : Op} {d1 t1 : Nat} {s1 : String} {f1 : Array Edge} {v1 : Value} {op2 : Op} {d2 t2 : Nat} {s2 : String} {f2 : Array Edge} {v2 : Value} (h : (pev tab (e) op0, Nat.blt d0 n, pev tab ((d0, v0) :: e) op1, Nat.blt d1 n, pev tab ((d1, v1) :: (d0, v0) :: e) op2, Nat.blt d2 n) = (some v0, true, some v1, true, some v2, true)) (hk : Run Tryz.prog n Q (.ops all l :: k) ((d2, v2) :: (d1, v1) :: (d0, v0) :: e) w) : Run Tryz.prog n Q (.ops all (⟨some d0, op0, t0, s0, f0, none⟩ :: ⟨some d1, op1, t1, s1, f1, none⟩ :: ⟨some d2, op2, t2, s2, f2, none⟩ :: l) :: k) e w := by
 have H := h
 simp only [Prod.mk.injEq] at H
 exact rp (H.1) (H.2.1) (rp (H.2.2.1) (H.2.2.2.1) (rp (H.2.2.2.2.1) (H.2.2.2.2.2) (hk)))
theorem zd3 {op0 : Op} {d0 t0 : Nat} {s0 : String} {f0 : Array Edge} {v0 : Value} {op1 : Op} {d1 t1 : Nat} {s1 : String} {f1 : Array Edge} {v1 : Value} {op2 : Op} {d2 t2 : Nat} {s2 : String} {f2 : Array Edge} {v2 : Value} (h : (pev tab (e) op0, Nat.blt d0 n, pev tab ((d0, v0) :: e) op1, Nat.blt d1 n, pev tab ((d1, v1) :: (d0, v0) :: e) op2, Nat.blt d2 n) = (some v0, true, some v1, true, some v2, true)) (hk : RunD Tryz.prog n Q k all w l ((d2, v2) :: (d1, v1) :: (d0, v0) :: e)) : RunD Tryz.prog n Q k all w (⟨some d0, op0, t0, s0, f0, none⟩ :: ⟨some d1, op1, t1, s1, f1, none⟩ :: ⟨some d2, op2, t2, s2, f2, none⟩ :: l) e := by
 have H := h
 simp only [Prod.mk.injEq] at H
 exact dp (H.1) (H.2.1) (dp (H.2.2.1) (H.2.2.2.1) (dp (H.2.2.2.2.1) (H.2.2.2.2.2) (hk)))
theorem zp4 {op0 : Op} {d0 t0 : Nat} {s0 : String} {f0 : Array Edge} {v0 : Value} {op1 : Op} {d1 t1 : Nat} {s1 : String} {f1 : Array Edge} {v1 : Value} {op2 : Op} {d2 t2 : Nat} {s2 : String} {f2 : Array Edge} {v2 : Value} {op3 : Op} {d3 t3 : Nat} {s3 : String} {f3 : Array Edge} {v3 : Value} (h : (pev tab (e) op0, Nat.blt d0 n, pev tab ((d0, v0) :: e) op1, Nat.blt d1 n, pev tab ((d1, v1) :: (d0, v0) :: e) op2, Nat.blt d2 n, pev tab ((d2, v2) :: (d1, v1) :: (d0, v0) :: e) op3, Nat.blt d3 n) = (some v0, true, some v1, true, some v2, true, some v3, true)) (hk : Run Tryz.prog n Q (.ops all l :: k) ((d3, v3) :: (d2, v2) :: (d1, v1) :: (d0, v0) :: e) w) : Run Tryz.prog n Q (.ops all (⟨some d0, op0, t0, s0, f0, none⟩ :: ⟨some d1, op1, t1, s1, f1, none⟩ :: ⟨some d2, op2, t2, s2, f2, none⟩ :: ⟨some d3, op3, t3, s3, f3, none⟩ :: l) :: k) e w := by
 have H := h
 simp only [Prod.mk.injEq] at H
 exact rp (H.1) (H.2.1) (rp (H.2.2.1) (H.2.2.2.1) (rp (H.2.2.2.2.1) (H.2.2.2.2.2.1) (rp (H.2.2.2.2.2.2.1) (H.2.2.2.2.2.2.2) (hk))))
theorem zp5 {op0 : Op} {d0 t0 : Nat} {s0 : String} {f0 : Array Edge} {v0 : Value} {op1 : Op} {d1 t1 : Nat} {s1 : String} {f1 : Array Edge} {v1 : Value} {op2 : Op} {d2 t2 : Nat} {s2 : String} {f2 : Array Edge} {v2 : Value} {op3 : Op} {d3 t3 : Nat} {s3 : String} {f3 : Array Edge} {v3 : Value} {op4 : Op} {d4 t4 : Nat} {s4 : String} {f4 : Array Edge} {v4 : Value} (h : (pev tab (e) op0, Nat.blt d0 n, pev tab ((d0, v0) :: e) op1, Nat.blt d1 n, pev tab ((d1, v1) :: (d0, v0) :: e) op2, Nat.blt d2 n, pev tab ((d2, v2) :: (d1, v1) :: (d0, v0) :: e) op3, Nat.blt d3 n, pev tab ((d3, v3) :: (d2, v2) :: (d1, v1) :: (d0, v0) :: e) op4, Nat.blt d4 n) = (some v0, true, some v1, true, some v2, true, some v3, true, some v4, true)) (hk : Run Tryz.prog n Q (.ops all l :: k) ((d4, v4) :: (d3, v3) :: (d2, v2) :: (d1, v1) :: (d0, v0) :: e) w) : Run Tryz.prog n Q (.ops all (⟨some d0, op0, t0, s0, f0, none⟩ :: ⟨some d1, op1, t1, s1, f1, none⟩ :: ⟨some d2, op2, t2, s2, f2, none⟩ :: ⟨some d3, op3, t3, s3, f3, none⟩ :: ⟨some d4, op4, t4, s4, f4, none⟩ :: l) :: k) e w := by
 have H := h
 simp only [Prod.mk.injEq] at H
 exact rp (H.1) (H.2.1) (rp (H.2.2.1) (H.2.2.2.1) (rp (H.2.2.2.2.1) (H.2.2.2.2.2.1) (rp (H.2.2.2.2.2.2.1) (H.2.2.2.2.2.2.2.1) (rp (H.2.2.2.2.2.2.2.2.1) (H.2.2.2.2.2.2.2.2.2) (hk)))))
theorem zn1 {o0 : Oper} {d0 : Nat} (h : (notW (e) all o0, o0.dst, Nat.blt d0 n) = (true, some d0, true)) (hk : Run Tryz.prog n Q (.ops all l :: k) ((d0, undef) :: e) w) : Run Tryz.prog n Q (.ops all (o0 :: l) :: k) e w := by
 have H := h
 simp only [Prod.mk.injEq] at H
 exact qht (H.1) (H.2.1) (H.2.2) (hk)
theorem zn2 {o0 : Oper} {d0 : Nat} {o1 : Oper} {d1 : Nat} (h : (notW (e) all o0, o0.dst, Nat.blt d0 n, notW ((d0, undef) :: e) all o1, o1.dst, Nat.blt d1 n) = (true, some d0, true, true, some d1, true)) (hk : Run Tryz.prog n Q (.ops all l :: k) ((d1, undef) :: (d0, undef) :: e) w) : Run Tryz.prog n Q (.ops all (o0 :: o1 :: l) :: k) e w := by
 have H := h
 simp only [Prod.mk.injEq] at H
 exact qht (H.1) (H.2.1) (H.2.2.1) (qht (H.2.2.2.1) (H.2.2.2.2.1) (H.2.2.2.2.2) (hk))
theorem zn3 {o0 : Oper} {d0 : Nat} {o1 : Oper} {d1 : Nat} {o2 : Oper} {d2 : Nat} (h : (notW (e) all o0, o0.dst, Nat.blt d0 n, notW ((d0, undef) :: e) all o1, o1.dst, Nat.blt d1 n, notW ((d1, undef) :: (d0, undef) :: e) all o2, o2.dst, Nat.blt d2 n) = (true, some d0, true, true, some d1, true, true, some d2, true)) (hk : Run Tryz.prog n Q (.ops all l :: k) ((d2, undef) :: (d1, undef) :: (d0, undef) :: e) w) : Run Tryz.prog n Q (.ops all (o0 :: o1 :: o2 :: l) :: k) e w := by
 have H := h
 simp only [Prod.mk.injEq] at H
 exact qht (H.1) (H.2.1) (H.2.2.1) (qht (H.2.2.2.1) (H.2.2.2.2.1) (H.2.2.2.2.2.1) (qht (H.2.2.2.2.2.2.1) (H.2.2.2.2.2.2.2.1) (H.2.2.2.2.2.2.2.2) (hk)))
theorem zn4 {o0 : Oper} {d0 : Nat} {o1 : Oper} {d1 : Nat} {o2 : Oper} {d2 : Nat} {o3 : Oper} {d3 : Nat} (h : (notW (e) all o0, o0.dst, Nat.blt d0 n, notW ((d0, undef) :: e) all o1, o1.dst, Nat.blt d1 n, notW ((d1, undef) :: (d0, undef) :: e) all o2, o2.dst, Nat.blt d2 n, notW ((d2, undef) :: (d1, undef) :: (d0, undef) :: e) all o3, o3.dst, Nat.blt d3 n) = (true, some d0, true, true, some d1, true, true, some d2, true, true, some d3, true)) (hk : Run Tryz.prog n Q (.ops all l :: k) ((d3, undef) :: (d2, undef) :: (d1, undef) :: (d0, undef) :: e) w) : Run Tryz.prog n Q (.ops all (o0 :: o1 :: o2 :: o3 :: l) :: k) e w := by
 have H := h
 simp only [Prod.mk.injEq] at H
 exact qht (H.1) (H.2.1) (H.2.2.1) (qht (H.2.2.2.1) (H.2.2.2.2.1) (H.2.2.2.2.2.1) (qht (H.2.2.2.2.2.2.1) (H.2.2.2.2.2.2.2.1) (H.2.2.2.2.2.2.2.2.1) (qht (H.2.2.2.2.2.2.2.2.2.1) (H.2.2.2.2.2.2.2.2.2.2.1) (H.2.2.2.2.2.2.2.2.2.2.2) (hk))))
theorem zn5 {o0 : Oper} {d0 : Nat} {o1 : Oper} {d1 : Nat} {o2 : Oper} {d2 : Nat} {o3 : Oper} {d3 : Nat} {o4 : Oper} {d4 : Nat} (h : (notW (e) all o0, o0.dst, Nat.blt d0 n, notW ((d0, undef) :: e) all o1, o1.dst, Nat.blt d1 n, notW ((d1, undef) :: (d0, undef) :: e) all o2, o2.dst, Nat.blt d2 n, notW ((d2, undef) :: (d1, undef) :: (d0, undef) :: e) all o3, o3.dst, Nat.blt d3 n, notW ((d3, undef) :: (d2, undef) :: (d1, undef) :: (d0, undef) :: e) all o4, o4.dst, Nat.blt d4 n) = (true, some d0, true, true, some d1, true, true, some d2, true, true, some d3, true, true, some d4, true)) (hk : Run Tryz.prog n Q (.ops all l :: k) ((d4, undef) :: (d3, undef) :: (d2, undef) :: (d1, undef) :: (d0, undef) :: e) w) : Run Tryz.prog n Q (.ops all (o0 :: o1 :: o2 :: o3 :: o4 :: l) :: k) e w := by
 have H := h
 simp only [Prod.mk.injEq] at H
 exact qht (H.1) (H.2.1) (H.2.2.1) (qht (H.2.2.2.1) (H.2.2.2.2.1) (H.2.2.2.2.2.1) (qht (H.2.2.2.2.2.2.1) (H.2.2.2.2.2.2.2.1) (H.2.2.2.2.2.2.2.2.1) (qht (H.2.2.2.2.2.2.2.2.2.1) (H.2.2.2.2.2.2.2.2.2.2.1) (H.2.2.2.2.2.2.2.2.2.2.2.1) (qht (H.2.2.2.2.2.2.2.2.2.2.2.2.1) (H.2.2.2.2.2.2.2.2.2.2.2.2.2.1) (H.2.2.2.2.2.2.2.2.2.2.2.2.2.2) (hk)))))
theorem zl (i j : Nat) {d t ty : Nat} {x : Operand} {te : TE} {ps : String} {af : Array Edge} {v : Value} {b : Nat} {cs : List Value} {t' : TypeId} (h : SH w0 w L) (hh : (L[i]?, opv e x, tab.get t, ld te cs j, Nat.blt d n) = (some (Ch.box b cs t'), some (.pointer (some ⟨b, 0 + j, none⟩)), some te, some v, true))
  (hk : Run Tryz.prog n Q (.ops all l :: k) ((d, v) :: e) w) : Run Tryz.prog n Q (.ops all (⟨some d, .load t x, ty, ps, af, none⟩ :: l) :: k) e w := by
 simp only [Prod.mk.injEq] at hh
 exact r_v (qbx qc (h.box i hh.1) (j := j) hh.2.1 hh.2.2.1 hh.2.2.2.1) hh.2.2.2.2 hk
theorem zc (j : Nat) {d t ty : Nat} {x : Operand} {te : TE} {ps : String} {af : Array Edge} {v : Value} {b o : Nat} {cs : List Value} (h : CellsAt w b o cs) (hh : (opv e x, tab.get t, ld te cs j, Nat.blt d n) = (some (.pointer (some ⟨b, o + j, none⟩)), some te, some v, true))
  (hk : Run Tryz.prog n Q (.ops all l :: k) ((d, v) :: e) w) : Run Tryz.prog n Q (.ops all (⟨some d, .load t x, ty, ps, af, none⟩ :: l) :: k) e w := by
 simp only [Prod.mk.injEq] at hh
 exact r_v (qbx qc h (j := j) hh.1 hh.2.1 hh.2.2.1) hh.2.2.2 hk
theorem zdl (i j : Nat) {d t ty : Nat} {x : Operand} {te : TE} {ps : String} {af : Array Edge} {v : Value} {b : Nat} {cs : List Value} {t' : TypeId} (h : SH w0 w L) (hh : (L[i]?, opv e x, tab.get t, ld te cs j, Nat.blt d n) = (some (Ch.box b cs t'), some (.pointer (some ⟨b, 0 + j, none⟩)), some te, some v, true))
  (hk : RunD Tryz.prog n Q k all w l ((d, v) :: e)) : RunD Tryz.prog n Q k all w (⟨some d, .load t x, ty, ps, af, none⟩ :: l) e := by
 simp only [Prod.mk.injEq] at hh
 exact d_v (fun _ hb => qbx qc ((h.box i hh.1).below hb) (j := j) hh.2.1 hh.2.2.1 hh.2.2.2.1) hh.2.2.2.2 hk
theorem zdc (j : Nat) {d t ty : Nat} {x : Operand} {te : TE} {ps : String} {af : Array Edge} {v : Value} {b o : Nat} {cs : List Value} (h : CellsAt w b o cs) (hh : (opv e x, tab.get t, ld te cs j, Nat.blt d n) = (some (.pointer (some ⟨b, o + j, none⟩)), some te, some v, true))
  (hk : RunD Tryz.prog n Q k all w l ((d, v) :: e)) : RunD Tryz.prog n Q k all w (⟨some d, .load t x, ty, ps, af, none⟩ :: l) e := by
 simp only [Prod.mk.injEq] at hh
 exact d_v (fun _ hb => qbx qc (h.below hb) (j := j) hh.1 hh.2.1 hh.2.2.1) hh.2.2.2 hk
theorem zx {x i : Operand} {t ty d el m : Nat} {te te1 : TE} {ps : String} {af : Array Edge} {p : Option Addr} {ln c : Nat} {kd : IntKind} {iv : Int} {b o q : Nat} (hp : p = some ⟨b, o, none⟩) (hq : q = o + iv.toNat * m) (hlt : 0 ≤ iv ∧ iv < ln) (hh : (opv e x, opv e i, tab.get t, te.kind, tab.get el, te1.size, Nat.blt d n) = (some (.slice p ln c), some (.int kd iv), some te, TK.slice el, some te1, m, true)) (hk : Run Tryz.prog n Q (.ops all l :: k) ((d, .pointer (some ⟨b, q, none⟩)) :: e) w) : Run Tryz.prog n Q (.ops all (⟨some d, .indexAddr t x i, ty, ps, af, none⟩ :: l) :: k) e w := by
 simp only [Prod.mk.injEq] at hh
 exact r_v (qfq qc hp hq hlt hh.1 hh.2.1 hh.2.2.1 hh.2.2.2.1 hh.2.2.2.2.1 hh.2.2.2.2.2.1) hh.2.2.2.2.2.2 hk
theorem zxe {x i : Operand} {t ty d el m : Nat} {te te1 : TE} {ps : String} {af : Array Edge} {p : Option Addr} {ln c : Nat} {kd : IntKind} {iv : Int} {b o q : Nat} {α : Prop} (hp : p = some ⟨b, o, none⟩) (hq : q = o + iv.toNat * m) (hlt : 0 ≤ iv ∧ iv < ln ∧ α) (hh : (opv e x, opv e i, tab.get t, te.kind, tab.get el, te1.size, Nat.blt d n) = (some (.slice p ln c), some (.int kd iv), some te, TK.slice el, some te1, m, true)) (hk : Run Tryz.prog n Q (.ops all l :: k) ((d, .pointer (some ⟨b, q, none⟩)) :: e) w) : Run Tryz.prog n Q (.ops all (⟨some d, .indexAddr t x i, ty, ps, af, none⟩ :: l) :: k) e w := zx hp hq ⟨hlt.1, hlt.2.1⟩ hh hk
theorem zdx {x i : Operand} {t ty d el m : Nat} {te te1 : TE} {ps : String} {af : Array Edge} {p : Option Addr} {ln c : Nat} {kd : IntKind} {iv : Int} {b o q : Nat} (hp : p = some ⟨b, o, none⟩) (hq : q = o + iv.toNat * m) (hlt : 0 ≤ iv ∧ iv < ln) (hh : (opv e x, opv e i, tab.get t, te.kind, tab.get el, te1.size, Nat.blt d n) = (some (.slice p ln c), some (.int kd iv), some te, TK.slice el, some te1, m, true)) (hk : RunD Tryz.prog n Q k all w l ((d, .pointer (some ⟨b, q, none⟩)) :: e)) : RunD Tryz.prog n Q k all w (⟨some d, .indexAddr t x i, ty, ps, af, none⟩ :: l) e := by
 simp only [Prod.mk.injEq] at hh
 exact d_v (fun _ _ => qfq qc hp hq hlt hh.1 hh.2.1 hh.2.2.1 hh.2.2.2.1 hh.2.2.2.2.1 hh.2.2.2.2.2.1) hh.2.2.2.2.2.2 hk
theorem zdxe {x i : Operand} {t ty d el m : Nat} {te te1 : TE} {ps : String} {af : Array Edge} {p : Option Addr} {ln c : Nat} {kd : IntKind} {iv : Int} {b o q : Nat} {α : Prop} (hp : p = some ⟨b, o, none⟩) (hq : q = o + iv.toNat * m) (hlt : 0 ≤ iv ∧ iv < ln ∧ α) (hh : (opv e x, opv e i, tab.get t, te.kind, tab.get el, te1.size, Nat.blt d n) = (some (.slice p ln c), some (.int kd iv), some te, TK.slice el, some te1, m, true)) (hk : RunD Tryz.prog n Q k all w l ((d, .pointer (some ⟨b, q, none⟩)) :: e)) : RunD Tryz.prog n Q k all w (⟨some d, .indexAddr t x i, ty, ps, af, none⟩ :: l) e := zdx hp hq ⟨hlt.1, hlt.2.1⟩ hh hk
theorem zs (i : Nat) {t ty : Nat} {ps : String} {af : Array Edge} {x v : Operand} {te : TE} {b j : Nat} {cs : List Value} {t' : TypeId} {u : Value} (h : SH w0 w L)
  (hh : (L[i]?, opv e x, opv e v, tab.get t, Nat.beq (cellsL u).length te.size, Nat.ble (j + (cellsL u).length) cs.length, ones (cellsL u)) = (some (Ch.box b cs t'), some (.pointer (some ⟨b, j, none⟩)), some u, some te, true, true, true))
  (hk : ∀ w', SH w0 w' (L.set i (Ch.box b (splice cs j (cellsL u)) t')) → Run Tryz.prog n Q (.ops all l :: k) e w') : Run Tryz.prog n Q (.ops all (⟨none, .store t x v, ty, ps, af, none⟩ :: l) :: k) e w := by
 simp only [Prod.mk.injEq] at hh
 exact qp4 qc i h hh.1 hh.2.1 hh.2.2.1 hh.2.2.2.1 hh.2.2.2.2.1 hh.2.2.2.2.2.1 hh.2.2.2.2.2.2 hk
theorem zb {b : Bool} (h : ¬ b = true) : b = false := Bool.eq_false_iff.2 h
end
theorem call8 : qp Tryz.prog 8 := ⟨_, Tryz.func8, rfl, by kernel_rfl⟩
theorem call11 : qp Tryz.prog 11 := ⟨_, Tryz.func11, rfl, by kernel_rfl⟩
theorem call14 : qp Tryz.prog 14 := ⟨_, Tryz.func14, rfl, by kernel_rfl⟩
theorem call16 : qp Tryz.prog 16 := ⟨_, Tryz.func16, rfl, by kernel_rfl⟩
theorem call17 : qp Tryz.prog 17 := ⟨_, Tryz.func17, rfl, by kernel_rfl⟩
theorem call22 : qp Tryz.prog 22 := ⟨_, Tryz.func22, rfl, by kernel_rfl⟩
theorem call27 : qp Tryz.prog 27 := ⟨_, Tryz.func27, rfl, by kernel_rfl⟩
theorem call29 : qp Tryz.prog 29 := ⟨_, Tryz.func29, rfl, by kernel_rfl⟩
theorem call30 : qp Tryz.prog 30 := ⟨_, Tryz.func30, rfl, by kernel_rfl⟩
theorem call31 : qp Tryz.prog 31 := ⟨_, Tryz.func31, rfl, by kernel_rfl⟩
theorem call32 : qp Tryz.prog 32 := ⟨_, Tryz.func32, rfl, by kernel_rfl⟩
theorem call33 : qp Tryz.prog 33 := ⟨_, Tryz.func33, rfl, by kernel_rfl⟩
theorem call35 : qp Tryz.prog 35 := ⟨_, Tryz.func35, rfl, by kernel_rfl⟩
theorem call36 : qp Tryz.prog 36 := ⟨_, Tryz.func36, rfl, by kernel_rfl⟩
theorem call37 : qp Tryz.prog 37 := ⟨_, Tryz.func37, rfl, by kernel_rfl⟩
theorem call38 : qp Tryz.prog 38 := ⟨_, Tryz.func38, rfl, by kernel_rfl⟩
theorem call39 : qp Tryz.prog 39 := ⟨_, Tryz.func39, rfl, by kernel_rfl⟩
theorem call40 : qp Tryz.prog 40 := ⟨_, Tryz.func40, rfl, by kernel_rfl⟩
theorem call42 : qp Tryz.prog 42 := ⟨_, Tryz.func42, rfl, by kernel_rfl⟩
theorem call43 : qp Tryz.prog 43 := ⟨_, Tryz.func43, rfl, by kernel_rfl⟩
theorem call44 : qp Tryz.prog 44 := ⟨_, Tryz.func44, rfl, by kernel_rfl⟩
theorem call45 : qp Tryz.prog 45 := ⟨_, Tryz.func45, rfl, by kernel_rfl⟩
theorem call46 : qp Tryz.prog 46 := ⟨_, Tryz.func46, rfl, by kernel_rfl⟩
theorem call48 : qp Tryz.prog 48 := ⟨_, Tryz.func48, rfl, by kernel_rfl⟩
theorem call50 : qp Tryz.prog 50 := ⟨_, Tryz.func50, rfl, by kernel_rfl⟩
theorem call53 : qp Tryz.prog 53 := ⟨_, Tryz.func53, rfl, by kernel_rfl⟩
theorem call62 : qp Tryz.prog 62 := ⟨_, Tryz.func62, rfl, by kernel_rfl⟩
theorem call63 : qp Tryz.prog 63 := ⟨_, Tryz.func63, rfl, by kernel_rfl⟩
theorem call64 : qp Tryz.prog 64 := ⟨_, Tryz.func64, rfl, by kernel_rfl⟩
theorem call65 : qp Tryz.prog 65 := ⟨_, Tryz.func65, rfl, by kernel_rfl⟩
theorem call66 : qp Tryz.prog 66 := ⟨_, Tryz.func66, rfl, by kernel_rfl⟩
theorem call67 : qp Tryz.prog 67 := ⟨_, Tryz.func67, rfl, by kernel_rfl⟩
theorem call68 : qp Tryz.prog 68 := ⟨_, Tryz.func68, rfl, by kernel_rfl⟩
theorem call69 : qp Tryz.prog 69 := ⟨_, Tryz.func69, rfl, by kernel_rfl⟩
theorem call70 : qp Tryz.prog 70 := ⟨_, Tryz.func70, rfl, by kernel_rfl⟩
theorem call71 : qp Tryz.prog 71 := ⟨_, Tryz.func71, rfl, by kernel_rfl⟩
theorem call72 : qp Tryz.prog 72 := ⟨_, Tryz.func72, rfl, by kernel_rfl⟩
theorem call73 : qp Tryz.prog 73 := ⟨_, Tryz.func73, rfl, by kernel_rfl⟩
theorem call74 : qp Tryz.prog 74 := ⟨_, Tryz.func74, rfl, by kernel_rfl⟩
theorem call75 : qp Tryz.prog 75 := ⟨_, Tryz.func75, rfl, by kernel_rfl⟩
theorem call76 : qp Tryz.prog 76 := ⟨_, Tryz.func76, rfl, by kernel_rfl⟩
theorem call77 : qp Tryz.prog 77 := ⟨_, Tryz.func77, rfl, by kernel_rfl⟩
theorem call78 : qp Tryz.prog 78 := ⟨_, Tryz.func78, rfl, by kernel_rfl⟩
theorem call79 : qp Tryz.prog 79 := ⟨_, Tryz.func79, rfl, by kernel_rfl⟩
theorem call80 : qp Tryz.prog 80 := ⟨_, Tryz.func80, rfl, by kernel_rfl⟩
theorem call81 : qp Tryz.prog 81 := ⟨_, Tryz.func81, rfl, by kernel_rfl⟩
theorem call82 : qp Tryz.prog 82 := ⟨_, Tryz.func82, rfl, by kernel_rfl⟩
theorem call85 : qp Tryz.prog 85 := ⟨_, Tryz.func85, rfl, by kernel_rfl⟩
theorem call86 : qp Tryz.prog 86 := ⟨_, Tryz.func86, rfl, by kernel_rfl⟩
theorem call87 : qp Tryz.prog 87 := ⟨_, Tryz.func87, rfl, by kernel_rfl⟩
theorem call88 : qp Tryz.prog 88 := ⟨_, Tryz.func88, rfl, by kernel_rfl⟩
theorem call89 : qp Tryz.prog 89 := ⟨_, Tryz.func89, rfl, by kernel_rfl⟩
theorem call90 : qp Tryz.prog 90 := ⟨_, Tryz.func90, rfl, by kernel_rfl⟩
theorem call91 : qp Tryz.prog 91 := ⟨_, Tryz.func91, rfl, by kernel_rfl⟩
theorem call93 : qp Tryz.prog 93 := ⟨_, Tryz.func93, rfl, by kernel_rfl⟩
theorem call94 : qp Tryz.prog 94 := ⟨_, Tryz.func94, rfl, by kernel_rfl⟩
theorem call95 : qp Tryz.prog 95 := ⟨_, Tryz.func95, rfl, by kernel_rfl⟩
theorem call96 : qp Tryz.prog 96 := ⟨_, Tryz.func96, rfl, by kernel_rfl⟩
theorem call97 : qp Tryz.prog 97 := ⟨_, Tryz.func97, rfl, by kernel_rfl⟩
theorem call98 : qp Tryz.prog 98 := ⟨_, Tryz.func98, rfl, by kernel_rfl⟩
theorem call99 : qp Tryz.prog 99 := ⟨_, Tryz.func99, rfl, by kernel_rfl⟩
theorem call100 : qp Tryz.prog 100 := ⟨_, Tryz.func100, rfl, by kernel_rfl⟩
theorem call101 : qp Tryz.prog 101 := ⟨_, Tryz.func101, rfl, by kernel_rfl⟩
theorem call102 : qp Tryz.prog 102 := ⟨_, Tryz.func102, rfl, by kernel_rfl⟩
theorem call103 : qp Tryz.prog 103 := ⟨_, Tryz.func103, rfl, by kernel_rfl⟩
theorem call104 : qp Tryz.prog 104 := ⟨_, Tryz.func104, rfl, by kernel_rfl⟩
theorem call105 : qp Tryz.prog 105 := ⟨_, Tryz.func105, rfl, by kernel_rfl⟩
theorem call106 : qp Tryz.prog 106 := ⟨_, Tryz.func106, rfl, by kernel_rfl⟩
theorem call115 : qp Tryz.prog 115 := ⟨_, Tryz.func115, rfl, by kernel_rfl⟩
theorem call116 : qp Tryz.prog 116 := ⟨_, Tryz.func116, rfl, by kernel_rfl⟩
theorem call117 : qp Tryz.prog 117 := ⟨_, Tryz.func117, rfl, by kernel_rfl⟩
theorem call118 : qp Tryz.prog 118 := ⟨_, Tryz.func118, rfl, by kernel_rfl⟩
theorem call119 : qp Tryz.prog 119 := ⟨_, Tryz.func119, rfl, by kernel_rfl⟩
theorem call120 : qp Tryz.prog 120 := ⟨_, Tryz.func120, rfl, by kernel_rfl⟩
theorem call121 : qp Tryz.prog 121 := ⟨_, Tryz.func121, rfl, by kernel_rfl⟩
theorem call122 : qp Tryz.prog 122 := ⟨_, Tryz.func122, rfl, by kernel_rfl⟩
theorem call123 : qp Tryz.prog 123 := ⟨_, Tryz.func123, rfl, by kernel_rfl⟩
theorem call124 : qp Tryz.prog 124 := ⟨_, Tryz.func124, rfl, by kernel_rfl⟩
theorem call125 : qp Tryz.prog 125 := ⟨_, Tryz.func125, rfl, by kernel_rfl⟩
theorem call126 : qp Tryz.prog 126 := ⟨_, Tryz.func126, rfl, by kernel_rfl⟩
theorem call127 : qp Tryz.prog 127 := ⟨_, Tryz.func127, rfl, by kernel_rfl⟩
theorem call128 : qp Tryz.prog 128 := ⟨_, Tryz.func128, rfl, by kernel_rfl⟩
theorem call129 : qp Tryz.prog 129 := ⟨_, Tryz.func129, rfl, by kernel_rfl⟩
theorem call130 : qp Tryz.prog 130 := ⟨_, Tryz.func130, rfl, by kernel_rfl⟩
theorem call131 : qp Tryz.prog 131 := ⟨_, Tryz.func131, rfl, by kernel_rfl⟩
theorem call132 : qp Tryz.prog 132 := ⟨_, Tryz.func132, rfl, by kernel_rfl⟩
theorem call133 : qp Tryz.prog 133 := ⟨_, Tryz.func133, rfl, by kernel_rfl⟩
theorem call134 : qp Tryz.prog 134 := ⟨_, Tryz.func134, rfl, by kernel_rfl⟩
theorem call135 : qp Tryz.prog 135 := ⟨_, Tryz.func135, rfl, by kernel_rfl⟩
theorem call136 : qp Tryz.prog 136 := ⟨_, Tryz.func136, rfl, by kernel_rfl⟩
theorem call137 : qp Tryz.prog 137 := ⟨_, Tryz.func137, rfl, by kernel_rfl⟩
theorem call138 : qp Tryz.prog 138 := ⟨_, Tryz.func138, rfl, by kernel_rfl⟩
theorem call139 : qp Tryz.prog 139 := ⟨_, Tryz.func139, rfl, by kernel_rfl⟩
theorem call140 : qp Tryz.prog 140 := ⟨_, Tryz.func140, rfl, by kernel_rfl⟩
theorem call141 : qp Tryz.prog 141 := ⟨_, Tryz.func141, rfl, by kernel_rfl⟩
theorem call142 : qp Tryz.prog 142 := ⟨_, Tryz.func142, rfl, by kernel_rfl⟩
theorem call147 : qp Tryz.prog 147 := ⟨_, Tryz.func147, rfl, by kernel_rfl⟩
theorem call148 : qp Tryz.prog 148 := ⟨_, Tryz.func148, rfl, by kernel_rfl⟩
theorem call149 : qp Tryz.prog 149 := ⟨_, Tryz.func149, rfl, by kernel_rfl⟩
theorem call150 : qp Tryz.prog 150 := ⟨_, Tryz.func150, rfl, by kernel_rfl⟩
theorem call151 : qp Tryz.prog 151 := ⟨_, Tryz.func151, rfl, by kernel_rfl⟩
theorem call152 : qp Tryz.prog 152 := ⟨_, Tryz.func152, rfl, by kernel_rfl⟩
theorem call153 : qp Tryz.prog 153 := ⟨_, Tryz.func153, rfl, by kernel_rfl⟩
theorem call154 : qp Tryz.prog 154 := ⟨_, Tryz.func154, rfl, by kernel_rfl⟩
theorem call155 : qp Tryz.prog 155 := ⟨_, Tryz.func155, rfl, by kernel_rfl⟩
theorem call156 : qp Tryz.prog 156 := ⟨_, Tryz.func156, rfl, by kernel_rfl⟩
theorem call157 : qp Tryz.prog 157 := ⟨_, Tryz.func157, rfl, by kernel_rfl⟩
theorem call158 : qp Tryz.prog 158 := ⟨_, Tryz.func158, rfl, by kernel_rfl⟩
theorem call159 : qp Tryz.prog 159 := ⟨_, Tryz.func159, rfl, by kernel_rfl⟩
theorem call160 : qp Tryz.prog 160 := ⟨_, Tryz.func160, rfl, by kernel_rfl⟩
theorem call161 : qp Tryz.prog 161 := ⟨_, Tryz.func161, rfl, by kernel_rfl⟩
theorem call163 : qp Tryz.prog 163 := ⟨_, Tryz.func163, rfl, by kernel_rfl⟩
theorem call164 : qp Tryz.prog 164 := ⟨_, Tryz.func164, rfl, by kernel_rfl⟩
theorem call165 : qp Tryz.prog 165 := ⟨_, Tryz.func165, rfl, by kernel_rfl⟩
theorem call166 : qp Tryz.prog 166 := ⟨_, Tryz.func166, rfl, by kernel_rfl⟩
theorem call167 : qp Tryz.prog 167 := ⟨_, Tryz.func167, rfl, by kernel_rfl⟩
theorem call168 : qp Tryz.prog 168 := ⟨_, Tryz.func168, rfl, by kernel_rfl⟩
theorem call169 : qp Tryz.prog 169 := ⟨_, Tryz.func169, rfl, by kernel_rfl⟩
theorem call170 : qp Tryz.prog 170 := ⟨_, Tryz.func170, rfl, by kernel_rfl⟩
theorem call171 : qp Tryz.prog 171 := ⟨_, Tryz.func171, rfl, by kernel_rfl⟩
theorem call172 : qp Tryz.prog 172 := ⟨_, Tryz.func172, rfl, by kernel_rfl⟩
theorem call173 : qp Tryz.prog 173 := ⟨_, Tryz.func173, rfl, by kernel_rfl⟩
theorem call174 : qp Tryz.prog 174 := ⟨_, Tryz.func174, rfl, by kernel_rfl⟩
theorem call175 : qp Tryz.prog 175 := ⟨_, Tryz.func175, rfl, by kernel_rfl⟩
theorem call176 : qp Tryz.prog 176 := ⟨_, Tryz.func176, rfl, by kernel_rfl⟩
theorem call177 : qp Tryz.prog 177 := ⟨_, Tryz.func177, rfl, by kernel_rfl⟩
theorem call178 : qp Tryz.prog 178 := ⟨_, Tryz.func178, rfl, by kernel_rfl⟩
theorem call179 : qp Tryz.prog 179 := ⟨_, Tryz.func179, rfl, by kernel_rfl⟩
theorem call180 : qp Tryz.prog 180 := ⟨_, Tryz.func180, rfl, by kernel_rfl⟩
theorem call181 : qp Tryz.prog 181 := ⟨_, Tryz.func181, rfl, by kernel_rfl⟩
theorem call182 : qp Tryz.prog 182 := ⟨_, Tryz.func182, rfl, by kernel_rfl⟩
theorem call183 : qp Tryz.prog 183 := ⟨_, Tryz.func183, rfl, by kernel_rfl⟩
theorem call184 : qp Tryz.prog 184 := ⟨_, Tryz.func184, rfl, by kernel_rfl⟩
theorem call185 : qp Tryz.prog 185 := ⟨_, Tryz.func185, rfl, by kernel_rfl⟩
theorem call186 : qp Tryz.prog 186 := ⟨_, Tryz.func186, rfl, by kernel_rfl⟩
theorem call187 : qp Tryz.prog 187 := ⟨_, Tryz.func187, rfl, by kernel_rfl⟩
theorem call188 : qp Tryz.prog 188 := ⟨_, Tryz.func188, rfl, by kernel_rfl⟩
theorem call189 : qp Tryz.prog 189 := ⟨_, Tryz.func189, rfl, by kernel_rfl⟩
theorem call198 : qp Tryz.prog 198 := ⟨_, Tryz.func198, rfl, by kernel_rfl⟩
theorem call199 : qp Tryz.prog 199 := ⟨_, Tryz.func199, rfl, by kernel_rfl⟩
theorem call200 : qp Tryz.prog 200 := ⟨_, Tryz.func200, rfl, by kernel_rfl⟩
theorem call201 : qp Tryz.prog 201 := ⟨_, Tryz.func201, rfl, by kernel_rfl⟩
theorem call202 : qp Tryz.prog 202 := ⟨_, Tryz.func202, rfl, by kernel_rfl⟩
theorem call203 : qp Tryz.prog 203 := ⟨_, Tryz.func203, rfl, by kernel_rfl⟩
theorem call204 : qp Tryz.prog 204 := ⟨_, Tryz.func204, rfl, by kernel_rfl⟩
theorem call210 : qp Tryz.prog 210 := ⟨_, Tryz.func210, rfl, by kernel_rfl⟩
theorem call211 : qp Tryz.prog 211 := ⟨_, Tryz.func211, rfl, by kernel_rfl⟩
theorem call212 : qp Tryz.prog 212 := ⟨_, Tryz.func212, rfl, by kernel_rfl⟩
theorem call213 : qp Tryz.prog 213 := ⟨_, Tryz.func213, rfl, by kernel_rfl⟩
theorem call214 : qp Tryz.prog 214 := ⟨_, Tryz.func214, rfl, by kernel_rfl⟩
theorem call215 : qp Tryz.prog 215 := ⟨_, Tryz.func215, rfl, by kernel_rfl⟩
theorem call216 : qp Tryz.prog 216 := ⟨_, Tryz.func216, rfl, by kernel_rfl⟩
theorem call220 : qp Tryz.prog 220 := ⟨_, Tryz.func220, rfl, by kernel_rfl⟩
theorem call221 : qp Tryz.prog 221 := ⟨_, Tryz.func221, rfl, by kernel_rfl⟩

def qbG (_ : Nat) (a : (List Int)) (left : Int) : Option Int :=
 bif decide ((W64 (left - (a.length : Int))) < 0) then
  some (-1)
 else
  some (W64 (left - (a.length : Int)))

theorem qbQ {n : Nat} {w : World} {a : (List Int)} {left : Int} {cs1 : List Value} (ha1 : GoT.R w (old w) a cs1) {r : Int} (hF : qbG n a left = some r) : RetV Tryz.prog 32 [GoT.v (List Int) cs1, .int .i64 left] w r := by
 obtain ⟨p1, k1, rfl, s1⟩ := ha1
 refine qe Tryz.func32 rfl (m := 12) rfl rfl (fun h => ?_)
 rw [qbG] at hF
 refine zSR (zp1 rfl (zNSR (zp5 rfl (qb ?_))))
 refine zSSR (zp2 rfl (qb ?_))
 refine qu rfl hF ?_ ?_ <;> intro hF
 ·exact zSR (zp1 rfl (qb (qaS qc h hF ⟨rfl, trivial⟩)))
 exact zKSR (zp2 rfl (qb (qaS qc h hF ⟨rfl, trivial⟩)))

def qgB (_ : Nat) (a : qal) (left : Int) : Option Int :=
 bif decide ((W64 (left - (a.Name.size : Int))) < 0) then
  some (-1)
 else
  some (W64 (left - (a.Name.size : Int)))

theorem qlD {n : Nat} {w : World} {a : qal} {left : Int} {cs1 : List Value} (ha1 : GoT.R w (old w) a cs1) {r : Int} (hF : qgB n a left = some r) : RetV Tryz.prog 163 [GoT.v qal cs1, .int .i64 left] w r := by
 obtain rfl := qbd ha1
 refine qe Tryz.func163 rfl (m := 13) rfl rfl (fun h => ?_)
 rw [qgB] at hF
 refine zSR (qO h rfl rfl ?_)
 intro w1 bb1 h
 refine zp1 rfl (zNSR (zp2 rfl (zl 0 0 h rfl (zp3 rfl (zNS ?_)))))
 refine zSR (zp2 rfl (qb ?_))
 refine qu rfl hF ?_ ?_ <;> intro hF
 ·exact zSR (zp1 rfl (qb (qaS qc h hF ⟨rfl, trivial⟩)))
 exact zKSR (zp2 rfl (qb (qaS qc h hF ⟨rfl, trivial⟩)))

def qc2 (a : (List qal)) : Nat → Int → Int → Option (Flow Int (Int × Int))
 | 0, _, _ => none
 | n + 1, i1, i2 =>
  bif decide (i2 < (a.length : Int)) then
   (idx a i2).bind fun y1 =>
   (qgB n y1 i1).bind fun r1 =>
   bif decide (r1 < 0) then
    some (.ret (-1))
   else
    qc2 a n r1 (W64 (i2 + 1))
  else
   some (.nxt (i1, i2))

def qhD (n : Nat) (a : (List qal)) (left : Int) : Option Int :=
 bif decide ((W64 (left - (a.length : Int))) < 0) then
  some (-1)
 else
  (qc2 a n (W64 (left - (a.length : Int))) 0).bind fun o => match o with
  | .ret r => some r
  | .nxt (i1, _) =>
   some i1

theorem qle {n : Nat} {w : World} {a : (List qal)} {left : Int} {cs1 : List Value} (ha1 : GoT.R w (old w) a cs1) {r : Int} (hF : qhD n a left = some r) : RetV Tryz.prog 147 [GoT.v (List qal) cs1, .int .i64 left] w r := by
 obtain ⟨p1, k1, rfl, s1⟩ := ha1
 refine qe Tryz.func147 rfl (m := 27) rfl rfl (fun h => ?_)
 rw [qhD] at hF
 refine zSR (zp1 rfl (zNSR (zp5 rfl (qb ?_))))
 refine zSSR (zp2 rfl (qb ?_))
 refine qu rfl hF ?_ ?_ <;> intro hF
 ·exact zSR (zp1 rfl (qb (qaS qc h hF ⟨rfl, trivial⟩)))
 refine zKSSR (zp1 rfl (qb ?_))
 obtain ⟨o1, hF, hK1⟩ := qd hF
 refine qv (qR [(0, _), (1, _), (5, _)] ⟨rfl, rfl, rfl, trivial⟩ ?_)
 refine qG (fun m e w' => ∃ (i1 : Int) (i2 : Int), qc2 a m i1 i2 = some o1 ∧ e = [(0, .slice p1 a.length k1), (1, .int .i64 i1), (5, .int .i64 i2)] ∧ SH w w' []) n ⟨_, _, hF, rfl, h⟩ ?_
 rintro m1 e1 w1 ⟨i1, i2, hF, rfl, h⟩
 rcases m1 with _ | m1
 ·rw [qc2] at hF
  cases hF
 rw [qc2] at hF
 refine zSSR (zp4 rfl (qb ?_))
 refine qu rfl hF ?_ ?_ <;> intro hF
 ·refine zKSBSR (zp2 rfl ?_)
  obtain ⟨y1, hy1, hF⟩ := qd hF
  have he1 := qf hy1
  obtain ⟨b1, o_1, q1, cs2, hp1, hq1, -, hr1, hc3⟩ := s1.at hy1
  obtain rfl := qbd hr1
  refine zxe hp1 hq1 he1 rfl (zc 0 (hc3.below h.below) rfl (zp1 rfl ?_))
  obtain ⟨r1, hr2, hF⟩ := qd hF
  refine qW r1 h call163 (qlD (qgU y1) hr2) rfl rfl rfl rfl ?_
  intro w2 h
  refine zp1 rfl (zNSR (zp2 rfl (qb ?_)))
  refine qu rfl hF ?_ ?_ <;> intro hF
  ·refine zSR (zp1 rfl (qb ?_))
   obtain rfl := qi hF; replace hF := hK1
   exact qaS qc h hF ⟨rfl, trivial⟩
  exact zKER (zp3 rfl (qb (qy m1 [(0, _), (1, _), (5, _)] (Nat.lt_succ_self m1) ⟨rfl, rfl, rfl, trivial⟩ ⟨_, _, hF, rfl, h⟩)))
 refine qH rfl ?_
 obtain rfl := qi hF; replace hF := hK1
 exact zSR (zp2 rfl (qb (qaS qc h hF ⟨rfl, trivial⟩)))

def qfg (n : Nat) (a : qE) (left : Int) : Option Int :=
 (qbG n a.Slews left).bind fun r1 =>
 bif decide (r1 < 0) then
  some (-1)
 else
  (qbG n a.Loads r1).bind fun r2 =>
  bif decide (r2 < 0) then
   some (-1)
  else
   (qbG n a.Values r2).bind fun r3 =>
   bif decide (r3 < 0) then
    some (-1)
   else
    some r3

theorem qky {n : Nat} {w : World} {a : qE} {left : Int} {cs1 : List Value} (ha1 : GoT.R w (old w) a cs1) {r : Int} (hF : qfg n a left = some r) : RetV Tryz.prog 187 [GoT.v qE cs1, .int .i64 left] w r := by
 obtain ⟨p1, k1, p2, k2, p3, k3, rfl, s1, s2, s3⟩ := qbr ha1
 refine qe Tryz.func187 rfl (m := 24) rfl rfl (fun h => ?_)
 rw [qfg] at hF
 refine zSR (qO h rfl rfl ?_)
 intro w1 bb1 h
 refine zp1 rfl (zNSR (zp1 rfl (zl 0 0 h rfl (zp1 rfl ?_))))
 obtain ⟨r1, hr1, hF⟩ := qd hF
 refine qW r1 h call32 (qbQ ⟨_, _, rfl, (h.oldS s1)⟩ hr1) rfl rfl rfl rfl ?_
 intro w2 h
 refine zp1 rfl (zNSSR (zp2 rfl (qb ?_)))
 refine qu rfl hF ?_ ?_ <;> intro hF
 ·exact zSR (zp1 rfl (qb (qaS qc h hF ⟨rfl, trivial⟩)))
 refine zKSR (zp1 rfl (zl 0 1 h rfl (zp1 rfl ?_)))
 obtain ⟨r2, hr2, hF⟩ := qd hF
 refine qW r2 h call32 (qbQ ⟨_, _, rfl, (h.oldS s2)⟩ hr2) rfl rfl rfl rfl ?_
 intro w3 h
 refine zp1 rfl (zNSSR (zp2 rfl (qb ?_)))
 refine qu rfl hF ?_ ?_ <;> intro hF
 ·exact zSR (zp1 rfl (qb (qaS qc h hF ⟨rfl, trivial⟩)))
 refine zKSR (zp1 rfl (zl 0 2 h rfl (zp1 rfl ?_)))
 obtain ⟨r3, hr3, hF⟩ := qd hF
 refine qW r3 h call32 (qbQ ⟨_, _, rfl, (h.oldS s3)⟩ hr3) rfl rfl rfl rfl ?_
 intro w4 h
 refine zp1 rfl (zNSSR (zp2 rfl (qb ?_)))
 refine qu rfl hF ?_ ?_ <;> intro hF
 ·exact zSR (zp1 rfl (qb (qaS qc h hF ⟨rfl, trivial⟩)))
 exact zKSR (zp2 rfl (qb (qaS qc h hF ⟨rfl, trivial⟩)))

def qck (a : (List qE)) : Nat → Int → Int → Option (Flow Int (Int × Int))
 | 0, _, _ => none
 | n + 1, i1, i2 =>
  bif decide (i2 < (a.length : Int)) then
   (idx a i2).bind fun y1 =>
   (qfg n y1 i1).bind fun r1 =>
   bif decide (r1 < 0) then
    some (.ret (-1))
   else
    qck a n r1 (W64 (i2 + 1))
  else
   some (.nxt (i1, i2))

def qfz (n : Nat) (a : (List qE)) (left : Int) : Option Int :=
 bif decide ((W64 (left - (a.length : Int))) < 0) then
  some (-1)
 else
  (qck a n (W64 (left - (a.length : Int))) 0).bind fun o => match o with
  | .ret r => some r
  | .nxt (i1, _) =>
   some i1

theorem qh2 {n : Nat} {w : World} {a : (List qE)} {left : Int} {cs1 : List Value} (ha1 : GoT.R w (old w) a cs1) {r : Int} (hF : qfz n a left = some r) : RetV Tryz.prog 177 [GoT.v (List qE) cs1, .int .i64 left] w r := by
 obtain ⟨p1, k1, rfl, s1⟩ := ha1
 refine qe Tryz.func177 rfl (m := 27) rfl rfl (fun h => ?_)
 rw [qfz] at hF
 refine zSR (zp1 rfl (zNSR (zp5 rfl (qb ?_))))
 refine zSSR (zp2 rfl (qb ?_))
 refine qu rfl hF ?_ ?_ <;> intro hF
 ·exact zSR (zp1 rfl (qb (qaS qc h hF ⟨rfl, trivial⟩)))
 refine zKSSR (zp1 rfl (qb ?_))
 obtain ⟨o1, hF, hK1⟩ := qd hF
 refine qv (qR [(0, _), (1, _), (5, _)] ⟨rfl, rfl, rfl, trivial⟩ ?_)
 refine qG (fun m e w' => ∃ (i1 : Int) (i2 : Int), qck a m i1 i2 = some o1 ∧ e = [(0, .slice p1 a.length k1), (1, .int .i64 i1), (5, .int .i64 i2)] ∧ SH w w' []) n ⟨_, _, hF, rfl, h⟩ ?_
 rintro m1 e1 w1 ⟨i1, i2, hF, rfl, h⟩
 rcases m1 with _ | m1
 ·rw [qck] at hF
  cases hF
 rw [qck] at hF
 refine zSSR (zp4 rfl (qb ?_))
 refine qu rfl hF ?_ ?_ <;> intro hF
 ·refine zKSBSR (zp2 rfl ?_)
  obtain ⟨y1, hy1, hF⟩ := qd hF
  have he1 := qf hy1
  obtain ⟨b1, o_1, q1, cs2, hp1, hq1, -, hr1, hc3⟩ := s1.at hy1
  obtain ⟨p2, k2, p3, k3, p4, k4, rfl, s2, s3, s4⟩ := qbr hr1
  refine zxe hp1 hq1 he1 rfl (zc 0 (hc3.below h.below) rfl (zp1 rfl ?_))
  obtain ⟨r1, hr2, hF⟩ := qd hF
  refine qW r1 h call187 (qky (qgx y1 (h.oldS s2) (h.oldS s3) (h.oldS s4)) hr2) rfl rfl rfl rfl ?_
  intro w2 h
  refine zp1 rfl (zNSR (zp2 rfl (qb ?_)))
  refine qu rfl hF ?_ ?_ <;> intro hF
  ·refine zSR (zp1 rfl (qb ?_))
   obtain rfl := qi hF; replace hF := hK1
   exact qaS qc h hF ⟨rfl, trivial⟩
  exact zKER (zp3 rfl (qb (qy m1 [(0, _), (1, _), (5, _)] (Nat.lt_succ_self m1) ⟨rfl, rfl, rfl, trivial⟩ ⟨_, _, hF, rfl, h⟩)))
 refine qH rfl ?_
 obtain rfl := qi hF; replace hF := hK1
 exact zSR (zp2 rfl (qb (qaS qc h hF ⟨rfl, trivial⟩)))

def qgH (n : Nat) (a : qX) (left : Int) : Option Int :=
 (qfz n a.Delay left).bind fun r1 =>
 bif decide (r1 < 0) then
  some (-1)
 else
  (qfz n a.Slew r1).bind fun r2 =>
  bif decide (r2 < 0) then
   some (-1)
  else
   some r2

theorem qlz {n : Nat} {w : World} {a : qX} {left : Int} {cs1 : List Value} (ha1 : GoT.R w (old w) a cs1) {r : Int} (hF : qgH n a left = some r) : RetV Tryz.prog 164 [GoT.v qX cs1, .int .i64 left] w r := by
 obtain ⟨p1, k1, p2, k2, rfl, s1, s2⟩ := qao ha1
 refine qe Tryz.func164 rfl (m := 18) rfl rfl (fun h => ?_)
 rw [qgH] at hF
 refine zSR (qO h rfl rfl ?_)
 intro w1 bb1 h
 refine zp1 rfl (zNSR (zp1 rfl (zl 0 4 h rfl (zp1 rfl ?_))))
 obtain ⟨r1, hr1, hF⟩ := qd hF
 refine qW r1 h call177 (qh2 ⟨_, _, rfl, (h.oldS s1)⟩ hr1) rfl rfl rfl rfl ?_
 intro w2 h
 refine zp1 rfl (zNSSR (zp2 rfl (qb ?_)))
 refine qu rfl hF ?_ ?_ <;> intro hF
 ·exact zSR (zp1 rfl (qb (qaS qc h hF ⟨rfl, trivial⟩)))
 refine zKSR (zp1 rfl (zl 0 5 h rfl (zp1 rfl ?_)))
 obtain ⟨r2, hr2, hF⟩ := qd hF
 refine qW r2 h call177 (qh2 ⟨_, _, rfl, (h.oldS s2)⟩ hr2) rfl rfl rfl rfl ?_
 intro w3 h
 refine zp1 rfl (zNSSR (zp2 rfl (qb ?_)))
 refine qu rfl hF ?_ ?_ <;> intro hF
 ·exact zSR (zp1 rfl (qb (qaS qc h hF ⟨rfl, trivial⟩)))
 exact zKSR (zp2 rfl (qb (qaS qc h hF ⟨rfl, trivial⟩)))

def qc7 (a : (List qX)) : Nat → Int → Int → Option (Flow Int (Int × Int))
 | 0, _, _ => none
 | n + 1, i1, i2 =>
  bif decide (i2 < (a.length : Int)) then
   (idx a i2).bind fun y1 =>
   (qgH n y1 i1).bind fun r1 =>
   bif decide (r1 < 0) then
    some (.ret (-1))
   else
    qc7 a n r1 (W64 (i2 + 1))
  else
   some (.nxt (i1, i2))

def qhG (n : Nat) (a : (List qX)) (left : Int) : Option Int :=
 bif decide ((W64 (left - (a.length : Int))) < 0) then
  some (-1)
 else
  (qc7 a n (W64 (left - (a.length : Int))) 0).bind fun o => match o with
  | .ret r => some r
  | .nxt (i1, _) =>
   some i1

theorem qlb {n : Nat} {w : World} {a : (List qX)} {left : Int} {cs1 : List Value} (ha1 : GoT.R w (old w) a cs1) {r : Int} (hF : qhG n a left = some r) : RetV Tryz.prog 148 [GoT.v (List qX) cs1, .int .i64 left] w r := by
 obtain ⟨p1, k1, rfl, s1⟩ := ha1
 refine qe Tryz.func148 rfl (m := 27) rfl rfl (fun h => ?_)
 rw [qhG] at hF
 refine zSR (zp1 rfl (zNSR (zp5 rfl (qb ?_))))
 refine zSSR (zp2 rfl (qb ?_))
 refine qu rfl hF ?_ ?_ <;> intro hF
 ·exact zSR (zp1 rfl (qb (qaS qc h hF ⟨rfl, trivial⟩)))
 refine zKSSR (zp1 rfl (qb ?_))
 obtain ⟨o1, hF, hK1⟩ := qd hF
 refine qv (qR [(0, _), (1, _), (5, _)] ⟨rfl, rfl, rfl, trivial⟩ ?_)
 refine qG (fun m e w' => ∃ (i1 : Int) (i2 : Int), qc7 a m i1 i2 = some o1 ∧ e = [(0, .slice p1 a.length k1), (1, .int .i64 i1), (5, .int .i64 i2)] ∧ SH w w' []) n ⟨_, _, hF, rfl, h⟩ ?_
 rintro m1 e1 w1 ⟨i1, i2, hF, rfl, h⟩
 rcases m1 with _ | m1
 ·rw [qc7] at hF
  cases hF
 rw [qc7] at hF
 refine zSSR (zp4 rfl (qb ?_))
 refine qu rfl hF ?_ ?_ <;> intro hF
 ·refine zKSBSR (zp2 rfl ?_)
  obtain ⟨y1, hy1, hF⟩ := qd hF
  have he1 := qf hy1
  obtain ⟨b1, o_1, q1, cs2, hp1, hq1, -, hr1, hc3⟩ := s1.at hy1
  obtain ⟨p2, k2, p3, k3, rfl, s2, s3⟩ := qao hr1
  refine zxe hp1 hq1 he1 rfl (zc 0 (hc3.below h.below) rfl (zp1 rfl ?_))
  obtain ⟨r1, hr2, hF⟩ := qd hF
  refine qW r1 h call164 (qlz (qeU y1 (h.oldS s2) (h.oldS s3)) hr2) rfl rfl rfl rfl ?_
  intro w2 h
  refine zp1 rfl (zNSR (zp2 rfl (qb ?_)))
  refine qu rfl hF ?_ ?_ <;> intro hF
  ·refine zSR (zp1 rfl (qb ?_))
   obtain rfl := qi hF; replace hF := hK1
   exact qaS qc h hF ⟨rfl, trivial⟩
  exact zKER (zp3 rfl (qb (qy m1 [(0, _), (1, _), (5, _)] (Nat.lt_succ_self m1) ⟨rfl, rfl, rfl, trivial⟩ ⟨_, _, hF, rfl, h⟩)))
 refine qH rfl ?_
 obtain rfl := qi hF; replace hF := hK1
 exact zSR (zp2 rfl (qb (qaS qc h hF ⟨rfl, trivial⟩)))

def qfZ (n : Nat) (a : qA) (left : Int) : Option Int :=
 bif decide ((W64 (left - (a.Name.size : Int))) < 0) then
  some (-1)
 else
  (qhD n a.Pins (W64 (left - (a.Name.size : Int)))).bind fun r1 =>
  bif decide (r1 < 0) then
   some (-1)
  else
   (qhG n a.Arcs r1).bind fun r2 =>
   bif decide (r2 < 0) then
    some (-1)
   else
    (qbG n a.Truth r2).bind fun r3 =>
    bif decide (r3 < 0) then
     some (-1)
    else
     some r3

theorem qkN {n : Nat} {w : World} {a : qA} {left : Int} {cs1 : List Value} (ha1 : GoT.R w (old w) a cs1) {r : Int} (hF : qfZ n a left = some r) : RetV Tryz.prog 115 [GoT.v qA cs1, .int .i64 left] w r := by
 obtain ⟨p1, k1, p2, k2, p3, k3, rfl, s1, s2, s3⟩ := qS ha1
 refine qe Tryz.func115 rfl (m := 31) rfl rfl (fun h => ?_)
 rw [qfZ] at hF
 refine zSR (qO h rfl rfl ?_)
 intro w1 bb1 h
 refine zp1 rfl (zNSR (zp2 rfl (zl 0 0 h rfl (zp3 rfl (zNS ?_)))))
 refine zSR (zp2 rfl (qb ?_))
 refine qu rfl hF ?_ ?_ <;> intro hF
 ·exact zSR (zp1 rfl (qb (qaS qc h hF ⟨rfl, trivial⟩)))
 refine zKSR (zp1 rfl (zl 0 2 h rfl (zp1 rfl ?_)))
 obtain ⟨r1, hr1, hF⟩ := qd hF
 refine qW r1 h call147 (qle ⟨_, _, rfl, (h.oldS s1)⟩ hr1) rfl rfl rfl rfl ?_
 intro w2 h
 refine zp1 rfl (zNSSR (zp2 rfl (qb ?_)))
 refine qu rfl hF ?_ ?_ <;> intro hF
 ·exact zSR (zp1 rfl (qb (qaS qc h hF ⟨rfl, trivial⟩)))
 refine zKSR (zp1 rfl (zl 0 3 h rfl (zp1 rfl ?_)))
 obtain ⟨r2, hr2, hF⟩ := qd hF
 refine qW r2 h call148 (qlb ⟨_, _, rfl, (h.oldS s2)⟩ hr2) rfl rfl rfl rfl ?_
 intro w3 h
 refine zp1 rfl (zNSSR (zp2 rfl (qb ?_)))
 refine qu rfl hF ?_ ?_ <;> intro hF
 ·exact zSR (zp1 rfl (qb (qaS qc h hF ⟨rfl, trivial⟩)))
 refine zKSR (zp1 rfl (zl 0 4 h rfl (zp1 rfl ?_)))
 obtain ⟨r3, hr3, hF⟩ := qd hF
 refine qW r3 h call32 (qbQ ⟨_, _, rfl, (h.oldS s3)⟩ hr3) rfl rfl rfl rfl ?_
 intro w4 h
 refine zp1 rfl (zNSSR (zp2 rfl (qb ?_)))
 refine qu rfl hF ?_ ?_ <;> intro hF
 ·exact zSR (zp1 rfl (qb (qaS qc h hF ⟨rfl, trivial⟩)))
 exact zKSR (zp2 rfl (qb (qaS qc h hF ⟨rfl, trivial⟩)))

def qcJ (a : (List qA)) : Nat → Int → Int → Option (Flow Int (Int × Int))
 | 0, _, _ => none
 | n + 1, i1, i2 =>
  bif decide (i2 < (a.length : Int)) then
   (idx a i2).bind fun y1 =>
   (qfZ n y1 i1).bind fun r1 =>
   bif decide (r1 < 0) then
    some (.ret (-1))
   else
    qcJ a n r1 (W64 (i2 + 1))
  else
   some (.nxt (i1, i2))

def qhb (n : Nat) (a : (List qA)) (left : Int) : Option Int :=
 bif decide ((W64 (left - (a.length : Int))) < 0) then
  some (-1)
 else
  (qcJ a n (W64 (left - (a.length : Int))) 0).bind fun o => match o with
  | .ret r => some r
  | .nxt (i1, _) =>
   some i1

theorem qki {n : Nat} {w : World} {a : (List qA)} {left : Int} {cs1 : List Value} (ha1 : GoT.R w (old w) a cs1) {r : Int} (hF : qhb n a left = some r) : RetV Tryz.prog 62 [GoT.v (List qA) cs1, .int .i64 left] w r := by
 obtain ⟨p1, k1, rfl, s1⟩ := ha1
 refine qe Tryz.func62 rfl (m := 27) rfl rfl (fun h => ?_)
 rw [qhb] at hF
 refine zSR (zp1 rfl (zNSR (zp5 rfl (qb ?_))))
 refine zSSR (zp2 rfl (qb ?_))
 refine qu rfl hF ?_ ?_ <;> intro hF
 ·exact zSR (zp1 rfl (qb (qaS qc h hF ⟨rfl, trivial⟩)))
 refine zKSSR (zp1 rfl (qb ?_))
 obtain ⟨o1, hF, hK1⟩ := qd hF
 refine qv (qR [(0, _), (1, _), (5, _)] ⟨rfl, rfl, rfl, trivial⟩ ?_)
 refine qG (fun m e w' => ∃ (i1 : Int) (i2 : Int), qcJ a m i1 i2 = some o1 ∧ e = [(0, .slice p1 a.length k1), (1, .int .i64 i1), (5, .int .i64 i2)] ∧ SH w w' []) n ⟨_, _, hF, rfl, h⟩ ?_
 rintro m1 e1 w1 ⟨i1, i2, hF, rfl, h⟩
 rcases m1 with _ | m1
 ·rw [qcJ] at hF
  cases hF
 rw [qcJ] at hF
 refine zSSR (zp4 rfl (qb ?_))
 refine qu rfl hF ?_ ?_ <;> intro hF
 ·refine zKSBSR (zp2 rfl ?_)
  obtain ⟨y1, hy1, hF⟩ := qd hF
  have he1 := qf hy1
  obtain ⟨b1, o_1, q1, cs2, hp1, hq1, -, hr1, hc3⟩ := s1.at hy1
  obtain ⟨p2, k2, p3, k3, p4, k4, rfl, s2, s3, s4⟩ := qS hr1
  refine zxe hp1 hq1 he1 rfl (zc 0 (hc3.below h.below) rfl (zp1 rfl ?_))
  obtain ⟨r1, hr2, hF⟩ := qd hF
  refine qW r1 h call115 (qkN (qfW y1 (h.oldS s2) (h.oldS s3) (h.oldS s4)) hr2) rfl rfl rfl rfl ?_
  intro w2 h
  refine zp1 rfl (zNSR (zp2 rfl (qb ?_)))
  refine qu rfl hF ?_ ?_ <;> intro hF
  ·refine zSR (zp1 rfl (qb ?_))
   obtain rfl := qi hF; replace hF := hK1
   exact qaS qc h hF ⟨rfl, trivial⟩
  exact zKER (zp3 rfl (qb (qy m1 [(0, _), (1, _), (5, _)] (Nat.lt_succ_self m1) ⟨rfl, rfl, rfl, trivial⟩ ⟨_, _, hF, rfl, h⟩)))
 refine qH rfl ?_
 obtain rfl := qi hF; replace hF := hK1
 exact zSR (zp2 rfl (qb (qaS qc h hF ⟨rfl, trivial⟩)))

def qeY (n : Nat) (a : qn) (left : Int) : Option Int :=
 (qhb n a.Cells left).bind fun r1 =>
 bif decide (r1 < 0) then
  some (-1)
 else
  some r1

theorem qjw {n : Nat} {w : World} {a : qn} {left : Int} {cs1 : List Value} (ha1 : GoT.R w (old w) a cs1) {r : Int} (hF : qeY n a left = some r) : RetV Tryz.prog 29 [GoT.v qn cs1, .int .i64 left] w r := by
 obtain ⟨p1, k1, rfl, s1⟩ := qbf ha1
 refine qe Tryz.func29 rfl (m := 12) rfl rfl (fun h => ?_)
 rw [qeY] at hF
 refine zSR (qO h rfl rfl ?_)
 intro w1 bb1 h
 refine zp1 rfl (zNSR (zp1 rfl (zl 0 0 h rfl (zp1 rfl ?_))))
 obtain ⟨r1, hr1, hF⟩ := qd hF
 refine qW r1 h call62 (qki ⟨_, _, rfl, (h.oldS s1)⟩ hr1) rfl rfl rfl rfl ?_
 intro w2 h
 refine zp1 rfl (zNSSR (zp2 rfl (qb ?_)))
 refine qu rfl hF ?_ ?_ <;> intro hF
 ·exact zSR (zp1 rfl (qb (qaS qc h hF ⟨rfl, trivial⟩)))
 exact zKSR (zp2 rfl (qb (qaS qc h hF ⟨rfl, trivial⟩)))

def qdO (n : Nat) (a : ql) (left : Int) : Option Int :=
 bif decide ((W64 (left - (a.Name.size : Int))) < 0) then
  some (-1)
 else
  (qbG n a.Nets (W64 (left - (a.Name.size : Int)))).bind fun r1 =>
  bif decide (r1 < 0) then
   some (-1)
  else
   some r1

theorem qjm {n : Nat} {w : World} {a : ql} {left : Int} {cs1 : List Value} (ha1 : GoT.R w (old w) a cs1) {r : Int} (hF : qdO n a left = some r) : RetV Tryz.prog 116 [GoT.v ql cs1, .int .i64 left] w r := by
 obtain ⟨p1, k1, rfl, s1⟩ := qT ha1
 refine qe Tryz.func116 rfl (m := 19) rfl rfl (fun h => ?_)
 rw [qdO] at hF
 refine zSR (qO h rfl rfl ?_)
 intro w1 bb1 h
 refine zp1 rfl (zNSR (zp2 rfl (zl 0 0 h rfl (zp3 rfl (zNS ?_)))))
 refine zSR (zp2 rfl (qb ?_))
 refine qu rfl hF ?_ ?_ <;> intro hF
 ·exact zSR (zp1 rfl (qb (qaS qc h hF ⟨rfl, trivial⟩)))
 refine zKSR (zp1 rfl (zl 0 2 h rfl (zp1 rfl ?_)))
 obtain ⟨r1, hr1, hF⟩ := qd hF
 refine qW r1 h call32 (qbQ ⟨_, _, rfl, (h.oldS s1)⟩ hr1) rfl rfl rfl rfl ?_
 intro w2 h
 refine zp1 rfl (zNSSR (zp2 rfl (qb ?_)))
 refine qu rfl hF ?_ ?_ <;> intro hF
 ·exact zSR (zp1 rfl (qb (qaS qc h hF ⟨rfl, trivial⟩)))
 exact zKSR (zp2 rfl (qb (qaS qc h hF ⟨rfl, trivial⟩)))

def qbv (a : (List ql)) : Nat → Int → Int → Option (Flow Int (Int × Int))
 | 0, _, _ => none
 | n + 1, i1, i2 =>
  bif decide (i2 < (a.length : Int)) then
   (idx a i2).bind fun y1 =>
   (qdO n y1 i1).bind fun r1 =>
   bif decide (r1 < 0) then
    some (.ret (-1))
   else
    qbv a n r1 (W64 (i2 + 1))
  else
   some (.nxt (i1, i2))

def qfc (n : Nat) (a : (List ql)) (left : Int) : Option Int :=
 bif decide ((W64 (left - (a.length : Int))) < 0) then
  some (-1)
 else
  (qbv a n (W64 (left - (a.length : Int))) 0).bind fun o => match o with
  | .ret r => some r
  | .nxt (i1, _) =>
   some i1

theorem qi9 {n : Nat} {w : World} {a : (List ql)} {left : Int} {cs1 : List Value} (ha1 : GoT.R w (old w) a cs1) {r : Int} (hF : qfc n a left = some r) : RetV Tryz.prog 63 [GoT.v (List ql) cs1, .int .i64 left] w r := by
 obtain ⟨p1, k1, rfl, s1⟩ := ha1
 refine qe Tryz.func63 rfl (m := 27) rfl rfl (fun h => ?_)
 rw [qfc] at hF
 refine zSR (zp1 rfl (zNSR (zp5 rfl (qb ?_))))
 refine zSSR (zp2 rfl (qb ?_))
 refine qu rfl hF ?_ ?_ <;> intro hF
 ·exact zSR (zp1 rfl (qb (qaS qc h hF ⟨rfl, trivial⟩)))
 refine zKSSR (zp1 rfl (qb ?_))
 obtain ⟨o1, hF, hK1⟩ := qd hF
 refine qv (qR [(0, _), (1, _), (5, _)] ⟨rfl, rfl, rfl, trivial⟩ ?_)
 refine qG (fun m e w' => ∃ (i1 : Int) (i2 : Int), qbv a m i1 i2 = some o1 ∧ e = [(0, .slice p1 a.length k1), (1, .int .i64 i1), (5, .int .i64 i2)] ∧ SH w w' []) n ⟨_, _, hF, rfl, h⟩ ?_
 rintro m1 e1 w1 ⟨i1, i2, hF, rfl, h⟩
 rcases m1 with _ | m1
 ·rw [qbv] at hF
  cases hF
 rw [qbv] at hF
 refine zSSR (zp4 rfl (qb ?_))
 refine qu rfl hF ?_ ?_ <;> intro hF
 ·refine zKSBSR (zp2 rfl ?_)
  obtain ⟨y1, hy1, hF⟩ := qd hF
  have he1 := qf hy1
  obtain ⟨b1, o_1, q1, cs2, hp1, hq1, -, hr1, hc3⟩ := s1.at hy1
  obtain ⟨p2, k2, rfl, s2⟩ := qT hr1
  refine zxe hp1 hq1 he1 rfl (zc 0 (hc3.below h.below) rfl (zp1 rfl ?_))
  obtain ⟨r1, hr2, hF⟩ := qd hF
  refine qW r1 h call116 (qjm (qeM y1 (h.oldS s2)) hr2) rfl rfl rfl rfl ?_
  intro w2 h
  refine zp1 rfl (zNSR (zp2 rfl (qb ?_)))
  refine qu rfl hF ?_ ?_ <;> intro hF
  ·refine zSR (zp1 rfl (qb ?_))
   obtain rfl := qi hF; replace hF := hK1
   exact qaS qc h hF ⟨rfl, trivial⟩
  exact zKER (zp3 rfl (qb (qy m1 [(0, _), (1, _), (5, _)] (Nat.lt_succ_self m1) ⟨rfl, rfl, rfl, trivial⟩ ⟨_, _, hF, rfl, h⟩)))
 refine qH rfl ?_
 obtain rfl := qi hF; replace hF := hK1
 exact zSR (zp2 rfl (qb (qaS qc h hF ⟨rfl, trivial⟩)))

def qb1 (a : (List ByteArray)) : Nat → Int → Int → Option (Flow Int (Int × Int))
 | 0, _, _ => none
 | n + 1, i1, i2 =>
  bif decide (i2 < (a.length : Int)) then
   (idx a i2).bind fun y1 =>
   bif decide ((W64 (i1 - (y1.size : Int))) < 0) then
    some (.ret (-1))
   else
    qb1 a n (W64 (i1 - (y1.size : Int))) (W64 (i2 + 1))
  else
   some (.nxt (i1, i2))

def qgh (n : Nat) (a : (List ByteArray)) (left : Int) : Option Int :=
 bif decide ((W64 (left - (a.length : Int))) < 0) then
  some (-1)
 else
  (qb1 a n (W64 (left - (a.length : Int))) 0).bind fun o => match o with
  | .ret r => some r
  | .nxt (i1, _) =>
   some i1

theorem qjq {n : Nat} {w : World} {a : (List ByteArray)} {left : Int} {cs1 : List Value} (ha1 : GoT.R w (old w) a cs1) {r : Int} (hF : qgh n a left = some r) : RetV Tryz.prog 64 [GoT.v (List ByteArray) cs1, .int .i64 left] w r := by
 obtain ⟨p1, k1, rfl, s1⟩ := ha1
 refine qe Tryz.func64 rfl (m := 28) rfl rfl (fun h => ?_)
 rw [qgh] at hF
 refine zSR (zp1 rfl (zNSR (zp5 rfl (qb ?_))))
 refine zSSR (zp2 rfl (qb ?_))
 refine qu rfl hF ?_ ?_ <;> intro hF
 ·exact zSR (zp1 rfl (qb (qaS qc h hF ⟨rfl, trivial⟩)))
 refine zKSSR (zp1 rfl (qb ?_))
 obtain ⟨o1, hF, hK1⟩ := qd hF
 refine qv (qR [(0, _), (1, _), (5, _)] ⟨rfl, rfl, rfl, trivial⟩ ?_)
 refine qG (fun m e w' => ∃ (i1 : Int) (i2 : Int), qb1 a m i1 i2 = some o1 ∧ e = [(0, .slice p1 a.length k1), (1, .int .i64 i1), (5, .int .i64 i2)] ∧ SH w w' []) n ⟨_, _, hF, rfl, h⟩ ?_
 rintro m1 e1 w1 ⟨i1, i2, hF, rfl, h⟩
 rcases m1 with _ | m1
 ·rw [qb1] at hF
  cases hF
 rw [qb1] at hF
 refine zSSR (zp4 rfl (qb ?_))
 refine qu rfl hF ?_ ?_ <;> intro hF
 ·refine zKSBSR (zp3 rfl ?_)
  obtain ⟨y1, hy1, hF⟩ := qd hF
  have he1 := qf hy1
  obtain ⟨b1, o_1, q1, cs2, hp1, hq1, -, hr1, hc3⟩ := s1.at hy1
  obtain rfl := hr1
  refine zxe hp1 hq1 he1 rfl (zc 0 (hc3.below h.below) rfl (zp3 rfl (zNSR (zp2 rfl (qb ?_)))))
  refine qu rfl hF ?_ ?_ <;> intro hF
  ·refine zSR (zp1 rfl (qb ?_))
   obtain rfl := qi hF; replace hF := hK1
   exact qaS qc h hF ⟨rfl, trivial⟩
  exact zKER (zp3 rfl (qb (qy m1 [(0, _), (1, _), (5, _)] (Nat.lt_succ_self m1) ⟨rfl, rfl, rfl, trivial⟩ ⟨_, _, hF, rfl, h⟩)))
 refine qH rfl ?_
 obtain rfl := qi hF; replace hF := hK1
 exact zSR (zp2 rfl (qb (qaS qc h hF ⟨rfl, trivial⟩)))

def qfS (_ : Nat) (a : qae) (left : Int) : Option Int :=
 bif decide ((W64 (left - (a.Name.size : Int))) < 0) then
  some (-1)
 else
  some (W64 (left - (a.Name.size : Int)))

theorem qk4 {n : Nat} {w : World} {a : qae} {left : Int} {cs1 : List Value} (ha1 : GoT.R w (old w) a cs1) {r : Int} (hF : qfS n a left = some r) : RetV Tryz.prog 117 [GoT.v qae cs1, .int .i64 left] w r := by
 obtain rfl := qbc ha1
 refine qe Tryz.func117 rfl (m := 13) rfl rfl (fun h => ?_)
 rw [qfS] at hF
 refine zSR (qO h rfl rfl ?_)
 intro w1 bb1 h
 refine zp1 rfl (zNSR (zp2 rfl (zl 0 0 h rfl (zp3 rfl (zNS ?_)))))
 refine zSR (zp2 rfl (qb ?_))
 refine qu rfl hF ?_ ?_ <;> intro hF
 ·exact zSR (zp1 rfl (qb (qaS qc h hF ⟨rfl, trivial⟩)))
 exact zKSR (zp2 rfl (qb (qaS qc h hF ⟨rfl, trivial⟩)))

def qcH (a : (List qae)) : Nat → Int → Int → Option (Flow Int (Int × Int))
 | 0, _, _ => none
 | n + 1, i1, i2 =>
  bif decide (i2 < (a.length : Int)) then
   (idx a i2).bind fun y1 =>
   (qfS n y1 i1).bind fun r1 =>
   bif decide (r1 < 0) then
    some (.ret (-1))
   else
    qcH a n r1 (W64 (i2 + 1))
  else
   some (.nxt (i1, i2))

def qg7 (n : Nat) (a : (List qae)) (left : Int) : Option Int :=
 bif decide ((W64 (left - (a.length : Int))) < 0) then
  some (-1)
 else
  (qcH a n (W64 (left - (a.length : Int))) 0).bind fun o => match o with
  | .ret r => some r
  | .nxt (i1, _) =>
   some i1

theorem qkk {n : Nat} {w : World} {a : (List qae)} {left : Int} {cs1 : List Value} (ha1 : GoT.R w (old w) a cs1) {r : Int} (hF : qg7 n a left = some r) : RetV Tryz.prog 65 [GoT.v (List qae) cs1, .int .i64 left] w r := by
 obtain ⟨p1, k1, rfl, s1⟩ := ha1
 refine qe Tryz.func65 rfl (m := 27) rfl rfl (fun h => ?_)
 rw [qg7] at hF
 refine zSR (zp1 rfl (zNSR (zp5 rfl (qb ?_))))
 refine zSSR (zp2 rfl (qb ?_))
 refine qu rfl hF ?_ ?_ <;> intro hF
 ·exact zSR (zp1 rfl (qb (qaS qc h hF ⟨rfl, trivial⟩)))
 refine zKSSR (zp1 rfl (qb ?_))
 obtain ⟨o1, hF, hK1⟩ := qd hF
 refine qv (qR [(0, _), (1, _), (5, _)] ⟨rfl, rfl, rfl, trivial⟩ ?_)
 refine qG (fun m e w' => ∃ (i1 : Int) (i2 : Int), qcH a m i1 i2 = some o1 ∧ e = [(0, .slice p1 a.length k1), (1, .int .i64 i1), (5, .int .i64 i2)] ∧ SH w w' []) n ⟨_, _, hF, rfl, h⟩ ?_
 rintro m1 e1 w1 ⟨i1, i2, hF, rfl, h⟩
 rcases m1 with _ | m1
 ·rw [qcH] at hF
  cases hF
 rw [qcH] at hF
 refine zSSR (zp4 rfl (qb ?_))
 refine qu rfl hF ?_ ?_ <;> intro hF
 ·refine zKSBSR (zp2 rfl ?_)
  obtain ⟨y1, hy1, hF⟩ := qd hF
  have he1 := qf hy1
  obtain ⟨b1, o_1, q1, cs2, hp1, hq1, -, hr1, hc3⟩ := s1.at hy1
  obtain rfl := qbc hr1
  refine zxe hp1 hq1 he1 rfl (zc 0 (hc3.below h.below) rfl (zp1 rfl ?_))
  obtain ⟨r1, hr2, hF⟩ := qd hF
  refine qW r1 h call117 (qk4 (qgw y1) hr2) rfl rfl rfl rfl ?_
  intro w2 h
  refine zp1 rfl (zNSR (zp2 rfl (qb ?_)))
  refine qu rfl hF ?_ ?_ <;> intro hF
  ·refine zSR (zp1 rfl (qb ?_))
   obtain rfl := qi hF; replace hF := hK1
   exact qaS qc h hF ⟨rfl, trivial⟩
  exact zKER (zp3 rfl (qb (qy m1 [(0, _), (1, _), (5, _)] (Nat.lt_succ_self m1) ⟨rfl, rfl, rfl, trivial⟩ ⟨_, _, hF, rfl, h⟩)))
 refine qH rfl ?_
 obtain rfl := qi hF; replace hF := hK1
 exact zSR (zp2 rfl (qb (qaS qc h hF ⟨rfl, trivial⟩)))

def qfy (n : Nat) (a : qh) (left : Int) : Option Int :=
 (qfc n a.Instances left).bind fun r1 =>
 bif decide (r1 < 0) then
  some (-1)
 else
  (qgh n a.Nets r1).bind fun r2 =>
  bif decide (r2 < 0) then
   some (-1)
  else
   (qg7 n a.Ports r2).bind fun r3 =>
   bif decide (r3 < 0) then
    some (-1)
   else
    some r3

theorem qj6 {n : Nat} {w : World} {a : qh} {left : Int} {cs1 : List Value} (ha1 : GoT.R w (old w) a cs1) {r : Int} (hF : qfy n a left = some r) : RetV Tryz.prog 30 [GoT.v qh cs1, .int .i64 left] w r := by
 obtain ⟨p1, k1, p2, k2, p3, k3, rfl, s1, s2, s3⟩ := qai ha1
 refine qe Tryz.func30 rfl (m := 24) rfl rfl (fun h => ?_)
 rw [qfy] at hF
 refine zSR (qO h rfl rfl ?_)
 intro w1 bb1 h
 refine zp1 rfl (zNSR (zp1 rfl (zl 0 0 h rfl (zp1 rfl ?_))))
 obtain ⟨r1, hr1, hF⟩ := qd hF
 refine qW r1 h call63 (qi9 ⟨_, _, rfl, (h.oldS s1)⟩ hr1) rfl rfl rfl rfl ?_
 intro w2 h
 refine zp1 rfl (zNSSR (zp2 rfl (qb ?_)))
 refine qu rfl hF ?_ ?_ <;> intro hF
 ·exact zSR (zp1 rfl (qb (qaS qc h hF ⟨rfl, trivial⟩)))
 refine zKSR (zp1 rfl (zl 0 1 h rfl (zp1 rfl ?_)))
 obtain ⟨r2, hr2, hF⟩ := qd hF
 refine qW r2 h call64 (qjq ⟨_, _, rfl, (h.oldS s2)⟩ hr2) rfl rfl rfl rfl ?_
 intro w3 h
 refine zp1 rfl (zNSSR (zp2 rfl (qb ?_)))
 refine qu rfl hF ?_ ?_ <;> intro hF
 ·exact zSR (zp1 rfl (qb (qaS qc h hF ⟨rfl, trivial⟩)))
 refine zKSR (zp1 rfl (zl 0 2 h rfl (zp1 rfl ?_)))
 obtain ⟨r3, hr3, hF⟩ := qd hF
 refine qW r3 h call65 (qkk ⟨_, _, rfl, (h.oldS s3)⟩ hr3) rfl rfl rfl rfl ?_
 intro w4 h
 refine zp1 rfl (zNSSR (zp2 rfl (qb ?_)))
 refine qu rfl hF ?_ ?_ <;> intro hF
 ·exact zSR (zp1 rfl (qb (qaS qc h hF ⟨rfl, trivial⟩)))
 exact zKSR (zp2 rfl (qb (qaS qc h hF ⟨rfl, trivial⟩)))

def qfU (n : Nat) (a : qY) (left : Int) : Option Int :=
 (qbG n a.Parent left).bind fun r1 =>
 bif decide (r1 < 0) then
  some (-1)
 else
  (qbG n a.Res r1).bind fun r2 =>
  bif decide (r2 < 0) then
   some (-1)
  else
   (qbG n a.Cap r2).bind fun r3 =>
   bif decide (r3 < 0) then
    some (-1)
   else
    (qbG n a.Sink r3).bind fun r4 =>
    bif decide (r4 < 0) then
     some (-1)
    else
     some r4

theorem qld {n : Nat} {w : World} {a : qY} {left : Int} {cs1 : List Value} (ha1 : GoT.R w (old w) a cs1) {r : Int} (hF : qfU n a left = some r) : RetV Tryz.prog 66 [GoT.v qY cs1, .int .i64 left] w r := by
 obtain ⟨p1, k1, p2, k2, p3, k3, p4, k4, rfl, s1, s2, s3, s4⟩ := qbw ha1
 refine qe Tryz.func66 rfl (m := 30) rfl rfl (fun h => ?_)
 rw [qfU] at hF
 refine zSR (qO h rfl rfl ?_)
 intro w1 bb1 h
 refine zp1 rfl (zNSR (zp1 rfl (zl 0 0 h rfl (zp1 rfl ?_))))
 obtain ⟨r1, hr1, hF⟩ := qd hF
 refine qW r1 h call32 (qbQ ⟨_, _, rfl, (h.oldS s1)⟩ hr1) rfl rfl rfl rfl ?_
 intro w2 h
 refine zp1 rfl (zNSSR (zp2 rfl (qb ?_)))
 refine qu rfl hF ?_ ?_ <;> intro hF
 ·exact zSR (zp1 rfl (qb (qaS qc h hF ⟨rfl, trivial⟩)))
 refine zKSR (zp1 rfl (zl 0 1 h rfl (zp1 rfl ?_)))
 obtain ⟨r2, hr2, hF⟩ := qd hF
 refine qW r2 h call32 (qbQ ⟨_, _, rfl, (h.oldS s2)⟩ hr2) rfl rfl rfl rfl ?_
 intro w3 h
 refine zp1 rfl (zNSSR (zp2 rfl (qb ?_)))
 refine qu rfl hF ?_ ?_ <;> intro hF
 ·exact zSR (zp1 rfl (qb (qaS qc h hF ⟨rfl, trivial⟩)))
 refine zKSR (zp1 rfl (zl 0 2 h rfl (zp1 rfl ?_)))
 obtain ⟨r3, hr3, hF⟩ := qd hF
 refine qW r3 h call32 (qbQ ⟨_, _, rfl, (h.oldS s3)⟩ hr3) rfl rfl rfl rfl ?_
 intro w4 h
 refine zp1 rfl (zNSSR (zp2 rfl (qb ?_)))
 refine qu rfl hF ?_ ?_ <;> intro hF
 ·exact zSR (zp1 rfl (qb (qaS qc h hF ⟨rfl, trivial⟩)))
 refine zKSR (zp1 rfl (zl 0 3 h rfl (zp1 rfl ?_)))
 obtain ⟨r4, hr4, hF⟩ := qd hF
 refine qW r4 h call32 (qbQ ⟨_, _, rfl, (h.oldS s4)⟩ hr4) rfl rfl rfl rfl ?_
 intro w5 h
 refine zp1 rfl (zNSSR (zp2 rfl (qb ?_)))
 refine qu rfl hF ?_ ?_ <;> intro hF
 ·exact zSR (zp1 rfl (qb (qaS qc h hF ⟨rfl, trivial⟩)))
 exact zKSR (zp2 rfl (qb (qaS qc h hF ⟨rfl, trivial⟩)))

def qcI (a : (List qY)) : Nat → Int → Int → Option (Flow Int (Int × Int))
 | 0, _, _ => none
 | n + 1, i1, i2 =>
  bif decide (i2 < (a.length : Int)) then
   (idx a i2).bind fun y1 =>
   (qfU n y1 i1).bind fun r1 =>
   bif decide (r1 < 0) then
    some (.ret (-1))
   else
    qcI a n r1 (W64 (i2 + 1))
  else
   some (.nxt (i1, i2))

def qha (n : Nat) (a : (List qY)) (left : Int) : Option Int :=
 bif decide ((W64 (left - (a.length : Int))) < 0) then
  some (-1)
 else
  (qcI a n (W64 (left - (a.length : Int))) 0).bind fun o => match o with
  | .ret r => some r
  | .nxt (i1, _) =>
   some i1

theorem qkz {n : Nat} {w : World} {a : (List qY)} {left : Int} {cs1 : List Value} (ha1 : GoT.R w (old w) a cs1) {r : Int} (hF : qha n a left = some r) : RetV Tryz.prog 31 [GoT.v (List qY) cs1, .int .i64 left] w r := by
 obtain ⟨p1, k1, rfl, s1⟩ := ha1
 refine qe Tryz.func31 rfl (m := 27) rfl rfl (fun h => ?_)
 rw [qha] at hF
 refine zSR (zp1 rfl (zNSR (zp5 rfl (qb ?_))))
 refine zSSR (zp2 rfl (qb ?_))
 refine qu rfl hF ?_ ?_ <;> intro hF
 ·exact zSR (zp1 rfl (qb (qaS qc h hF ⟨rfl, trivial⟩)))
 refine zKSSR (zp1 rfl (qb ?_))
 obtain ⟨o1, hF, hK1⟩ := qd hF
 refine qv (qR [(0, _), (1, _), (5, _)] ⟨rfl, rfl, rfl, trivial⟩ ?_)
 refine qG (fun m e w' => ∃ (i1 : Int) (i2 : Int), qcI a m i1 i2 = some o1 ∧ e = [(0, .slice p1 a.length k1), (1, .int .i64 i1), (5, .int .i64 i2)] ∧ SH w w' []) n ⟨_, _, hF, rfl, h⟩ ?_
 rintro m1 e1 w1 ⟨i1, i2, hF, rfl, h⟩
 rcases m1 with _ | m1
 ·rw [qcI] at hF
  cases hF
 rw [qcI] at hF
 refine zSSR (zp4 rfl (qb ?_))
 refine qu rfl hF ?_ ?_ <;> intro hF
 ·refine zKSBSR (zp2 rfl ?_)
  obtain ⟨y1, hy1, hF⟩ := qd hF
  have he1 := qf hy1
  obtain ⟨b1, o_1, q1, cs2, hp1, hq1, -, hr1, hc3⟩ := s1.at hy1
  obtain ⟨p2, k2, p3, k3, p4, k4, p5, k5, rfl, s2, s3, s4, s5⟩ := qbw hr1
  refine zxe hp1 hq1 he1 rfl (zc 0 (hc3.below h.below) rfl (zp1 rfl ?_))
  obtain ⟨r1, hr2, hF⟩ := qd hF
  refine qW r1 h call66 (qld (qhe y1 (h.oldS s2) (h.oldS s3) (h.oldS s4) (h.oldS s5)) hr2) rfl rfl rfl rfl ?_
  intro w2 h
  refine zp1 rfl (zNSR (zp2 rfl (qb ?_)))
  refine qu rfl hF ?_ ?_ <;> intro hF
  ·refine zSR (zp1 rfl (qb ?_))
   obtain rfl := qi hF; replace hF := hK1
   exact qaS qc h hF ⟨rfl, trivial⟩
  exact zKER (zp3 rfl (qb (qy m1 [(0, _), (1, _), (5, _)] (Nat.lt_succ_self m1) ⟨rfl, rfl, rfl, trivial⟩ ⟨_, _, hF, rfl, h⟩)))
 refine qH rfl ?_
 obtain rfl := qi hF; replace hF := hK1
 exact zSR (zp2 rfl (qb (qaS qc h hF ⟨rfl, trivial⟩)))

def qgj (n : Nat) (a : qw) (left : Int) : Option Int :=
 (qeY n (⟨a.Library.Cells⟩ : qn) left).bind fun r1 =>
 bif decide (r1 < 0) then
  some (-1)
 else
  (qfy n (⟨a.Design.Instances, a.Design.Nets, a.Design.Ports⟩ : qh) r1).bind fun r2 =>
  bif decide (r2 < 0) then
   some (-1)
  else
   (qha n a.Wires r2).bind fun r3 =>
   bif decide (r3 < 0) then
    some (-1)
   else
    some r3

theorem qkw {n : Nat} {w : World} {a : qw} {left : Int} {cs1 : List Value} (ha1 : GoT.R w (old w) a cs1) {r : Int} (hF : qgj n a left = some r) : RetV Tryz.prog 8 [GoT.v qw cs1, .int .i64 left] w r := by
 obtain ⟨p1, k1, p2, k2, p3, k3, p4, k4, p5, k5, rfl, s1, s2, s3, s4, s5⟩ := qaw ha1
 refine qe Tryz.func8 rfl (m := 24) rfl rfl (fun h => ?_)
 rw [qgj] at hF
 refine zSR (qO h rfl rfl ?_)
 intro w1 bb1 h
 refine zp1 rfl (zNSR (zp1 rfl (zl 0 0 h rfl (zp1 rfl ?_))))
 obtain ⟨r1, hr1, hF⟩ := qd hF
 refine qW r1 h call29 (qjw (qcW (⟨a.Library.Cells⟩ : qn) (h.oldS s1)) hr1) rfl rfl rfl rfl ?_
 intro w2 h
 refine zp1 rfl (zNSSR (zp2 rfl (qb ?_)))
 refine qu rfl hF ?_ ?_ <;> intro hF
 ·exact zSR (zp1 rfl (qb (qaS qc h hF ⟨rfl, trivial⟩)))
 refine zKSR (zp1 rfl (zl 0 1 h rfl (zp1 rfl ?_)))
 obtain ⟨r2, hr2, hF⟩ := qd hF
 refine qW r2 h call30 (qj6 (qaX (⟨a.Design.Instances, a.Design.Nets, a.Design.Ports⟩ : qh) (h.oldS s2) (h.oldS s3) (h.oldS s4)) hr2) rfl rfl rfl rfl ?_
 intro w3 h
 refine zp1 rfl (zNSSR (zp2 rfl (qb ?_)))
 refine qu rfl hF ?_ ?_ <;> intro hF
 ·exact zSR (zp1 rfl (qb (qaS qc h hF ⟨rfl, trivial⟩)))
 refine zKSR (zp1 rfl (zl 0 4 h rfl (zp1 rfl ?_)))
 obtain ⟨r3, hr3, hF⟩ := qd hF
 refine qW r3 h call31 (qkz ⟨_, _, rfl, (h.oldS s5)⟩ hr3) rfl rfl rfl rfl ?_
 intro w4 h
 refine zp1 rfl (zNSSR (zp2 rfl (qb ?_)))
 refine qu rfl hF ?_ ?_ <;> intro hF
 ·exact zSR (zp1 rfl (qb (qaS qc h hF ⟨rfl, trivial⟩)))
 exact zKSR (zp2 rfl (qb (qaS qc h hF ⟨rfl, trivial⟩)))

def qcU (a : (List Int)) : Nat → (List Int) → Int → Option ((List Int) × Int)
 | 0, _, _ => none
 | n + 1, x2, i1 =>
  bif decide (i1 < (a.length : Int)) then
   (idx a i1).bind fun y1 =>
   (idx x2 i1).bind fun _ =>
   qcU a n (setS x2 i1 y1) (W64 (i1 + 1))
  else
   some (x2, i1)

def qbp (n : Nat) (a : (List Int)) : Option (List Int) :=
 (mkS (a.length : Int) (0 : Int)).bind fun x1 =>
 (qcU a n x1 0).bind fun o => match o with
 | (x2, _) =>
  some x2

theorem qbT {n : Nat} {w : World} {a : (List Int)} {cs1 : List Value} (ha1 : GoT.R w (old w) a cs1) {r : (List Int)} (hF : qbp n a = some r) : RetV Tryz.prog 27 [GoT.v (List Int) cs1] w r := by
 obtain ⟨p1, k1, rfl, s1⟩ := ha1
 refine qe Tryz.func27 rfl (m := 22) rfl rfl (fun h => ?_)
 rw [qbp] at hF
 refine zSR (zp1 rfl (zNSR (zp2 rfl ?_)))
 obtain ⟨x1, hx1, hF⟩ := qd hF
 obtain ⟨g1, g2, hx1⟩ := qcN hx1
 refine qdJ qc Int h rfl rfl rfl rfl rfl rfl rfl rfl rfl g1 g2 hx1 rfl ?_
 intro w1 S1 p2 h
 refine zp1 rfl (zNSSR (zp1 rfl (qb ?_)))
 obtain ⟨o1, hF, hK1⟩ := qd hF
 refine qv (qR [(0, _), (3, _), (4, _)] ⟨rfl, rfl, rfl, trivial⟩ ?_)
 refine qG (fun m e w' => ∃ (x2 : (List Int)) (i1 : Int), qcU a m x2 i1 = some o1 ∧ e = [(0, .slice p1 a.length k1), (3, .slice p2 x1.length x1.length), (4, .int .i64 i1)] ∧ SH w w' [Ch.own S1 (x2 : List Int) [.slice p2 x1.length x1.length]]) n ⟨_, _, hF, rfl, h⟩ ?_
 rintro m1 e1 w2 ⟨x2, i1, hF, rfl, h⟩
 rcases m1 with _ | m1
 ·rw [qcU] at hF
  cases hF
 rw [qcU] at hF
 refine zSSR (zp4 rfl (qb ?_))
 refine qu rfl hF ?_ ?_ <;> intro hF
 ·refine zKSBR (zp4 rfl ?_)
  obtain ⟨y1, hy1, hF⟩ := qd hF
  have he1 := qf hy1
  obtain ⟨b1, o_1, q1, cs2, hp1, hq1, -, hr1, hc2⟩ := s1.at hy1
  obtain rfl := hr1
  refine zxe hp1 hq1 he1 rfl (zc 0 (hc2.below h.below) rfl ?_)
  obtain ⟨y2, hy2, hF⟩ := qd hF
  have he2 := qf hy2
  obtain ⟨b2, o_2, q2, cs3, hp2, hq2, -, hr2, hc3⟩ := (h.sl 0 rfl).1.at hy2
  obtain rfl := hr2
  refine zx hp2 hq2 ⟨he2.1, qah he2.2.1 (h.sl 0 rfl).2⟩ rfl (qdt qc 0 0 y1 h rfl hy2 hp2 hq2 rfl hc3 rfl rfl rfl rfl rfl rfl rfl ?_)
  intro w3 h
  exact zNER (zp3 rfl (qb (qy m1 [(0, _), (3, _), (4, _)] (Nat.lt_succ_self m1) ⟨rfl, rfl, rfl, trivial⟩ ⟨_, _, hF, rfl, h⟩)))
 refine qH rfl ?_
 obtain rfl := qi hF; replace hF := hK1
 refine zSR (zp2 rfl (qb ?_))
 obtain rfl := qi hF
 exact qaf qc (ρ := (List Int)) [GoT.v (List Int) [.slice p2 x1.length x1.length]] h ⟨rfl, trivial⟩ (PV.done h (qan (qax 0 h rfl)))

def qgv (_ : Nat) (a : qal) : Option qal :=
 some (⟨a.Name, a.Dir, a.Cap, a.Clock⟩ : qal)

theorem qlG {n : Nat} {w : World} {a : qal} {cs1 : List Value} (ha1 : GoT.R w (old w) a cs1) {r : qal} (hF : qgv n a = some r) : RetV Tryz.prog 168 [GoT.v qal cs1] w r := by
 obtain rfl := qbd ha1
 refine qe Tryz.func168 rfl (m := 17) rfl rfl (fun h => ?_)
 rw [qgv] at hF
 refine zSR (qO h rfl rfl ?_)
 intro w1 bb1 h
 refine qU qc h rfl rfl rfl ?_
 intro w2 bb2 h
 refine zNSR (qU qc h rfl rfl rfl ?_)
 intro w3 bb3 h
 refine zNSR (zp1 rfl (zl 2 0 h rfl (zp1 rfl (zs 0 h rfl ?_))))
 intro w4 h
 refine zNSR (zp1 rfl (zl 2 1 h rfl (zp1 rfl (zs 0 h rfl ?_))))
 intro w5 h
 replace h : SH _ _ [Ch.box bb3 [.string a.Name, .int .i64 a.Dir, .int .i64 0, .bool false] 199, Ch.box bb2 [.string ByteArray.empty, .int .i64 0, .int .i64 0, .bool false] 199, Ch.box bb1 [.string a.Name, .int .i64 a.Dir, .int .i64 a.Cap, .bool a.Clock] 221] := h
 refine zNSR (zp1 rfl (zl 2 2 h rfl (zp1 rfl (zs 0 h rfl ?_))))
 intro w6 h
 refine zNSR (zp1 rfl (zl 2 3 h rfl (zp1 rfl (zs 0 h rfl ?_))))
 intro w7 h
 replace h : SH _ _ [Ch.box bb3 [.string a.Name, .int .i64 a.Dir, .int .i64 a.Cap, .bool a.Clock] 199, Ch.box bb2 [.string ByteArray.empty, .int .i64 0, .int .i64 0, .bool false] 199, Ch.box bb1 [.string a.Name, .int .i64 a.Dir, .int .i64 a.Cap, .bool a.Clock] 221] := h
 refine zNSR (zl 0 0 h rfl (zs 1 h rfl ?_))
 intro w8 h
 refine qb ?_
 obtain rfl := qi hF
 exact qaf qc (ρ := qal) [GoT.v qal [.string a.Name, .int .i64 a.Dir, .int .i64 a.Cap, .bool a.Clock]] h ⟨⟨_, _, _, rfl, rfl, h.box 1 rfl, rfl⟩, trivial⟩ (PV.done h (qan (qa7 (S := fun _ => False) (qgU (⟨a.Name, a.Dir, a.Cap, a.Clock⟩ : qal)))))

def qdE (a : (List qal)) : Nat → (List qal) → Int → Option ((List qal) × Int)
 | 0, _, _ => none
 | n + 1, x2, i1 =>
  bif decide (i1 < (a.length : Int)) then
   (idx a i1).bind fun y1 =>
   (qgv n y1).bind fun r1 =>
   (idx x2 i1).bind fun _ =>
   qdE a n (setS x2 i1 r1) (W64 (i1 + 1))
  else
   some (x2, i1)

def qgW (n : Nat) (a : (List qal)) : Option (List qal) :=
 (mkS (a.length : Int) ((⟨ByteArray.empty, 0, 0, false⟩ : qal) : qal)).bind fun x1 =>
 (qdE a n x1 0).bind fun o => match o with
 | (x2, _) =>
  some x2

theorem qkT {n : Nat} {w : World} {a : (List qal)} {cs1 : List Value} (ha1 : GoT.R w (old w) a cs1) {r : (List qal)} (hF : qgW n a = some r) : RetV Tryz.prog 151 [GoT.v (List qal) cs1] w r := by
 obtain ⟨p1, k1, rfl, s1⟩ := ha1
 refine qe Tryz.func151 rfl (m := 23) rfl rfl (fun h => ?_)
 rw [qgW] at hF
 refine zSR (zp1 rfl (zNSR (zp2 rfl ?_)))
 obtain ⟨x1, hx1, hF⟩ := qd hF
 obtain ⟨g1, g2, hx1⟩ := qcN hx1
 refine qdJ qc qal h rfl rfl rfl rfl rfl rfl rfl rfl rfl g1 g2 hx1 rfl ?_
 intro w1 S1 p2 h
 refine zp1 rfl (zNSSR (zp1 rfl (qb ?_)))
 obtain ⟨o1, hF, hK1⟩ := qd hF
 refine qv (qR [(0, _), (3, _), (4, _)] ⟨rfl, rfl, rfl, trivial⟩ ?_)
 refine qG (fun m e w' => ∃ (x2 : (List qal)) (i1 : Int), qdE a m x2 i1 = some o1 ∧ e = [(0, .slice p1 a.length k1), (3, .slice p2 x1.length x1.length), (4, .int .i64 i1)] ∧ SH w w' [Ch.own S1 (x2 : List qal) [.slice p2 x1.length x1.length]]) n ⟨_, _, hF, rfl, h⟩ ?_
 rintro m1 e1 w2 ⟨x2, i1, hF, rfl, h⟩
 rcases m1 with _ | m1
 ·rw [qdE] at hF
  cases hF
 rw [qdE] at hF
 refine zSSR (zp4 rfl (qb ?_))
 refine qu rfl hF ?_ ?_ <;> intro hF
 ·refine zKSBR (zp4 rfl ?_)
  obtain ⟨y1, hy1, hF⟩ := qd hF
  have he1 := qf hy1
  obtain ⟨b1, o_1, q1, cs2, hp1, hq1, -, hr1, hc2⟩ := s1.at hy1
  obtain rfl := qbd hr1
  refine zxe hp1 hq1 he1 rfl (zc 0 (hc2.below h.below) rfl ?_)
  obtain ⟨r1, hr2, hF⟩ := qd hF
  refine qfG r1 h call168 (qlG (qgU y1) hr2) rfl rfl rfl rfl ?_
  intro w3 S2 cs3 h
  obtain rfl := qbd (h.own 0 rfl)
  obtain ⟨y2, hy2, hF⟩ := qd hF
  have he2 := qf hy2
  obtain ⟨b2, o_2, q2, cs4, hp2, hq2, -, hr3, hc3⟩ := (h.sl 1 rfl).1.at hy2
  obtain rfl := qbd hr3
  refine zx hp2 hq2 ⟨he2.1, qah he2.2.1 (h.sl 1 rfl).2⟩ rfl (qdt qc 1 0 r1 h rfl hy2 hp2 hq2 (qgU y2) hc3 rfl rfl rfl (qgU r1) rfl rfl rfl ?_)
  intro w4 h
  refine zNER (zp3 rfl (qb ?_))
  replace h := h.pick [1] rfl
  exact qy m1 [(0, _), (3, _), (4, _)] (Nat.lt_succ_self m1) ⟨rfl, rfl, rfl, trivial⟩ ⟨_, _, hF, rfl, h⟩
 refine qH rfl ?_
 obtain rfl := qi hF; replace hF := hK1
 refine zSR (zp2 rfl (qb ?_))
 obtain rfl := qi hF
 exact qaf qc (ρ := (List qal)) [GoT.v (List qal) [.slice p2 x1.length x1.length]] h ⟨rfl, trivial⟩ (PV.done h (qan (qax 0 h rfl)))

def qff (n : Nat) (a : qE) : Option qE :=
 (qbp n a.Slews).bind fun r1 =>
 (qbp n a.Loads).bind fun r2 =>
 (qbp n a.Values).bind fun r3 =>
 some (⟨r1, r2, r3⟩ : qE)

theorem qkj {n : Nat} {w : World} {a : qE} {cs1 : List Value} (ha1 : GoT.R w (old w) a cs1) {r : qE} (hF : qff n a = some r) : RetV Tryz.prog 189 [GoT.v qE cs1] w r := by
 obtain ⟨p1, k1, p2, k2, p3, k3, rfl, s1, s2, s3⟩ := qbr ha1
 refine qe Tryz.func189 rfl (m := 17) rfl rfl (fun h => ?_)
 rw [qff] at hF
 refine zSR (qO h rfl rfl ?_)
 intro w1 bb1 h
 refine qU qc h rfl rfl rfl ?_
 intro w2 bb2 h
 refine zNSR (qU qc h rfl rfl rfl ?_)
 intro w3 bb3 h
 refine zNSR (zp1 rfl (zl 2 0 h rfl ?_))
 obtain ⟨r1, hr1, hF⟩ := qd hF
 refine qav r1 h call27 (qbT ⟨_, _, rfl, (h.oldS s1)⟩ hr1) rfl rfl rfl rfl ?_
 intro w4 S1 p4 k4 h
 refine zp1 rfl (zs 1 h rfl ?_)
 intro w5 h
 refine zNSR (zp1 rfl (zl 3 1 h rfl ?_))
 obtain ⟨r2, hr2, hF⟩ := qd hF
 refine qav r2 h call27 (qbT ⟨_, _, rfl, (h.oldS s2)⟩ hr2) rfl rfl rfl rfl ?_
 intro w6 S2 p5 k5 h
 refine zp1 rfl (zs 2 h rfl ?_)
 intro w7 h
 replace h : SH _ _ [Ch.own S2 (r2 : List Int) [.slice p5 r2.length k5], Ch.own S1 (r1 : List Int) [.slice p4 r1.length k4], Ch.box bb3 [.slice p4 r1.length k4, .slice p5 r2.length k5, .slice none 0 0] 238, Ch.box bb2 [.slice none 0 0, .slice none 0 0, .slice none 0 0] 238, Ch.box bb1 [.slice p1 a.Slews.length k1, .slice p2 a.Loads.length k2, .slice p3 a.Values.length k3] 247] := h
 refine zNSR (zp1 rfl (zl 4 2 h rfl ?_))
 obtain ⟨r3, hr3, hF⟩ := qd hF
 refine qav r3 h call27 (qbT ⟨_, _, rfl, (h.oldS s3)⟩ hr3) rfl rfl rfl rfl ?_
 intro w8 S3 p6 k6 h
 refine zp1 rfl (zs 3 h rfl ?_)
 intro w9 h
 refine zNSR (zl 3 0 h rfl (zs 4 h rfl ?_))
 intro w10 h
 replace h : SH _ _ [Ch.own S3 (r3 : List Int) [.slice p6 r3.length k6], Ch.own S2 (r2 : List Int) [.slice p5 r2.length k5], Ch.own S1 (r1 : List Int) [.slice p4 r1.length k4], Ch.box bb3 [.slice p4 r1.length k4, .slice p5 r2.length k5, .slice p6 r3.length k6] 238, Ch.box bb2 [.slice p4 r1.length k4, .slice p5 r2.length k5, .slice p6 r3.length k6] 238, Ch.box bb1 [.slice p1 a.Slews.length k1, .slice p2 a.Loads.length k2, .slice p3 a.Values.length k3] 247] := h
 refine qb ?_
 obtain rfl := qi hF
 exact qaf qc (ρ := qE) [GoT.v qE [.slice p4 r1.length k4, .slice p5 r2.length k5, .slice p6 r3.length k6]] h ⟨⟨_, _, _, rfl, rfl, h.box 4 rfl, rfl⟩, trivial⟩ (PV.done h (qan (qoc (⟨r1, r2, r3⟩ : qE) h (qax 2 h rfl) (qax 1 h rfl) (qax 0 h rfl) (by rfl) (by rfl))))

def qcS (a : (List qE)) : Nat → (List qE) → Int → Option ((List qE) × Int)
 | 0, _, _ => none
 | n + 1, x2, i1 =>
  bif decide (i1 < (a.length : Int)) then
   (idx a i1).bind fun y1 =>
   (qff n y1).bind fun r1 =>
   (idx x2 i1).bind fun _ =>
   qcS a n (setS x2 i1 r1) (W64 (i1 + 1))
  else
   some (x2, i1)

def qeJ (n : Nat) (a : (List qE)) : Option (List qE) :=
 (mkS (a.length : Int) ((⟨[], [], []⟩ : qE) : qE)).bind fun x1 =>
 (qcS a n x1 0).bind fun o => match o with
 | (x2, _) =>
  some x2

theorem qhW {n : Nat} {w : World} {a : (List qE)} {cs1 : List Value} (ha1 : GoT.R w (old w) a cs1) {r : (List qE)} (hF : qeJ n a = some r) : RetV Tryz.prog 179 [GoT.v (List qE) cs1] w r := by
 obtain ⟨p1, k1, rfl, s1⟩ := ha1
 refine qe Tryz.func179 rfl (m := 23) rfl rfl (fun h => ?_)
 rw [qeJ] at hF
 refine zSR (zp1 rfl (zNSR (zp2 rfl ?_)))
 obtain ⟨x1, hx1, hF⟩ := qd hF
 obtain ⟨g1, g2, hx1⟩ := qcN hx1
 refine qdJ qc qE h rfl rfl rfl rfl rfl rfl rfl rfl rfl g1 g2 hx1 rfl ?_
 intro w1 S1 p2 h
 refine zp1 rfl (zNSSR (zp1 rfl (qb ?_)))
 obtain ⟨o1, hF, hK1⟩ := qd hF
 refine qv (qR [(0, _), (3, _), (4, _)] ⟨rfl, rfl, rfl, trivial⟩ ?_)
 refine qG (fun m e w' => ∃ (S2 : Nat → Prop) (x2 : (List qE)) (i1 : Int), qcS a m x2 i1 = some o1 ∧ e = [(0, .slice p1 a.length k1), (3, .slice p2 x1.length x1.length), (4, .int .i64 i1)] ∧ SH w w' [Ch.own S2 (x2 : List qE) [.slice p2 x1.length x1.length]]) n ⟨_, _, _, hF, rfl, h⟩ ?_
 rintro m1 e1 w2 ⟨S2, x2, i1, hF, rfl, h⟩
 rcases m1 with _ | m1
 ·rw [qcS] at hF
  cases hF
 rw [qcS] at hF
 refine zSSR (zp4 rfl (qb ?_))
 refine qu rfl hF ?_ ?_ <;> intro hF
 ·refine zKSBR (zp4 rfl ?_)
  obtain ⟨y1, hy1, hF⟩ := qd hF
  have he1 := qf hy1
  obtain ⟨b1, o_1, q1, cs2, hp1, hq1, -, hr1, hc2⟩ := s1.at hy1
  obtain ⟨p3, k2, p4, k3, p5, k4, rfl, s2, s3, s4⟩ := qbr hr1
  refine zxe hp1 hq1 he1 rfl (zc 0 (hc2.below h.below) rfl ?_)
  obtain ⟨r1, hr2, hF⟩ := qd hF
  refine qfG r1 h call189 (qkj (qgx y1 (h.oldS s2) (h.oldS s3) (h.oldS s4)) hr2) rfl rfl rfl rfl ?_
  intro w3 S3 cs3 h
  obtain ⟨p6, k5, p7, k6, p8, k7, rfl, -, -, -⟩ := qbr (h.own 0 rfl)
  obtain ⟨y2, hy2, hF⟩ := qd hF
  have he2 := qf hy2
  replace h := h.lrn0 1 rfl
  obtain ⟨b2, o_2, q2, cs4, hp2, hq2, -, hr3, hc3⟩ := (qhH (h.lrnO 1 rfl)).1.at hy2
  have hr4 := hr3
  obtain ⟨p9, k8, p10, k9, p11, k10, rfl, s8, s9, s10⟩ := qbr hr3
  replace h := h.lrnAdd 1 rfl hr4
  refine zx hp2 hq2 ⟨he2.1, qah he2.2.1 (qhH (h.lrnO 1 rfl)).2⟩ rfl ?_
  replace h := h.unlrn 1 rfl
  refine qiy qc r1 h hy2 hp2 hq2 rfl rfl rfl rfl rfl ?_
  intro w4 S4 h
  exact zNER (zp3 rfl (qb (qy m1 [(0, _), (3, _), (4, _)] (Nat.lt_succ_self m1) ⟨rfl, rfl, rfl, trivial⟩ ⟨_, _, _, hF, rfl, h⟩)))
 refine qH rfl ?_
 obtain rfl := qi hF; replace hF := hK1
 refine zSR (zp2 rfl (qb ?_))
 obtain rfl := qi hF
 exact qaf qc (ρ := (List qE)) [GoT.v (List qE) [.slice p2 x1.length x1.length]] h ⟨rfl, trivial⟩ (PV.done h (qan (qax 0 h rfl)))

def qgz (n : Nat) (a : qX) : Option qX :=
 (qeJ n a.Delay).bind fun r1 =>
 (qeJ n a.Slew).bind fun r2 =>
 some (⟨a.Kind, a.From, a.To, a.Sense, r1, r2⟩ : qX)

theorem qlu {n : Nat} {w : World} {a : qX} {cs1 : List Value} (ha1 : GoT.R w (old w) a cs1) {r : qX} (hF : qgz n a = some r) : RetV Tryz.prog 169 [GoT.v qX cs1] w r := by
 obtain ⟨p1, k1, p2, k2, rfl, s1, s2⟩ := qao ha1
 refine qe Tryz.func169 rfl (m := 25) rfl rfl (fun h => ?_)
 rw [qgz] at hF
 refine zSR (qO h rfl rfl ?_)
 intro w1 bb1 h
 refine qU qc h rfl rfl rfl ?_
 intro w2 bb2 h
 refine zNSR (qU qc h rfl rfl rfl ?_)
 intro w3 bb3 h
 refine zNSR (zp1 rfl (zl 2 0 h rfl (zp1 rfl (zs 0 h rfl ?_))))
 intro w4 h
 refine zNSR (zp1 rfl (zl 2 1 h rfl (zp1 rfl (zs 0 h rfl ?_))))
 intro w5 h
 replace h : SH _ _ [Ch.box bb3 [.int .i64 a.Kind, .int .i64 a.From, .int .i64 0, .int .i64 0, .slice none 0 0, .slice none 0 0] 159, Ch.box bb2 [.int .i64 0, .int .i64 0, .int .i64 0, .int .i64 0, .slice none 0 0, .slice none 0 0] 159, Ch.box bb1 [.int .i64 a.Kind, .int .i64 a.From, .int .i64 a.To, .int .i64 a.Sense, .slice p1 a.Delay.length k1, .slice p2 a.Slew.length k2] 225] := h
 refine zNSR (zp1 rfl (zl 2 2 h rfl (zp1 rfl (zs 0 h rfl ?_))))
 intro w6 h
 refine zNSR (zp1 rfl (zl 2 3 h rfl (zp1 rfl (zs 0 h rfl ?_))))
 intro w7 h
 replace h : SH _ _ [Ch.box bb3 [.int .i64 a.Kind, .int .i64 a.From, .int .i64 a.To, .int .i64 a.Sense, .slice none 0 0, .slice none 0 0] 159, Ch.box bb2 [.int .i64 0, .int .i64 0, .int .i64 0, .int .i64 0, .slice none 0 0, .slice none 0 0] 159, Ch.box bb1 [.int .i64 a.Kind, .int .i64 a.From, .int .i64 a.To, .int .i64 a.Sense, .slice p1 a.Delay.length k1, .slice p2 a.Slew.length k2] 225] := h
 refine zNSR (zp1 rfl (zl 2 4 h rfl ?_))
 obtain ⟨r1, hr1, hF⟩ := qd hF
 refine qav r1 h call179 (qhW ⟨_, _, rfl, (h.oldS s1)⟩ hr1) rfl rfl rfl rfl ?_
 intro w8 S1 p3 k3 h
 refine zp1 rfl (zs 1 h rfl ?_)
 intro w9 h
 refine zNSR (zp1 rfl (zl 3 5 h rfl ?_))
 obtain ⟨r2, hr2, hF⟩ := qd hF
 refine qav r2 h call179 (qhW ⟨_, _, rfl, (h.oldS s2)⟩ hr2) rfl rfl rfl rfl ?_
 intro w10 S2 p4 k4 h
 refine zp1 rfl (zs 2 h rfl ?_)
 intro w11 h
 replace h : SH _ _ [Ch.own S2 (r2 : List qE) [.slice p4 r2.length k4], Ch.own S1 (r1 : List qE) [.slice p3 r1.length k3], Ch.box bb3 [.int .i64 a.Kind, .int .i64 a.From, .int .i64 a.To, .int .i64 a.Sense, .slice p3 r1.length k3, .slice p4 r2.length k4] 159, Ch.box bb2 [.int .i64 0, .int .i64 0, .int .i64 0, .int .i64 0, .slice none 0 0, .slice none 0 0] 159, Ch.box bb1 [.int .i64 a.Kind, .int .i64 a.From, .int .i64 a.To, .int .i64 a.Sense, .slice p1 a.Delay.length k1, .slice p2 a.Slew.length k2] 225] := h
 refine zNSR (zl 2 0 h rfl (zs 3 h rfl ?_))
 intro w12 h
 refine qb ?_
 obtain rfl := qi hF
 exact qaf qc (ρ := qX) [GoT.v qX [.int .i64 a.Kind, .int .i64 a.From, .int .i64 a.To, .int .i64 a.Sense, .slice p3 r1.length k3, .slice p4 r2.length k4]] h ⟨⟨_, _, _, rfl, rfl, h.box 3 rfl, rfl⟩, trivial⟩ (PV.done h (qan (qp0 (⟨a.Kind, a.From, a.To, a.Sense, r1, r2⟩ : qX) h (qa7 (S := fun _ => False) rfl) (qa7 (S := fun _ => False) rfl) (qa7 (S := fun _ => False) rfl) (qa7 (S := fun _ => False) rfl) (qax 1 h rfl) (qax 0 h rfl) (by rfl) (by rfl) (by rfl) (by rfl) (by rfl))))

def qdF (a : (List qX)) : Nat → (List qX) → Int → Option ((List qX) × Int)
 | 0, _, _ => none
 | n + 1, x2, i1 =>
  bif decide (i1 < (a.length : Int)) then
   (idx a i1).bind fun y1 =>
   (qgz n y1).bind fun r1 =>
   (idx x2 i1).bind fun _ =>
   qdF a n (setS x2 i1 r1) (W64 (i1 + 1))
  else
   some (x2, i1)

def qgM (n : Nat) (a : (List qX)) : Option (List qX) :=
 (mkS (a.length : Int) ((⟨0, 0, 0, 0, [], []⟩ : qX) : qX)).bind fun x1 =>
 (qdF a n x1 0).bind fun o => match o with
 | (x2, _) =>
  some x2

theorem qk3 {n : Nat} {w : World} {a : (List qX)} {cs1 : List Value} (ha1 : GoT.R w (old w) a cs1) {r : (List qX)} (hF : qgM n a = some r) : RetV Tryz.prog 152 [GoT.v (List qX) cs1] w r := by
 obtain ⟨p1, k1, rfl, s1⟩ := ha1
 refine qe Tryz.func152 rfl (m := 23) rfl rfl (fun h => ?_)
 rw [qgM] at hF
 refine zSR (zp1 rfl (zNSR (zp2 rfl ?_)))
 obtain ⟨x1, hx1, hF⟩ := qd hF
 obtain ⟨g1, g2, hx1⟩ := qcN hx1
 refine qdJ qc qX h rfl rfl rfl rfl rfl rfl rfl rfl rfl g1 g2 hx1 rfl ?_
 intro w1 S1 p2 h
 refine zp1 rfl (zNSSR (zp1 rfl (qb ?_)))
 obtain ⟨o1, hF, hK1⟩ := qd hF
 refine qv (qR [(0, _), (3, _), (4, _)] ⟨rfl, rfl, rfl, trivial⟩ ?_)
 refine qG (fun m e w' => ∃ (S2 : Nat → Prop) (x2 : (List qX)) (i1 : Int), qdF a m x2 i1 = some o1 ∧ e = [(0, .slice p1 a.length k1), (3, .slice p2 x1.length x1.length), (4, .int .i64 i1)] ∧ SH w w' [Ch.own S2 (x2 : List qX) [.slice p2 x1.length x1.length]]) n ⟨_, _, _, hF, rfl, h⟩ ?_
 rintro m1 e1 w2 ⟨S2, x2, i1, hF, rfl, h⟩
 rcases m1 with _ | m1
 ·rw [qdF] at hF
  cases hF
 rw [qdF] at hF
 refine zSSR (zp4 rfl (qb ?_))
 refine qu rfl hF ?_ ?_ <;> intro hF
 ·refine zKSBR (zp4 rfl ?_)
  obtain ⟨y1, hy1, hF⟩ := qd hF
  have he1 := qf hy1
  obtain ⟨b1, o_1, q1, cs2, hp1, hq1, -, hr1, hc2⟩ := s1.at hy1
  obtain ⟨p3, k2, p4, k3, rfl, s2, s3⟩ := qao hr1
  refine zxe hp1 hq1 he1 rfl (zc 0 (hc2.below h.below) rfl ?_)
  obtain ⟨r1, hr2, hF⟩ := qd hF
  refine qfG r1 h call169 (qlu (qeU y1 (h.oldS s2) (h.oldS s3)) hr2) rfl rfl rfl rfl ?_
  intro w3 S3 cs3 h
  obtain ⟨p5, k4, p6, k5, rfl, -, -⟩ := qao (h.own 0 rfl)
  obtain ⟨y2, hy2, hF⟩ := qd hF
  have he2 := qf hy2
  replace h := h.lrn0 1 rfl
  obtain ⟨b2, o_2, q2, cs4, hp2, hq2, -, hr3, hc3⟩ := (qhH (h.lrnO 1 rfl)).1.at hy2
  have hr4 := hr3
  obtain ⟨p7, k6, p8, k7, rfl, s6, s7⟩ := qao hr3
  replace h := h.lrnAdd 1 rfl hr4
  refine zx hp2 hq2 ⟨he2.1, qah he2.2.1 (qhH (h.lrnO 1 rfl)).2⟩ rfl ?_
  replace h := h.unlrn 1 rfl
  refine qiy qc r1 h hy2 hp2 hq2 rfl rfl rfl rfl rfl ?_
  intro w4 S4 h
  exact zNER (zp3 rfl (qb (qy m1 [(0, _), (3, _), (4, _)] (Nat.lt_succ_self m1) ⟨rfl, rfl, rfl, trivial⟩ ⟨_, _, _, hF, rfl, h⟩)))
 refine qH rfl ?_
 obtain rfl := qi hF; replace hF := hK1
 refine zSR (zp2 rfl (qb ?_))
 obtain rfl := qi hF
 exact qaf qc (ρ := (List qX)) [GoT.v (List qX) [.slice p2 x1.length x1.length]] h ⟨rfl, trivial⟩ (PV.done h (qan (qax 0 h rfl)))

def qf0 (n : Nat) (a : qA) : Option qA :=
 (qgW n a.Pins).bind fun r1 =>
 (qgM n a.Arcs).bind fun r2 =>
 (qbp n a.Truth).bind fun r3 =>
 some (⟨a.Name, a.Kind, r1, r2, r3, a.Leak, a.Energy⟩ : qA)

theorem qlj {n : Nat} {w : World} {a : qA} {cs1 : List Value} (ha1 : GoT.R w (old w) a cs1) {r : qA} (hF : qf0 n a = some r) : RetV Tryz.prog 121 [GoT.v qA cs1] w r := by
 obtain ⟨p1, k1, p2, k2, p3, k3, rfl, s1, s2, s3⟩ := qS ha1
 refine qe Tryz.func121 rfl (m := 29) rfl rfl (fun h => ?_)
 rw [qf0] at hF
 refine zSR (qO h rfl rfl ?_)
 intro w1 bb1 h
 refine qU qc h rfl rfl rfl ?_
 intro w2 bb2 h
 refine zNSR (qU qc h rfl rfl rfl ?_)
 intro w3 bb3 h
 refine zNSR (zp1 rfl (zl 2 0 h rfl (zp1 rfl (zs 0 h rfl ?_))))
 intro w4 h
 refine zNSR (zp1 rfl (zl 2 1 h rfl (zp1 rfl (zs 0 h rfl ?_))))
 intro w5 h
 replace h : SH _ _ [Ch.box bb3 [.string a.Name, .int .i64 a.Kind, .slice none 0 0, .slice none 0 0, .slice none 0 0, .int .i64 0, .int .i64 0] 155, Ch.box bb2 [.string ByteArray.empty, .int .i64 0, .slice none 0 0, .slice none 0 0, .slice none 0 0, .int .i64 0, .int .i64 0] 155, Ch.box bb1 [.string a.Name, .int .i64 a.Kind, .slice p1 a.Pins.length k1, .slice p2 a.Arcs.length k2, .slice p3 a.Truth.length k3, .int .i64 a.Leak, .int .i64 a.Energy] 176] := h
 refine zNSR (zp1 rfl (zl 2 2 h rfl ?_))
 obtain ⟨r1, hr1, hF⟩ := qd hF
 refine qav r1 h call151 (qkT ⟨_, _, rfl, (h.oldS s1)⟩ hr1) rfl rfl rfl rfl ?_
 intro w6 S1 p4 k4 h
 refine zp1 rfl (zs 1 h rfl ?_)
 intro w7 h
 refine zNSR (zp1 rfl (zl 3 3 h rfl ?_))
 obtain ⟨r2, hr2, hF⟩ := qd hF
 refine qav r2 h call152 (qk3 ⟨_, _, rfl, (h.oldS s2)⟩ hr2) rfl rfl rfl rfl ?_
 intro w8 S2 p5 k5 h
 refine zp1 rfl (zs 2 h rfl ?_)
 intro w9 h
 replace h : SH _ _ [Ch.own S2 (r2 : List qX) [.slice p5 r2.length k5], Ch.own S1 (r1 : List qal) [.slice p4 r1.length k4], Ch.box bb3 [.string a.Name, .int .i64 a.Kind, .slice p4 r1.length k4, .slice p5 r2.length k5, .slice none 0 0, .int .i64 0, .int .i64 0] 155, Ch.box bb2 [.string ByteArray.empty, .int .i64 0, .slice none 0 0, .slice none 0 0, .slice none 0 0, .int .i64 0, .int .i64 0] 155, Ch.box bb1 [.string a.Name, .int .i64 a.Kind, .slice p1 a.Pins.length k1, .slice p2 a.Arcs.length k2, .slice p3 a.Truth.length k3, .int .i64 a.Leak, .int .i64 a.Energy] 176] := h
 refine zNSR (zp1 rfl (zl 4 4 h rfl ?_))
 obtain ⟨r3, hr3, hF⟩ := qd hF
 refine qav r3 h call27 (qbT ⟨_, _, rfl, (h.oldS s3)⟩ hr3) rfl rfl rfl rfl ?_
 intro w10 S3 p6 k6 h
 refine zp1 rfl (zs 3 h rfl ?_)
 intro w11 h
 refine zNSR (zp1 rfl (zl 5 5 h rfl (zp1 rfl (zs 3 h rfl ?_))))
 intro w12 h
 replace h : SH _ _ [Ch.own S3 (r3 : List Int) [.slice p6 r3.length k6], Ch.own S2 (r2 : List qX) [.slice p5 r2.length k5], Ch.own S1 (r1 : List qal) [.slice p4 r1.length k4], Ch.box bb3 [.string a.Name, .int .i64 a.Kind, .slice p4 r1.length k4, .slice p5 r2.length k5, .slice p6 r3.length k6, .int .i64 a.Leak, .int .i64 0] 155, Ch.box bb2 [.string ByteArray.empty, .int .i64 0, .slice none 0 0, .slice none 0 0, .slice none 0 0, .int .i64 0, .int .i64 0] 155, Ch.box bb1 [.string a.Name, .int .i64 a.Kind, .slice p1 a.Pins.length k1, .slice p2 a.Arcs.length k2, .slice p3 a.Truth.length k3, .int .i64 a.Leak, .int .i64 a.Energy] 176] := h
 refine zNSR (zp1 rfl (zl 5 6 h rfl (zp1 rfl (zs 3 h rfl ?_))))
 intro w13 h
 refine zNSR (zl 3 0 h rfl (zs 4 h rfl ?_))
 intro w14 h
 replace h : SH _ _ [Ch.own S3 (r3 : List Int) [.slice p6 r3.length k6], Ch.own S2 (r2 : List qX) [.slice p5 r2.length k5], Ch.own S1 (r1 : List qal) [.slice p4 r1.length k4], Ch.box bb3 [.string a.Name, .int .i64 a.Kind, .slice p4 r1.length k4, .slice p5 r2.length k5, .slice p6 r3.length k6, .int .i64 a.Leak, .int .i64 a.Energy] 155, Ch.box bb2 [.string a.Name, .int .i64 a.Kind, .slice p4 r1.length k4, .slice p5 r2.length k5, .slice p6 r3.length k6, .int .i64 a.Leak, .int .i64 a.Energy] 155, Ch.box bb1 [.string a.Name, .int .i64 a.Kind, .slice p1 a.Pins.length k1, .slice p2 a.Arcs.length k2, .slice p3 a.Truth.length k3, .int .i64 a.Leak, .int .i64 a.Energy] 176] := h
 refine qb ?_
 obtain rfl := qi hF
 exact qaf qc (ρ := qA) [GoT.v qA [.string a.Name, .int .i64 a.Kind, .slice p4 r1.length k4, .slice p5 r2.length k5, .slice p6 r3.length k6, .int .i64 a.Leak, .int .i64 a.Energy]] h ⟨⟨_, _, _, rfl, rfl, h.box 4 rfl, rfl⟩, trivial⟩ (PV.done h (qan (qoY (⟨a.Name, a.Kind, r1, r2, r3, a.Leak, a.Energy⟩ : qA) h (qa7 (S := fun _ => False) rfl) (qa7 (S := fun _ => False) rfl) (qax 2 h rfl) (qax 1 h rfl) (qax 0 h rfl) (qa7 (S := fun _ => False) rfl) (qa7 (S := fun _ => False) rfl) (by rfl) (by rfl) (by rfl) (by rfl) (by rfl) (by rfl))))

def qdg (a : (List qA)) : Nat → (List qA) → Int → Option ((List qA) × Int)
 | 0, _, _ => none
 | n + 1, x2, i1 =>
  bif decide (i1 < (a.length : Int)) then
   (idx a i1).bind fun y1 =>
   (qf0 n y1).bind fun r1 =>
   (idx x2 i1).bind fun _ =>
   qdg a n (setS x2 i1 r1) (W64 (i1 + 1))
  else
   some (x2, i1)

def qga (n : Nat) (a : (List qA)) : Option (List qA) :=
 (mkS (a.length : Int) ((⟨ByteArray.empty, 0, [], [], [], 0, 0⟩ : qA) : qA)).bind fun x1 =>
 (qdg a n x1 0).bind fun o => match o with
 | (x2, _) =>
  some x2

theorem qkn {n : Nat} {w : World} {a : (List qA)} {cs1 : List Value} (ha1 : GoT.R w (old w) a cs1) {r : (List qA)} (hF : qga n a = some r) : RetV Tryz.prog 70 [GoT.v (List qA) cs1] w r := by
 obtain ⟨p1, k1, rfl, s1⟩ := ha1
 refine qe Tryz.func70 rfl (m := 23) rfl rfl (fun h => ?_)
 rw [qga] at hF
 refine zSR (zp1 rfl (zNSR (zp2 rfl ?_)))
 obtain ⟨x1, hx1, hF⟩ := qd hF
 obtain ⟨g1, g2, hx1⟩ := qcN hx1
 refine qdJ qc qA h rfl rfl rfl rfl rfl rfl rfl rfl rfl g1 g2 hx1 rfl ?_
 intro w1 S1 p2 h
 refine zp1 rfl (zNSSR (zp1 rfl (qb ?_)))
 obtain ⟨o1, hF, hK1⟩ := qd hF
 refine qv (qR [(0, _), (3, _), (4, _)] ⟨rfl, rfl, rfl, trivial⟩ ?_)
 refine qG (fun m e w' => ∃ (S2 : Nat → Prop) (x2 : (List qA)) (i1 : Int), qdg a m x2 i1 = some o1 ∧ e = [(0, .slice p1 a.length k1), (3, .slice p2 x1.length x1.length), (4, .int .i64 i1)] ∧ SH w w' [Ch.own S2 (x2 : List qA) [.slice p2 x1.length x1.length]]) n ⟨_, _, _, hF, rfl, h⟩ ?_
 rintro m1 e1 w2 ⟨S2, x2, i1, hF, rfl, h⟩
 rcases m1 with _ | m1
 ·rw [qdg] at hF
  cases hF
 rw [qdg] at hF
 refine zSSR (zp4 rfl (qb ?_))
 refine qu rfl hF ?_ ?_ <;> intro hF
 ·refine zKSBR (zp4 rfl ?_)
  obtain ⟨y1, hy1, hF⟩ := qd hF
  have he1 := qf hy1
  obtain ⟨b1, o_1, q1, cs2, hp1, hq1, -, hr1, hc2⟩ := s1.at hy1
  obtain ⟨p3, k2, p4, k3, p5, k4, rfl, s2, s3, s4⟩ := qS hr1
  refine zxe hp1 hq1 he1 rfl (zc 0 (hc2.below h.below) rfl ?_)
  obtain ⟨r1, hr2, hF⟩ := qd hF
  refine qfG r1 h call121 (qlj (qfW y1 (h.oldS s2) (h.oldS s3) (h.oldS s4)) hr2) rfl rfl rfl rfl ?_
  intro w3 S3 cs3 h
  obtain ⟨p6, k5, p7, k6, p8, k7, rfl, -, -, -⟩ := qS (h.own 0 rfl)
  obtain ⟨y2, hy2, hF⟩ := qd hF
  have he2 := qf hy2
  replace h := h.lrn0 1 rfl
  obtain ⟨b2, o_2, q2, cs4, hp2, hq2, -, hr3, hc3⟩ := (qhH (h.lrnO 1 rfl)).1.at hy2
  have hr4 := hr3
  obtain ⟨p9, k8, p10, k9, p11, k10, rfl, s8, s9, s10⟩ := qS hr3
  replace h := h.lrnAdd 1 rfl hr4
  refine zx hp2 hq2 ⟨he2.1, qah he2.2.1 (qhH (h.lrnO 1 rfl)).2⟩ rfl ?_
  replace h := h.unlrn 1 rfl
  refine qiy qc r1 h hy2 hp2 hq2 rfl rfl rfl rfl rfl ?_
  intro w4 S4 h
  exact zNER (zp3 rfl (qb (qy m1 [(0, _), (3, _), (4, _)] (Nat.lt_succ_self m1) ⟨rfl, rfl, rfl, trivial⟩ ⟨_, _, _, hF, rfl, h⟩)))
 refine qH rfl ?_
 obtain rfl := qi hF; replace hF := hK1
 refine zSR (zp2 rfl (qb ?_))
 obtain rfl := qi hF
 exact qaf qc (ρ := (List qA)) [GoT.v (List qA) [.slice p2 x1.length x1.length]] h ⟨rfl, trivial⟩ (PV.done h (qan (qax 0 h rfl)))

def qeW (n : Nat) (a : qn) : Option qn :=
 (qga n a.Cells).bind fun r1 =>
 some (⟨r1⟩ : qn)

theorem qjL {n : Nat} {w : World} {a : qn} {cs1 : List Value} (ha1 : GoT.R w (old w) a cs1) {r : qn} (hF : qeW n a = some r) : RetV Tryz.prog 36 [GoT.v qn cs1] w r := by
 obtain ⟨p1, k1, rfl, s1⟩ := qbf ha1
 refine qe Tryz.func36 rfl (m := 9) rfl rfl (fun h => ?_)
 rw [qeW] at hF
 refine zSR (qO h rfl rfl ?_)
 intro w1 bb1 h
 refine qU qc h rfl rfl rfl ?_
 intro w2 bb2 h
 refine zNSR (qU qc h rfl rfl rfl ?_)
 intro w3 bb3 h
 refine zNSR (zp1 rfl (zl 2 0 h rfl ?_))
 obtain ⟨r1, hr1, hF⟩ := qd hF
 refine qav r1 h call70 (qkn ⟨_, _, rfl, (h.oldS s1)⟩ hr1) rfl rfl rfl rfl ?_
 intro w4 S1 p2 k2 h
 refine zp1 rfl (zs 1 h rfl ?_)
 intro w5 h
 refine zNSR (zl 1 0 h rfl (zs 2 h rfl ?_))
 intro w6 h
 replace h : SH _ _ [Ch.own S1 (r1 : List qA) [.slice p2 r1.length k2], Ch.box bb3 [.slice p2 r1.length k2] 41, Ch.box bb2 [.slice p2 r1.length k2] 41, Ch.box bb1 [.slice p1 a.Cells.length k1] 24] := h
 refine qb ?_
 obtain rfl := qi hF
 exact qaf qc (ρ := qn) [GoT.v qn [.slice p2 r1.length k2]] h ⟨⟨_, _, _, rfl, rfl, h.box 2 rfl, rfl⟩, trivial⟩ (PV.done h (qan (qmw (⟨r1⟩ : qn) h (qax 0 h rfl))))

def qdQ (n : Nat) (a : ql) : Option ql :=
 (qbp n a.Nets).bind fun r1 =>
 some (⟨a.Name, a.Cell, r1⟩ : ql)

theorem qjc {n : Nat} {w : World} {a : ql} {cs1 : List Value} (ha1 : GoT.R w (old w) a cs1) {r : ql} (hF : qdQ n a = some r) : RetV Tryz.prog 122 [GoT.v ql cs1] w r := by
 obtain ⟨p1, k1, rfl, s1⟩ := qT ha1
 refine qe Tryz.func122 rfl (m := 15) rfl rfl (fun h => ?_)
 rw [qdQ] at hF
 refine zSR (qO h rfl rfl ?_)
 intro w1 bb1 h
 refine qU qc h rfl rfl rfl ?_
 intro w2 bb2 h
 refine zNSR (qU qc h rfl rfl rfl ?_)
 intro w3 bb3 h
 refine zNSR (zp1 rfl (zl 2 0 h rfl (zp1 rfl (zs 0 h rfl ?_))))
 intro w4 h
 refine zNSR (zp1 rfl (zl 2 1 h rfl (zp1 rfl (zs 0 h rfl ?_))))
 intro w5 h
 replace h : SH _ _ [Ch.box bb3 [.string a.Name, .int .i64 a.Cell, .slice none 0 0] 126, Ch.box bb2 [.string ByteArray.empty, .int .i64 0, .slice none 0 0] 126, Ch.box bb1 [.string a.Name, .int .i64 a.Cell, .slice p1 a.Nets.length k1] 178] := h
 refine zNSR (zp1 rfl (zl 2 2 h rfl ?_))
 obtain ⟨r1, hr1, hF⟩ := qd hF
 refine qav r1 h call27 (qbT ⟨_, _, rfl, (h.oldS s1)⟩ hr1) rfl rfl rfl rfl ?_
 intro w6 S1 p2 k2 h
 refine zp1 rfl (zs 1 h rfl ?_)
 intro w7 h
 refine zNSR (zl 1 0 h rfl (zs 2 h rfl ?_))
 intro w8 h
 replace h : SH _ _ [Ch.own S1 (r1 : List Int) [.slice p2 r1.length k2], Ch.box bb3 [.string a.Name, .int .i64 a.Cell, .slice p2 r1.length k2] 126, Ch.box bb2 [.string a.Name, .int .i64 a.Cell, .slice p2 r1.length k2] 126, Ch.box bb1 [.string a.Name, .int .i64 a.Cell, .slice p1 a.Nets.length k1] 178] := h
 refine qb ?_
 obtain rfl := qi hF
 exact qaf qc (ρ := ql) [GoT.v ql [.string a.Name, .int .i64 a.Cell, .slice p2 r1.length k2]] h ⟨⟨_, _, _, rfl, rfl, h.box 2 rfl, rfl⟩, trivial⟩ (PV.done h (qan (qmk (⟨a.Name, a.Cell, r1⟩ : ql) h (qa7 (S := fun _ => False) rfl) (qa7 (S := fun _ => False) rfl) (qax 0 h rfl) (by rfl) (by rfl))))

def qbY (a : (List ql)) : Nat → (List ql) → Int → Option ((List ql) × Int)
 | 0, _, _ => none
 | n + 1, x2, i1 =>
  bif decide (i1 < (a.length : Int)) then
   (idx a i1).bind fun y1 =>
   (qdQ n y1).bind fun r1 =>
   (idx x2 i1).bind fun _ =>
   qbY a n (setS x2 i1 r1) (W64 (i1 + 1))
  else
   some (x2, i1)

def qee (n : Nat) (a : (List ql)) : Option (List ql) :=
 (mkS (a.length : Int) ((⟨ByteArray.empty, 0, []⟩ : ql) : ql)).bind fun x1 =>
 (qbY a n x1 0).bind fun o => match o with
 | (x2, _) =>
  some x2

theorem qi5 {n : Nat} {w : World} {a : (List ql)} {cs1 : List Value} (ha1 : GoT.R w (old w) a cs1) {r : (List ql)} (hF : qee n a = some r) : RetV Tryz.prog 71 [GoT.v (List ql) cs1] w r := by
 obtain ⟨p1, k1, rfl, s1⟩ := ha1
 refine qe Tryz.func71 rfl (m := 23) rfl rfl (fun h => ?_)
 rw [qee] at hF
 refine zSR (zp1 rfl (zNSR (zp2 rfl ?_)))
 obtain ⟨x1, hx1, hF⟩ := qd hF
 obtain ⟨g1, g2, hx1⟩ := qcN hx1
 refine qdJ qc ql h rfl rfl rfl rfl rfl rfl rfl rfl rfl g1 g2 hx1 rfl ?_
 intro w1 S1 p2 h
 refine zp1 rfl (zNSSR (zp1 rfl (qb ?_)))
 obtain ⟨o1, hF, hK1⟩ := qd hF
 refine qv (qR [(0, _), (3, _), (4, _)] ⟨rfl, rfl, rfl, trivial⟩ ?_)
 refine qG (fun m e w' => ∃ (S2 : Nat → Prop) (x2 : (List ql)) (i1 : Int), qbY a m x2 i1 = some o1 ∧ e = [(0, .slice p1 a.length k1), (3, .slice p2 x1.length x1.length), (4, .int .i64 i1)] ∧ SH w w' [Ch.own S2 (x2 : List ql) [.slice p2 x1.length x1.length]]) n ⟨_, _, _, hF, rfl, h⟩ ?_
 rintro m1 e1 w2 ⟨S2, x2, i1, hF, rfl, h⟩
 rcases m1 with _ | m1
 ·rw [qbY] at hF
  cases hF
 rw [qbY] at hF
 refine zSSR (zp4 rfl (qb ?_))
 refine qu rfl hF ?_ ?_ <;> intro hF
 ·refine zKSBR (zp4 rfl ?_)
  obtain ⟨y1, hy1, hF⟩ := qd hF
  have he1 := qf hy1
  obtain ⟨b1, o_1, q1, cs2, hp1, hq1, -, hr1, hc2⟩ := s1.at hy1
  obtain ⟨p3, k2, rfl, s2⟩ := qT hr1
  refine zxe hp1 hq1 he1 rfl (zc 0 (hc2.below h.below) rfl ?_)
  obtain ⟨r1, hr2, hF⟩ := qd hF
  refine qfG r1 h call122 (qjc (qeM y1 (h.oldS s2)) hr2) rfl rfl rfl rfl ?_
  intro w3 S3 cs3 h
  obtain ⟨p4, k3, rfl, -⟩ := qT (h.own 0 rfl)
  obtain ⟨y2, hy2, hF⟩ := qd hF
  have he2 := qf hy2
  replace h := h.lrn0 1 rfl
  obtain ⟨b2, o_2, q2, cs4, hp2, hq2, -, hr3, hc3⟩ := (qhH (h.lrnO 1 rfl)).1.at hy2
  have hr4 := hr3
  obtain ⟨p5, k4, rfl, s4⟩ := qT hr3
  replace h := h.lrnAdd 1 rfl hr4
  refine zx hp2 hq2 ⟨he2.1, qah he2.2.1 (qhH (h.lrnO 1 rfl)).2⟩ rfl ?_
  replace h := h.unlrn 1 rfl
  refine qiy qc r1 h hy2 hp2 hq2 rfl rfl rfl rfl rfl ?_
  intro w4 S4 h
  exact zNER (zp3 rfl (qb (qy m1 [(0, _), (3, _), (4, _)] (Nat.lt_succ_self m1) ⟨rfl, rfl, rfl, trivial⟩ ⟨_, _, _, hF, rfl, h⟩)))
 refine qH rfl ?_
 obtain rfl := qi hF; replace hF := hK1
 refine zSR (zp2 rfl (qb ?_))
 obtain rfl := qi hF
 exact qaf qc (ρ := (List ql)) [GoT.v (List ql) [.slice p2 x1.length x1.length]] h ⟨rfl, trivial⟩ (PV.done h (qan (qax 0 h rfl)))

def qcs (a : (List ByteArray)) : Nat → (List ByteArray) → Int → Option ((List ByteArray) × Int)
 | 0, _, _ => none
 | n + 1, x2, i1 =>
  bif decide (i1 < (a.length : Int)) then
   (idx a i1).bind fun y1 =>
   (idx x2 i1).bind fun _ =>
   qcs a n (setS x2 i1 y1) (W64 (i1 + 1))
  else
   some (x2, i1)

def qe0 (n : Nat) (a : (List ByteArray)) : Option (List ByteArray) :=
 (mkS (a.length : Int) (ByteArray.empty : ByteArray)).bind fun x1 =>
 (qcs a n x1 0).bind fun o => match o with
 | (x2, _) =>
  some x2

theorem qjP {n : Nat} {w : World} {a : (List ByteArray)} {cs1 : List Value} (ha1 : GoT.R w (old w) a cs1) {r : (List ByteArray)} (hF : qe0 n a = some r) : RetV Tryz.prog 72 [GoT.v (List ByteArray) cs1] w r := by
 obtain ⟨p1, k1, rfl, s1⟩ := ha1
 refine qe Tryz.func72 rfl (m := 22) rfl rfl (fun h => ?_)
 rw [qe0] at hF
 refine zSR (zp1 rfl (zNSR (zp2 rfl ?_)))
 obtain ⟨x1, hx1, hF⟩ := qd hF
 obtain ⟨g1, g2, hx1⟩ := qcN hx1
 refine qdJ qc ByteArray h rfl rfl rfl rfl rfl rfl rfl rfl rfl g1 g2 hx1 rfl ?_
 intro w1 S1 p2 h
 refine zp1 rfl (zNSSR (zp1 rfl (qb ?_)))
 obtain ⟨o1, hF, hK1⟩ := qd hF
 refine qv (qR [(0, _), (3, _), (4, _)] ⟨rfl, rfl, rfl, trivial⟩ ?_)
 refine qG (fun m e w' => ∃ (x2 : (List ByteArray)) (i1 : Int), qcs a m x2 i1 = some o1 ∧ e = [(0, .slice p1 a.length k1), (3, .slice p2 x1.length x1.length), (4, .int .i64 i1)] ∧ SH w w' [Ch.own S1 (x2 : List ByteArray) [.slice p2 x1.length x1.length]]) n ⟨_, _, hF, rfl, h⟩ ?_
 rintro m1 e1 w2 ⟨x2, i1, hF, rfl, h⟩
 rcases m1 with _ | m1
 ·rw [qcs] at hF
  cases hF
 rw [qcs] at hF
 refine zSSR (zp4 rfl (qb ?_))
 refine qu rfl hF ?_ ?_ <;> intro hF
 ·refine zKSBR (zp4 rfl ?_)
  obtain ⟨y1, hy1, hF⟩ := qd hF
  have he1 := qf hy1
  obtain ⟨b1, o_1, q1, cs2, hp1, hq1, -, hr1, hc2⟩ := s1.at hy1
  obtain rfl := hr1
  refine zxe hp1 hq1 he1 rfl (zc 0 (hc2.below h.below) rfl ?_)
  obtain ⟨y2, hy2, hF⟩ := qd hF
  have he2 := qf hy2
  obtain ⟨b2, o_2, q2, cs3, hp2, hq2, -, hr2, hc3⟩ := (h.sl 0 rfl).1.at hy2
  obtain rfl := hr2
  refine zx hp2 hq2 ⟨he2.1, qah he2.2.1 (h.sl 0 rfl).2⟩ rfl (qdt qc 0 0 y1 h rfl hy2 hp2 hq2 rfl hc3 rfl rfl rfl rfl rfl rfl rfl ?_)
  intro w3 h
  exact zNER (zp3 rfl (qb (qy m1 [(0, _), (3, _), (4, _)] (Nat.lt_succ_self m1) ⟨rfl, rfl, rfl, trivial⟩ ⟨_, _, hF, rfl, h⟩)))
 refine qH rfl ?_
 obtain rfl := qi hF; replace hF := hK1
 refine zSR (zp2 rfl (qb ?_))
 obtain rfl := qi hF
 exact qaf qc (ρ := (List ByteArray)) [GoT.v (List ByteArray) [.slice p2 x1.length x1.length]] h ⟨rfl, trivial⟩ (PV.done h (qan (qax 0 h rfl)))

def qfQ (_ : Nat) (a : qae) : Option qae :=
 some (⟨a.Name, a.Dir, a.Net⟩ : qae)

theorem qk6 {n : Nat} {w : World} {a : qae} {cs1 : List Value} (ha1 : GoT.R w (old w) a cs1) {r : qae} (hF : qfQ n a = some r) : RetV Tryz.prog 123 [GoT.v qae cs1] w r := by
 obtain rfl := qbc ha1
 refine qe Tryz.func123 rfl (m := 14) rfl rfl (fun h => ?_)
 rw [qfQ] at hF
 refine zSR (qO h rfl rfl ?_)
 intro w1 bb1 h
 refine qU qc h rfl rfl rfl ?_
 intro w2 bb2 h
 refine zNSR (qU qc h rfl rfl rfl ?_)
 intro w3 bb3 h
 refine zNSR (zp1 rfl (zl 2 0 h rfl (zp1 rfl (zs 0 h rfl ?_))))
 intro w4 h
 refine zNSR (zp1 rfl (zl 2 1 h rfl (zp1 rfl (zs 0 h rfl ?_))))
 intro w5 h
 replace h : SH _ _ [Ch.box bb3 [.string a.Name, .int .i64 a.Dir, .int .i64 0] 148, Ch.box bb2 [.string ByteArray.empty, .int .i64 0, .int .i64 0] 148, Ch.box bb1 [.string a.Name, .int .i64 a.Dir, .int .i64 a.Net] 180] := h
 refine zNSR (zp1 rfl (zl 2 2 h rfl (zp1 rfl (zs 0 h rfl ?_))))
 intro w6 h
 refine zNSR (zl 0 0 h rfl (zs 1 h rfl ?_))
 intro w7 h
 replace h : SH _ _ [Ch.box bb3 [.string a.Name, .int .i64 a.Dir, .int .i64 a.Net] 148, Ch.box bb2 [.string a.Name, .int .i64 a.Dir, .int .i64 a.Net] 148, Ch.box bb1 [.string a.Name, .int .i64 a.Dir, .int .i64 a.Net] 180] := h
 refine qb ?_
 obtain rfl := qi hF
 exact qaf qc (ρ := qae) [GoT.v qae [.string a.Name, .int .i64 a.Dir, .int .i64 a.Net]] h ⟨⟨_, _, _, rfl, rfl, h.box 1 rfl, rfl⟩, trivial⟩ (PV.done h (qan (qa7 (S := fun _ => False) (qgw (⟨a.Name, a.Dir, a.Net⟩ : qae)))))

def qdl (a : (List qae)) : Nat → (List qae) → Int → Option ((List qae) × Int)
 | 0, _, _ => none
 | n + 1, x2, i1 =>
  bif decide (i1 < (a.length : Int)) then
   (idx a i1).bind fun y1 =>
   (qfQ n y1).bind fun r1 =>
   (idx x2 i1).bind fun _ =>
   qdl a n (setS x2 i1 r1) (W64 (i1 + 1))
  else
   some (x2, i1)

def qgi (n : Nat) (a : (List qae)) : Option (List qae) :=
 (mkS (a.length : Int) ((⟨ByteArray.empty, 0, 0⟩ : qae) : qae)).bind fun x1 =>
 (qdl a n x1 0).bind fun o => match o with
 | (x2, _) =>
  some x2

theorem qkE {n : Nat} {w : World} {a : (List qae)} {cs1 : List Value} (ha1 : GoT.R w (old w) a cs1) {r : (List qae)} (hF : qgi n a = some r) : RetV Tryz.prog 73 [GoT.v (List qae) cs1] w r := by
 obtain ⟨p1, k1, rfl, s1⟩ := ha1
 refine qe Tryz.func73 rfl (m := 23) rfl rfl (fun h => ?_)
 rw [qgi] at hF
 refine zSR (zp1 rfl (zNSR (zp2 rfl ?_)))
 obtain ⟨x1, hx1, hF⟩ := qd hF
 obtain ⟨g1, g2, hx1⟩ := qcN hx1
 refine qdJ qc qae h rfl rfl rfl rfl rfl rfl rfl rfl rfl g1 g2 hx1 rfl ?_
 intro w1 S1 p2 h
 refine zp1 rfl (zNSSR (zp1 rfl (qb ?_)))
 obtain ⟨o1, hF, hK1⟩ := qd hF
 refine qv (qR [(0, _), (3, _), (4, _)] ⟨rfl, rfl, rfl, trivial⟩ ?_)
 refine qG (fun m e w' => ∃ (x2 : (List qae)) (i1 : Int), qdl a m x2 i1 = some o1 ∧ e = [(0, .slice p1 a.length k1), (3, .slice p2 x1.length x1.length), (4, .int .i64 i1)] ∧ SH w w' [Ch.own S1 (x2 : List qae) [.slice p2 x1.length x1.length]]) n ⟨_, _, hF, rfl, h⟩ ?_
 rintro m1 e1 w2 ⟨x2, i1, hF, rfl, h⟩
 rcases m1 with _ | m1
 ·rw [qdl] at hF
  cases hF
 rw [qdl] at hF
 refine zSSR (zp4 rfl (qb ?_))
 refine qu rfl hF ?_ ?_ <;> intro hF
 ·refine zKSBR (zp4 rfl ?_)
  obtain ⟨y1, hy1, hF⟩ := qd hF
  have he1 := qf hy1
  obtain ⟨b1, o_1, q1, cs2, hp1, hq1, -, hr1, hc2⟩ := s1.at hy1
  obtain rfl := qbc hr1
  refine zxe hp1 hq1 he1 rfl (zc 0 (hc2.below h.below) rfl ?_)
  obtain ⟨r1, hr2, hF⟩ := qd hF
  refine qfG r1 h call123 (qk6 (qgw y1) hr2) rfl rfl rfl rfl ?_
  intro w3 S2 cs3 h
  obtain rfl := qbc (h.own 0 rfl)
  obtain ⟨y2, hy2, hF⟩ := qd hF
  have he2 := qf hy2
  obtain ⟨b2, o_2, q2, cs4, hp2, hq2, -, hr3, hc3⟩ := (h.sl 1 rfl).1.at hy2
  obtain rfl := qbc hr3
  refine zx hp2 hq2 ⟨he2.1, qah he2.2.1 (h.sl 1 rfl).2⟩ rfl (qdt qc 1 0 r1 h rfl hy2 hp2 hq2 (qgw y2) hc3 rfl rfl rfl (qgw r1) rfl rfl rfl ?_)
  intro w4 h
  refine zNER (zp3 rfl (qb ?_))
  replace h := h.pick [1] rfl
  exact qy m1 [(0, _), (3, _), (4, _)] (Nat.lt_succ_self m1) ⟨rfl, rfl, rfl, trivial⟩ ⟨_, _, hF, rfl, h⟩
 refine qH rfl ?_
 obtain rfl := qi hF; replace hF := hK1
 refine zSR (zp2 rfl (qb ?_))
 obtain rfl := qi hF
 exact qaf qc (ρ := (List qae)) [GoT.v (List qae) [.slice p2 x1.length x1.length]] h ⟨rfl, trivial⟩ (PV.done h (qan (qax 0 h rfl)))

def qfE (n : Nat) (a : qh) : Option qh :=
 (qee n a.Instances).bind fun r1 =>
 (qe0 n a.Nets).bind fun r2 =>
 (qgi n a.Ports).bind fun r3 =>
 some (⟨r1, r2, r3⟩ : qh)

theorem qjW {n : Nat} {w : World} {a : qh} {cs1 : List Value} (ha1 : GoT.R w (old w) a cs1) {r : qh} (hF : qfE n a = some r) : RetV Tryz.prog 37 [GoT.v qh cs1] w r := by
 obtain ⟨p1, k1, p2, k2, p3, k3, rfl, s1, s2, s3⟩ := qai ha1
 refine qe Tryz.func37 rfl (m := 17) rfl rfl (fun h => ?_)
 rw [qfE] at hF
 refine zSR (qO h rfl rfl ?_)
 intro w1 bb1 h
 refine qU qc h rfl rfl rfl ?_
 intro w2 bb2 h
 refine zNSR (qU qc h rfl rfl rfl ?_)
 intro w3 bb3 h
 refine zNSR (zp1 rfl (zl 2 0 h rfl ?_))
 obtain ⟨r1, hr1, hF⟩ := qd hF
 refine qav r1 h call71 (qi5 ⟨_, _, rfl, (h.oldS s1)⟩ hr1) rfl rfl rfl rfl ?_
 intro w4 S1 p4 k4 h
 refine zp1 rfl (zs 1 h rfl ?_)
 intro w5 h
 refine zNSR (zp1 rfl (zl 3 1 h rfl ?_))
 obtain ⟨r2, hr2, hF⟩ := qd hF
 refine qav r2 h call72 (qjP ⟨_, _, rfl, (h.oldS s2)⟩ hr2) rfl rfl rfl rfl ?_
 intro w6 S2 p5 k5 h
 refine zp1 rfl (zs 2 h rfl ?_)
 intro w7 h
 replace h : SH _ _ [Ch.own S2 (r2 : List ByteArray) [.slice p5 r2.length k5], Ch.own S1 (r1 : List ql) [.slice p4 r1.length k4], Ch.box bb3 [.slice p4 r1.length k4, .slice p5 r2.length k5, .slice none 0 0] 45, Ch.box bb2 [.slice none 0 0, .slice none 0 0, .slice none 0 0] 45, Ch.box bb1 [.slice p1 a.Instances.length k1, .slice p2 a.Nets.length k2, .slice p3 a.Ports.length k3] 29] := h
 refine zNSR (zp1 rfl (zl 4 2 h rfl ?_))
 obtain ⟨r3, hr3, hF⟩ := qd hF
 refine qav r3 h call73 (qkE ⟨_, _, rfl, (h.oldS s3)⟩ hr3) rfl rfl rfl rfl ?_
 intro w8 S3 p6 k6 h
 refine zp1 rfl (zs 3 h rfl ?_)
 intro w9 h
 refine zNSR (zl 3 0 h rfl (zs 4 h rfl ?_))
 intro w10 h
 replace h : SH _ _ [Ch.own S3 (r3 : List qae) [.slice p6 r3.length k6], Ch.own S2 (r2 : List ByteArray) [.slice p5 r2.length k5], Ch.own S1 (r1 : List ql) [.slice p4 r1.length k4], Ch.box bb3 [.slice p4 r1.length k4, .slice p5 r2.length k5, .slice p6 r3.length k6] 45, Ch.box bb2 [.slice p4 r1.length k4, .slice p5 r2.length k5, .slice p6 r3.length k6] 45, Ch.box bb1 [.slice p1 a.Instances.length k1, .slice p2 a.Nets.length k2, .slice p3 a.Ports.length k3] 29] := h
 refine qb ?_
 obtain rfl := qi hF
 exact qaf qc (ρ := qh) [GoT.v qh [.slice p4 r1.length k4, .slice p5 r2.length k5, .slice p6 r3.length k6]] h ⟨⟨_, _, _, rfl, rfl, h.box 4 rfl, rfl⟩, trivial⟩ (PV.done h (qan (qny (⟨r1, r2, r3⟩ : qh) h (qax 2 h rfl) (qax 1 h rfl) (qax 0 h rfl) (by rfl) (by rfl))))

def qfX (n : Nat) (a : qY) : Option qY :=
 (qbp n a.Parent).bind fun r1 =>
 (qbp n a.Res).bind fun r2 =>
 (qbp n a.Cap).bind fun r3 =>
 (qbp n a.Sink).bind fun r4 =>
 some (⟨r1, r2, r3, r4⟩ : qY)

theorem qk0 {n : Nat} {w : World} {a : qY} {cs1 : List Value} (ha1 : GoT.R w (old w) a cs1) {r : qY} (hF : qfX n a = some r) : RetV Tryz.prog 74 [GoT.v qY cs1] w r := by
 obtain ⟨p1, k1, p2, k2, p3, k3, p4, k4, rfl, s1, s2, s3, s4⟩ := qbw ha1
 refine qe Tryz.func74 rfl (m := 21) rfl rfl (fun h => ?_)
 rw [qfX] at hF
 refine zSR (qO h rfl rfl ?_)
 intro w1 bb1 h
 refine qU qc h rfl rfl rfl ?_
 intro w2 bb2 h
 refine zNSR (qU qc h rfl rfl rfl ?_)
 intro w3 bb3 h
 refine zNSR (zp1 rfl (zl 2 0 h rfl ?_))
 obtain ⟨r1, hr1, hF⟩ := qd hF
 refine qav r1 h call27 (qbT ⟨_, _, rfl, (h.oldS s1)⟩ hr1) rfl rfl rfl rfl ?_
 intro w4 S1 p5 k5 h
 refine zp1 rfl (zs 1 h rfl ?_)
 intro w5 h
 refine zNSR (zp1 rfl (zl 3 1 h rfl ?_))
 obtain ⟨r2, hr2, hF⟩ := qd hF
 refine qav r2 h call27 (qbT ⟨_, _, rfl, (h.oldS s2)⟩ hr2) rfl rfl rfl rfl ?_
 intro w6 S2 p6 k6 h
 refine zp1 rfl (zs 2 h rfl ?_)
 intro w7 h
 replace h : SH _ _ [Ch.own S2 (r2 : List Int) [.slice p6 r2.length k6], Ch.own S1 (r1 : List Int) [.slice p5 r1.length k5], Ch.box bb3 [.slice p5 r1.length k5, .slice p6 r2.length k6, .slice none 0 0, .slice none 0 0] 117, Ch.box bb2 [.slice none 0 0, .slice none 0 0, .slice none 0 0, .slice none 0 0] 117, Ch.box bb1 [.slice p1 a.Parent.length k1, .slice p2 a.Res.length k2, .slice p3 a.Cap.length k3, .slice p4 a.Sink.length k4] 114] := h
 refine zNSR (zp1 rfl (zl 4 2 h rfl ?_))
 obtain ⟨r3, hr3, hF⟩ := qd hF
 refine qav r3 h call27 (qbT ⟨_, _, rfl, (h.oldS s3)⟩ hr3) rfl rfl rfl rfl ?_
 intro w8 S3 p7 k7 h
 refine zp1 rfl (zs 3 h rfl ?_)
 intro w9 h
 refine zNSR (zp1 rfl (zl 5 3 h rfl ?_))
 obtain ⟨r4, hr4, hF⟩ := qd hF
 refine qav r4 h call27 (qbT ⟨_, _, rfl, (h.oldS s4)⟩ hr4) rfl rfl rfl rfl ?_
 intro w10 S4 p8 k8 h
 refine zp1 rfl (zs 4 h rfl ?_)
 intro w11 h
 replace h : SH _ _ [Ch.own S4 (r4 : List Int) [.slice p8 r4.length k8], Ch.own S3 (r3 : List Int) [.slice p7 r3.length k7], Ch.own S2 (r2 : List Int) [.slice p6 r2.length k6], Ch.own S1 (r1 : List Int) [.slice p5 r1.length k5], Ch.box bb3 [.slice p5 r1.length k5, .slice p6 r2.length k6, .slice p7 r3.length k7, .slice p8 r4.length k8] 117, Ch.box bb2 [.slice none 0 0, .slice none 0 0, .slice none 0 0, .slice none 0 0] 117, Ch.box bb1 [.slice p1 a.Parent.length k1, .slice p2 a.Res.length k2, .slice p3 a.Cap.length k3, .slice p4 a.Sink.length k4] 114] := h
 refine zNSR (zl 4 0 h rfl (zs 5 h rfl ?_))
 intro w12 h
 refine qb ?_
 obtain rfl := qi hF
 exact qaf qc (ρ := qY) [GoT.v qY [.slice p5 r1.length k5, .slice p6 r2.length k6, .slice p7 r3.length k7, .slice p8 r4.length k8]] h ⟨⟨_, _, _, rfl, rfl, h.box 5 rfl, rfl⟩, trivial⟩ (PV.done h (qan (qo2 (⟨r1, r2, r3, r4⟩ : qY) h (qax 3 h rfl) (qax 2 h rfl) (qax 1 h rfl) (qax 0 h rfl) (by rfl) (by rfl) (by rfl))))

def qdh (a : (List qY)) : Nat → (List qY) → Int → Option ((List qY) × Int)
 | 0, _, _ => none
 | n + 1, x2, i1 =>
  bif decide (i1 < (a.length : Int)) then
   (idx a i1).bind fun y1 =>
   (qfX n y1).bind fun r1 =>
   (idx x2 i1).bind fun _ =>
   qdh a n (setS x2 i1 r1) (W64 (i1 + 1))
  else
   some (x2, i1)

def qf5 (n : Nat) (a : (List qY)) : Option (List qY) :=
 (mkS (a.length : Int) ((⟨[], [], [], []⟩ : qY) : qY)).bind fun x1 =>
 (qdh a n x1 0).bind fun o => match o with
 | (x2, _) =>
  some x2

theorem qkv {n : Nat} {w : World} {a : (List qY)} {cs1 : List Value} (ha1 : GoT.R w (old w) a cs1) {r : (List qY)} (hF : qf5 n a = some r) : RetV Tryz.prog 38 [GoT.v (List qY) cs1] w r := by
 obtain ⟨p1, k1, rfl, s1⟩ := ha1
 refine qe Tryz.func38 rfl (m := 23) rfl rfl (fun h => ?_)
 rw [qf5] at hF
 refine zSR (zp1 rfl (zNSR (zp2 rfl ?_)))
 obtain ⟨x1, hx1, hF⟩ := qd hF
 obtain ⟨g1, g2, hx1⟩ := qcN hx1
 refine qdJ qc qY h rfl rfl rfl rfl rfl rfl rfl rfl rfl g1 g2 hx1 rfl ?_
 intro w1 S1 p2 h
 refine zp1 rfl (zNSSR (zp1 rfl (qb ?_)))
 obtain ⟨o1, hF, hK1⟩ := qd hF
 refine qv (qR [(0, _), (3, _), (4, _)] ⟨rfl, rfl, rfl, trivial⟩ ?_)
 refine qG (fun m e w' => ∃ (S2 : Nat → Prop) (x2 : (List qY)) (i1 : Int), qdh a m x2 i1 = some o1 ∧ e = [(0, .slice p1 a.length k1), (3, .slice p2 x1.length x1.length), (4, .int .i64 i1)] ∧ SH w w' [Ch.own S2 (x2 : List qY) [.slice p2 x1.length x1.length]]) n ⟨_, _, _, hF, rfl, h⟩ ?_
 rintro m1 e1 w2 ⟨S2, x2, i1, hF, rfl, h⟩
 rcases m1 with _ | m1
 ·rw [qdh] at hF
  cases hF
 rw [qdh] at hF
 refine zSSR (zp4 rfl (qb ?_))
 refine qu rfl hF ?_ ?_ <;> intro hF
 ·refine zKSBR (zp4 rfl ?_)
  obtain ⟨y1, hy1, hF⟩ := qd hF
  have he1 := qf hy1
  obtain ⟨b1, o_1, q1, cs2, hp1, hq1, -, hr1, hc2⟩ := s1.at hy1
  obtain ⟨p3, k2, p4, k3, p5, k4, p6, k5, rfl, s2, s3, s4, s5⟩ := qbw hr1
  refine zxe hp1 hq1 he1 rfl (zc 0 (hc2.below h.below) rfl ?_)
  obtain ⟨r1, hr2, hF⟩ := qd hF
  refine qfG r1 h call74 (qk0 (qhe y1 (h.oldS s2) (h.oldS s3) (h.oldS s4) (h.oldS s5)) hr2) rfl rfl rfl rfl ?_
  intro w3 S3 cs3 h
  obtain ⟨p7, k6, p8, k7, p9, k8, p10, k9, rfl, -, -, -, -⟩ := qbw (h.own 0 rfl)
  obtain ⟨y2, hy2, hF⟩ := qd hF
  have he2 := qf hy2
  replace h := h.lrn0 1 rfl
  obtain ⟨b2, o_2, q2, cs4, hp2, hq2, -, hr3, hc3⟩ := (qhH (h.lrnO 1 rfl)).1.at hy2
  have hr4 := hr3
  obtain ⟨p11, k10, p12, k11, p13, k12, p14, k13, rfl, s10, s11, s12, s13⟩ := qbw hr3
  replace h := h.lrnAdd 1 rfl hr4
  refine zx hp2 hq2 ⟨he2.1, qah he2.2.1 (qhH (h.lrnO 1 rfl)).2⟩ rfl ?_
  replace h := h.unlrn 1 rfl
  refine qiy qc r1 h hy2 hp2 hq2 rfl rfl rfl rfl rfl ?_
  intro w4 S4 h
  exact zNER (zp3 rfl (qb (qy m1 [(0, _), (3, _), (4, _)] (Nat.lt_succ_self m1) ⟨rfl, rfl, rfl, trivial⟩ ⟨_, _, _, hF, rfl, h⟩)))
 refine qH rfl ?_
 obtain rfl := qi hF; replace hF := hK1
 refine zSR (zp2 rfl (qb ?_))
 obtain rfl := qi hF
 exact qaf qc (ρ := (List qY)) [GoT.v (List qY) [.slice p2 x1.length x1.length]] h ⟨rfl, trivial⟩ (PV.done h (qan (qax 0 h rfl)))

def qez (n : Nat) (a : qw) : Option qw :=
 (qeW n (⟨a.Library.Cells⟩ : qn)).bind fun r1 =>
 (qfE n (⟨a.Design.Instances, a.Design.Nets, a.Design.Ports⟩ : qh)).bind fun r2 =>
 (qf5 n a.Wires).bind fun r3 =>
 some (⟨r1, r2, r3⟩ : qw)

theorem qg0 {n : Nat} {w : World} {a : qw} {cs1 : List Value} (ha1 : GoT.R w (old w) a cs1) {r : qw} (hF : qez n a = some r) : RetV Tryz.prog 11 [GoT.v qw cs1] w r := by
 obtain ⟨p1, k1, p2, k2, p3, k3, p4, k4, p5, k5, rfl, s1, s2, s3, s4, s5⟩ := qaw ha1
 refine qe Tryz.func11 rfl (m := 17) rfl rfl (fun h => ?_)
 rw [qez] at hF
 refine zSR (qO h rfl rfl ?_)
 intro w1 bb1 h
 refine qU qc h rfl rfl rfl ?_
 intro w2 bb2 h
 refine zNSR (qU qc h rfl rfl rfl ?_)
 intro w3 bb3 h
 refine zNSR (zp1 rfl (zl 2 0 h rfl ?_))
 obtain ⟨r1, hr1, hF⟩ := qd hF
 refine qfG r1 h call36 (qjL (qcW (⟨a.Library.Cells⟩ : qn) (h.oldS s1)) hr1) rfl rfl rfl rfl ?_
 intro w4 S1 cs2 h
 obtain ⟨p6, k6, rfl, -⟩ := qbf (h.own 0 rfl)
 refine zp1 rfl (zs 1 h rfl ?_)
 intro w5 h
 refine zNSR (zp1 rfl (zl 3 1 h rfl ?_))
 obtain ⟨r2, hr2, hF⟩ := qd hF
 refine qfG r2 h call37 (qjW (qaX (⟨a.Design.Instances, a.Design.Nets, a.Design.Ports⟩ : qh) (h.oldS s2) (h.oldS s3) (h.oldS s4)) hr2) rfl rfl rfl rfl ?_
 intro w6 S2 cs3 h
 obtain ⟨p7, k7, p8, k8, p9, k9, rfl, -, -, -⟩ := qai (h.own 0 rfl)
 refine zp1 rfl (zs 2 h rfl ?_)
 intro w7 h
 replace h : SH _ _ [Ch.own S2 (r2 : qh) [.slice p7 r2.Instances.length k7, .slice p8 r2.Nets.length k8, .slice p9 r2.Ports.length k9], Ch.own S1 (r1 : qn) [.slice p6 r1.Cells.length k6], Ch.box bb3 [.slice p6 r1.Cells.length k6, .slice p7 r2.Instances.length k7, .slice p8 r2.Nets.length k8, .slice p9 r2.Ports.length k9, .slice none 0 0] 48, Ch.box bb2 [.slice none 0 0, .slice none 0 0, .slice none 0 0, .slice none 0 0, .slice none 0 0] 48, Ch.box bb1 [.slice p1 a.Library.Cells.length k1, .slice p2 a.Design.Instances.length k2, .slice p3 a.Design.Nets.length k3, .slice p4 a.Design.Ports.length k4, .slice p5 a.Wires.length k5] 32] := h
 refine zNSR (zp1 rfl (zl 4 4 h rfl ?_))
 obtain ⟨r3, hr3, hF⟩ := qd hF
 refine qav r3 h call38 (qkv ⟨_, _, rfl, (h.oldS s5)⟩ hr3) rfl rfl rfl rfl ?_
 intro w8 S3 p10 k10 h
 refine zp1 rfl (zs 3 h rfl ?_)
 intro w9 h
 refine zNSR (zl 3 0 h rfl (zs 4 h rfl ?_))
 intro w10 h
 replace h : SH _ _ [Ch.own S3 (r3 : List qY) [.slice p10 r3.length k10], Ch.own S2 (r2 : qh) [.slice p7 r2.Instances.length k7, .slice p8 r2.Nets.length k8, .slice p9 r2.Ports.length k9], Ch.own S1 (r1 : qn) [.slice p6 r1.Cells.length k6], Ch.box bb3 [.slice p6 r1.Cells.length k6, .slice p7 r2.Instances.length k7, .slice p8 r2.Nets.length k8, .slice p9 r2.Ports.length k9, .slice p10 r3.length k10] 48, Ch.box bb2 [.slice p6 r1.Cells.length k6, .slice p7 r2.Instances.length k7, .slice p8 r2.Nets.length k8, .slice p9 r2.Ports.length k9, .slice p10 r3.length k10] 48, Ch.box bb1 [.slice p1 a.Library.Cells.length k1, .slice p2 a.Design.Instances.length k2, .slice p3 a.Design.Nets.length k3, .slice p4 a.Design.Ports.length k4, .slice p5 a.Wires.length k5] 32] := h
 refine qb ?_
 obtain rfl := qi hF
 exact qaf qc (ρ := qw) [GoT.v qw [.slice p6 r1.Cells.length k6, .slice p7 r2.Instances.length k7, .slice p8 r2.Nets.length k8, .slice p9 r2.Ports.length k9, .slice p10 r3.length k10]] h ⟨⟨_, _, _, rfl, rfl, h.box 4 rfl, rfl⟩, trivial⟩ (PV.done h (qan (qn6 (⟨r1, r2, r3⟩ : qw) h (qax 2 h rfl) (qax 1 h rfl) (qax 0 h rfl) (by rfl) (by rfl))))

def qcO (a : (List Int)) (b : (List Int)) : Nat → Int → Option (Flow Bool Int)
 | 0, _ => none
 | n + 1, i1 =>
  bif decide (i1 < (a.length : Int)) then
   (idx a i1).bind fun y1 =>
   (idx b i1).bind fun y2 =>
   bif (y1 != y2) then
    some (.ret false)
   else
    qcO a b n (W64 (i1 + 1))
  else
   some (.nxt i1)

def qbm (n : Nat) (a : (List Int)) (b : (List Int)) : Option Bool :=
 bif ((a.length : Int) != (b.length : Int)) then
  some false
 else
  (qcO a b n 0).bind fun o => match o with
  | .ret r => some r
  | .nxt _ =>
   some true

theorem qbW {n : Nat} {w : World} {a : (List Int)} {b : (List Int)} {cs1 : List Value} (ha1 : GoT.R w (old w) a cs1) {cs2 : List Value} (ha2 : GoT.R w (old w) b cs2) {r : Bool} (hF : qbm n a b = some r) : RetV Tryz.prog 22 [GoT.v (List Int) cs1, GoT.v (List Int) cs2] w r := by
 obtain ⟨p1, k1, rfl, s1⟩ := ha1
 obtain ⟨p2, k2, rfl, s2⟩ := ha2
 refine qe Tryz.func22 rfl (m := 26) rfl rfl (fun h => ?_)
 rw [qbm] at hF
 refine zSR (zp1 rfl (zNSSR (zp5 rfl ?_)))
 refine qb ?_
 refine qu rfl hF ?_ ?_ <;> intro hF
 ·exact zSR (zp1 rfl (qb (qx qc h hF ⟨rfl, trivial⟩)))
 refine zKSSR (zp1 rfl (qb ?_))
 obtain ⟨o1, hF, hK1⟩ := qd hF
 refine qv (qR [(0, _), (1, _), (5, _)] ⟨rfl, rfl, rfl, trivial⟩ ?_)
 refine qG (fun m e w' => ∃ (i1 : Int), qcO a b m i1 = some o1 ∧ e = [(0, .slice p1 a.length k1), (1, .slice p2 b.length k2), (5, .int .i64 i1)] ∧ SH w w' []) n ⟨_, hF, rfl, h⟩ ?_
 rintro m1 e1 w1 ⟨i1, hF, rfl, h⟩
 rcases m1 with _ | m1
 ·rw [qcO] at hF
  cases hF
 rw [qcO] at hF
 refine zSSR (zp4 rfl (qb ?_))
 refine qu rfl hF ?_ ?_ <;> intro hF
 ·refine zKSB (qbg ?_)
  refine qcQ rfl (by kernel_rfl) ?_
  refine zd2 rfl ?_
  obtain ⟨y1, hy1, hF⟩ := qd hF
  have he1 := qf hy1
  obtain ⟨b1, o_1, q1, cs3, hp1, hq1, -, hr1, hc3⟩ := s1.at hy1
  obtain rfl := hr1
  refine zdxe hp1 hq1 he1 rfl ?_
  refine zdc 0 (hc3.below h.below) rfl ?_
  refine zd2 rfl ?_
  obtain ⟨y2, hy2, hF⟩ := qd hF
  have he2 := qf hy2
  obtain ⟨b2, o_2, q2, cs4, hp2, hq2, -, hr2, hc4⟩ := s2.at hy2
  obtain rfl := hr2
  refine zdxe hp2 hq2 he2 rfl ?_
  refine zdc 0 (hc4.below h.below) rfl ?_
  refine zd1 rfl ?_
  refine qbj (fun w2 hb => ?_)
  replace h := h.ext hb
  clear hb
  refine qu rfl hF ?_ ?_ <;> intro hF
  ·refine zSR (zp1 rfl (qb ?_))
   obtain rfl := qi hF; replace hF := hK1
   exact qx qc h hF ⟨rfl, trivial⟩
  exact zKER (zp3 rfl (qb (qy m1 [(0, _), (1, _), (5, _)] (Nat.lt_succ_self m1) ⟨rfl, rfl, rfl, trivial⟩ ⟨_, hF, rfl, h⟩)))
 refine qH rfl ?_
 obtain rfl := qi hF; replace hF := hK1
 exact zSR (zp1 rfl (qb (qx qc h hF ⟨rfl, trivial⟩)))

end Go.Fw


namespace Go.Fw
open Go Go.Proofs
open Go.RowKit (Below)
set_option maxRecDepth 100000
def qgA (_ : Nat) (a : qal) (b : qal) : Option Bool :=
 bif (a.Name.toList != b.Name.toList) then
  some false
 else
  bif (a.Dir != b.Dir) then
   some false
  else
   bif (a.Cap != b.Cap) then
    some false
   else
    bif (!(a.Clock == b.Clock)) then
     some false
    else
     some true

theorem qlE {n : Nat} {w : World} {a : qal} {b : qal} {cs1 : List Value} (ha1 : GoT.R w (old w) a cs1) {cs2 : List Value} (ha2 : GoT.R w (old w) b cs2) {r : Bool} (hF : qgA n a b = some r) : RetV Tryz.prog 175 [GoT.v qal cs1, GoT.v qal cs2] w r := by
 obtain rfl := qbd ha1
 obtain rfl := qbd ha2
 refine qe Tryz.func175 rfl (m := 25) rfl rfl (fun h => ?_)
 rw [qgA] at hF
 refine zSR (qO h rfl rfl ?_)
 intro w1 bb1 h
 refine qO h rfl rfl ?_
 intro w2 bb2 h
 refine zp1 rfl (zNSSR (zp1 rfl (zl 1 0 h rfl (zp1 rfl (zl 0 0 h rfl (zp1 rfl (qb ?_)))))))
 refine qu rfl hF ?_ ?_ <;> intro hF
 ·exact zSR (zp1 rfl (qb (qx qc h hF ⟨rfl, trivial⟩)))
 refine zKSSR (zp1 rfl (zl 1 1 h rfl (zp1 rfl (zl 0 1 h rfl (zp1 rfl (qb ?_))))))
 refine qu rfl hF ?_ ?_ <;> intro hF
 ·exact zSR (zp1 rfl (qb (qx qc h hF ⟨rfl, trivial⟩)))
 refine zKSSR (zp1 rfl (zl 1 2 h rfl (zp1 rfl (zl 0 2 h rfl (zp1 rfl (qb ?_))))))
 refine qu rfl hF ?_ ?_ <;> intro hF
 ·exact zSR (zp1 rfl (qb (qx qc h hF ⟨rfl, trivial⟩)))
 refine zKSSR (zp1 rfl (zl 1 3 h rfl (zp1 rfl (zl 0 3 h rfl (zp1 rfl (qb ?_))))))
 refine qu rfl hF ?_ ?_ <;> intro hF
 ·exact zSR (zp1 rfl (qb (qx qc h hF ⟨rfl, trivial⟩)))
 exact zKSR (zp1 rfl (qb (qx qc h hF ⟨rfl, trivial⟩)))

def qdz (a : (List qal)) (b : (List qal)) : Nat → Int → Option (Flow Bool Int)
 | 0, _ => none
 | n + 1, i1 =>
  bif decide (i1 < (a.length : Int)) then
   (idx a i1).bind fun y1 =>
   (idx b i1).bind fun y2 =>
   (qgA n y1 y2).bind fun r1 =>
   bif (!r1) then
    some (.ret false)
   else
    qdz a b n (W64 (i1 + 1))
  else
   some (.nxt i1)

def qgK (n : Nat) (a : (List qal)) (b : (List qal)) : Option Bool :=
 bif ((a.length : Int) != (b.length : Int)) then
  some false
 else
  (qdz a b n 0).bind fun o => match o with
  | .ret r => some r
  | .nxt _ =>
   some true

theorem qkZ {n : Nat} {w : World} {a : (List qal)} {b : (List qal)} {cs1 : List Value} (ha1 : GoT.R w (old w) a cs1) {cs2 : List Value} (ha2 : GoT.R w (old w) b cs2) {r : Bool} (hF : qgK n a b = some r) : RetV Tryz.prog 160 [GoT.v (List qal) cs1, GoT.v (List qal) cs2] w r := by
 obtain ⟨p1, k1, rfl, s1⟩ := ha1
 obtain ⟨p2, k2, rfl, s2⟩ := ha2
 refine qe Tryz.func160 rfl (m := 27) rfl rfl (fun h => ?_)
 rw [qgK] at hF
 refine zSR (zp1 rfl (zNSSR (zp5 rfl ?_)))
 refine qb ?_
 refine qu rfl hF ?_ ?_ <;> intro hF
 ·exact zSR (zp1 rfl (qb (qx qc h hF ⟨rfl, trivial⟩)))
 refine zKSSR (zp1 rfl (qb ?_))
 obtain ⟨o1, hF, hK1⟩ := qd hF
 refine qv (qR [(0, _), (1, _), (5, _)] ⟨rfl, rfl, rfl, trivial⟩ ?_)
 refine qG (fun m e w' => ∃ (i1 : Int), qdz a b m i1 = some o1 ∧ e = [(0, .slice p1 a.length k1), (1, .slice p2 b.length k2), (5, .int .i64 i1)] ∧ SH w w' []) n ⟨_, hF, rfl, h⟩ ?_
 rintro m1 e1 w1 ⟨i1, hF, rfl, h⟩
 rcases m1 with _ | m1
 ·rw [qdz] at hF
  cases hF
 rw [qdz] at hF
 refine zSSR (zp4 rfl (qb ?_))
 refine qu rfl hF ?_ ?_ <;> intro hF
 ·refine zKSB (qbg ?_)
  refine qcQ rfl (by kernel_rfl) ?_
  refine zd2 rfl ?_
  obtain ⟨y1, hy1, hF⟩ := qd hF
  have he1 := qf hy1
  obtain ⟨b1, o_1, q1, cs3, hp1, hq1, -, hr1, hc3⟩ := s1.at hy1
  obtain rfl := qbd hr1
  refine zdxe hp1 hq1 he1 rfl ?_
  refine zdc 0 (hc3.below h.below) rfl ?_
  refine zd2 rfl ?_
  obtain ⟨y2, hy2, hF⟩ := qd hF
  have he2 := qf hy2
  obtain ⟨b2, o_2, q2, cs4, hp2, hq2, -, hr2, hc4⟩ := s2.at hy2
  obtain rfl := qbd hr2
  refine zdxe hp2 hq2 he2 rfl ?_
  refine zdc 0 (hc4.below h.below) rfl ?_
  obtain ⟨r1, hr3, hF⟩ := qd hF
  refine qc8 r1 (vsB _) call175 (fun _ hb => qlE (qgU y1) (qgU y2) hr3) rfl rfl rfl rfl ?_
  refine zd1 rfl ?_
  refine qbj (fun w2 hb => ?_)
  replace h := h.ext hb
  clear hb
  refine qu rfl hF ?_ ?_ <;> intro hF
  ·refine zSR (zp1 rfl (qb ?_))
   obtain rfl := qi hF; replace hF := hK1
   exact qx qc h hF ⟨rfl, trivial⟩
  exact zKER (zp3 rfl (qb (qy m1 [(0, _), (1, _), (5, _)] (Nat.lt_succ_self m1) ⟨rfl, rfl, rfl, trivial⟩ ⟨_, hF, rfl, h⟩)))
 refine qH rfl ?_
 obtain rfl := qi hF; replace hF := hK1
 exact zSR (zp1 rfl (qb (qx qc h hF ⟨rfl, trivial⟩)))

def qfb (n : Nat) (a : qE) (b : qE) : Option Bool :=
 (qbm n a.Slews b.Slews).bind fun r1 =>
 bif (!r1) then
  some false
 else
  (qbm n a.Loads b.Loads).bind fun r2 =>
  bif (!r2) then
   some false
  else
   (qbm n a.Values b.Values).bind fun r3 =>
   bif (!r3) then
    some false
   else
    some true

theorem qkC {n : Nat} {w : World} {a : qE} {b : qE} {cs1 : List Value} (ha1 : GoT.R w (old w) a cs1) {cs2 : List Value} (ha2 : GoT.R w (old w) b cs2) {r : Bool} (hF : qfb n a b = some r) : RetV Tryz.prog 203 [GoT.v qE cs1, GoT.v qE cs2] w r := by
 obtain ⟨p1, k1, p2, k2, p3, k3, rfl, s1, s2, s3⟩ := qbr ha1
 obtain ⟨p4, k4, p5, k5, p6, k6, rfl, s4, s5, s6⟩ := qbr ha2
 refine qe Tryz.func203 rfl (m := 23) rfl rfl (fun h => ?_)
 rw [qfb] at hF
 refine zSR (qO h rfl rfl ?_)
 intro w1 bb1 h
 refine qO h rfl rfl ?_
 intro w2 bb2 h
 refine zp1 rfl (zNSSR (zp1 rfl (zl 1 0 h rfl (zp1 rfl (zl 0 0 h rfl ?_)))))
 obtain ⟨r1, hr1, hF⟩ := qd hF
 refine qt r1 h call22 (qbW ⟨_, _, rfl, (h.oldS s1)⟩ ⟨_, _, rfl, (h.oldS s4)⟩ hr1) rfl rfl rfl rfl ?_
 intro w3 h
 refine zp1 rfl (qb ?_)
 refine qu rfl hF ?_ ?_ <;> intro hF
 ·exact zSR (zp1 rfl (qb (qx qc h hF ⟨rfl, trivial⟩)))
 refine zKSSR (zp1 rfl (zl 1 1 h rfl (zp1 rfl (zl 0 1 h rfl ?_))))
 obtain ⟨r2, hr2, hF⟩ := qd hF
 refine qt r2 h call22 (qbW ⟨_, _, rfl, (h.oldS s2)⟩ ⟨_, _, rfl, (h.oldS s5)⟩ hr2) rfl rfl rfl rfl ?_
 intro w4 h
 refine zp1 rfl (qb ?_)
 refine qu rfl hF ?_ ?_ <;> intro hF
 ·exact zSR (zp1 rfl (qb (qx qc h hF ⟨rfl, trivial⟩)))
 refine zKSSR (zp1 rfl (zl 1 2 h rfl (zp1 rfl (zl 0 2 h rfl ?_))))
 obtain ⟨r3, hr3, hF⟩ := qd hF
 refine qt r3 h call22 (qbW ⟨_, _, rfl, (h.oldS s3)⟩ ⟨_, _, rfl, (h.oldS s6)⟩ hr3) rfl rfl rfl rfl ?_
 intro w5 h
 refine zp1 rfl (qb ?_)
 refine qu rfl hF ?_ ?_ <;> intro hF
 ·exact zSR (zp1 rfl (qb (qx qc h hF ⟨rfl, trivial⟩)))
 exact zKSR (zp1 rfl (qb (qx qc h hF ⟨rfl, trivial⟩)))

def qcT (a : (List qE)) (b : (List qE)) : Nat → Int → Option (Flow Bool Int)
 | 0, _ => none
 | n + 1, i1 =>
  bif decide (i1 < (a.length : Int)) then
   (idx a i1).bind fun y1 =>
   (idx b i1).bind fun y2 =>
   (qfb n y1 y2).bind fun r1 =>
   bif (!r1) then
    some (.ret false)
   else
    qcT a b n (W64 (i1 + 1))
  else
   some (.nxt i1)

def qeK (n : Nat) (a : (List qE)) (b : (List qE)) : Option Bool :=
 bif ((a.length : Int) != (b.length : Int)) then
  some false
 else
  (qcT a b n 0).bind fun o => match o with
  | .ret r => some r
  | .nxt _ =>
   some true

theorem qhT {n : Nat} {w : World} {a : (List qE)} {b : (List qE)} {cs1 : List Value} (ha1 : GoT.R w (old w) a cs1) {cs2 : List Value} (ha2 : GoT.R w (old w) b cs2) {r : Bool} (hF : qeK n a b = some r) : RetV Tryz.prog 186 [GoT.v (List qE) cs1, GoT.v (List qE) cs2] w r := by
 obtain ⟨p1, k1, rfl, s1⟩ := ha1
 obtain ⟨p2, k2, rfl, s2⟩ := ha2
 refine qe Tryz.func186 rfl (m := 27) rfl rfl (fun h => ?_)
 rw [qeK] at hF
 refine zSR (zp1 rfl (zNSSR (zp5 rfl ?_)))
 refine qb ?_
 refine qu rfl hF ?_ ?_ <;> intro hF
 ·exact zSR (zp1 rfl (qb (qx qc h hF ⟨rfl, trivial⟩)))
 refine zKSSR (zp1 rfl (qb ?_))
 obtain ⟨o1, hF, hK1⟩ := qd hF
 refine qv (qR [(0, _), (1, _), (5, _)] ⟨rfl, rfl, rfl, trivial⟩ ?_)
 refine qG (fun m e w' => ∃ (i1 : Int), qcT a b m i1 = some o1 ∧ e = [(0, .slice p1 a.length k1), (1, .slice p2 b.length k2), (5, .int .i64 i1)] ∧ SH w w' []) n ⟨_, hF, rfl, h⟩ ?_
 rintro m1 e1 w1 ⟨i1, hF, rfl, h⟩
 rcases m1 with _ | m1
 ·rw [qcT] at hF
  cases hF
 rw [qcT] at hF
 refine zSSR (zp4 rfl (qb ?_))
 refine qu rfl hF ?_ ?_ <;> intro hF
 ·refine zKSB (qbg ?_)
  refine qcQ rfl (by kernel_rfl) ?_
  refine zd2 rfl ?_
  obtain ⟨y1, hy1, hF⟩ := qd hF
  have he1 := qf hy1
  obtain ⟨b1, o_1, q1, cs3, hp1, hq1, -, hr1, hc3⟩ := s1.at hy1
  obtain ⟨p3, k3, p4, k4, p5, k5, rfl, s3, s4, s5⟩ := qbr hr1
  refine zdxe hp1 hq1 he1 rfl ?_
  refine zdc 0 (hc3.below h.below) rfl ?_
  refine zd2 rfl ?_
  obtain ⟨y2, hy2, hF⟩ := qd hF
  have he2 := qf hy2
  obtain ⟨b2, o_2, q2, cs4, hp2, hq2, -, hr2, hc4⟩ := s2.at hy2
  obtain ⟨p6, k6, p7, k7, p8, k8, rfl, s6, s7, s8⟩ := qbr hr2
  refine zdxe hp2 hq2 he2 rfl ?_
  refine zdc 0 (hc4.below h.below) rfl ?_
  obtain ⟨r1, hr3, hF⟩ := qd hF
  refine qc8 r1 (vsB _) call203 (fun _ hb => qkC (qgx y1 ((h.ext hb).oldS s3) ((h.ext hb).oldS s4) ((h.ext hb).oldS s5)) (qgx y2 ((h.ext hb).oldS s6) ((h.ext hb).oldS s7) ((h.ext hb).oldS s8)) hr3) rfl rfl rfl rfl ?_
  refine zd1 rfl ?_
  refine qbj (fun w2 hb => ?_)
  replace h := h.ext hb
  clear hb
  refine qu rfl hF ?_ ?_ <;> intro hF
  ·refine zSR (zp1 rfl (qb ?_))
   obtain rfl := qi hF; replace hF := hK1
   exact qx qc h hF ⟨rfl, trivial⟩
  exact zKER (zp3 rfl (qb (qy m1 [(0, _), (1, _), (5, _)] (Nat.lt_succ_self m1) ⟨rfl, rfl, rfl, trivial⟩ ⟨_, hF, rfl, h⟩)))
 refine qH rfl ?_
 obtain rfl := qi hF; replace hF := hK1
 exact zSR (zp1 rfl (qb (qx qc h hF ⟨rfl, trivial⟩)))

def qgG (n : Nat) (a : qX) (b : qX) : Option Bool :=
 bif (a.Kind != b.Kind) then
  some false
 else
  bif (a.From != b.From) then
   some false
  else
   bif (a.To != b.To) then
    some false
   else
    bif (a.Sense != b.Sense) then
     some false
    else
     (qeK n a.Delay b.Delay).bind fun r1 =>
     bif (!r1) then
      some false
     else
      (qeK n a.Slew b.Slew).bind fun r2 =>
      bif (!r2) then
       some false
      else
       some true

theorem qlF {n : Nat} {w : World} {a : qX} {b : qX} {cs1 : List Value} (ha1 : GoT.R w (old w) a cs1) {cs2 : List Value} (ha2 : GoT.R w (old w) b cs2) {r : Bool} (hF : qgG n a b = some r) : RetV Tryz.prog 176 [GoT.v qX cs1, GoT.v qX cs2] w r := by
 obtain ⟨p1, k1, p2, k2, rfl, s1, s2⟩ := qao ha1
 obtain ⟨p3, k3, p4, k4, rfl, s3, s4⟩ := qao ha2
 refine qe Tryz.func176 rfl (m := 37) rfl rfl (fun h => ?_)
 rw [qgG] at hF
 refine zSR (qO h rfl rfl ?_)
 intro w1 bb1 h
 refine qO h rfl rfl ?_
 intro w2 bb2 h
 refine zp1 rfl (zNSSR (zp1 rfl (zl 1 0 h rfl (zp1 rfl (zl 0 0 h rfl (zp1 rfl (qb ?_)))))))
 refine qu rfl hF ?_ ?_ <;> intro hF
 ·exact zSR (zp1 rfl (qb (qx qc h hF ⟨rfl, trivial⟩)))
 refine zKSSR (zp1 rfl (zl 1 1 h rfl (zp1 rfl (zl 0 1 h rfl (zp1 rfl (qb ?_))))))
 refine qu rfl hF ?_ ?_ <;> intro hF
 ·exact zSR (zp1 rfl (qb (qx qc h hF ⟨rfl, trivial⟩)))
 refine zKSSR (zp1 rfl (zl 1 2 h rfl (zp1 rfl (zl 0 2 h rfl (zp1 rfl (qb ?_))))))
 refine qu rfl hF ?_ ?_ <;> intro hF
 ·exact zSR (zp1 rfl (qb (qx qc h hF ⟨rfl, trivial⟩)))
 refine zKSSR (zp1 rfl (zl 1 3 h rfl (zp1 rfl (zl 0 3 h rfl (zp1 rfl (qb ?_))))))
 refine qu rfl hF ?_ ?_ <;> intro hF
 ·exact zSR (zp1 rfl (qb (qx qc h hF ⟨rfl, trivial⟩)))
 refine zKSSR (zp1 rfl (zl 1 4 h rfl (zp1 rfl (zl 0 4 h rfl ?_))))
 obtain ⟨r1, hr1, hF⟩ := qd hF
 refine qt r1 h call186 (qhT ⟨_, _, rfl, (h.oldS s1)⟩ ⟨_, _, rfl, (h.oldS s3)⟩ hr1) rfl rfl rfl rfl ?_
 intro w3 h
 refine zp1 rfl (qb ?_)
 refine qu rfl hF ?_ ?_ <;> intro hF
 ·exact zSR (zp1 rfl (qb (qx qc h hF ⟨rfl, trivial⟩)))
 refine zKSSR (zp1 rfl (zl 1 5 h rfl (zp1 rfl (zl 0 5 h rfl ?_))))
 obtain ⟨r2, hr2, hF⟩ := qd hF
 refine qt r2 h call186 (qhT ⟨_, _, rfl, (h.oldS s2)⟩ ⟨_, _, rfl, (h.oldS s4)⟩ hr2) rfl rfl rfl rfl ?_
 intro w4 h
 refine zp1 rfl (qb ?_)
 refine qu rfl hF ?_ ?_ <;> intro hF
 ·exact zSR (zp1 rfl (qb (qx qc h hF ⟨rfl, trivial⟩)))
 exact zKSR (zp1 rfl (qb (qx qc h hF ⟨rfl, trivial⟩)))

def qdG (a : (List qX)) (b : (List qX)) : Nat → Int → Option (Flow Bool Int)
 | 0, _ => none
 | n + 1, i1 =>
  bif decide (i1 < (a.length : Int)) then
   (idx a i1).bind fun y1 =>
   (idx b i1).bind fun y2 =>
   (qgG n y1 y2).bind fun r1 =>
   bif (!r1) then
    some (.ret false)
   else
    qdG a b n (W64 (i1 + 1))
  else
   some (.nxt i1)

def qgS (n : Nat) (a : (List qX)) (b : (List qX)) : Option Bool :=
 bif ((a.length : Int) != (b.length : Int)) then
  some false
 else
  (qdG a b n 0).bind fun o => match o with
  | .ret r => some r
  | .nxt _ =>
   some true

theorem qlm {n : Nat} {w : World} {a : (List qX)} {b : (List qX)} {cs1 : List Value} (ha1 : GoT.R w (old w) a cs1) {cs2 : List Value} (ha2 : GoT.R w (old w) b cs2) {r : Bool} (hF : qgS n a b = some r) : RetV Tryz.prog 161 [GoT.v (List qX) cs1, GoT.v (List qX) cs2] w r := by
 obtain ⟨p1, k1, rfl, s1⟩ := ha1
 obtain ⟨p2, k2, rfl, s2⟩ := ha2
 refine qe Tryz.func161 rfl (m := 27) rfl rfl (fun h => ?_)
 rw [qgS] at hF
 refine zSR (zp1 rfl (zNSSR (zp5 rfl ?_)))
 refine qb ?_
 refine qu rfl hF ?_ ?_ <;> intro hF
 ·exact zSR (zp1 rfl (qb (qx qc h hF ⟨rfl, trivial⟩)))
 refine zKSSR (zp1 rfl (qb ?_))
 obtain ⟨o1, hF, hK1⟩ := qd hF
 refine qv (qR [(0, _), (1, _), (5, _)] ⟨rfl, rfl, rfl, trivial⟩ ?_)
 refine qG (fun m e w' => ∃ (i1 : Int), qdG a b m i1 = some o1 ∧ e = [(0, .slice p1 a.length k1), (1, .slice p2 b.length k2), (5, .int .i64 i1)] ∧ SH w w' []) n ⟨_, hF, rfl, h⟩ ?_
 rintro m1 e1 w1 ⟨i1, hF, rfl, h⟩
 rcases m1 with _ | m1
 ·rw [qdG] at hF
  cases hF
 rw [qdG] at hF
 refine zSSR (zp4 rfl (qb ?_))
 refine qu rfl hF ?_ ?_ <;> intro hF
 ·refine zKSB (qbg ?_)
  refine qcQ rfl (by kernel_rfl) ?_
  refine zd2 rfl ?_
  obtain ⟨y1, hy1, hF⟩ := qd hF
  have he1 := qf hy1
  obtain ⟨b1, o_1, q1, cs3, hp1, hq1, -, hr1, hc3⟩ := s1.at hy1
  obtain ⟨p3, k3, p4, k4, rfl, s3, s4⟩ := qao hr1
  refine zdxe hp1 hq1 he1 rfl ?_
  refine zdc 0 (hc3.below h.below) rfl ?_
  refine zd2 rfl ?_
  obtain ⟨y2, hy2, hF⟩ := qd hF
  have he2 := qf hy2
  obtain ⟨b2, o_2, q2, cs4, hp2, hq2, -, hr2, hc4⟩ := s2.at hy2
  obtain ⟨p5, k5, p6, k6, rfl, s5, s6⟩ := qao hr2
  refine zdxe hp2 hq2 he2 rfl ?_
  refine zdc 0 (hc4.below h.below) rfl ?_
  obtain ⟨r1, hr3, hF⟩ := qd hF
  refine qc8 r1 (vsB _) call176 (fun _ hb => qlF (qeU y1 ((h.ext hb).oldS s3) ((h.ext hb).oldS s4)) (qeU y2 ((h.ext hb).oldS s5) ((h.ext hb).oldS s6)) hr3) rfl rfl rfl rfl ?_
  refine zd1 rfl ?_
  refine qbj (fun w2 hb => ?_)
  replace h := h.ext hb
  clear hb
  refine qu rfl hF ?_ ?_ <;> intro hF
  ·refine zSR (zp1 rfl (qb ?_))
   obtain rfl := qi hF; replace hF := hK1
   exact qx qc h hF ⟨rfl, trivial⟩
  exact zKER (zp3 rfl (qb (qy m1 [(0, _), (1, _), (5, _)] (Nat.lt_succ_self m1) ⟨rfl, rfl, rfl, trivial⟩ ⟨_, hF, rfl, h⟩)))
 refine qH rfl ?_
 obtain rfl := qi hF; replace hF := hK1
 exact zSR (zp1 rfl (qb (qx qc h hF ⟨rfl, trivial⟩)))

def qfY (n : Nat) (a : qA) (b : qA) : Option Bool :=
 bif (a.Name.toList != b.Name.toList) then
  some false
 else
  bif (a.Kind != b.Kind) then
   some false
  else
   (qgK n a.Pins b.Pins).bind fun r1 =>
   bif (!r1) then
    some false
   else
    (qgS n a.Arcs b.Arcs).bind fun r2 =>
    bif (!r2) then
     some false
    else
     (qbm n a.Truth b.Truth).bind fun r3 =>
     bif (!r3) then
      some false
     else
      bif (a.Leak != b.Leak) then
       some false
      else
       bif (a.Energy != b.Energy) then
        some false
       else
        some true

theorem qlk {n : Nat} {w : World} {a : qA} {b : qA} {cs1 : List Value} (ha1 : GoT.R w (old w) a cs1) {cs2 : List Value} (ha2 : GoT.R w (old w) b cs2) {r : Bool} (hF : qfY n a b = some r) : RetV Tryz.prog 138 [GoT.v qA cs1, GoT.v qA cs2] w r := by
 obtain ⟨p1, k1, p2, k2, p3, k3, rfl, s1, s2, s3⟩ := qS ha1
 obtain ⟨p4, k4, p5, k5, p6, k6, rfl, s4, s5, s6⟩ := qS ha2
 refine qe Tryz.func138 rfl (m := 43) rfl rfl (fun h => ?_)
 rw [qfY] at hF
 refine zSR (qO h rfl rfl ?_)
 intro w1 bb1 h
 refine qO h rfl rfl ?_
 intro w2 bb2 h
 refine zp1 rfl (zNSSR (zp1 rfl (zl 1 0 h rfl (zp1 rfl (zl 0 0 h rfl (zp1 rfl (qb ?_)))))))
 refine qu rfl hF ?_ ?_ <;> intro hF
 ·exact zSR (zp1 rfl (qb (qx qc h hF ⟨rfl, trivial⟩)))
 refine zKSSR (zp1 rfl (zl 1 1 h rfl (zp1 rfl (zl 0 1 h rfl (zp1 rfl (qb ?_))))))
 refine qu rfl hF ?_ ?_ <;> intro hF
 ·exact zSR (zp1 rfl (qb (qx qc h hF ⟨rfl, trivial⟩)))
 refine zKSSR (zp1 rfl (zl 1 2 h rfl (zp1 rfl (zl 0 2 h rfl ?_))))
 obtain ⟨r1, hr1, hF⟩ := qd hF
 refine qt r1 h call160 (qkZ ⟨_, _, rfl, (h.oldS s1)⟩ ⟨_, _, rfl, (h.oldS s4)⟩ hr1) rfl rfl rfl rfl ?_
 intro w3 h
 refine zp1 rfl (qb ?_)
 refine qu rfl hF ?_ ?_ <;> intro hF
 ·exact zSR (zp1 rfl (qb (qx qc h hF ⟨rfl, trivial⟩)))
 refine zKSSR (zp1 rfl (zl 1 3 h rfl (zp1 rfl (zl 0 3 h rfl ?_))))
 obtain ⟨r2, hr2, hF⟩ := qd hF
 refine qt r2 h call161 (qlm ⟨_, _, rfl, (h.oldS s2)⟩ ⟨_, _, rfl, (h.oldS s5)⟩ hr2) rfl rfl rfl rfl ?_
 intro w4 h
 refine zp1 rfl (qb ?_)
 refine qu rfl hF ?_ ?_ <;> intro hF
 ·exact zSR (zp1 rfl (qb (qx qc h hF ⟨rfl, trivial⟩)))
 refine zKSSR (zp1 rfl (zl 1 4 h rfl (zp1 rfl (zl 0 4 h rfl ?_))))
 obtain ⟨r3, hr3, hF⟩ := qd hF
 refine qt r3 h call22 (qbW ⟨_, _, rfl, (h.oldS s3)⟩ ⟨_, _, rfl, (h.oldS s6)⟩ hr3) rfl rfl rfl rfl ?_
 intro w5 h
 refine zp1 rfl (qb ?_)
 refine qu rfl hF ?_ ?_ <;> intro hF
 ·exact zSR (zp1 rfl (qb (qx qc h hF ⟨rfl, trivial⟩)))
 refine zKSSR (zp1 rfl (zl 1 5 h rfl (zp1 rfl (zl 0 5 h rfl (zp1 rfl (qb ?_))))))
 refine qu rfl hF ?_ ?_ <;> intro hF
 ·exact zSR (zp1 rfl (qb (qx qc h hF ⟨rfl, trivial⟩)))
 refine zKSSR (zp1 rfl (zl 1 6 h rfl (zp1 rfl (zl 0 6 h rfl (zp1 rfl (qb ?_))))))
 refine qu rfl hF ?_ ?_ <;> intro hF
 ·exact zSR (zp1 rfl (qb (qx qc h hF ⟨rfl, trivial⟩)))
 exact zKSR (zp1 rfl (qb (qx qc h hF ⟨rfl, trivial⟩)))

def qdj (a : (List qA)) (b : (List qA)) : Nat → Int → Option (Flow Bool Int)
 | 0, _ => none
 | n + 1, i1 =>
  bif decide (i1 < (a.length : Int)) then
   (idx a i1).bind fun y1 =>
   (idx b i1).bind fun y2 =>
   (qfY n y1 y2).bind fun r1 =>
   bif (!r1) then
    some (.ret false)
   else
    qdj a b n (W64 (i1 + 1))
  else
   some (.nxt i1)

def qgc (n : Nat) (a : (List qA)) (b : (List qA)) : Option Bool :=
 bif ((a.length : Int) != (b.length : Int)) then
  some false
 else
  (qdj a b n 0).bind fun o => match o with
  | .ret r => some r
  | .nxt _ =>
   some true

theorem qkp {n : Nat} {w : World} {a : (List qA)} {b : (List qA)} {cs1 : List Value} (ha1 : GoT.R w (old w) a cs1) {cs2 : List Value} (ha2 : GoT.R w (old w) b cs2) {r : Bool} (hF : qgc n a b = some r) : RetV Tryz.prog 86 [GoT.v (List qA) cs1, GoT.v (List qA) cs2] w r := by
 obtain ⟨p1, k1, rfl, s1⟩ := ha1
 obtain ⟨p2, k2, rfl, s2⟩ := ha2
 refine qe Tryz.func86 rfl (m := 27) rfl rfl (fun h => ?_)
 rw [qgc] at hF
 refine zSR (zp1 rfl (zNSSR (zp5 rfl ?_)))
 refine qb ?_
 refine qu rfl hF ?_ ?_ <;> intro hF
 ·exact zSR (zp1 rfl (qb (qx qc h hF ⟨rfl, trivial⟩)))
 refine zKSSR (zp1 rfl (qb ?_))
 obtain ⟨o1, hF, hK1⟩ := qd hF
 refine qv (qR [(0, _), (1, _), (5, _)] ⟨rfl, rfl, rfl, trivial⟩ ?_)
 refine qG (fun m e w' => ∃ (i1 : Int), qdj a b m i1 = some o1 ∧ e = [(0, .slice p1 a.length k1), (1, .slice p2 b.length k2), (5, .int .i64 i1)] ∧ SH w w' []) n ⟨_, hF, rfl, h⟩ ?_
 rintro m1 e1 w1 ⟨i1, hF, rfl, h⟩
 rcases m1 with _ | m1
 ·rw [qdj] at hF
  cases hF
 rw [qdj] at hF
 refine zSSR (zp4 rfl (qb ?_))
 refine qu rfl hF ?_ ?_ <;> intro hF
 ·refine zKSB (qbg ?_)
  refine qcQ rfl (by kernel_rfl) ?_
  refine zd2 rfl ?_
  obtain ⟨y1, hy1, hF⟩ := qd hF
  have he1 := qf hy1
  obtain ⟨b1, o_1, q1, cs3, hp1, hq1, -, hr1, hc3⟩ := s1.at hy1
  obtain ⟨p3, k3, p4, k4, p5, k5, rfl, s3, s4, s5⟩ := qS hr1
  refine zdxe hp1 hq1 he1 rfl ?_
  refine zdc 0 (hc3.below h.below) rfl ?_
  refine zd2 rfl ?_
  obtain ⟨y2, hy2, hF⟩ := qd hF
  have he2 := qf hy2
  obtain ⟨b2, o_2, q2, cs4, hp2, hq2, -, hr2, hc4⟩ := s2.at hy2
  obtain ⟨p6, k6, p7, k7, p8, k8, rfl, s6, s7, s8⟩ := qS hr2
  refine zdxe hp2 hq2 he2 rfl ?_
  refine zdc 0 (hc4.below h.below) rfl ?_
  obtain ⟨r1, hr3, hF⟩ := qd hF
  refine qc8 r1 (vsB _) call138 (fun _ hb => qlk (qfW y1 ((h.ext hb).oldS s3) ((h.ext hb).oldS s4) ((h.ext hb).oldS s5)) (qfW y2 ((h.ext hb).oldS s6) ((h.ext hb).oldS s7) ((h.ext hb).oldS s8)) hr3) rfl rfl rfl rfl ?_
  refine zd1 rfl ?_
  refine qbj (fun w2 hb => ?_)
  replace h := h.ext hb
  clear hb
  refine qu rfl hF ?_ ?_ <;> intro hF
  ·refine zSR (zp1 rfl (qb ?_))
   obtain rfl := qi hF; replace hF := hK1
   exact qx qc h hF ⟨rfl, trivial⟩
  exact zKER (zp3 rfl (qb (qy m1 [(0, _), (1, _), (5, _)] (Nat.lt_succ_self m1) ⟨rfl, rfl, rfl, trivial⟩ ⟨_, hF, rfl, h⟩)))
 refine qH rfl ?_
 obtain rfl := qi hF; replace hF := hK1
 exact zSR (zp1 rfl (qb (qx qc h hF ⟨rfl, trivial⟩)))

def qeV (n : Nat) (a : qn) (b : qn) : Option Bool :=
 (qgc n a.Cells b.Cells).bind fun r1 =>
 bif (!r1) then
  some false
 else
  some true

theorem qjF {n : Nat} {w : World} {a : qn} {b : qn} {cs1 : List Value} (ha1 : GoT.R w (old w) a cs1) {cs2 : List Value} (ha2 : GoT.R w (old w) b cs2) {r : Bool} (hF : qeV n a b = some r) : RetV Tryz.prog 42 [GoT.v qn cs1, GoT.v qn cs2] w r := by
 obtain ⟨p1, k1, rfl, s1⟩ := qbf ha1
 obtain ⟨p2, k2, rfl, s2⟩ := qbf ha2
 refine qe Tryz.func42 rfl (m := 11) rfl rfl (fun h => ?_)
 rw [qeV] at hF
 refine zSR (qO h rfl rfl ?_)
 intro w1 bb1 h
 refine qO h rfl rfl ?_
 intro w2 bb2 h
 refine zp1 rfl (zNSSR (zp1 rfl (zl 1 0 h rfl (zp1 rfl (zl 0 0 h rfl ?_)))))
 obtain ⟨r1, hr1, hF⟩ := qd hF
 refine qt r1 h call86 (qkp ⟨_, _, rfl, (h.oldS s1)⟩ ⟨_, _, rfl, (h.oldS s2)⟩ hr1) rfl rfl rfl rfl ?_
 intro w3 h
 refine zp1 rfl (qb ?_)
 refine qu rfl hF ?_ ?_ <;> intro hF
 ·exact zSR (zp1 rfl (qb (qx qc h hF ⟨rfl, trivial⟩)))
 exact zKSR (zp1 rfl (qb (qx qc h hF ⟨rfl, trivial⟩)))

def qdP (n : Nat) (a : ql) (b : ql) : Option Bool :=
 bif (a.Name.toList != b.Name.toList) then
  some false
 else
  bif (a.Cell != b.Cell) then
   some false
  else
   (qbm n a.Nets b.Nets).bind fun r1 =>
   bif (!r1) then
    some false
   else
    some true

theorem qjl {n : Nat} {w : World} {a : ql} {b : ql} {cs1 : List Value} (ha1 : GoT.R w (old w) a cs1) {cs2 : List Value} (ha2 : GoT.R w (old w) b cs2) {r : Bool} (hF : qdP n a b = some r) : RetV Tryz.prog 139 [GoT.v ql cs1, GoT.v ql cs2] w r := by
 obtain ⟨p1, k1, rfl, s1⟩ := qT ha1
 obtain ⟨p2, k2, rfl, s2⟩ := qT ha2
 refine qe Tryz.func139 rfl (m := 21) rfl rfl (fun h => ?_)
 rw [qdP] at hF
 refine zSR (qO h rfl rfl ?_)
 intro w1 bb1 h
 refine qO h rfl rfl ?_
 intro w2 bb2 h
 refine zp1 rfl (zNSSR (zp1 rfl (zl 1 0 h rfl (zp1 rfl (zl 0 0 h rfl (zp1 rfl (qb ?_)))))))
 refine qu rfl hF ?_ ?_ <;> intro hF
 ·exact zSR (zp1 rfl (qb (qx qc h hF ⟨rfl, trivial⟩)))
 refine zKSSR (zp1 rfl (zl 1 1 h rfl (zp1 rfl (zl 0 1 h rfl (zp1 rfl (qb ?_))))))
 refine qu rfl hF ?_ ?_ <;> intro hF
 ·exact zSR (zp1 rfl (qb (qx qc h hF ⟨rfl, trivial⟩)))
 refine zKSSR (zp1 rfl (zl 1 2 h rfl (zp1 rfl (zl 0 2 h rfl ?_))))
 obtain ⟨r1, hr1, hF⟩ := qd hF
 refine qt r1 h call22 (qbW ⟨_, _, rfl, (h.oldS s1)⟩ ⟨_, _, rfl, (h.oldS s2)⟩ hr1) rfl rfl rfl rfl ?_
 intro w3 h
 refine zp1 rfl (qb ?_)
 refine qu rfl hF ?_ ?_ <;> intro hF
 ·exact zSR (zp1 rfl (qb (qx qc h hF ⟨rfl, trivial⟩)))
 exact zKSR (zp1 rfl (qb (qx qc h hF ⟨rfl, trivial⟩)))

def qbX (a : (List ql)) (b : (List ql)) : Nat → Int → Option (Flow Bool Int)
 | 0, _ => none
 | n + 1, i1 =>
  bif decide (i1 < (a.length : Int)) then
   (idx a i1).bind fun y1 =>
   (idx b i1).bind fun y2 =>
   (qdP n y1 y2).bind fun r1 =>
   bif (!r1) then
    some (.ret false)
   else
    qbX a b n (W64 (i1 + 1))
  else
   some (.nxt i1)

def qej (n : Nat) (a : (List ql)) (b : (List ql)) : Option Bool :=
 bif ((a.length : Int) != (b.length : Int)) then
  some false
 else
  (qbX a b n 0).bind fun o => match o with
  | .ret r => some r
  | .nxt _ =>
   some true

theorem qi1 {n : Nat} {w : World} {a : (List ql)} {b : (List ql)} {cs1 : List Value} (ha1 : GoT.R w (old w) a cs1) {cs2 : List Value} (ha2 : GoT.R w (old w) b cs2) {r : Bool} (hF : qej n a b = some r) : RetV Tryz.prog 87 [GoT.v (List ql) cs1, GoT.v (List ql) cs2] w r := by
 obtain ⟨p1, k1, rfl, s1⟩ := ha1
 obtain ⟨p2, k2, rfl, s2⟩ := ha2
 refine qe Tryz.func87 rfl (m := 27) rfl rfl (fun h => ?_)
 rw [qej] at hF
 refine zSR (zp1 rfl (zNSSR (zp5 rfl ?_)))
 refine qb ?_
 refine qu rfl hF ?_ ?_ <;> intro hF
 ·exact zSR (zp1 rfl (qb (qx qc h hF ⟨rfl, trivial⟩)))
 refine zKSSR (zp1 rfl (qb ?_))
 obtain ⟨o1, hF, hK1⟩ := qd hF
 refine qv (qR [(0, _), (1, _), (5, _)] ⟨rfl, rfl, rfl, trivial⟩ ?_)
 refine qG (fun m e w' => ∃ (i1 : Int), qbX a b m i1 = some o1 ∧ e = [(0, .slice p1 a.length k1), (1, .slice p2 b.length k2), (5, .int .i64 i1)] ∧ SH w w' []) n ⟨_, hF, rfl, h⟩ ?_
 rintro m1 e1 w1 ⟨i1, hF, rfl, h⟩
 rcases m1 with _ | m1
 ·rw [qbX] at hF
  cases hF
 rw [qbX] at hF
 refine zSSR (zp4 rfl (qb ?_))
 refine qu rfl hF ?_ ?_ <;> intro hF
 ·refine zKSB (qbg ?_)
  refine qcQ rfl (by kernel_rfl) ?_
  refine zd2 rfl ?_
  obtain ⟨y1, hy1, hF⟩ := qd hF
  have he1 := qf hy1
  obtain ⟨b1, o_1, q1, cs3, hp1, hq1, -, hr1, hc3⟩ := s1.at hy1
  obtain ⟨p3, k3, rfl, s3⟩ := qT hr1
  refine zdxe hp1 hq1 he1 rfl ?_
  refine zdc 0 (hc3.below h.below) rfl ?_
  refine zd2 rfl ?_
  obtain ⟨y2, hy2, hF⟩ := qd hF
  have he2 := qf hy2
  obtain ⟨b2, o_2, q2, cs4, hp2, hq2, -, hr2, hc4⟩ := s2.at hy2
  obtain ⟨p4, k4, rfl, s4⟩ := qT hr2
  refine zdxe hp2 hq2 he2 rfl ?_
  refine zdc 0 (hc4.below h.below) rfl ?_
  obtain ⟨r1, hr3, hF⟩ := qd hF
  refine qc8 r1 (vsB _) call139 (fun _ hb => qjl (qeM y1 ((h.ext hb).oldS s3)) (qeM y2 ((h.ext hb).oldS s4)) hr3) rfl rfl rfl rfl ?_
  refine zd1 rfl ?_
  refine qbj (fun w2 hb => ?_)
  replace h := h.ext hb
  clear hb
  refine qu rfl hF ?_ ?_ <;> intro hF
  ·refine zSR (zp1 rfl (qb ?_))
   obtain rfl := qi hF; replace hF := hK1
   exact qx qc h hF ⟨rfl, trivial⟩
  exact zKER (zp3 rfl (qb (qy m1 [(0, _), (1, _), (5, _)] (Nat.lt_succ_self m1) ⟨rfl, rfl, rfl, trivial⟩ ⟨_, hF, rfl, h⟩)))
 refine qH rfl ?_
 obtain rfl := qi hF; replace hF := hK1
 exact zSR (zp1 rfl (qb (qx qc h hF ⟨rfl, trivial⟩)))

def qcp (a : (List ByteArray)) (b : (List ByteArray)) : Nat → Int → Option (Flow Bool Int)
 | 0, _ => none
 | n + 1, i1 =>
  bif decide (i1 < (a.length : Int)) then
   (idx a i1).bind fun y1 =>
   (idx b i1).bind fun y2 =>
   bif (y1.toList != y2.toList) then
    some (.ret false)
   else
    qcp a b n (W64 (i1 + 1))
  else
   some (.nxt i1)

def qeT (n : Nat) (a : (List ByteArray)) (b : (List ByteArray)) : Option Bool :=
 bif ((a.length : Int) != (b.length : Int)) then
  some false
 else
  (qcp a b n 0).bind fun o => match o with
  | .ret r => some r
  | .nxt _ =>
   some true

theorem qjs {n : Nat} {w : World} {a : (List ByteArray)} {b : (List ByteArray)} {cs1 : List Value} (ha1 : GoT.R w (old w) a cs1) {cs2 : List Value} (ha2 : GoT.R w (old w) b cs2) {r : Bool} (hF : qeT n a b = some r) : RetV Tryz.prog 88 [GoT.v (List ByteArray) cs1, GoT.v (List ByteArray) cs2] w r := by
 obtain ⟨p1, k1, rfl, s1⟩ := ha1
 obtain ⟨p2, k2, rfl, s2⟩ := ha2
 refine qe Tryz.func88 rfl (m := 26) rfl rfl (fun h => ?_)
 rw [qeT] at hF
 refine zSR (zp1 rfl (zNSSR (zp5 rfl ?_)))
 refine qb ?_
 refine qu rfl hF ?_ ?_ <;> intro hF
 ·exact zSR (zp1 rfl (qb (qx qc h hF ⟨rfl, trivial⟩)))
 refine zKSSR (zp1 rfl (qb ?_))
 obtain ⟨o1, hF, hK1⟩ := qd hF
 refine qv (qR [(0, _), (1, _), (5, _)] ⟨rfl, rfl, rfl, trivial⟩ ?_)
 refine qG (fun m e w' => ∃ (i1 : Int), qcp a b m i1 = some o1 ∧ e = [(0, .slice p1 a.length k1), (1, .slice p2 b.length k2), (5, .int .i64 i1)] ∧ SH w w' []) n ⟨_, hF, rfl, h⟩ ?_
 rintro m1 e1 w1 ⟨i1, hF, rfl, h⟩
 rcases m1 with _ | m1
 ·rw [qcp] at hF
  cases hF
 rw [qcp] at hF
 refine zSSR (zp4 rfl (qb ?_))
 refine qu rfl hF ?_ ?_ <;> intro hF
 ·refine zKSB (qbg ?_)
  refine qcQ rfl (by kernel_rfl) ?_
  refine zd2 rfl ?_
  obtain ⟨y1, hy1, hF⟩ := qd hF
  have he1 := qf hy1
  obtain ⟨b1, o_1, q1, cs3, hp1, hq1, -, hr1, hc3⟩ := s1.at hy1
  obtain rfl := hr1
  refine zdxe hp1 hq1 he1 rfl ?_
  refine zdc 0 (hc3.below h.below) rfl ?_
  refine zd2 rfl ?_
  obtain ⟨y2, hy2, hF⟩ := qd hF
  have he2 := qf hy2
  obtain ⟨b2, o_2, q2, cs4, hp2, hq2, -, hr2, hc4⟩ := s2.at hy2
  obtain rfl := hr2
  refine zdxe hp2 hq2 he2 rfl ?_
  refine zdc 0 (hc4.below h.below) rfl ?_
  refine zd1 rfl ?_
  refine qbj (fun w2 hb => ?_)
  replace h := h.ext hb
  clear hb
  refine qu rfl hF ?_ ?_ <;> intro hF
  ·refine zSR (zp1 rfl (qb ?_))
   obtain rfl := qi hF; replace hF := hK1
   exact qx qc h hF ⟨rfl, trivial⟩
  exact zKER (zp3 rfl (qb (qy m1 [(0, _), (1, _), (5, _)] (Nat.lt_succ_self m1) ⟨rfl, rfl, rfl, trivial⟩ ⟨_, hF, rfl, h⟩)))
 refine qH rfl ?_
 obtain rfl := qi hF; replace hF := hK1
 exact zSR (zp1 rfl (qb (qx qc h hF ⟨rfl, trivial⟩)))

def qfN (_ : Nat) (a : qae) (b : qae) : Option Bool :=
 bif (a.Name.toList != b.Name.toList) then
  some false
 else
  bif (a.Dir != b.Dir) then
   some false
  else
   bif (a.Net != b.Net) then
    some false
   else
    some true

theorem qk5 {n : Nat} {w : World} {a : qae} {b : qae} {cs1 : List Value} (ha1 : GoT.R w (old w) a cs1) {cs2 : List Value} (ha2 : GoT.R w (old w) b cs2) {r : Bool} (hF : qfN n a b = some r) : RetV Tryz.prog 140 [GoT.v qae cs1, GoT.v qae cs2] w r := by
 obtain rfl := qbc ha1
 obtain rfl := qbc ha2
 refine qe Tryz.func140 rfl (m := 20) rfl rfl (fun h => ?_)
 rw [qfN] at hF
 refine zSR (qO h rfl rfl ?_)
 intro w1 bb1 h
 refine qO h rfl rfl ?_
 intro w2 bb2 h
 refine zp1 rfl (zNSSR (zp1 rfl (zl 1 0 h rfl (zp1 rfl (zl 0 0 h rfl (zp1 rfl (qb ?_)))))))
 refine qu rfl hF ?_ ?_ <;> intro hF
 ·exact zSR (zp1 rfl (qb (qx qc h hF ⟨rfl, trivial⟩)))
 refine zKSSR (zp1 rfl (zl 1 1 h rfl (zp1 rfl (zl 0 1 h rfl (zp1 rfl (qb ?_))))))
 refine qu rfl hF ?_ ?_ <;> intro hF
 ·exact zSR (zp1 rfl (qb (qx qc h hF ⟨rfl, trivial⟩)))
 refine zKSSR (zp1 rfl (zl 1 2 h rfl (zp1 rfl (zl 0 2 h rfl (zp1 rfl (qb ?_))))))
 refine qu rfl hF ?_ ?_ <;> intro hF
 ·exact zSR (zp1 rfl (qb (qx qc h hF ⟨rfl, trivial⟩)))
 exact zKSR (zp1 rfl (qb (qx qc h hF ⟨rfl, trivial⟩)))

def qdm (a : (List qae)) (b : (List qae)) : Nat → Int → Option (Flow Bool Int)
 | 0, _ => none
 | n + 1, i1 =>
  bif decide (i1 < (a.length : Int)) then
   (idx a i1).bind fun y1 =>
   (idx b i1).bind fun y2 =>
   (qfN n y1 y2).bind fun r1 =>
   bif (!r1) then
    some (.ret false)
   else
    qdm a b n (W64 (i1 + 1))
  else
   some (.nxt i1)

def qgr (n : Nat) (a : (List qae)) (b : (List qae)) : Option Bool :=
 bif ((a.length : Int) != (b.length : Int)) then
  some false
 else
  (qdm a b n 0).bind fun o => match o with
  | .ret r => some r
  | .nxt _ =>
   some true

theorem qkl {n : Nat} {w : World} {a : (List qae)} {b : (List qae)} {cs1 : List Value} (ha1 : GoT.R w (old w) a cs1) {cs2 : List Value} (ha2 : GoT.R w (old w) b cs2) {r : Bool} (hF : qgr n a b = some r) : RetV Tryz.prog 89 [GoT.v (List qae) cs1, GoT.v (List qae) cs2] w r := by
 obtain ⟨p1, k1, rfl, s1⟩ := ha1
 obtain ⟨p2, k2, rfl, s2⟩ := ha2
 refine qe Tryz.func89 rfl (m := 27) rfl rfl (fun h => ?_)
 rw [qgr] at hF
 refine zSR (zp1 rfl (zNSSR (zp5 rfl ?_)))
 refine qb ?_
 refine qu rfl hF ?_ ?_ <;> intro hF
 ·exact zSR (zp1 rfl (qb (qx qc h hF ⟨rfl, trivial⟩)))
 refine zKSSR (zp1 rfl (qb ?_))
 obtain ⟨o1, hF, hK1⟩ := qd hF
 refine qv (qR [(0, _), (1, _), (5, _)] ⟨rfl, rfl, rfl, trivial⟩ ?_)
 refine qG (fun m e w' => ∃ (i1 : Int), qdm a b m i1 = some o1 ∧ e = [(0, .slice p1 a.length k1), (1, .slice p2 b.length k2), (5, .int .i64 i1)] ∧ SH w w' []) n ⟨_, hF, rfl, h⟩ ?_
 rintro m1 e1 w1 ⟨i1, hF, rfl, h⟩
 rcases m1 with _ | m1
 ·rw [qdm] at hF
  cases hF
 rw [qdm] at hF
 refine zSSR (zp4 rfl (qb ?_))
 refine qu rfl hF ?_ ?_ <;> intro hF
 ·refine zKSB (qbg ?_)
  refine qcQ rfl (by kernel_rfl) ?_
  refine zd2 rfl ?_
  obtain ⟨y1, hy1, hF⟩ := qd hF
  have he1 := qf hy1
  obtain ⟨b1, o_1, q1, cs3, hp1, hq1, -, hr1, hc3⟩ := s1.at hy1
  obtain rfl := qbc hr1
  refine zdxe hp1 hq1 he1 rfl ?_
  refine zdc 0 (hc3.below h.below) rfl ?_
  refine zd2 rfl ?_
  obtain ⟨y2, hy2, hF⟩ := qd hF
  have he2 := qf hy2
  obtain ⟨b2, o_2, q2, cs4, hp2, hq2, -, hr2, hc4⟩ := s2.at hy2
  obtain rfl := qbc hr2
  refine zdxe hp2 hq2 he2 rfl ?_
  refine zdc 0 (hc4.below h.below) rfl ?_
  obtain ⟨r1, hr3, hF⟩ := qd hF
  refine qc8 r1 (vsB _) call140 (fun _ hb => qk5 (qgw y1) (qgw y2) hr3) rfl rfl rfl rfl ?_
  refine zd1 rfl ?_
  refine qbj (fun w2 hb => ?_)
  replace h := h.ext hb
  clear hb
  refine qu rfl hF ?_ ?_ <;> intro hF
  ·refine zSR (zp1 rfl (qb ?_))
   obtain rfl := qi hF; replace hF := hK1
   exact qx qc h hF ⟨rfl, trivial⟩
  exact zKER (zp3 rfl (qb (qy m1 [(0, _), (1, _), (5, _)] (Nat.lt_succ_self m1) ⟨rfl, rfl, rfl, trivial⟩ ⟨_, hF, rfl, h⟩)))
 refine qH rfl ?_
 obtain rfl := qi hF; replace hF := hK1
 exact zSR (zp1 rfl (qb (qx qc h hF ⟨rfl, trivial⟩)))

def qft (n : Nat) (a : qh) (b : qh) : Option Bool :=
 (qej n a.Instances b.Instances).bind fun r1 =>
 bif (!r1) then
  some false
 else
  (qeT n a.Nets b.Nets).bind fun r2 =>
  bif (!r2) then
   some false
  else
   (qgr n a.Ports b.Ports).bind fun r3 =>
   bif (!r3) then
    some false
   else
    some true

theorem qj9 {n : Nat} {w : World} {a : qh} {b : qh} {cs1 : List Value} (ha1 : GoT.R w (old w) a cs1) {cs2 : List Value} (ha2 : GoT.R w (old w) b cs2) {r : Bool} (hF : qft n a b = some r) : RetV Tryz.prog 43 [GoT.v qh cs1, GoT.v qh cs2] w r := by
 obtain ⟨p1, k1, p2, k2, p3, k3, rfl, s1, s2, s3⟩ := qai ha1
 obtain ⟨p4, k4, p5, k5, p6, k6, rfl, s4, s5, s6⟩ := qai ha2
 refine qe Tryz.func43 rfl (m := 23) rfl rfl (fun h => ?_)
 rw [qft] at hF
 refine zSR (qO h rfl rfl ?_)
 intro w1 bb1 h
 refine qO h rfl rfl ?_
 intro w2 bb2 h
 refine zp1 rfl (zNSSR (zp1 rfl (zl 1 0 h rfl (zp1 rfl (zl 0 0 h rfl ?_)))))
 obtain ⟨r1, hr1, hF⟩ := qd hF
 refine qt r1 h call87 (qi1 ⟨_, _, rfl, (h.oldS s1)⟩ ⟨_, _, rfl, (h.oldS s4)⟩ hr1) rfl rfl rfl rfl ?_
 intro w3 h
 refine zp1 rfl (qb ?_)
 refine qu rfl hF ?_ ?_ <;> intro hF
 ·exact zSR (zp1 rfl (qb (qx qc h hF ⟨rfl, trivial⟩)))
 refine zKSSR (zp1 rfl (zl 1 1 h rfl (zp1 rfl (zl 0 1 h rfl ?_))))
 obtain ⟨r2, hr2, hF⟩ := qd hF
 refine qt r2 h call88 (qjs ⟨_, _, rfl, (h.oldS s2)⟩ ⟨_, _, rfl, (h.oldS s5)⟩ hr2) rfl rfl rfl rfl ?_
 intro w4 h
 refine zp1 rfl (qb ?_)
 refine qu rfl hF ?_ ?_ <;> intro hF
 ·exact zSR (zp1 rfl (qb (qx qc h hF ⟨rfl, trivial⟩)))
 refine zKSSR (zp1 rfl (zl 1 2 h rfl (zp1 rfl (zl 0 2 h rfl ?_))))
 obtain ⟨r3, hr3, hF⟩ := qd hF
 refine qt r3 h call89 (qkl ⟨_, _, rfl, (h.oldS s3)⟩ ⟨_, _, rfl, (h.oldS s6)⟩ hr3) rfl rfl rfl rfl ?_
 intro w5 h
 refine zp1 rfl (qb ?_)
 refine qu rfl hF ?_ ?_ <;> intro hF
 ·exact zSR (zp1 rfl (qb (qx qc h hF ⟨rfl, trivial⟩)))
 exact zKSR (zp1 rfl (qb (qx qc h hF ⟨rfl, trivial⟩)))

def qf2 (n : Nat) (a : qY) (b : qY) : Option Bool :=
 (qbm n a.Parent b.Parent).bind fun r1 =>
 bif (!r1) then
  some false
 else
  (qbm n a.Res b.Res).bind fun r2 =>
  bif (!r2) then
   some false
  else
   (qbm n a.Cap b.Cap).bind fun r3 =>
   bif (!r3) then
    some false
   else
    (qbm n a.Sink b.Sink).bind fun r4 =>
    bif (!r4) then
     some false
    else
     some true

theorem qk1 {n : Nat} {w : World} {a : qY} {b : qY} {cs1 : List Value} (ha1 : GoT.R w (old w) a cs1) {cs2 : List Value} (ha2 : GoT.R w (old w) b cs2) {r : Bool} (hF : qf2 n a b = some r) : RetV Tryz.prog 90 [GoT.v qY cs1, GoT.v qY cs2] w r := by
 obtain ⟨p1, k1, p2, k2, p3, k3, p4, k4, rfl, s1, s2, s3, s4⟩ := qbw ha1
 obtain ⟨p5, k5, p6, k6, p7, k7, p8, k8, rfl, s5, s6, s7, s8⟩ := qbw ha2
 refine qe Tryz.func90 rfl (m := 29) rfl rfl (fun h => ?_)
 rw [qf2] at hF
 refine zSR (qO h rfl rfl ?_)
 intro w1 bb1 h
 refine qO h rfl rfl ?_
 intro w2 bb2 h
 refine zp1 rfl (zNSSR (zp1 rfl (zl 1 0 h rfl (zp1 rfl (zl 0 0 h rfl ?_)))))
 obtain ⟨r1, hr1, hF⟩ := qd hF
 refine qt r1 h call22 (qbW ⟨_, _, rfl, (h.oldS s1)⟩ ⟨_, _, rfl, (h.oldS s5)⟩ hr1) rfl rfl rfl rfl ?_
 intro w3 h
 refine zp1 rfl (qb ?_)
 refine qu rfl hF ?_ ?_ <;> intro hF
 ·exact zSR (zp1 rfl (qb (qx qc h hF ⟨rfl, trivial⟩)))
 refine zKSSR (zp1 rfl (zl 1 1 h rfl (zp1 rfl (zl 0 1 h rfl ?_))))
 obtain ⟨r2, hr2, hF⟩ := qd hF
 refine qt r2 h call22 (qbW ⟨_, _, rfl, (h.oldS s2)⟩ ⟨_, _, rfl, (h.oldS s6)⟩ hr2) rfl rfl rfl rfl ?_
 intro w4 h
 refine zp1 rfl (qb ?_)
 refine qu rfl hF ?_ ?_ <;> intro hF
 ·exact zSR (zp1 rfl (qb (qx qc h hF ⟨rfl, trivial⟩)))
 refine zKSSR (zp1 rfl (zl 1 2 h rfl (zp1 rfl (zl 0 2 h rfl ?_))))
 obtain ⟨r3, hr3, hF⟩ := qd hF
 refine qt r3 h call22 (qbW ⟨_, _, rfl, (h.oldS s3)⟩ ⟨_, _, rfl, (h.oldS s7)⟩ hr3) rfl rfl rfl rfl ?_
 intro w5 h
 refine zp1 rfl (qb ?_)
 refine qu rfl hF ?_ ?_ <;> intro hF
 ·exact zSR (zp1 rfl (qb (qx qc h hF ⟨rfl, trivial⟩)))
 refine zKSSR (zp1 rfl (zl 1 3 h rfl (zp1 rfl (zl 0 3 h rfl ?_))))
 obtain ⟨r4, hr4, hF⟩ := qd hF
 refine qt r4 h call22 (qbW ⟨_, _, rfl, (h.oldS s4)⟩ ⟨_, _, rfl, (h.oldS s8)⟩ hr4) rfl rfl rfl rfl ?_
 intro w6 h
 refine zp1 rfl (qb ?_)
 refine qu rfl hF ?_ ?_ <;> intro hF
 ·exact zSR (zp1 rfl (qb (qx qc h hF ⟨rfl, trivial⟩)))
 exact zKSR (zp1 rfl (qb (qx qc h hF ⟨rfl, trivial⟩)))

def qdk (a : (List qY)) (b : (List qY)) : Nat → Int → Option (Flow Bool Int)
 | 0, _ => none
 | n + 1, i1 =>
  bif decide (i1 < (a.length : Int)) then
   (idx a i1).bind fun y1 =>
   (idx b i1).bind fun y2 =>
   (qf2 n y1 y2).bind fun r1 =>
   bif (!r1) then
    some (.ret false)
   else
    qdk a b n (W64 (i1 + 1))
  else
   some (.nxt i1)

def qgd (n : Nat) (a : (List qY)) (b : (List qY)) : Option Bool :=
 bif ((a.length : Int) != (b.length : Int)) then
  some false
 else
  (qdk a b n 0).bind fun o => match o with
  | .ret r => some r
  | .nxt _ =>
   some true

theorem qkm {n : Nat} {w : World} {a : (List qY)} {b : (List qY)} {cs1 : List Value} (ha1 : GoT.R w (old w) a cs1) {cs2 : List Value} (ha2 : GoT.R w (old w) b cs2) {r : Bool} (hF : qgd n a b = some r) : RetV Tryz.prog 44 [GoT.v (List qY) cs1, GoT.v (List qY) cs2] w r := by
 obtain ⟨p1, k1, rfl, s1⟩ := ha1
 obtain ⟨p2, k2, rfl, s2⟩ := ha2
 refine qe Tryz.func44 rfl (m := 27) rfl rfl (fun h => ?_)
 rw [qgd] at hF
 refine zSR (zp1 rfl (zNSSR (zp5 rfl ?_)))
 refine qb ?_
 refine qu rfl hF ?_ ?_ <;> intro hF
 ·exact zSR (zp1 rfl (qb (qx qc h hF ⟨rfl, trivial⟩)))
 refine zKSSR (zp1 rfl (qb ?_))
 obtain ⟨o1, hF, hK1⟩ := qd hF
 refine qv (qR [(0, _), (1, _), (5, _)] ⟨rfl, rfl, rfl, trivial⟩ ?_)
 refine qG (fun m e w' => ∃ (i1 : Int), qdk a b m i1 = some o1 ∧ e = [(0, .slice p1 a.length k1), (1, .slice p2 b.length k2), (5, .int .i64 i1)] ∧ SH w w' []) n ⟨_, hF, rfl, h⟩ ?_
 rintro m1 e1 w1 ⟨i1, hF, rfl, h⟩
 rcases m1 with _ | m1
 ·rw [qdk] at hF
  cases hF
 rw [qdk] at hF
 refine zSSR (zp4 rfl (qb ?_))
 refine qu rfl hF ?_ ?_ <;> intro hF
 ·refine zKSB (qbg ?_)
  refine qcQ rfl (by kernel_rfl) ?_
  refine zd2 rfl ?_
  obtain ⟨y1, hy1, hF⟩ := qd hF
  have he1 := qf hy1
  obtain ⟨b1, o_1, q1, cs3, hp1, hq1, -, hr1, hc3⟩ := s1.at hy1
  obtain ⟨p3, k3, p4, k4, p5, k5, p6, k6, rfl, s3, s4, s5, s6⟩ := qbw hr1
  refine zdxe hp1 hq1 he1 rfl ?_
  refine zdc 0 (hc3.below h.below) rfl ?_
  refine zd2 rfl ?_
  obtain ⟨y2, hy2, hF⟩ := qd hF
  have he2 := qf hy2
  obtain ⟨b2, o_2, q2, cs4, hp2, hq2, -, hr2, hc4⟩ := s2.at hy2
  obtain ⟨p7, k7, p8, k8, p9, k9, p10, k10, rfl, s7, s8, s9, s10⟩ := qbw hr2
  refine zdxe hp2 hq2 he2 rfl ?_
  refine zdc 0 (hc4.below h.below) rfl ?_
  obtain ⟨r1, hr3, hF⟩ := qd hF
  refine qc8 r1 (vsB _) call90 (fun _ hb => qk1 (qhe y1 ((h.ext hb).oldS s3) ((h.ext hb).oldS s4) ((h.ext hb).oldS s5) ((h.ext hb).oldS s6)) (qhe y2 ((h.ext hb).oldS s7) ((h.ext hb).oldS s8) ((h.ext hb).oldS s9) ((h.ext hb).oldS s10)) hr3) rfl rfl rfl rfl ?_
  refine zd1 rfl ?_
  refine qbj (fun w2 hb => ?_)
  replace h := h.ext hb
  clear hb
  refine qu rfl hF ?_ ?_ <;> intro hF
  ·refine zSR (zp1 rfl (qb ?_))
   obtain rfl := qi hF; replace hF := hK1
   exact qx qc h hF ⟨rfl, trivial⟩
  exact zKER (zp3 rfl (qb (qy m1 [(0, _), (1, _), (5, _)] (Nat.lt_succ_self m1) ⟨rfl, rfl, rfl, trivial⟩ ⟨_, hF, rfl, h⟩)))
 refine qH rfl ?_
 obtain rfl := qi hF; replace hF := hK1
 exact zSR (zp1 rfl (qb (qx qc h hF ⟨rfl, trivial⟩)))

def qf4 (n : Nat) (a : qw) (b : qw) : Option Bool :=
 (qeV n (⟨a.Library.Cells⟩ : qn) (⟨b.Library.Cells⟩ : qn)).bind fun r1 =>
 bif (!r1) then
  some false
 else
  (qft n (⟨a.Design.Instances, a.Design.Nets, a.Design.Ports⟩ : qh) (⟨b.Design.Instances, b.Design.Nets, b.Design.Ports⟩ : qh)).bind fun r2 =>
  bif (!r2) then
   some false
  else
   (qgd n a.Wires b.Wires).bind fun r3 =>
   bif (!r3) then
    some false
   else
    some true

theorem qkD {n : Nat} {w : World} {a : qw} {b : qw} {cs1 : List Value} (ha1 : GoT.R w (old w) a cs1) {cs2 : List Value} (ha2 : GoT.R w (old w) b cs2) {r : Bool} (hF : qf4 n a b = some r) : RetV Tryz.prog 14 [GoT.v qw cs1, GoT.v qw cs2] w r := by
 obtain ⟨p1, k1, p2, k2, p3, k3, p4, k4, p5, k5, rfl, s1, s2, s3, s4, s5⟩ := qaw ha1
 obtain ⟨p6, k6, p7, k7, p8, k8, p9, k9, p10, k10, rfl, s6, s7, s8, s9, s10⟩ := qaw ha2
 refine qe Tryz.func14 rfl (m := 23) rfl rfl (fun h => ?_)
 rw [qf4] at hF
 refine zSR (qO h rfl rfl ?_)
 intro w1 bb1 h
 refine qO h rfl rfl ?_
 intro w2 bb2 h
 refine zp1 rfl (zNSSR (zp1 rfl (zl 1 0 h rfl (zp1 rfl (zl 0 0 h rfl ?_)))))
 obtain ⟨r1, hr1, hF⟩ := qd hF
 refine qt r1 h call42 (qjF (qcW (⟨a.Library.Cells⟩ : qn) (h.oldS s1)) (qcW (⟨b.Library.Cells⟩ : qn) (h.oldS s6)) hr1) rfl rfl rfl rfl ?_
 intro w3 h
 refine zp1 rfl (qb ?_)
 refine qu rfl hF ?_ ?_ <;> intro hF
 ·exact zSR (zp1 rfl (qb (qx qc h hF ⟨rfl, trivial⟩)))
 refine zKSSR (zp1 rfl (zl 1 1 h rfl (zp1 rfl (zl 0 1 h rfl ?_))))
 obtain ⟨r2, hr2, hF⟩ := qd hF
 refine qt r2 h call43 (qj9 (qaX (⟨a.Design.Instances, a.Design.Nets, a.Design.Ports⟩ : qh) (h.oldS s2) (h.oldS s3) (h.oldS s4)) (qaX (⟨b.Design.Instances, b.Design.Nets, b.Design.Ports⟩ : qh) (h.oldS s7) (h.oldS s8) (h.oldS s9)) hr2) rfl rfl rfl rfl ?_
 intro w4 h
 refine zp1 rfl (qb ?_)
 refine qu rfl hF ?_ ?_ <;> intro hF
 ·exact zSR (zp1 rfl (qb (qx qc h hF ⟨rfl, trivial⟩)))
 refine zKSSR (zp1 rfl (zl 1 4 h rfl (zp1 rfl (zl 0 4 h rfl ?_))))
 obtain ⟨r3, hr3, hF⟩ := qd hF
 refine qt r3 h call44 (qkm ⟨_, _, rfl, (h.oldS s5)⟩ ⟨_, _, rfl, (h.oldS s10)⟩ hr3) rfl rfl rfl rfl ?_
 intro w5 h
 refine zp1 rfl (qb ?_)
 refine qu rfl hF ?_ ?_ <;> intro hF
 ·exact zSR (zp1 rfl (qb (qx qc h hF ⟨rfl, trivial⟩)))
 exact zKSR (zp1 rfl (qb (qx qc h hF ⟨rfl, trivial⟩)))

def qaN (_ : Nat) (a_n : Int) (low : Int) (high : Int) : Option Bool :=
 bif decide (a_n ≥ low) then
  some (decide (a_n ≤ high))
 else
  some false

theorem qau {n : Nat} {w : World} {a_n : Int} {low : Int} {high : Int}  {r : Bool} (hF : qaN n a_n low high = some r) : RetV Tryz.prog 35 [.int .i64 a_n, .int .i64 low, .int .i64 high] w r := by
 refine qe Tryz.func35 rfl (m := 15) rfl rfl (fun h => ?_)
 rw [qaN] at hF
 refine zSR (zp1 rfl (zNSR (zp4 rfl ?_)))
 by_cases hc1 : (decide (a_n ≥ low)) = true
 ·replace hF := bifT hc1 hF
  exact qD hc1 (t := 10) rfl (qa rfl (zp1 rfl (qa rfl (zp1 rfl (qa rfl (zp3 rfl (qb (qx qc h hF ⟨rfl, trivial⟩))))))))
 replace hc1 := zb hc1
 replace hF := bifF hc1 hF
 exact qC hc1 (t := 10) rfl (zn3 rfl (zp2 rfl (qb (qx qc h hF ⟨rfl, trivial⟩))))

def qb8 (s : ByteArray) : Nat → Int → Option (Flow Bool Int)
 | 0, _ => none
 | n + 1, i1 =>
  bif decide (i1 < (s.size : Int)) then
   (
    (atS s i1).bind fun y3 =>
    bif decide (y3 ≥ 97) then
     (atS s i1).bind fun y4 =>
     some (decide (y4 ≤ 122))
    else
     some false).bind fun b1 =>
   (
    (atS s i1).bind fun y1 =>
    bif decide (y1 ≥ 48) then
     (atS s i1).bind fun y2 =>
     some (decide (y2 ≤ 57))
    else
     some false).bind fun b2 =>
   bif (!b1) then
    bif b2 then
     bif (!(decide (i1 > 0))) then
      some (.ret false)
     else
      qb8 s n (W64 (i1 + 1))
    else
     some (.ret false)
   else
    qb8 s n (W64 (i1 + 1))
  else
   some (.nxt i1)

def qer (n : Nat) (s : ByteArray) : Option Bool :=
 (qb8 s n 0).bind fun o => match o with
 | .ret r => some r
 | .nxt _ =>
  bif decide ((s.size : Int) ≥ 1) then
   some (decide ((s.size : Int) ≤ 8))
  else
   some false

theorem qgZ {n : Nat} {w : World} {s : ByteArray}  {r : Bool} (hF : qer n s = some r) : RetV Tryz.prog 150 [.string s] w r := by
 refine qe Tryz.func150 rfl (m := 50) rfl rfl (fun h => ?_)
 rw [qer] at hF
 refine zSR (zp1 rfl (zNSSR (zp1 rfl (qb ?_))))
 obtain ⟨o1, hF, hK1⟩ := qd hF
 refine qv (qR [(0, _), (3, _)] ⟨rfl, rfl, trivial⟩ ?_)
 refine qG (fun m e w' => ∃ (i1 : Int), qb8 s m i1 = some o1 ∧ e = [(0, .string s), (3, .int .i64 i1)] ∧ SH w w' []) n ⟨_, hF, rfl, h⟩ ?_
 rintro m1 e1 w1 ⟨i1, hF, rfl, h⟩
 rcases m1 with _ | m1
 ·rw [qb8] at hF
  cases hF
 rw [qb8] at hF
 refine zSSR (zp4 rfl (qb ?_))
 refine qu rfl hF ?_ ?_ <;> intro hF
 ·refine zKSB (qbg ?_)
  obtain ⟨KF2, hKF2, o3, hF, hK3⟩ := bindE hF
  refine qeA (fun e w' => ∃ (b1 : Bool), KF2 b1 = some o1 ∧ e = [(0, .string s), (3, .int .i64 i1), (4, .bool b1)] ∧ SH w w' []) ?_ ?_
  ·refine qB (zp2 rfl ?_)
   obtain ⟨y3, hx3, hF⟩ := qd hF
   have g3 := qiJ hx3
   refine r_v (qiu qc g3 rfl rfl rfl rfl) rfl (zp2 rfl ?_)
   by_cases hc6 : (decide (y3 ≥ 97)) = true
   ·replace hF := bifT hc6 hF
    refine qD hc6 (t := 16) rfl (qa rfl (zp1 rfl (qa rfl (zp1 rfl (qa rfl ?_)))))
    obtain ⟨y4, hx4, hF⟩ := qd hF
    have g4 := qiJ hx4
    refine r_v (qiu qc g4 rfl rfl rfl rfl) rfl (qa rfl (zp3 rfl (qb ?_)))
    obtain rfl := qi hF
    exact qz [(0, _), (3, _), (4, _)] ⟨rfl, rfl, rfl, trivial⟩ ⟨_, hK3, rfl, h⟩
   replace hc6 := zb hc6
   replace hF := bifF hc6 hF
   refine qC hc6 (t := 16) rfl (zn4 rfl (zp2 rfl (qb ?_)))
   obtain rfl := qi hF
   exact qz [(0, _), (3, _), (4, _)] ⟨rfl, rfl, rfl, trivial⟩ ⟨_, hK3, rfl, h⟩
  rintro e3 w3 ⟨b1, hF, rfl, h⟩
  subst hKF2
  refine qbg ?_
  obtain ⟨KF1, hKF1, o2, hF, hK2⟩ := bindE hF
  refine qeA (fun e w' => ∃ (b2 : Bool), KF1 b2 = some o1 ∧ e = [(0, .string s), (3, .int .i64 i1), (4, .bool b1), (5, .bool b2)] ∧ SH w w' []) ?_ ?_
  ·refine qB (zp2 rfl ?_)
   obtain ⟨y1, hx1, hF⟩ := qd hF
   have g1 := qiJ hx1
   refine r_v (qiu qc g1 rfl rfl rfl rfl) rfl (zp2 rfl ?_)
   by_cases hc5 : (decide (y1 ≥ 48)) = true
   ·replace hF := bifT hc5 hF
    refine qD hc5 (t := 26) rfl (qa rfl (zp1 rfl (qa rfl (zp1 rfl (qa rfl ?_)))))
    obtain ⟨y2, hx2, hF⟩ := qd hF
    have g2 := qiJ hx2
    refine r_v (qiu qc g2 rfl rfl rfl rfl) rfl (qa rfl (zp3 rfl (qb ?_)))
    obtain rfl := qi hF
    exact qz [(0, _), (3, _), (4, _), (5, _)] ⟨rfl, rfl, rfl, rfl, trivial⟩ ⟨_, hK2, rfl, h⟩
   replace hc5 := zb hc5
   replace hF := bifF hc5 hF
   refine qC hc5 (t := 26) rfl (zn4 rfl (zp2 rfl (qb ?_)))
   obtain rfl := qi hF
   exact qz [(0, _), (3, _), (4, _), (5, _)] ⟨rfl, rfl, rfl, rfl, trivial⟩ ⟨_, hK2, rfl, h⟩
  rintro e2 w2 ⟨b2, hF, rfl, h⟩
  subst hKF1
  refine zSR (zp3 rfl ?_)
  by_cases hc2 : (!b1) = true
  ·replace hF := bifT hc2 hF
   refine qD hc2 (t := 34) rfl (qa rfl (zp1 rfl (qa rfl (zp1 rfl ?_))))
   by_cases hc3 : b2 = true
   ·replace hF := bifT hc3 hF
    refine qD hc3 (t := 36) rfl (qa rfl (zp1 rfl (qa rfl (zp1 rfl (qa rfl (zp1 rfl (qa rfl (zp2 rfl (qb ?_)))))))))
    refine qu rfl hF ?_ ?_ <;> intro hF
    ·refine zSR (zp1 rfl (qb ?_))
     obtain rfl := qi hF; replace hF := hK1
     exact qx qc h hF ⟨rfl, trivial⟩
    exact zKER (zp3 rfl (qb (qy m1 [(0, _), (3, _)] (Nat.lt_succ_self m1) ⟨rfl, rfl, trivial⟩ ⟨_, hF, rfl, h⟩)))
   replace hc3 := zb hc3
   replace hF := bifF hc3 hF
   refine qC hc3 (t := 36) rfl (zn2 rfl (qa rfl (zp1 rfl (qa rfl (zp2 rfl (qb (qeR rfl rfl (zSR ?_))))))))
   refine zp1 rfl (qb ?_)
   obtain rfl := qi hF; replace hF := hK1
   exact qx qc h hF ⟨rfl, trivial⟩
  replace hc2 := zb hc2
  replace hF := bifF hc2 hF
  refine qC hc2 (t := 34) rfl (zn5 rfl (zn1 rfl (zp1 rfl (qb (qev rfl rfl (zKE ?_))))))
  exact qB (zp3 rfl (qb (qy m1 [(0, _), (3, _)] (Nat.lt_succ_self m1) ⟨rfl, rfl, trivial⟩ ⟨_, hF, rfl, h⟩)))
 refine qH rfl ?_
 obtain rfl := qi hF; replace hF := hK1
 refine zSR (zp4 rfl ?_)
 by_cases hc7 : (decide ((s.size : Int) ≥ 1)) = true
 ·replace hF := bifT hc7 hF
  exact qD hc7 (t := 45) rfl (qa rfl (zp1 rfl (qa rfl (zp1 rfl (qa rfl (zp3 rfl (qb (qx qc h hF ⟨rfl, trivial⟩))))))))
 replace hc7 := zb hc7
 replace hF := bifF hc7 hF
 exact qC hc7 (t := 45) rfl (zn3 rfl (zp2 rfl (qb (qx qc h hF ⟨rfl, trivial⟩))))

def qcF (a_0 : qA) (i2 : Int) (y1 : qal) : Nat → Int → Option (Flow (Int × Bool) Int)
 | 0, _ => none
 | n + 1, i3 =>
  bif decide (i3 < i2) then
   (idx a_0.Pins i3).bind fun y2 =>
   bif (y2.Name.toList == y1.Name.toList) then
    some (.ret (0, false))
   else
    qcF a_0 i2 y1 n (W64 (i3 + 1))
  else
   some (.nxt i3)

def qbJ (a_0 : qA) : Nat → Int → Int → Option (Flow (Int × Bool) (Int × Int))
 | 0, _, _ => none
 | n + 1, i1, i2 =>
  bif decide (i2 < (a_0.Pins.length : Int)) then
   (idx a_0.Pins i2).bind fun y1 =>
   (qcF a_0 i2 y1 n 0).bind fun o => match o with
   | .ret r => some (.ret r)
   | .nxt _ =>
    (
     (qer n y1.Name).bind fun r1 =>
     bif (!r1) then
      some true
     else
      (qaN n y1.Cap 0 500).bind fun r2 =>
      some (!r2)).bind fun b4 =>
    bif b4 then
     some (.ret (0, false))
    else
     (
      bif (i2 == (W64 ((a_0.Pins.length : Int) - 1))) then
       bif (y1.Dir != 2) then
        some true
       else
        bif (y1.Cap != 0) then
         some true
        else
         bif y1.Clock then
          some true
         else
          bif decide (i2 < (W64 ((a_0.Pins.length : Int) - 1))) then
           some (y1.Dir != 1)
          else
           some false
      else
       bif decide (i2 < (W64 ((a_0.Pins.length : Int) - 1))) then
        some (y1.Dir != 1)
       else
        some false).bind fun b5 =>
     bif b5 then
      some (.ret (0, false))
     else
      bif y1.Clock then
       qbJ a_0 n (W64 (i1 + 1)) (W64 (i2 + 1))
      else
       qbJ a_0 n i1 (W64 (i2 + 1))
  else
   some (.nxt (i1, i2))

def qgm (n : Nat) (a_0 : qA) : Option (Int × Bool) :=
 (
  bif decide ((a_0.Pins.length : Int) < 2) then
   some true
  else
   some (decide ((a_0.Pins.length : Int) > 5))).bind fun b1 =>
 bif b1 then
  some (0, false)
 else
  (qbJ a_0 n 0 0).bind fun o => match o with
  | .ret r => some r
  | .nxt (i1, _) =>
   some (i1, true)

theorem qkF {n : Nat} {w : World} {a_0 : qA} {cs1 : List Value} (ha1 : GoT.R w (old w) a_0 cs1) {r : (Int × Bool)} (hF : qgm n a_0 = some r) : RetV Tryz.prog 165 [GoT.v qA cs1] w r := by
 obtain ⟨p1, k1, p2, k2, p3, k3, rfl, s1, s2, s3⟩ := qS ha1
 refine qe Tryz.func165 rfl (m := 86) rfl rfl (fun h => ?_)
 rw [qgm] at hF
 refine zSR (qO h rfl rfl ?_)
 intro w1 bb1 h
 refine zp2 rfl (zNSR (zp1 rfl (zl 0 2 h rfl (zp2 rfl (zNSS ?_)))))
 obtain ⟨KF3, hKF3, o5, hF, hK5⟩ := bindE hF
 refine qeA (fun e w' => ∃ (b1 : Bool), KF3 b1 = some r ∧ e = [(1, .pointer (some ⟨bb1, 0, none⟩)), (4, .int .i64 (a_0.Pins.length : Int)), (17, .bool b1)] ∧ SH w w' [Ch.box bb1 [.string a_0.Name, .int .i64 a_0.Kind, .slice p1 a_0.Pins.length k1, .slice p2 a_0.Arcs.length k2, .slice p3 a_0.Truth.length k3, .int .i64 a_0.Leak, .int .i64 a_0.Energy] 155]) ?_ ?_
 ·refine qB (zp3 rfl ?_)
  by_cases hc17 : (decide ((a_0.Pins.length : Int) < 2)) = true
  ·replace hF := bifT hc17 hF
   refine qD hc17 (t := 14) rfl (zn2 rfl (zp1 rfl (qb ?_)))
   obtain rfl := qi hF
   exact qz [(1, _), (4, _), (17, _)] ⟨rfl, rfl, rfl, trivial⟩ ⟨_, hK5, rfl, h⟩
  replace hc17 := zb hc17
  replace hF := bifF hc17 hF
  refine qC hc17 (t := 14) rfl (qa rfl (zp1 rfl (qa rfl (zp2 rfl (qb ?_)))))
  obtain rfl := qi hF
  exact qz [(1, _), (4, _), (17, _)] ⟨rfl, rfl, rfl, trivial⟩ ⟨_, hK5, rfl, h⟩
 rintro e5 w11 ⟨b1, hF, rfl, h⟩
 subst hKF3
 refine qu rfl hF ?_ ?_ <;> intro hF
 ·refine zSR (zp2 rfl (qb ?_))
  obtain rfl := qi hF
  exact qaf qc (ρ := (Int × Bool)) [GoT.v Int [.int .i64 0], GoT.v Bool [.bool false]] h ⟨rfl, rfl, trivial⟩ (PV.done h (qfa h (qa7 (S := fun _ => False) rfl) (qan (qa7 (S := fun _ => False) rfl)) (by rfl)))
 refine zKSR (zp1 rfl (zNSSR (zp1 rfl (qb ?_))))
 obtain ⟨o1, hF, hK1⟩ := qd hF
 refine qv (qR [(1, _), (4, _), (5, _), (6, _)] ⟨rfl, rfl, rfl, rfl, trivial⟩ ?_)
 refine qG (fun m e w' => ∃ (i1 : Int) (i2 : Int), qbJ a_0 m i1 i2 = some o1 ∧ e = [(1, .pointer (some ⟨bb1, 0, none⟩)), (4, .int .i64 (a_0.Pins.length : Int)), (5, .int .i64 i1), (6, .int .i64 i2)] ∧ SH w w' [Ch.box bb1 [.string a_0.Name, .int .i64 a_0.Kind, .slice p1 a_0.Pins.length k1, .slice p2 a_0.Arcs.length k2, .slice p3 a_0.Truth.length k3, .int .i64 a_0.Leak, .int .i64 a_0.Energy] 155]) n ⟨_, _, hF, rfl, h⟩ ?_
 rintro m1 e1 w2 ⟨i1, i2, hF, rfl, h⟩
 rcases m1 with _ | m1
 ·rw [qbJ] at hF
  cases hF
 rw [qbJ] at hF
 refine zSSR (zp3 rfl (qb ?_))
 refine qu rfl hF ?_ ?_ <;> intro hF
 ·refine zKSBSR (zp1 rfl (zl 0 2 h rfl (zp1 rfl ?_)))
  obtain ⟨y1, hy1, hF⟩ := qd hF
  have he1 := qf hy1
  obtain ⟨b2, o_1, q1, cs2, hp1, hq1, -, hr1, hc3⟩ := s1.at hy1
  obtain rfl := qbd hr1
  refine zxe hp1 hq1 he1 rfl (zc 0 (hc3.below h.below) rfl (qU qc h rfl rfl rfl ?_))
  intro w3 bb2 h
  refine zs 0 h rfl ?_
  intro w4 h
  refine zNSSR (zp1 rfl (qb ?_))
  obtain ⟨o2, hF, hK2⟩ := qd hF
  refine qv (qR [(1, _), (4, _), (5, _), (6, _), (7, _), (8, _)] ⟨rfl, rfl, rfl, rfl, rfl, rfl, trivial⟩ ?_)
  refine qG (fun m e w' => ∃ (i3 : Int), qcF a_0 i2 y1 m i3 = some o2 ∧ e = [(1, .pointer (some ⟨bb1, 0, none⟩)), (4, .int .i64 (a_0.Pins.length : Int)), (5, .int .i64 i1), (6, .int .i64 i2), (7, .pointer (some ⟨bb2, 0, none⟩)), (8, .int .i64 i3)] ∧ SH w w' [Ch.box bb2 [.string y1.Name, .int .i64 y1.Dir, .int .i64 y1.Cap, .bool y1.Clock] 199, Ch.box bb1 [.string a_0.Name, .int .i64 a_0.Kind, .slice p1 a_0.Pins.length k1, .slice p2 a_0.Arcs.length k2, .slice p3 a_0.Truth.length k3, .int .i64 a_0.Leak, .int .i64 a_0.Energy] 155]) m1 ⟨_, hF, rfl, h⟩ ?_
  rintro m2 e2 w5 ⟨i3, hF, rfl, h⟩
  rcases m2 with _ | m2
  ·rw [qcF] at hF
   cases hF
  rw [qcF] at hF
  refine zSSR (zp3 rfl (qb ?_))
  refine qu rfl hF ?_ ?_ <;> intro hF
  ·refine zKSB (qbg ?_)
   refine qcQ rfl (by kernel_rfl) ?_
   refine zd1 rfl ?_
   refine zdl 1 2 h rfl ?_
   refine zd1 rfl ?_
   obtain ⟨y2, hy2, hF⟩ := qd hF
   have he2 := qf hy2
   obtain ⟨b3, o_2, q2, cs3, hp2, hq2, -, hr2, hc5⟩ := s1.at hy2
   obtain rfl := qbd hr2
   refine zdxe hp2 hq2 he2 rfl ?_
   refine zd1 rfl ?_
   refine zdc 0 (hc5.below h.below) rfl ?_
   refine zd1 rfl ?_
   refine zdl 0 0 h rfl ?_
   refine zd1 rfl ?_
   refine qbj (fun w6 hb => ?_)
   replace h := h.ext hb
   clear hb
   refine qu rfl hF ?_ ?_ <;> intro hF
   ·refine zSR (zp2 rfl (qb ?_))
    obtain rfl := qi hF; replace hF := hK2
    obtain rfl := qi hF; replace hF := hK1
    obtain rfl := qi hF
    exact qaf qc (ρ := (Int × Bool)) [GoT.v Int [.int .i64 0], GoT.v Bool [.bool false]] h ⟨rfl, rfl, trivial⟩ (PV.done h (qfa h (qa7 (S := fun _ => False) rfl) (qan (qa7 (S := fun _ => False) rfl)) (by rfl)))
   exact zKER (zp3 rfl (qb (qy m2 [(1, _), (4, _), (5, _), (6, _), (7, _), (8, _)] (Nat.lt_succ_self m2) ⟨rfl, rfl, rfl, rfl, rfl, rfl, trivial⟩ ⟨_, hF, rfl, h⟩)))
  refine qH rfl ?_
  obtain rfl := qi hF; replace hF := hK2
  refine zSS ?_
  obtain ⟨KF2, hKF2, o4, hF, hK4⟩ := bindE hF
  refine qeA (fun e w' => ∃ (b4 : Bool), KF2 b4 = some o1 ∧ e = [(1, .pointer (some ⟨bb1, 0, none⟩)), (4, .int .i64 (a_0.Pins.length : Int)), (5, .int .i64 i1), (6, .int .i64 i2), (7, .pointer (some ⟨bb2, 0, none⟩)), (51, .bool b4)] ∧ SH w w' [Ch.box bb2 [.string y1.Name, .int .i64 y1.Dir, .int .i64 y1.Cap, .bool y1.Clock] 199, Ch.box bb1 [.string a_0.Name, .int .i64 a_0.Kind, .slice p1 a_0.Pins.length k1, .slice p2 a_0.Arcs.length k2, .slice p3 a_0.Truth.length k3, .int .i64 a_0.Leak, .int .i64 a_0.Energy] 155]) ?_ ?_
  ·refine qB (zp1 rfl (zl 0 0 h rfl ?_))
   obtain ⟨r1, hr3, hF⟩ := qd hF
   refine qt r1 h call150 (qgZ hr3) rfl rfl rfl rfl ?_
   intro w8 h
   refine zp2 rfl ?_
   by_cases hc16 : (!r1) = true
   ·replace hF := bifT hc16 hF
    refine qD hc16 (t := 46) rfl (zn4 rfl (zp1 rfl (qb ?_)))
    obtain rfl := qi hF
    exact qz [(1, _), (4, _), (5, _), (6, _), (7, _), (51, _)] ⟨rfl, rfl, rfl, rfl, rfl, rfl, trivial⟩ ⟨_, hK4, rfl, h⟩
   replace hc16 := zb hc16
   replace hF := bifF hc16 hF
   refine qC hc16 (t := 46) rfl (qa rfl (zp1 rfl (qa rfl (zl 0 2 h rfl (qa rfl ?_)))))
   obtain ⟨r2, hr4, hF⟩ := qd hF
   refine qt r2 h call35 (qau hr4) rfl rfl rfl rfl ?_
   intro w9 h
   refine qa rfl (zp2 rfl (qb ?_))
   obtain rfl := qi hF
   exact qz [(1, _), (4, _), (5, _), (6, _), (7, _), (51, _)] ⟨rfl, rfl, rfl, rfl, rfl, rfl, trivial⟩ ⟨_, hK4, rfl, h⟩
  rintro e4 w10 ⟨b4, hF, rfl, h⟩
  subst hKF2
  refine qu rfl hF ?_ ?_ <;> intro hF
  ·refine zSR (zp2 rfl (qb ?_))
   obtain rfl := qi hF; replace hF := hK1
   obtain rfl := qi hF
   exact qaf qc (ρ := (Int × Bool)) [GoT.v Int [.int .i64 0], GoT.v Bool [.bool false]] h ⟨rfl, rfl, trivial⟩ (PV.done h (qfa h (qa7 (S := fun _ => False) rfl) (qan (qa7 (S := fun _ => False) rfl)) (by rfl)))
  refine zKSS ?_
  obtain ⟨KF1, hKF1, o3, hF, hK3⟩ := bindE hF
  refine qeA (fun e w' => ∃ (b5 : Bool), KF1 b5 = some o1 ∧ e = [(1, .pointer (some ⟨bb1, 0, none⟩)), (4, .int .i64 (a_0.Pins.length : Int)), (5, .int .i64 i1), (6, .int .i64 i2), (7, .pointer (some ⟨bb2, 0, none⟩)), (80, .bool b5)] ∧ SH w w' [Ch.box bb2 [.string y1.Name, .int .i64 y1.Dir, .int .i64 y1.Cap, .bool y1.Clock] 199, Ch.box bb1 [.string a_0.Name, .int .i64 a_0.Kind, .slice p1 a_0.Pins.length k1, .slice p2 a_0.Arcs.length k2, .slice p3 a_0.Truth.length k3, .int .i64 a_0.Leak, .int .i64 a_0.Energy] 155]) ?_ ?_
  ·refine qB (zp5 rfl ?_)
   by_cases hc10 : (i2 == (W64 ((a_0.Pins.length : Int) - 1))) = true
   ·replace hF := bifT hc10 hF
    refine qD hc10 (t := 56) rfl (qa rfl (zp1 rfl (qa rfl (zl 0 1 h rfl (qa rfl (zp1 rfl (qa rfl (zp1 rfl ?_))))))))
    by_cases hc11 : (y1.Dir != 2) = true
    ·replace hF := bifT hc11 hF
     refine qD hc11 (t := 60) rfl (zn3 rfl (qa rfl (zp1 rfl (qa rfl (zp1 rfl (zn2 rfl (qa rfl (zp1 rfl ?_))))))))
     refine zp2 rfl (zn5 rfl (zn4 rfl (zp1 rfl ?_)))
     refine qb ?_
     obtain rfl := qi hF
     exact qz [(1, _), (4, _), (5, _), (6, _), (7, _), (80, _)] ⟨rfl, rfl, rfl, rfl, rfl, rfl, trivial⟩ ⟨_, hK3, rfl, h⟩
    replace hc11 := zb hc11
    replace hF := bifF hc11 hF
    refine qC hc11 (t := 60) rfl (qa rfl (zp1 rfl (qa rfl (zl 0 2 h rfl (qa rfl (zp1 rfl (qa rfl (zp1 rfl (qa rfl (zp1 rfl ?_))))))))))
    by_cases hc12 : (y1.Cap != 0) = true
    ·replace hF := bifT hc12 hF
     refine qD hc12 (t := 65) rfl (zn2 rfl (qa rfl (zp3 rfl (zn5 rfl ?_))))
     refine zn4 rfl (zp1 rfl (qb ?_))
     obtain rfl := qi hF
     exact qz [(1, _), (4, _), (5, _), (6, _), (7, _), (80, _)] ⟨rfl, rfl, rfl, rfl, rfl, rfl, trivial⟩ ⟨_, hK3, rfl, h⟩
    replace hc12 := zb hc12
    replace hF := bifF hc12 hF
    refine qC hc12 (t := 65) rfl (qa rfl (zp1 rfl (qa rfl (zl 0 3 h rfl (qa rfl (zp3 rfl ?_))))))
    by_cases hc13 : y1.Clock = true
    ·replace hF := bifT hc13 hF
     refine qD hc13 (t := 70) rfl (zn5 rfl (zn4 rfl (zp1 rfl (qb ?_))))
     obtain rfl := qi hF
     exact qz [(1, _), (4, _), (5, _), (6, _), (7, _), (80, _)] ⟨rfl, rfl, rfl, rfl, rfl, rfl, trivial⟩ ⟨_, hK3, rfl, h⟩
    replace hc13 := zb hc13
    replace hF := bifF hc13 hF
    refine qC hc13 (t := 70) rfl (qa rfl (zp1 rfl (qa rfl (zp1 rfl (qa rfl (zp1 rfl (qa rfl (zp1 rfl (qa rfl (zp1 rfl ?_))))))))))
    by_cases hc14 : (decide (i2 < (W64 ((a_0.Pins.length : Int) - 1)))) = true
    ·replace hF := bifT hc14 hF
     refine qD hc14 (t := 75) rfl (qa rfl (zp1 rfl (qa rfl (zl 0 1 h rfl (qa rfl (zp1 rfl (qa rfl (zp2 rfl (qb ?_)))))))))
     obtain rfl := qi hF
     exact qz [(1, _), (4, _), (5, _), (6, _), (7, _), (80, _)] ⟨rfl, rfl, rfl, rfl, rfl, rfl, trivial⟩ ⟨_, hK3, rfl, h⟩
    replace hc14 := zb hc14
    replace hF := bifF hc14 hF
    refine qC hc14 (t := 75) rfl (zn3 rfl (qa rfl (zp2 rfl (qb ?_))))
    obtain rfl := qi hF
    exact qz [(1, _), (4, _), (5, _), (6, _), (7, _), (80, _)] ⟨rfl, rfl, rfl, rfl, rfl, rfl, trivial⟩ ⟨_, hK3, rfl, h⟩
   replace hc10 := zb hc10
   replace hF := bifF hc10 hF
   refine qC hc10 (t := 56) rfl (zn5 rfl (zn5 rfl (zn1 rfl ?_)))
   refine zn1 rfl (zp2 rfl (qa rfl (zp1 rfl (qa rfl (zp1 rfl (qa rfl (zp1 rfl (qa rfl (zp1 rfl (qa rfl ?_))))))))))
   refine zp1 rfl ?_
   by_cases hc15 : (decide (i2 < (W64 ((a_0.Pins.length : Int) - 1)))) = true
   ·replace hF := bifT hc15 hF
    refine qD hc15 (t := 75) rfl (qa rfl (zp1 rfl (qa rfl (zl 0 1 h rfl (qa rfl (zp1 rfl (qa rfl (zp2 rfl (qb ?_)))))))))
    obtain rfl := qi hF
    exact qz [(1, _), (4, _), (5, _), (6, _), (7, _), (80, _)] ⟨rfl, rfl, rfl, rfl, rfl, rfl, trivial⟩ ⟨_, hK3, rfl, h⟩
   replace hc15 := zb hc15
   replace hF := bifF hc15 hF
   refine qC hc15 (t := 75) rfl (zn3 rfl (qa rfl (zp2 rfl (qb ?_))))
   obtain rfl := qi hF
   exact qz [(1, _), (4, _), (5, _), (6, _), (7, _), (80, _)] ⟨rfl, rfl, rfl, rfl, rfl, rfl, trivial⟩ ⟨_, hK3, rfl, h⟩
  rintro e3 w7 ⟨b5, hF, rfl, h⟩
  subst hKF1
  refine qu rfl hF ?_ ?_ <;> intro hF
  ·refine zSR (zp2 rfl (qb ?_))
   obtain rfl := qi hF; replace hF := hK1
   obtain rfl := qi hF
   exact qaf qc (ρ := (Int × Bool)) [GoT.v Int [.int .i64 0], GoT.v Bool [.bool false]] h ⟨rfl, rfl, trivial⟩ (PV.done h (qfa h (qa7 (S := fun _ => False) rfl) (qan (qa7 (S := fun _ => False) rfl)) (by rfl)))
  refine zKSR (zp1 rfl (zl 0 3 h rfl (qb ?_)))
  refine qu rfl hF ?_ ?_ <;> intro hF
  ·refine qB (zp3 rfl (zNER (zp3 rfl (qb ?_))))
   replace h := h.pick [1] rfl
   exact qy m1 [(1, _), (4, _), (5, _), (6, _)] (Nat.lt_succ_self m1) ⟨rfl, rfl, rfl, rfl, trivial⟩ ⟨_, _, hF, rfl, h⟩
  refine zKER (zp3 rfl (qb ?_))
  replace h := h.pick [1] rfl
  exact qy m1 [(1, _), (4, _), (5, _), (6, _)] (Nat.lt_succ_self m1) ⟨rfl, rfl, rfl, rfl, trivial⟩ ⟨_, _, hF, rfl, h⟩
 refine qH rfl ?_
 obtain rfl := qi hF; replace hF := hK1
 refine zSR (zp3 rfl (qb ?_))
 obtain rfl := qi hF
 exact qaf qc (ρ := (Int × Bool)) [GoT.v Int [.int .i64 i1], GoT.v Bool [.bool true]] h ⟨rfl, rfl, trivial⟩ (PV.done h (qfa h (qa7 (S := fun _ => False) rfl) (qan (qa7 (S := fun _ => False) rfl)) (by rfl)))

def qb7 (list : (List Int)) : Nat → Int → Option (Flow Bool Int)
 | 0, _ => none
 | n + 1, i1 =>
  bif decide (i1 < (list.length : Int)) then
   (idx list i1).bind fun y1 =>
   (qaN n y1 0 100000).bind fun r1 =>
   bif (!r1) then
    some (.ret false)
   else
    bif decide (i1 > 0) then
     (idx list (W64 (i1 - 1))).bind fun y2 =>
     (idx list i1).bind fun y3 =>
     bif decide (y2 ≥ y3) then
      some (.ret false)
     else
      qb7 list n (W64 (i1 + 1))
    else
     qb7 list n (W64 (i1 + 1))
  else
   some (.nxt i1)

def qfi (n : Nat) (list : (List Int)) : Option Bool :=
 (qb7 list n 0).bind fun o => match o with
 | .ret r => some r
 | .nxt _ =>
  bif decide ((list.length : Int) ≥ 1) then
   some (decide ((list.length : Int) ≤ 4))
  else
   some false

theorem qil {n : Nat} {w : World} {list : (List Int)} {cs1 : List Value} (ha1 : GoT.R w (old w) list cs1) {r : Bool} (hF : qfi n list = some r) : RetV Tryz.prog 216 [GoT.v (List Int) cs1] w r := by
 obtain ⟨p1, k1, rfl, s1⟩ := ha1
 refine qe Tryz.func216 rfl (m := 40) rfl rfl (fun h => ?_)
 rw [qfi] at hF
 refine zSR (zp1 rfl (zNSSR (zp1 rfl (qb ?_))))
 obtain ⟨o1, hF, hK1⟩ := qd hF
 refine qv (qR [(0, _), (3, _)] ⟨rfl, rfl, trivial⟩ ?_)
 refine qG (fun m e w' => ∃ (i1 : Int), qb7 list m i1 = some o1 ∧ e = [(0, .slice p1 list.length k1), (3, .int .i64 i1)] ∧ SH w w' []) n ⟨_, hF, rfl, h⟩ ?_
 rintro m1 e1 w1 ⟨i1, hF, rfl, h⟩
 rcases m1 with _ | m1
 ·rw [qb7] at hF
  cases hF
 rw [qb7] at hF
 refine zSSR (zp4 rfl (qb ?_))
 refine qu rfl hF ?_ ?_ <;> intro hF
 ·refine zKSB (qbg ?_)
  refine qcQ rfl (by kernel_rfl) ?_
  refine zd2 rfl ?_
  obtain ⟨y1, hy1, hF⟩ := qd hF
  have he1 := qf hy1
  obtain ⟨b1, o_1, q1, cs2, hp1, hq1, -, hr1, hc2⟩ := s1.at hy1
  obtain rfl := hr1
  refine zdxe hp1 hq1 he1 rfl ?_
  refine zdc 0 (hc2.below h.below) rfl ?_
  obtain ⟨r1, hr2, hF⟩ := qd hF
  refine qc8 r1 (vsB _) call35 (fun _ hb => qau  hr2) rfl rfl rfl rfl ?_
  refine zd2 rfl ?_
  by_cases hc3 : (!r1) = true
  ·replace hF := bifT hc3 hF
   refine qc0 hc3 (t := 16) rfl (qk rfl rfl rfl (qk rfl rfl rfl (qk rfl rfl rfl (qk rfl rfl rfl (qk rfl rfl rfl (qk rfl rfl rfl (qk rfl rfl rfl (qk rfl rfl rfl (qk rfl rfl rfl (qk rfl rfl rfl (qk rfl rfl rfl ?_)))))))))))
   refine qk rfl rfl rfl (qk rfl rfl rfl (qk rfl rfl rfl (zd1 rfl ?_)))
   refine qbj (fun w2 hb => ?_)
   replace h := h.ext hb
   clear hb
   refine qeR rfl rfl (zSR (zp1 rfl (qb ?_)))
   obtain rfl := qi hF; replace hF := hK1
   exact qx qc h hF ⟨rfl, trivial⟩
  replace hc3 := zb hc3
  replace hF := bifF hc3 hF
  refine qc9 hc3 (t := 16) rfl (qg rfl (zd1 rfl (qg rfl (zd1 rfl (qg rfl (zd1 rfl ?_))))))
  by_cases hc4 : (decide (i1 > 0)) = true
  ·replace hF := bifT hc4 hF
   refine qc0 hc4 (t := 19) rfl (qg rfl (zd1 rfl (qg rfl (zd1 rfl (qg rfl (zd1 rfl (qg rfl ?_)))))))
   obtain ⟨y2, hy2, hF⟩ := qd hF
   have he2 := qf hy2
   obtain ⟨b2, o_2, q2, cs3, hp2, hq2, -, hr3, hc5⟩ := s1.at hy2
   obtain rfl := hr3
   refine zdxe hp2 hq2 he2 rfl ?_
   refine qg rfl ?_
   refine zdc 0 (hc5.below h.below) rfl ?_
   refine qg rfl (zd1 rfl (qg rfl (zd1 rfl (qg rfl ?_))))
   obtain ⟨y3, hy3, hF⟩ := qd hF
   have he3 := qf hy3
   obtain ⟨b3, o_3, q3, cs4, hp3, hq3, -, hr4, hc6⟩ := s1.at hy3
   obtain rfl := hr4
   refine zdxe hp3 hq3 he3 rfl ?_
   refine qg rfl ?_
   refine zdc 0 (hc6.below h.below) rfl ?_
   refine qg rfl (zd1 rfl (qg rfl (zd2 rfl ?_)))
   refine qbj (fun w3 hb => ?_)
   replace h := h.ext hb
   clear hb
   refine qu rfl hF ?_ ?_ <;> intro hF
   ·refine zSR (zp1 rfl (qb ?_))
    obtain rfl := qi hF; replace hF := hK1
    exact qx qc h hF ⟨rfl, trivial⟩
   exact zKER (zp3 rfl (qb (qy m1 [(0, _), (3, _)] (Nat.lt_succ_self m1) ⟨rfl, rfl, trivial⟩ ⟨_, hF, rfl, h⟩)))
  replace hc4 := zb hc4
  replace hF := bifF hc4 hF
  refine qc9 hc4 (t := 19) rfl (qk rfl rfl rfl (qk rfl rfl rfl (qk rfl rfl rfl (qk rfl rfl rfl (qk rfl rfl rfl (qk rfl rfl rfl (qk rfl rfl rfl (qk rfl rfl rfl (qk rfl rfl rfl (qk rfl rfl rfl (qg rfl ?_)))))))))))
  refine zd2 rfl ?_
  refine qbj (fun w4 hb => ?_)
  replace h := h.ext hb
  clear hb
  exact qev rfl rfl (zKER (zp3 rfl (qb (qy m1 [(0, _), (3, _)] (Nat.lt_succ_self m1) ⟨rfl, rfl, trivial⟩ ⟨_, hF, rfl, h⟩))))
 refine qH rfl ?_
 obtain rfl := qi hF; replace hF := hK1
 refine zSR (zp4 rfl ?_)
 by_cases hc8 : (decide ((list.length : Int) ≥ 1)) = true
 ·replace hF := bifT hc8 hF
  exact qD hc8 (t := 35) rfl (qa rfl (zp1 rfl (qa rfl (zp1 rfl (qa rfl (zp3 rfl (qb (qx qc h hF ⟨rfl, trivial⟩))))))))
 replace hc8 := zb hc8
 replace hF := bifF hc8 hF
 exact qC hc8 (t := 35) rfl (zn3 rfl (zp2 rfl (qb (qx qc h hF ⟨rfl, trivial⟩))))

def qcG (t : qE) : Nat → Int → Option (Flow Bool Int)
 | 0, _ => none
 | n + 1, i1 =>
  bif decide (i1 < (t.Values.length : Int)) then
   (idx t.Values i1).bind fun y1 =>
   (qaN n y1 (-1000000) 1000000).bind fun r1 =>
   bif (!r1) then
    some (.ret false)
   else
    qcG t n (W64 (i1 + 1))
  else
   some (.nxt i1)

def qgb (n : Nat) (t : qE) : Option Bool :=
 (
  (qfi n t.Slews).bind fun r2 =>
  bif (!r2) then
   some true
  else
   (qfi n t.Loads).bind fun r3 =>
   bif (!r3) then
    some true
   else
    some ((t.Values.length : Int) != (W64 ((t.Slews.length : Int) * (t.Loads.length : Int))))).bind fun b1 =>
 bif b1 then
  some false
 else
  (qcG t n 0).bind fun o => match o with
  | .ret r => some r
  | .nxt _ =>
   some true

theorem qkq {n : Nat} {w : World} {t : qE} {cs1 : List Value} (ha1 : GoT.R w (old w) t cs1) {r : Bool} (hF : qgb n t = some r) : RetV Tryz.prog 204 [GoT.v qE cs1] w r := by
 obtain ⟨p1, k1, p2, k2, p3, k3, rfl, s1, s2, s3⟩ := qbr ha1
 refine qe Tryz.func204 rfl (m := 41) rfl rfl (fun h => ?_)
 rw [qgb] at hF
 refine zSR (qO h rfl rfl ?_)
 intro w1 bb1 h
 refine zp1 rfl (zNSS ?_)
 obtain ⟨KF1, hKF1, o2, hF, hK2⟩ := bindE hF
 refine qeA (fun e w' => ∃ (b1 : Bool), KF1 b1 = some r ∧ e = [(1, .pointer (some ⟨bb1, 0, none⟩)), (26, .bool b1)] ∧ SH w w' [Ch.box bb1 [.slice p1 t.Slews.length k1, .slice p2 t.Loads.length k2, .slice p3 t.Values.length k3] 238]) ?_ ?_
 ·refine qB (zp1 rfl (zl 0 0 h rfl ?_))
  obtain ⟨r2, hr3, hF⟩ := qd hF
  refine qt r2 h call216 (qil ⟨_, _, rfl, (h.oldS s1)⟩ hr3) rfl rfl rfl rfl ?_
  intro w4 h
  refine zp2 rfl ?_
  by_cases hc5 : (!r2) = true
  ·replace hF := bifT hc5 hF
   refine qD hc5 (t := 8) rfl (zn4 rfl (zp2 rfl (zn5 rfl ?_)))
   refine zn5 rfl (zn1 rfl (zp1 rfl (qb ?_)))
   obtain rfl := qi hF
   exact qz [(1, _), (26, _)] ⟨rfl, rfl, trivial⟩ ⟨_, hK2, rfl, h⟩
  replace hc5 := zb hc5
  replace hF := bifF hc5 hF
  refine qC hc5 (t := 8) rfl (qa rfl (zp1 rfl (qa rfl (zl 0 1 h rfl (qa rfl ?_)))))
  obtain ⟨r3, hr4, hF⟩ := qd hF
  refine qt r3 h call216 (qil ⟨_, _, rfl, (h.oldS s2)⟩ hr4) rfl rfl rfl rfl ?_
  intro w5 h
  refine qa rfl (zp3 rfl ?_)
  by_cases hc6 : (!r3) = true
  ·replace hF := bifT hc6 hF
   refine qD hc6 (t := 14) rfl (zn5 rfl (zn5 rfl (zn1 rfl ?_)))
   refine zp1 rfl (qb ?_)
   obtain rfl := qi hF
   exact qz [(1, _), (26, _)] ⟨rfl, rfl, trivial⟩ ⟨_, hK2, rfl, h⟩
  replace hc6 := zb hc6
  replace hF := bifF hc6 hF
  refine qC hc6 (t := 14) rfl (qa rfl (zp1 rfl (qa rfl (zl 0 2 h rfl (qa rfl (zp1 rfl (qa rfl (zp1 rfl (qa rfl (zl 0 0 h rfl (qa rfl ?_)))))))))))
  refine zp1 rfl (qa rfl (zp1 rfl (qa rfl (zl 0 1 h rfl (qa rfl (zp1 rfl (qa rfl (zp1 rfl (qa rfl (zp2 rfl ?_))))))))))
  refine qb ?_
  obtain rfl := qi hF
  exact qz [(1, _), (26, _)] ⟨rfl, rfl, trivial⟩ ⟨_, hK2, rfl, h⟩
 rintro e2 w6 ⟨b1, hF, rfl, h⟩
 subst hKF1
 refine qu rfl hF ?_ ?_ <;> intro hF
 ·exact zSR (zp1 rfl (qb (qx qc h hF ⟨rfl, trivial⟩)))
 refine zKSSR (zp1 rfl (qb ?_))
 obtain ⟨o1, hF, hK1⟩ := qd hF
 refine qv (qR [(1, _), (3, _)] ⟨rfl, rfl, trivial⟩ ?_)
 refine qG (fun m e w' => ∃ (i1 : Int), qcG t m i1 = some o1 ∧ e = [(1, .pointer (some ⟨bb1, 0, none⟩)), (3, .int .i64 i1)] ∧ SH w w' [Ch.box bb1 [.slice p1 t.Slews.length k1, .slice p2 t.Loads.length k2, .slice p3 t.Values.length k3] 238]) n ⟨_, hF, rfl, h⟩ ?_
 rintro m1 e1 w2 ⟨i1, hF, rfl, h⟩
 rcases m1 with _ | m1
 ·rw [qcG] at hF
  cases hF
 rw [qcG] at hF
 refine zSSR (zp2 rfl (zl 0 2 h rfl (zp2 rfl (qb ?_))))
 refine qu rfl hF ?_ ?_ <;> intro hF
 ·refine zKSBSR (zp1 rfl (zl 0 2 h rfl (zp1 rfl ?_)))
  obtain ⟨y1, hy1, hF⟩ := qd hF
  have he1 := qf hy1
  obtain ⟨b2, o_1, q1, cs2, hp1, hq1, -, hr1, hc3⟩ := s3.at hy1
  obtain rfl := hr1
  refine zxe hp1 hq1 he1 rfl (zc 0 (hc3.below h.below) rfl ?_)
  obtain ⟨r1, hr2, hF⟩ := qd hF
  refine qt r1 h call35 (qau hr2) rfl rfl rfl rfl ?_
  intro w3 h
  refine zp1 rfl (qb ?_)
  refine qu rfl hF ?_ ?_ <;> intro hF
  ·refine zSR (zp1 rfl (qb ?_))
   obtain rfl := qi hF; replace hF := hK1
   exact qx qc h hF ⟨rfl, trivial⟩
  exact zKER (zp3 rfl (qb (qy m1 [(1, _), (3, _)] (Nat.lt_succ_self m1) ⟨rfl, rfl, trivial⟩ ⟨_, hF, rfl, h⟩)))
 refine qH rfl ?_
 obtain rfl := qi hF; replace hF := hK1
 exact zSR (zp1 rfl (qb (qx qc h hF ⟨rfl, trivial⟩)))

def qbu (t : qE) : Nat → Int → Int → Int → Option (Int × Int × Int)
 | 0, _, _, _ => none
 | n + 1, i1, i2, i3 =>
  bif decide (i3 < (t.Values.length : Int)) then
   (idx t.Values i3).bind fun y3 =>
   (idx t.Values i3).bind fun y4 =>
   qbu t n (if y3 < i1 then y3 else i1) (if y4 > i2 then y4 else i2) (W64 (i3 + 1))
  else
   some (i1, i2, i3)

def qed (n : Nat) (t : qE) : Option (qhn × Int) :=
 (qgb n t).bind fun r1 =>
 bif (!r1) then
  some ((⟨0, 0⟩ : qhn), 1)
 else
  (idx t.Values 0).bind fun y1 =>
  (idx t.Values 0).bind fun y2 =>
  (qbu t n y1 y2 1).bind fun o => match o with
  | (i1, i2, _) =>
   some ((⟨i1, i2⟩ : qhn), 0)

theorem qi7 {n : Nat} {w : World} {t : qE} {cs1 : List Value} (ha1 : GoT.R w (old w) t cs1) {r : (qhn × Int)} (hF : qed n t = some r) : RetV Tryz.prog 188 [GoT.v qE cs1] w r := by
 obtain ⟨p1, k1, p2, k2, p3, k3, rfl, s1, s2, s3⟩ := qbr ha1
 refine qe Tryz.func188 rfl (m := 45) rfl rfl (fun h => ?_)
 rw [qed] at hF
 refine zSR (qO h rfl rfl ?_)
 intro w1 bb1 h
 refine qU qc h rfl rfl rfl ?_
 intro w2 bb2 h
 refine zp1 rfl (zNSSR (zl 1 0 h rfl ?_))
 obtain ⟨r1, hr1, hF⟩ := qd hF
 refine qt r1 h call204 (qkq (h.old ha1) hr1) rfl rfl rfl rfl ?_
 intro w3 h
 refine zp1 rfl (qb ?_)
 refine qu rfl hF ?_ ?_ <;> intro hF
 ·refine zSR (r_v (qgg qc [] [] rfl rfl rfl rfl rfl rfl rfl rfl) rfl (zs 0 h rfl ?_))
  intro w4 h
  refine zp1 rfl (qb ?_)
  obtain rfl := qi hF
  exact qaf qc (ρ := (qhn × Int)) [GoT.v qhn [.int .i64 0, .int .i64 0], GoT.v Int [.int .i64 1]] h ⟨⟨_, _, _, rfl, rfl, h.box 0 rfl, rfl⟩, rfl, trivial⟩ (PV.done h (qfa h (qa7 (S := fun _ => False) (qlQ (⟨0, 0⟩ : qhn))) (qan (qa7 (S := fun _ => False) rfl)) (by rfl)))
 refine zKS ?_
 refine qfo [] (fun w' => SH w w' [Ch.box bb1 [.slice p1 t.Slews.length k1, .slice p2 t.Loads.length k2, .slice p3 t.Values.length k3] 238]) rfl 11 rfl #[ff, ff, ff, ff, ff, ff, ff, ff, ff, ff, ff] (by kernel_rfl) (fun w5 hb => ?_)
 replace h := h.ext hb
 clear hb
 refine qj 0 rfl #[tt, ff, ff, ff, ff, ff, ff, ff, ff, ff, ff] (by kernel_rfl) (by kernel_rfl) (fun w' hw => v_p qc rfl w') (h.pick [1] rfl) rfl ?_
 refine qj 1 rfl #[tt, tt, ff, ff, ff, ff, ff, ff, ff, ff, ff] (by kernel_rfl) (by kernel_rfl) (fun w' hw => qbx qc (hw.box 0 rfl) (j := 2) rfl rfl rfl) (h.pick [1] rfl) rfl ?_
 obtain ⟨y1, hy1, hF⟩ := qd hF
 have he1 := qf hy1
 obtain ⟨b1, o_1, q1, cs2, hp1, hq1, -, hr2, hc2⟩ := s3.at hy1
 obtain rfl := hr2
 refine qj 2 rfl #[tt, tt, tt, ff, ff, ff, ff, ff, ff, ff, ff] (by kernel_rfl) (by kernel_rfl) (fun w' hw => qfq qc hp1 hq1 ⟨he1.1, he1.2.1⟩ rfl rfl rfl rfl rfl rfl) (h.pick [1] rfl) rfl ?_
 refine qj 3 rfl #[tt, tt, tt, tt, ff, ff, ff, ff, ff, ff, ff] (by kernel_rfl) (by kernel_rfl) (fun w' hw => qbx qc (hc2.below hw.below) (j := 0) rfl rfl rfl) (h.pick [1] rfl) rfl ?_
 refine qj 4 rfl #[tt, tt, tt, tt, tt, ff, ff, ff, ff, ff, ff] (by kernel_rfl) (by kernel_rfl) (fun w' hw => v_p qc rfl w') (h.pick [1] rfl) rfl ?_
 refine qj 5 rfl #[tt, tt, tt, tt, tt, tt, ff, ff, ff, ff, ff] (by kernel_rfl) (by kernel_rfl) (fun w' hw => qbx qc (hw.box 0 rfl) (j := 2) rfl rfl rfl) (h.pick [1] rfl) rfl ?_
 obtain ⟨y2, hy2, hF⟩ := qd hF
 have he2 := qf hy2
 obtain ⟨b2, o_2, q2, cs3, hp2, hq2, -, hr3, hc3⟩ := s3.at hy2
 obtain rfl := hr3
 refine qj 6 rfl #[tt, tt, tt, tt, tt, tt, tt, ff, ff, ff, ff] (by kernel_rfl) (by kernel_rfl) (fun w' hw => qfq qc hp2 hq2 ⟨he2.1, he2.2.1⟩ rfl rfl rfl rfl rfl rfl) (h.pick [1] rfl) rfl ?_
 refine qj 7 rfl #[tt, tt, tt, tt, tt, tt, tt, tt, ff, ff, ff] (by kernel_rfl) (by kernel_rfl) (fun w' hw => qbx qc (hc3.below hw.below) (j := 0) rfl rfl rfl) (h.pick [1] rfl) rfl ?_
 refine qj 8 rfl #[tt, tt, tt, tt, tt, tt, tt, tt, tt, ff, ff] (by kernel_rfl) (by kernel_rfl) (fun w' hw => qgg qc [0, 1] [.tmp 13, .tmp 17] rfl rfl rfl rfl rfl rfl rfl rfl) (h.pick [1] rfl) rfl ?_
 refine qaz 9 rfl #[tt, tt, tt, tt, tt, tt, tt, tt, tt, tt, ff] (by kernel_rfl) (by kernel_rfl) ?_
 refine qU qc h rfl rfl rfl ?_
 intro w6 bb3 h
 refine qam (fun _ => (h.pick [2] rfl)) ?_
 refine qaz 10 rfl #[tt, tt, tt, tt, tt, tt, tt, tt, tt, tt, tt] (by kernel_rfl) (by kernel_rfl) ?_
 refine zs 0 h rfl ?_
 intro w7 h
 refine qam (fun _ => (h.pick [2] rfl)) ?_
 refine qdD (by kernel_rfl) ?_
 refine zSSR (zp1 rfl (qb ?_))
 obtain ⟨o1, hF, hK1⟩ := qd hF
 refine qv (qR [(1, _), (2, _), (4, _), (5, _)] ⟨rfl, rfl, rfl, rfl, trivial⟩ ?_)
 refine qG (fun m e w' => ∃ (i1 : Int) (i2 : Int) (i3 : Int), qbu t m i1 i2 i3 = some o1 ∧ e = [(1, .pointer (some ⟨bb1, 0, none⟩)), (2, .pointer (some ⟨bb2, 0, none⟩)), (4, .pointer (some ⟨bb3, 0, none⟩)), (5, .int .i64 i3)] ∧ SH w w' [Ch.box bb3 [.int .i64 i1, .int .i64 i2] 249, Ch.box bb2 [.int .i64 0, .int .i64 0] 249, Ch.box bb1 [.slice p1 t.Slews.length k1, .slice p2 t.Loads.length k2, .slice p3 t.Values.length k3] 238]) n ⟨_, _, _, hF, rfl, h⟩ ?_
 rintro m1 e1 w8 ⟨i1, i2, i3, hF, rfl, h⟩
 rcases m1 with _ | m1
 ·rw [qbu] at hF
  cases hF
 rw [qbu] at hF
 refine zSSR (zp2 rfl (zl 2 2 h rfl (zp2 rfl (qb ?_))))
 refine qu rfl hF ?_ ?_ <;> intro hF
 ·refine zKSB (qbg ?_)
  refine qfo [9] (fun w' => SH w w' [Ch.box bb3 [.int .i64 i1, .int .i64 i2] 249, Ch.box bb1 [.slice p1 t.Slews.length k1, .slice p2 t.Loads.length k2, .slice p3 t.Values.length k3] 238]) rfl 10 rfl #[ff, ff, ff, ff, ff, ff, ff, ff, ff, ff] (by kernel_rfl) (fun w9 hb => ?_)
  replace h := h.ext hb
  clear hb
  refine qj 0 rfl #[tt, ff, ff, ff, ff, ff, ff, ff, ff, ff] (by kernel_rfl) (by kernel_rfl) (fun w' hw => v_p qc rfl w') (h.pick [0, 2] rfl) rfl ?_
  refine qj 1 rfl #[tt, tt, ff, ff, ff, ff, ff, ff, ff, ff] (by kernel_rfl) (by kernel_rfl) (fun w' hw => qbx qc (hw.box 0 rfl) (j := 0) rfl rfl rfl) (h.pick [0, 2] rfl) rfl ?_
  refine qj 2 rfl #[tt, tt, tt, ff, ff, ff, ff, ff, ff, ff] (by kernel_rfl) (by kernel_rfl) (fun w' hw => v_p qc rfl w') (h.pick [0, 2] rfl) rfl ?_
  refine qj 3 rfl #[tt, tt, tt, tt, ff, ff, ff, ff, ff, ff] (by kernel_rfl) (by kernel_rfl) (fun w' hw => qbx qc (hw.box 1 rfl) (j := 2) rfl rfl rfl) (h.pick [0, 2] rfl) rfl ?_
  refine qj 4 rfl #[tt, tt, tt, tt, tt, ff, ff, ff, ff, ff] (by kernel_rfl) (by kernel_rfl) (fun w' hw => v_p qc rfl w') (h.pick [0, 2] rfl) rfl ?_
  obtain ⟨y3, hy3, hF⟩ := qd hF
  have he3 := qf hy3
  obtain ⟨b3, o_3, q3, cs4, hp3, hq3, -, hr4, hc5⟩ := s3.at hy3
  obtain rfl := hr4
  refine qj 5 rfl #[tt, tt, tt, tt, tt, tt, ff, ff, ff, ff] (by kernel_rfl) (by kernel_rfl) (fun w' hw => qfq qc hp3 hq3 ⟨he3.1, he3.2.1⟩ rfl rfl rfl rfl rfl rfl) (h.pick [0, 2] rfl) rfl ?_
  refine qj 6 rfl #[tt, tt, tt, tt, tt, tt, tt, ff, ff, ff] (by kernel_rfl) (by kernel_rfl) (fun w' hw => qbx qc (hc5.below hw.below) (j := 0) rfl rfl rfl) (h.pick [0, 2] rfl) rfl ?_
  refine qj 7 rfl #[tt, tt, tt, tt, tt, tt, tt, tt, ff, ff] (by kernel_rfl) (by kernel_rfl) (fun w' hw => v_p qc rfl w') (h.pick [0, 2] rfl) rfl ?_
  refine qj 8 rfl #[tt, tt, tt, tt, tt, tt, tt, tt, tt, ff] (by kernel_rfl) (by kernel_rfl) (fun w' hw => v_p qc rfl w') (h.pick [0, 2] rfl) rfl ?_
  refine qaz 9 rfl #[tt, tt, tt, tt, tt, tt, tt, tt, tt, tt] (by kernel_rfl) (by kernel_rfl) ?_
  refine zs 0 h rfl ?_
  intro w10 h
  refine qam (fun hs => absurd (hs 9 (by decide)) (by decide)) ?_
  refine qdD (by kernel_rfl) ?_
  refine qfo [9] (fun w' => SH w w' [Ch.box bb3 [.int .i64 (if y3 < i1 then y3 else i1), .int .i64 i2] 249, Ch.box bb1 [.slice p1 t.Slews.length k1, .slice p2 t.Loads.length k2, .slice p3 t.Values.length k3] 238]) rfl 10 rfl #[ff, ff, ff, ff, ff, ff, ff, ff, ff, ff] (by kernel_rfl) (fun w11 hb => ?_)
  replace h := h.ext hb
  clear hb
  refine qj 0 rfl #[tt, ff, ff, ff, ff, ff, ff, ff, ff, ff] (by kernel_rfl) (by kernel_rfl) (fun w' hw => v_p qc rfl w') (h.pick [0, 2] rfl) rfl ?_
  refine qj 1 rfl #[tt, tt, ff, ff, ff, ff, ff, ff, ff, ff] (by kernel_rfl) (by kernel_rfl) (fun w' hw => qbx qc (hw.box 0 rfl) (j := 1) rfl rfl rfl) (h.pick [0, 2] rfl) rfl ?_
  refine qj 2 rfl #[tt, tt, tt, ff, ff, ff, ff, ff, ff, ff] (by kernel_rfl) (by kernel_rfl) (fun w' hw => v_p qc rfl w') (h.pick [0, 2] rfl) rfl ?_
  refine qj 3 rfl #[tt, tt, tt, tt, ff, ff, ff, ff, ff, ff] (by kernel_rfl) (by kernel_rfl) (fun w' hw => qbx qc (hw.box 1 rfl) (j := 2) rfl rfl rfl) (h.pick [0, 2] rfl) rfl ?_
  refine qj 4 rfl #[tt, tt, tt, tt, tt, ff, ff, ff, ff, ff] (by kernel_rfl) (by kernel_rfl) (fun w' hw => v_p qc rfl w') (h.pick [0, 2] rfl) rfl ?_
  obtain ⟨y4, hy4, hF⟩ := qd hF
  have he4 := qf hy4
  obtain ⟨b4, o_4, q4, cs5, hp4, hq4, -, hr5, hc6⟩ := s3.at hy4
  obtain rfl := hr5
  refine qj 5 rfl #[tt, tt, tt, tt, tt, tt, ff, ff, ff, ff] (by kernel_rfl) (by kernel_rfl) (fun w' hw => qfq qc hp4 hq4 ⟨he4.1, he4.2.1⟩ rfl rfl rfl rfl rfl rfl) (h.pick [0, 2] rfl) rfl ?_
  refine qj 6 rfl #[tt, tt, tt, tt, tt, tt, tt, ff, ff, ff] (by kernel_rfl) (by kernel_rfl) (fun w' hw => qbx qc (hc6.below hw.below) (j := 0) rfl rfl rfl) (h.pick [0, 2] rfl) rfl ?_
  refine qj 7 rfl #[tt, tt, tt, tt, tt, tt, tt, tt, ff, ff] (by kernel_rfl) (by kernel_rfl) (fun w' hw => v_p qc rfl w') (h.pick [0, 2] rfl) rfl ?_
  refine qj 8 rfl #[tt, tt, tt, tt, tt, tt, tt, tt, tt, ff] (by kernel_rfl) (by kernel_rfl) (fun w' hw => v_p qc rfl w') (h.pick [0, 2] rfl) rfl ?_
  refine qaz 9 rfl #[tt, tt, tt, tt, tt, tt, tt, tt, tt, tt] (by kernel_rfl) (by kernel_rfl) ?_
  refine zs 0 h rfl ?_
  intro w12 h
  refine qam (fun hs => absurd (hs 9 (by decide)) (by decide)) ?_
  refine qdD (by kernel_rfl) ?_
  exact qem (qB (zp3 rfl (qb (qy m1 [(1, _), (2, _), (4, _), (5, _)] (Nat.lt_succ_self m1) ⟨rfl, rfl, rfl, rfl, trivial⟩ ⟨_, _, _, hF, rfl, h⟩))))
 refine qH rfl ?_
 obtain rfl := qi hF; replace hF := hK1
 refine zSR (zl 0 0 h rfl (zs 1 h rfl ?_))
 intro w13 h
 replace h : SH _ _ [Ch.box bb3 [.int .i64 i1, .int .i64 i2] 249, Ch.box bb2 [.int .i64 i1, .int .i64 i2] 249, Ch.box bb1 [.slice p1 t.Slews.length k1, .slice p2 t.Loads.length k2, .slice p3 t.Values.length k3] 238] := h
 refine zp1 rfl (qb ?_)
 obtain rfl := qi hF
 exact qaf qc (ρ := (qhn × Int)) [GoT.v qhn [.int .i64 i1, .int .i64 i2], GoT.v Int [.int .i64 0]] h ⟨⟨_, _, _, rfl, rfl, h.box 1 rfl, rfl⟩, rfl, trivial⟩ (PV.done h (qfa h (qa7 (S := fun _ => False) (qlQ (⟨i1, i2⟩ : qhn))) (qan (qa7 (S := fun _ => False) rfl)) (by rfl)))

def qbD (list : (List qE)) (positive : Bool) : Nat → Int → Option (Flow Bool Int)
 | 0, _ => none
 | n + 1, i1 =>
  bif decide (i1 < 2) then
   (idx list i1).bind fun y1 =>
   (qed n y1).bind fun o => match o with
    | (r2, r3) =>
     bif (r3 != 0) then
      some (.ret false)
     else
      bif positive then
       bif decide (r2.Early < 0) then
        some (.ret false)
       else
        qbD list positive n (W64 (i1 + 1))
      else
       qbD list positive n (W64 (i1 + 1))
  else
   some (.nxt i1)

def qcy (n : Nat) (list : (List qE)) (positive : Bool) : Option Bool :=
 bif ((list.length : Int) != 2) then
  some false
 else
  (qbD list positive n 0).bind fun o => match o with
  | .ret r => some r
  | .nxt _ =>
   some true

theorem qdS {n : Nat} {w : World} {list : (List qE)} {positive : Bool} {cs1 : List Value} (ha1 : GoT.R w (old w) list cs1) {r : Bool} (hF : qcy n list positive = some r) : RetV Tryz.prog 178 [GoT.v (List qE) cs1, .bool positive] w r := by
 obtain ⟨p1, k1, rfl, s1⟩ := ha1
 refine qe Tryz.func178 rfl (m := 33) rfl rfl (fun h => ?_)
 rw [qcy] at hF
 refine zSR (zp1 rfl (zNSSR (zp3 rfl (qb ?_))))
 refine qu rfl hF ?_ ?_ <;> intro hF
 ·exact zSR (zp1 rfl (qb (qx qc h hF ⟨rfl, trivial⟩)))
 refine zKSSR (zp1 rfl (qb ?_))
 obtain ⟨o1, hF, hK1⟩ := qd hF
 refine qv (qR [(0, _), (1, _), (5, _)] ⟨rfl, rfl, rfl, trivial⟩ ?_)
 refine qG (fun m e w' => ∃ (i1 : Int), qbD list positive m i1 = some o1 ∧ e = [(0, .slice p1 list.length k1), (1, .bool positive), (5, .int .i64 i1)] ∧ SH w w' []) n ⟨_, hF, rfl, h⟩ ?_
 rintro m1 e1 w1 ⟨i1, hF, rfl, h⟩
 rcases m1 with _ | m1
 ·rw [qbD] at hF
  cases hF
 rw [qbD] at hF
 refine zSSR (zp2 rfl (qb ?_))
 refine qu rfl hF ?_ ?_ <;> intro hF
 ·refine zKSBSR (zp2 rfl ?_)
  obtain ⟨y1, hy1, hF⟩ := qd hF
  have he1 := qf hy1
  obtain ⟨b1, o_1, q1, cs2, hp1, hq1, -, hr1, hc3⟩ := s1.at hy1
  obtain ⟨p2, k2, p3, k3, p4, k4, rfl, s2, s3, s4⟩ := qbr hr1
  refine zxe hp1 hq1 he1 rfl (zc 0 (hc3.below h.below) rfl ?_)
  obtain ⟨r1, hr2, hF⟩ := qd hF
  obtain ⟨r2, r3⟩ := r1
  refine qg3 (r2, r3) h call188 (qi7 (qgx y1 (h.oldS s2) (h.oldS s3) (h.oldS s4)) hr2) rfl rfl rfl rfl ?_
  intro w2 S1 us1 hv1 hr3
  obtain ⟨S2, S3, cs3, us2, rfl, hv2, hr4⟩ := hv1.cons hr3
  obtain rfl := qnu (hv2.sh.own 0 rfl)
  obtain ⟨rfl, h⟩ := hv2.lastI hr4
  refine zp3 rfl (qU qc h rfl rfl rfl ?_)
  intro w3 bb1 h
  refine zs 0 h rfl ?_
  intro w4 h
  refine zp1 rfl (zNSR (zp3 rfl ?_))
  by_cases hc4 : (r3 != 0) = true
  ·replace hF := bifT hc4 hF
   refine qD hc4 (t := 25) rfl (zn5 rfl (zn1 rfl (zp1 rfl (qb (qeR rfl rfl (zSR ?_))))))
   refine zp1 rfl (qb ?_)
   obtain rfl := qi hF; replace hF := hK1
   exact qx qc h hF ⟨rfl, trivial⟩
  replace hc4 := zb hc4
  replace hF := bifF hc4 hF
  refine qC hc4 (t := 25) rfl (qa rfl (zp1 rfl (qa rfl (zp1 rfl ?_))))
  by_cases hc5 : positive = true
  ·replace hF := bifT hc5 hF
   refine qD hc5 (t := 27) rfl (qa rfl (zp1 rfl (qa rfl (zl 0 0 h rfl (qa rfl (zp1 rfl (qa rfl (zp2 rfl (qb ?_)))))))))
   refine qu rfl hF ?_ ?_ <;> intro hF
   ·refine zSR (zp1 rfl (qb ?_))
    obtain rfl := qi hF; replace hF := hK1
    exact qx qc h hF ⟨rfl, trivial⟩
   refine zKER (zp3 rfl (qb ?_))
   replace h := h.pick [] rfl
   exact qy m1 [(0, _), (1, _), (5, _)] (Nat.lt_succ_self m1) ⟨rfl, rfl, rfl, trivial⟩ ⟨_, hF, rfl, h⟩
  replace hc5 := zb hc5
  replace hF := bifF hc5 hF
  refine qC hc5 (t := 27) rfl (zn3 rfl (qa rfl (zp2 rfl (qb (qev rfl rfl (zKER ?_))))))
  refine zp3 rfl (qb ?_)
  replace h := h.pick [] rfl
  exact qy m1 [(0, _), (1, _), (5, _)] (Nat.lt_succ_self m1) ⟨rfl, rfl, rfl, trivial⟩ ⟨_, hF, rfl, h⟩
 refine qH rfl ?_
 obtain rfl := qi hF; replace hF := hK1
 exact zSR (zp1 rfl (qb (qx qc h hF ⟨rfl, trivial⟩)))

def qgL (n : Nat) (a_0 : qA) (a_1 : qX) : Option Bool :=
 (
  (qaN n a_1.From 0 (W64 ((W64 ((a_0.Pins.length : Int) - 1)) - 1))).bind fun r7 =>
  bif (!r7) then
   some true
  else
   (qaN n a_1.To 0 (W64 ((a_0.Pins.length : Int) - 1))).bind fun r8 =>
   some (!r8)).bind fun b1 =>
 bif b1 then
  some false
 else
  (idx a_0.Pins a_1.From).bind fun y1 =>
  bif (a_1.Kind == 1) then
   bif (!y1.Clock) then
    bif (a_1.To == (W64 ((a_0.Pins.length : Int) - 1))) then
     (qaN n a_1.Sense 1 3).bind fun r1 =>
     bif r1 then
      (qcy n a_1.Delay true).bind fun r2 =>
      bif r2 then
       (qcy n a_1.Slew true).bind fun r3 =>
       some r3
      else
       some false
     else
      some false
    else
     some false
   else
    some false
  else
   (
    bif (a_1.Kind == 2) then
     some (a_1.Kind == 2)
    else
     some (a_1.Kind == 3)).bind fun b3 =>
   bif b3 then
    bif y1.Clock then
     bif (a_1.To == (W64 ((a_0.Pins.length : Int) - 1))) then
      bif (a_1.Sense == 0) then
       (qcy n a_1.Delay true).bind fun r4 =>
       bif r4 then
        (qcy n a_1.Slew true).bind fun r5 =>
        some r5
       else
        some false
      else
       some false
     else
      some false
    else
     some false
   else
    (
     bif (a_1.Kind == 4) then
      some (a_1.Kind == 4)
     else
      some (a_1.Kind == 5)).bind fun b4 =>
    bif b4 then
     bif y1.Clock then
      bif decide (a_1.To < (W64 ((a_0.Pins.length : Int) - 1))) then
       (idx a_0.Pins a_1.To).bind fun y2 =>
       bif (!y2.Clock) then
        bif (a_1.Sense == 0) then
         (qcy n a_1.Delay false).bind fun r6 =>
         bif r6 then
          some ((a_1.Slew.length : Int) == 0)
         else
          some false
        else
         some false
       else
        some false
      else
       some false
     else
      some false
    else
     some false

theorem qkV {n : Nat} {w : World} {a_0 : qA} {a_1 : qX} {cs1 : List Value} (ha1 : GoT.R w (old w) a_0 cs1) {cs2 : List Value} (ha2 : GoT.R w (old w) a_1 cs2) {r : Bool} (hF : qgL n a_0 a_1 = some r) : RetV Tryz.prog 166 [GoT.v qA cs1, GoT.v qX cs2] w r := by
 obtain ⟨p1, k1, p2, k2, p3, k3, rfl, s1, s2, s3⟩ := qS ha1
 obtain ⟨p4, k4, p5, k5, rfl, s4, s5⟩ := qao ha2
 refine qe Tryz.func166 rfl (m := 119) rfl rfl (fun h => ?_)
 rw [qgL] at hF
 refine zSR (qO h rfl rfl ?_)
 intro w1 bb1 h
 refine qO h rfl rfl ?_
 intro w2 bb2 h
 refine zp1 rfl (zNSR (zp1 rfl (zl 1 2 h rfl (zp3 rfl (zNSS ?_)))))
 obtain ⟨KF3, hKF3, o3, hF, hK3⟩ := bindE hF
 refine qeA (fun e w' => ∃ (b1 : Bool), KF3 b1 = some r ∧ e = [(2, .pointer (some ⟨bb1, 0, none⟩)), (3, .pointer (some ⟨bb2, 0, none⟩)), (5, .int .i64 (W64 ((a_0.Pins.length : Int) - 1))), (23, .bool b1)] ∧ SH w w' [Ch.box bb2 [.int .i64 a_1.Kind, .int .i64 a_1.From, .int .i64 a_1.To, .int .i64 a_1.Sense, .slice p4 a_1.Delay.length k4, .slice p5 a_1.Slew.length k5] 159, Ch.box bb1 [.string a_0.Name, .int .i64 a_0.Kind, .slice p1 a_0.Pins.length k1, .slice p2 a_0.Arcs.length k2, .slice p3 a_0.Truth.length k3, .int .i64 a_0.Leak, .int .i64 a_0.Energy] 155]) ?_ ?_
 ·refine qB (zp1 rfl (zl 0 1 h rfl (zp2 rfl ?_)))
  obtain ⟨r7, hr9, hF⟩ := qd hF
  refine qt r7 h call35 (qau hr9) rfl rfl rfl rfl ?_
  intro w11 h
  refine zp2 rfl ?_
  by_cases hc22 : (!r7) = true
  ·replace hF := bifT hc22 hF
   refine qD hc22 (t := 17) rfl (zn5 rfl (zp1 rfl (qb ?_)))
   obtain rfl := qi hF
   exact qz [(2, _), (3, _), (5, _), (23, _)] ⟨rfl, rfl, rfl, rfl, trivial⟩ ⟨_, hK3, rfl, h⟩
  replace hc22 := zb hc22
  replace hF := bifF hc22 hF
  refine qC hc22 (t := 17) rfl (qa rfl (zp1 rfl (qa rfl (zl 0 2 h rfl (qa rfl (zp1 rfl (qa rfl ?_)))))))
  obtain ⟨r8, hr10, hF⟩ := qd hF
  refine qt r8 h call35 (qau hr10) rfl rfl rfl rfl ?_
  intro w12 h
  refine qa rfl (zp2 rfl (qb ?_))
  obtain rfl := qi hF
  exact qz [(2, _), (3, _), (5, _), (23, _)] ⟨rfl, rfl, rfl, rfl, trivial⟩ ⟨_, hK3, rfl, h⟩
 rintro e3 w13 ⟨b1, hF, rfl, h⟩
 subst hKF3
 refine qu rfl hF ?_ ?_ <;> intro hF
 ·exact zSR (zp1 rfl (qb (qx qc h hF ⟨rfl, trivial⟩)))
 refine zKSR (zp1 rfl (zl 1 2 h rfl (zp1 rfl (zl 0 1 h rfl ?_))))
 obtain ⟨y1, hy1, hF⟩ := qd hF
 have he1 := qf hy1
 obtain ⟨b2, o_1, q1, cs3, hp1, hq1, -, hr1, hc2⟩ := s1.at hy1
 obtain rfl := qbd hr1
 refine zxe hp1 hq1 he1 rfl (zp1 rfl (zc 3 (hc2.below h.below) rfl (zp1 rfl (zNSSR (zp1 rfl (zl 0 0 h rfl (qb (qv ?_))))))))
 refine zSR (zp2 rfl (qb ?_))
 refine qu rfl hF ?_ ?_ <;> intro hF
 ·refine zSR (zp3 rfl ?_)
  by_cases hc4 : (!y1.Clock) = true
  ·replace hF := bifT hc4 hF
   refine qD hc4 (t := 37) rfl (qa rfl (zp1 rfl (qa rfl (zl 0 2 h rfl (qa rfl (zp1 rfl (qa rfl (zp3 rfl ?_))))))))
   by_cases hc5 : (a_1.To == (W64 ((a_0.Pins.length : Int) - 1))) = true
   ·replace hF := bifT hc5 hF
    refine qD hc5 (t := 43) rfl (qa rfl (zp1 rfl (qa rfl (zl 0 3 h rfl (qa rfl ?_)))))
    obtain ⟨r1, hr2, hF⟩ := qd hF
    refine qt r1 h call35 (qau hr2) rfl rfl rfl rfl ?_
    intro w3 h
    refine zp2 rfl ?_
    by_cases hc6 : r1 = true
    ·replace hF := bifT hc6 hF
     refine qD hc6 (t := 48) rfl (qa rfl (zp1 rfl (qa rfl (zl 0 4 h rfl (qa rfl ?_)))))
     obtain ⟨r2, hr3, hF⟩ := qd hF
     refine qt r2 h call178 (qdS ⟨_, _, rfl, (h.oldS s4)⟩ hr3) rfl rfl rfl rfl ?_
     intro w4 h
     refine zp2 rfl ?_
     by_cases hc7 : r2 = true
     ·replace hF := bifT hc7 hF
      refine qD hc7 (t := 53) rfl (qa rfl (zp1 rfl (qa rfl (zl 0 5 h rfl (qa rfl ?_)))))
      obtain ⟨r3, hr4, hF⟩ := qd hF
      refine qt r3 h call178 (qdS ⟨_, _, rfl, (h.oldS s5)⟩ hr4) rfl rfl rfl rfl ?_
      intro w5 h
      exact zp2 rfl (qb (qx qc h hF ⟨rfl, trivial⟩))
     replace hc7 := zb hc7
     replace hF := bifF hc7 hF
     exact qC hc7 (t := 53) rfl (zn3 rfl (zp2 rfl (qb (qx qc h hF ⟨rfl, trivial⟩))))
    replace hc6 := zb hc6
    replace hF := bifF hc6 hF
    refine qC hc6 (t := 48) rfl (zn3 rfl (zp2 rfl (zn3 rfl (zp2 rfl (qb ?_)))))
    exact qx qc h hF ⟨rfl, trivial⟩
   replace hc5 := zb hc5
   replace hF := bifF hc5 hF
   refine qC hc5 (t := 43) rfl (zn3 rfl (zp2 rfl (zn3 rfl (zp2 rfl (zn1 rfl ?_)))))
   exact zn2 rfl (zp2 rfl (qb (qx qc h hF ⟨rfl, trivial⟩)))
  replace hc4 := zb hc4
  replace hF := bifF hc4 hF
  refine qC hc4 (t := 37) rfl (zn4 rfl (zp2 rfl (zn3 rfl (zp2 rfl ?_))))
  exact zn3 rfl (zp2 rfl (zn3 rfl (zp2 rfl (qb (qx qc h hF ⟨rfl, trivial⟩)))))
 refine zSSR (zp2 rfl (qb ?_))
 obtain ⟨KF2, hKF2, o2, hF, hK2⟩ := bindE hF
 refine qeA (fun e w' => ∃ (b3 : Bool), KF2 b3 = some r ∧ e = [(2, .pointer (some ⟨bb1, 0, none⟩)), (3, .pointer (some ⟨bb2, 0, none⟩)), (5, .int .i64 (W64 ((a_0.Pins.length : Int) - 1))), (6, .bool y1.Clock), (32, .int .i64 a_1.Kind), (58, .bool b3)] ∧ SH w w' [Ch.box bb2 [.int .i64 a_1.Kind, .int .i64 a_1.From, .int .i64 a_1.To, .int .i64 a_1.Sense, .slice p4 a_1.Delay.length k4, .slice p5 a_1.Slew.length k5] 159, Ch.box bb1 [.string a_0.Name, .int .i64 a_0.Kind, .slice p1 a_0.Pins.length k1, .slice p2 a_0.Arcs.length k2, .slice p3 a_0.Truth.length k3, .int .i64 a_0.Leak, .int .i64 a_0.Energy] 155]) ?_ ?_
 ·refine qu rfl hF ?_ ?_ <;> intro hF
  ·refine qew ?_
   obtain rfl := qi hF
   exact qz [(2, _), (3, _), (5, _), (6, _), (32, _), (58, _)] ⟨rfl, rfl, rfl, rfl, rfl, rfl, trivial⟩ ⟨_, hK2, rfl, h⟩
  refine qB (zp2 rfl (qb ?_))
  obtain rfl := qi hF
  exact qz [(2, _), (3, _), (5, _), (6, _), (32, _), (58, _)] ⟨rfl, rfl, rfl, rfl, rfl, rfl, trivial⟩ ⟨_, hK2, rfl, h⟩
 rintro e2 w10 ⟨b3, hF, rfl, h⟩
 subst hKF2
 refine qu rfl hF ?_ ?_ <;> intro hF
 ·refine zSR (zp2 rfl ?_)
  by_cases hc9 : y1.Clock = true
  ·replace hF := bifT hc9 hF
   refine qD hc9 (t := 62) rfl (qa rfl (zp1 rfl (qa rfl (zl 0 2 h rfl (qa rfl (zp1 rfl (qa rfl (zp3 rfl ?_))))))))
   by_cases hc10 : (a_1.To == (W64 ((a_0.Pins.length : Int) - 1))) = true
   ·replace hF := bifT hc10 hF
    refine qD hc10 (t := 68) rfl (qa rfl (zp1 rfl (qa rfl (zl 0 3 h rfl (qa rfl (zp3 rfl ?_))))))
    by_cases hc11 : (a_1.Sense == 0) = true
    ·replace hF := bifT hc11 hF
     refine qD hc11 (t := 73) rfl (qa rfl (zp1 rfl (qa rfl (zl 0 4 h rfl (qa rfl ?_)))))
     obtain ⟨r4, hr5, hF⟩ := qd hF
     refine qt r4 h call178 (qdS ⟨_, _, rfl, (h.oldS s4)⟩ hr5) rfl rfl rfl rfl ?_
     intro w6 h
     refine zp2 rfl ?_
     by_cases hc12 : r4 = true
     ·replace hF := bifT hc12 hF
      refine qD hc12 (t := 78) rfl (qa rfl (zp1 rfl (qa rfl (zl 0 5 h rfl (qa rfl ?_)))))
      obtain ⟨r5, hr6, hF⟩ := qd hF
      refine qt r5 h call178 (qdS ⟨_, _, rfl, (h.oldS s5)⟩ hr6) rfl rfl rfl rfl ?_
      intro w7 h
      exact zp2 rfl (qb (qx qc h hF ⟨rfl, trivial⟩))
     replace hc12 := zb hc12
     replace hF := bifF hc12 hF
     exact qC hc12 (t := 78) rfl (zn3 rfl (zp2 rfl (qb (qx qc h hF ⟨rfl, trivial⟩))))
    replace hc11 := zb hc11
    replace hF := bifF hc11 hF
    refine qC hc11 (t := 73) rfl (zn3 rfl (zp2 rfl (zn3 rfl (zp2 rfl (qb ?_)))))
    exact qx qc h hF ⟨rfl, trivial⟩
   replace hc10 := zb hc10
   replace hF := bifF hc10 hF
   refine qC hc10 (t := 68) rfl (zn3 rfl (zp2 rfl (zn3 rfl (zp2 rfl (zn1 rfl ?_)))))
   exact zn2 rfl (zp2 rfl (qb (qx qc h hF ⟨rfl, trivial⟩)))
  replace hc9 := zb hc9
  replace hF := bifF hc9 hF
  refine qC hc9 (t := 62) rfl (zn4 rfl (zp2 rfl (zn3 rfl (zp2 rfl ?_))))
  exact zn3 rfl (zp2 rfl (zn3 rfl (zp2 rfl (qb (qx qc h hF ⟨rfl, trivial⟩)))))
 refine zSSR (zp2 rfl (qb ?_))
 obtain ⟨KF1, hKF1, o1, hF, hK1⟩ := bindE hF
 refine qeA (fun e w' => ∃ (b4 : Bool), KF1 b4 = some r ∧ e = [(2, .pointer (some ⟨bb1, 0, none⟩)), (3, .pointer (some ⟨bb2, 0, none⟩)), (5, .int .i64 (W64 ((a_0.Pins.length : Int) - 1))), (6, .bool y1.Clock), (83, .bool b4)] ∧ SH w w' [Ch.box bb2 [.int .i64 a_1.Kind, .int .i64 a_1.From, .int .i64 a_1.To, .int .i64 a_1.Sense, .slice p4 a_1.Delay.length k4, .slice p5 a_1.Slew.length k5] 159, Ch.box bb1 [.string a_0.Name, .int .i64 a_0.Kind, .slice p1 a_0.Pins.length k1, .slice p2 a_0.Arcs.length k2, .slice p3 a_0.Truth.length k3, .int .i64 a_0.Leak, .int .i64 a_0.Energy] 155]) ?_ ?_
 ·refine qu rfl hF ?_ ?_ <;> intro hF
  ·refine qew ?_
   obtain rfl := qi hF
   exact qz [(2, _), (3, _), (5, _), (6, _), (83, _)] ⟨rfl, rfl, rfl, rfl, rfl, trivial⟩ ⟨_, hK1, rfl, h⟩
  refine qB (zp2 rfl (qb ?_))
  obtain rfl := qi hF
  exact qz [(2, _), (3, _), (5, _), (6, _), (83, _)] ⟨rfl, rfl, rfl, rfl, rfl, trivial⟩ ⟨_, hK1, rfl, h⟩
 rintro e1 w9 ⟨b4, hF, rfl, h⟩
 subst hKF1
 refine qu rfl hF ?_ ?_ <;> intro hF
 ·refine zSR (zp2 rfl ?_)
  by_cases hc14 : y1.Clock = true
  ·replace hF := bifT hc14 hF
   refine qD hc14 (t := 87) rfl (qa rfl (zp1 rfl (qa rfl (zl 0 2 h rfl (qa rfl (zp1 rfl (qa rfl (zp3 rfl ?_))))))))
   by_cases hc15 : (decide (a_1.To < (W64 ((a_0.Pins.length : Int) - 1)))) = true
   ·replace hF := bifT hc15 hF
    refine qD hc15 (t := 93) rfl (qa rfl (zp1 rfl (qa rfl (zl 1 2 h rfl (qa rfl (zp1 rfl (qa rfl (zl 0 2 h rfl (qa rfl ?_)))))))))
    obtain ⟨y2, hy2, hF⟩ := qd hF
    have he2 := qf hy2
    obtain ⟨b5, o_2, q2, cs4, hp2, hq2, -, hr7, hc16⟩ := s1.at hy2
    obtain rfl := qbd hr7
    refine zxe hp2 hq2 he2 rfl (qa rfl (zp1 rfl (qa rfl (zc 3 (hc16.below h.below) rfl (qa rfl (zp3 rfl ?_))))))
    by_cases hc17 : (!y2.Clock) = true
    ·replace hF := bifT hc17 hF
     refine qD hc17 (t := 103) rfl (qa rfl (zp1 rfl (qa rfl (zl 0 3 h rfl (qa rfl (zp3 rfl ?_))))))
     by_cases hc18 : (a_1.Sense == 0) = true
     ·replace hF := bifT hc18 hF
      refine qD hc18 (t := 108) rfl (qa rfl (zp1 rfl (qa rfl (zl 0 4 h rfl (qa rfl ?_)))))
      obtain ⟨r6, hr8, hF⟩ := qd hF
      refine qt r6 h call178 (qdS ⟨_, _, rfl, (h.oldS s4)⟩ hr8) rfl rfl rfl rfl ?_
      intro w8 h
      refine zp2 rfl ?_
      by_cases hc19 : r6 = true
      ·replace hF := bifT hc19 hF
       refine qD hc19 (t := 113) rfl (qa rfl (zp1 rfl (qa rfl (zl 0 5 h rfl (qa rfl (zp1 rfl (qa rfl (zp3 rfl (qb ?_)))))))))
       exact qx qc h hF ⟨rfl, trivial⟩
      replace hc19 := zb hc19
      replace hF := bifF hc19 hF
      exact qC hc19 (t := 113) rfl (zn4 rfl (zp2 rfl (qb (qx qc h hF ⟨rfl, trivial⟩))))
     replace hc18 := zb hc18
     replace hF := bifF hc18 hF
     refine qC hc18 (t := 108) rfl (zn3 rfl (zp2 rfl (zn4 rfl (zp2 rfl ?_))))
     exact qb (qx qc h hF ⟨rfl, trivial⟩)
    replace hc17 := zb hc17
    replace hF := bifF hc17 hF
    refine qC hc17 (t := 103) rfl (zn3 rfl (zp2 rfl (zn3 rfl (zp2 rfl (zn1 rfl ?_)))))
    exact zn3 rfl (zp2 rfl (qb (qx qc h hF ⟨rfl, trivial⟩)))
   replace hc15 := zb hc15
   replace hF := bifF hc15 hF
   refine qC hc15 (t := 93) rfl (zn5 rfl (zn3 rfl (zp2 rfl (zn1 rfl ?_))))
   refine zn2 rfl (zp2 rfl (zn3 rfl (zp2 rfl (zn3 rfl ?_))))
   exact zn1 rfl (zp2 rfl (qb (qx qc h hF ⟨rfl, trivial⟩)))
  replace hc14 := zb hc14
  replace hF := bifF hc14 hF
  refine qC hc14 (t := 87) rfl (zn4 rfl (zp2 rfl (zn5 rfl ?_)))
  refine zn3 rfl (zp2 rfl (zn3 rfl (zp2 rfl (zn2 rfl ?_))))
  exact zn1 rfl (zp2 rfl (zn4 rfl (zp2 rfl (qb (qx qc h hF ⟨rfl, trivial⟩)))))
 exact zKE (zSR (zp1 rfl (qb (qx qc h hF ⟨rfl, trivial⟩))))

def qbN (c : qA) : Nat → (List Int) → Int → Option ((List Int) × Int)
 | 0, _, _ => none
 | n + 1, x2, i1 =>
  bif decide (i1 < (c.Arcs.length : Int)) then
   (idx c.Arcs i1).bind fun y1 =>
   (idx x2 y1.Kind).bind fun y2 =>
   (idx x2 y1.Kind).bind fun _ =>
   qbN c n (setS x2 y1.Kind (W64 (y2 + 1))) (W64 (i1 + 1))
  else
   some (x2, i1)

def qfD (n : Nat) (c : qA) : Option (List Int) :=
 (mkS 6 (0 : Int)).bind fun x1 =>
 (qbN c n x1 0).bind fun o => match o with
 | (x2, _) =>
  some x2

theorem qjY {n : Nat} {w : World} {c : qA} {cs1 : List Value} (ha1 : GoT.R w (old w) c cs1) {r : (List Int)} (hF : qfD n c = some r) : RetV Tryz.prog 167 [GoT.v qA cs1] w r := by
 obtain ⟨p1, k1, p2, k2, p3, k3, rfl, s1, s2, s3⟩ := qS ha1
 refine qe Tryz.func167 rfl (m := 25) rfl rfl (fun h => ?_)
 rw [qfD] at hF
 refine zSR (qO h rfl rfl ?_)
 intro w1 bb1 h
 refine zp1 rfl (zNSR ?_)
 obtain ⟨x1, hx1, hF⟩ := qd hF
 obtain ⟨g1, g2, hx1⟩ := qcN hx1
 refine qdJ qc Int h rfl rfl rfl rfl rfl rfl rfl rfl rfl g1 g2 hx1 rfl ?_
 intro w2 S1 p4 h
 refine zp1 rfl (zNSSR (zp1 rfl (qb ?_)))
 obtain ⟨o1, hF, hK1⟩ := qd hF
 refine qv (qR [(1, _), (3, _), (4, _)] ⟨rfl, rfl, rfl, trivial⟩ ?_)
 refine qG (fun m e w' => ∃ (x2 : (List Int)) (i1 : Int), qbN c m x2 i1 = some o1 ∧ e = [(1, .pointer (some ⟨bb1, 0, none⟩)), (3, .slice p4 x1.length x1.length), (4, .int .i64 i1)] ∧ SH w w' [Ch.own S1 (x2 : List Int) [.slice p4 x1.length x1.length], Ch.box bb1 [.string c.Name, .int .i64 c.Kind, .slice p1 c.Pins.length k1, .slice p2 c.Arcs.length k2, .slice p3 c.Truth.length k3, .int .i64 c.Leak, .int .i64 c.Energy] 155]) n ⟨_, _, hF, rfl, h⟩ ?_
 rintro m1 e1 w3 ⟨x2, i1, hF, rfl, h⟩
 rcases m1 with _ | m1
 ·rw [qbN] at hF
  cases hF
 rw [qbN] at hF
 refine zSSR (zp2 rfl (zl 1 3 h rfl (zp2 rfl (qb ?_))))
 refine qu rfl hF ?_ ?_ <;> intro hF
 ·refine zKSBR (zp2 rfl (zl 1 3 h rfl (zp1 rfl ?_)))
  obtain ⟨y1, hy1, hF⟩ := qd hF
  have he1 := qf hy1
  obtain ⟨b1, o_1, q1, cs2, hp1, hq1, -, hr1, hc2⟩ := s2.at hy1
  obtain ⟨p5, k4, p6, k5, rfl, s4, s5⟩ := qao hr1
  refine zxe hp1 hq1 he1 rfl (zp1 rfl (zc 0 (hc2.below h.below) rfl ?_))
  obtain ⟨y2, hy2, hF⟩ := qd hF
  have he2 := qf hy2
  obtain ⟨b2, o_2, q2, cs3, hp2, hq2, -, hr2, hc3⟩ := (h.sl 0 rfl).1.at hy2
  obtain rfl := hr2
  refine zx hp2 hq2 ⟨he2.1, qah he2.2.1 (h.sl 0 rfl).2⟩ rfl (zc 0 hc3 rfl (zp1 rfl ?_))
  obtain ⟨y3, hy3, hF⟩ := qd hF
  have he3 := qf hy3
  obtain ⟨b3, o_3, q3, cs4, hp3, hq3, -, hr3, hc4⟩ := (h.sl 0 rfl).1.at hy3
  obtain rfl := hr3
  refine zx hp3 hq3 ⟨he3.1, qah he3.2.1 (h.sl 0 rfl).2⟩ rfl (qdt qc 0 0 (W64 (y2 + 1)) h rfl hy3 hp3 hq3 rfl hc4 rfl rfl rfl rfl rfl rfl rfl ?_)
  intro w4 h
  exact zNER (zp3 rfl (qb (qy m1 [(1, _), (3, _), (4, _)] (Nat.lt_succ_self m1) ⟨rfl, rfl, rfl, trivial⟩ ⟨_, _, hF, rfl, h⟩)))
 refine qH rfl ?_
 obtain rfl := qi hF; replace hF := hK1
 refine zSR (zp2 rfl (qb ?_))
 obtain rfl := qi hF
 exact qaf qc (ρ := (List Int)) [GoT.v (List Int) [.slice p4 x1.length x1.length]] h ⟨rfl, trivial⟩ (PV.done h (qan (qax 0 h rfl)))

end Go.Fw
