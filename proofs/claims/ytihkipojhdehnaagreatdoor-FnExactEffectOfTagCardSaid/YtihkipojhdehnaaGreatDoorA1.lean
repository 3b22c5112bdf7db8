/- By a program of mine (gen.py): for each function a plain function and the proof that the code computes it. -/
import Derived.Test.YtihkipojhdehnaaGreatDoorFw34
import Derived.Test.YtihkipojhdehnaaGreatDoorChecked
import Derived.Test.YtihkipojhdehnaaGreatDoorS1

namespace Go.Fw
open Go Go.Proofs
open Go.RowKit (Below)
set_option maxRecDepth 100000
set_option maxHeartbeats 1600000
structure qas where
 Name : ByteArray
 Dir : Int
 Cap : Int
 Clock : Bool
instance gt_TPin : GoT qas := isoT (pairT instStr (pairT instInt (pairT instInt instBool))) (fun x => (x.Name, x.Dir, x.Cap, x.Clock)) ⟨ByteArray.empty, 0, 0, false⟩ rfl true (fun h => by cases h)
instance fl_TPin : Flat qas := qhp (pairT instStr (pairT instInt (pairT instInt instBool))) (fun x : qas => (x.Name, x.Dir, x.Cap, x.Clock)) ⟨ByteArray.empty, 0, 0, false⟩ rfl true (fun h => by cases h) (qbZ _ _ (inferInstanceAs (Flat ByteArray)) (qbZ _ _ (inferInstanceAs (Flat Int)) (qbZ _ _ (inferInstanceAs (Flat Int)) (inferInstanceAs (Flat Bool)))))
theorem qbx {w : World} {S : Nat → Prop} {x : qas} {cs : List Value} (h : GoT.R w S x cs) : cs = [.string x.Name, .int .i64 x.Dir, .int .i64 x.Cap, .bool x.Clock] := by
 obtain ⟨_, _, rfl, rfl, ⟨_, _, rfl, rfl, ⟨_, _, rfl, rfl, rfl⟩⟩⟩ := h
 exact rfl
theorem qhj {w : World} {S : Nat → Prop} (x : qas) : GoT.R w S x [.string x.Name, .int .i64 x.Dir, .int .i64 x.Cap, .bool x.Clock] := ⟨[.string x.Name], [.int .i64 x.Dir, .int .i64 x.Cap, .bool x.Clock], rfl, rfl, ⟨[.int .i64 x.Dir], [.int .i64 x.Cap, .bool x.Clock], rfl, rfl, ⟨[.int .i64 x.Cap], [.bool x.Clock], rfl, rfl, rfl⟩⟩⟩
structure qH where
 Slews : (List Int)
 Loads : (List Int)
 Values : (List Int)
instance gt_TTable : GoT qH := isoT (pairT (@instList Int instInt) (pairT (@instList Int instInt) (@instList Int instInt))) (fun x => (x.Slews, x.Loads, x.Values)) ⟨[], [], []⟩ rfl true (fun h => by cases h)
theorem qbB {w : World} {S : Nat → Prop} {x : qH} {cs : List Value} (h : GoT.R w S x cs) : ∃ p0 k0 p1 k1 p2 k2, cs = [.slice p0 (x.Slews).length k0, .slice p1 (x.Loads).length k1, .slice p2 (x.Values).length k2] ∧ SlR w S x.Slews p0 k0 ∧ SlR w S x.Loads p1 k1 ∧ SlR w S x.Values p2 k2 := by
 obtain ⟨_, _, rfl, ⟨p0, k0, rfl, s0⟩, ⟨_, _, rfl, ⟨p1, k1, rfl, s1⟩, ⟨p2, k2, rfl, s2⟩⟩⟩ := h
 exact ⟨p0, k0, p1, k1, p2, k2, rfl, s0, s1, s2⟩
theorem qg6 {w : World} {S : Nat → Prop} (x : qH) {p0 : Option Addr} {k0 : Nat} {p1 : Option Addr} {k1 : Nat} {p2 : Option Addr} {k2 : Nat} (s0 : SlR w S x.Slews p0 k0) (s1 : SlR w S x.Loads p1 k1) (s2 : SlR w S x.Values p2 k2) : GoT.R w S x [.slice p0 (x.Slews).length k0, .slice p1 (x.Loads).length k1, .slice p2 (x.Values).length k2] := ⟨[.slice p0 (x.Slews).length k0], [.slice p1 (x.Loads).length k1, .slice p2 (x.Values).length k2], rfl, ⟨p0, k0, rfl, s0⟩, ⟨[.slice p1 (x.Loads).length k1], [.slice p2 (x.Values).length k2], rfl, ⟨p1, k1, rfl, s1⟩, ⟨p2, k2, rfl, s2⟩⟩⟩
theorem qoG {w0 w : World} {L : List Ch} (x : qH) {I0 I1 I2 : List Nat} {c0 c1 c2 : List Value} (h : SH w0 w L) (h0 : PO w L I0 x.Slews c0) (h1 : PO w L I1 x.Loads c1) (h2 : PO w L I2 x.Values c2) (b0 : apartB I0 (I1 ++ I2) = true) (b1 : apartB I1 I2 = true) : PO w L (I0 ++ (I1 ++ I2)) x (c0 ++ (c1 ++ c2)) :=
 (qca h h0 (qca h h1 h2 b1) b0)

structure qag where
 Kind : Int
 From : Int
 To : Int
 Sense : Int
 Delay : (List qH)
 Slew : (List qH)
instance gt_TArc : GoT qag := isoT (pairT instInt (pairT instInt (pairT instInt (pairT instInt (pairT (@instList qH gt_TTable) (@instList qH gt_TTable)))))) (fun x => (x.Kind, x.From, x.To, x.Sense, x.Delay, x.Slew)) ⟨0, 0, 0, 0, [], []⟩ rfl true (fun h => by cases h)
theorem qaV {w : World} {S : Nat → Prop} {x : qag} {cs : List Value} (h : GoT.R w S x cs) : ∃ p0 k0 p1 k1, cs = [.int .i64 x.Kind, .int .i64 x.From, .int .i64 x.To, .int .i64 x.Sense, .slice p0 (x.Delay).length k0, .slice p1 (x.Slew).length k1] ∧ SlR w S x.Delay p0 k0 ∧ SlR w S x.Slew p1 k1 := by
 obtain ⟨_, _, rfl, rfl, ⟨_, _, rfl, rfl, ⟨_, _, rfl, rfl, ⟨_, _, rfl, rfl, ⟨_, _, rfl, ⟨p0, k0, rfl, s0⟩, ⟨p1, k1, rfl, s1⟩⟩⟩⟩⟩⟩ := h
 exact ⟨p0, k0, p1, k1, rfl, s0, s1⟩
theorem qfY {w : World} {S : Nat → Prop} (x : qag) {p0 : Option Addr} {k0 : Nat} {p1 : Option Addr} {k1 : Nat} (s0 : SlR w S x.Delay p0 k0) (s1 : SlR w S x.Slew p1 k1) : GoT.R w S x [.int .i64 x.Kind, .int .i64 x.From, .int .i64 x.To, .int .i64 x.Sense, .slice p0 (x.Delay).length k0, .slice p1 (x.Slew).length k1] := ⟨[.int .i64 x.Kind], [.int .i64 x.From, .int .i64 x.To, .int .i64 x.Sense, .slice p0 (x.Delay).length k0, .slice p1 (x.Slew).length k1], rfl, rfl, ⟨[.int .i64 x.From], [.int .i64 x.To, .int .i64 x.Sense, .slice p0 (x.Delay).length k0, .slice p1 (x.Slew).length k1], rfl, rfl, ⟨[.int .i64 x.To], [.int .i64 x.Sense, .slice p0 (x.Delay).length k0, .slice p1 (x.Slew).length k1], rfl, rfl, ⟨[.int .i64 x.Sense], [.slice p0 (x.Delay).length k0, .slice p1 (x.Slew).length k1], rfl, rfl, ⟨[.slice p0 (x.Delay).length k0], [.slice p1 (x.Slew).length k1], rfl, ⟨p0, k0, rfl, s0⟩, ⟨p1, k1, rfl, s1⟩⟩⟩⟩⟩⟩
theorem qqE {w0 w : World} {L : List Ch} (x : qag) {I0 I1 I2 I3 I4 I5 : List Nat} {c0 c1 c2 c3 c4 c5 : List Value} (h : SH w0 w L) (h0 : PO w L I0 x.Kind c0) (h1 : PO w L I1 x.From c1) (h2 : PO w L I2 x.To c2) (h3 : PO w L I3 x.Sense c3) (h4 : PO w L I4 x.Delay c4) (h5 : PO w L I5 x.Slew c5) (b0 : apartB I0 (I1 ++ (I2 ++ (I3 ++ (I4 ++ I5)))) = true) (b1 : apartB I1 (I2 ++ (I3 ++ (I4 ++ I5))) = true) (b2 : apartB I2 (I3 ++ (I4 ++ I5)) = true) (b3 : apartB I3 (I4 ++ I5) = true) (b4 : apartB I4 I5 = true) : PO w L (I0 ++ (I1 ++ (I2 ++ (I3 ++ (I4 ++ I5))))) x (c0 ++ (c1 ++ (c2 ++ (c3 ++ (c4 ++ c5))))) :=
 (qca h h0 (qca h h1 (qca h h2 (qca h h3 (qca h h4 h5 b4) b3) b2) b1) b0)

structure qJ where
 Name : ByteArray
 Kind : Int
 Pins : (List qas)
 Arcs : (List qag)
 Truth : (List Int)
 Leak : Int
 Energy : Int
instance gt_TCell : GoT qJ := isoT (pairT instStr (pairT instInt (pairT (@instList qas gt_TPin) (pairT (@instList qag gt_TArc) (pairT (@instList Int instInt) (pairT instInt instInt)))))) (fun x => (x.Name, x.Kind, x.Pins, x.Arcs, x.Truth, x.Leak, x.Energy)) ⟨ByteArray.empty, 0, [], [], [], 0, 0⟩ rfl true (fun h => by cases h)
theorem qak {w : World} {S : Nat → Prop} {x : qJ} {cs : List Value} (h : GoT.R w S x cs) : ∃ p0 k0 p1 k1 p2 k2, cs = [.string x.Name, .int .i64 x.Kind, .slice p0 (x.Pins).length k0, .slice p1 (x.Arcs).length k1, .slice p2 (x.Truth).length k2, .int .i64 x.Leak, .int .i64 x.Energy] ∧ SlR w S x.Pins p0 k0 ∧ SlR w S x.Arcs p1 k1 ∧ SlR w S x.Truth p2 k2 := by
 obtain ⟨_, _, rfl, rfl, ⟨_, _, rfl, rfl, ⟨_, _, rfl, ⟨p0, k0, rfl, s0⟩, ⟨_, _, rfl, ⟨p1, k1, rfl, s1⟩, ⟨_, _, rfl, ⟨p2, k2, rfl, s2⟩, ⟨_, _, rfl, rfl, rfl⟩⟩⟩⟩⟩⟩ := h
 exact ⟨p0, k0, p1, k1, p2, k2, rfl, s0, s1, s2⟩
theorem qhH {w : World} {S : Nat → Prop} (x : qJ) {p0 : Option Addr} {k0 : Nat} {p1 : Option Addr} {k1 : Nat} {p2 : Option Addr} {k2 : Nat} (s0 : SlR w S x.Pins p0 k0) (s1 : SlR w S x.Arcs p1 k1) (s2 : SlR w S x.Truth p2 k2) : GoT.R w S x [.string x.Name, .int .i64 x.Kind, .slice p0 (x.Pins).length k0, .slice p1 (x.Arcs).length k1, .slice p2 (x.Truth).length k2, .int .i64 x.Leak, .int .i64 x.Energy] := ⟨[.string x.Name], [.int .i64 x.Kind, .slice p0 (x.Pins).length k0, .slice p1 (x.Arcs).length k1, .slice p2 (x.Truth).length k2, .int .i64 x.Leak, .int .i64 x.Energy], rfl, rfl, ⟨[.int .i64 x.Kind], [.slice p0 (x.Pins).length k0, .slice p1 (x.Arcs).length k1, .slice p2 (x.Truth).length k2, .int .i64 x.Leak, .int .i64 x.Energy], rfl, rfl, ⟨[.slice p0 (x.Pins).length k0], [.slice p1 (x.Arcs).length k1, .slice p2 (x.Truth).length k2, .int .i64 x.Leak, .int .i64 x.Energy], rfl, ⟨p0, k0, rfl, s0⟩, ⟨[.slice p1 (x.Arcs).length k1], [.slice p2 (x.Truth).length k2, .int .i64 x.Leak, .int .i64 x.Energy], rfl, ⟨p1, k1, rfl, s1⟩, ⟨[.slice p2 (x.Truth).length k2], [.int .i64 x.Leak, .int .i64 x.Energy], rfl, ⟨p2, k2, rfl, s2⟩, ⟨[.int .i64 x.Leak], [.int .i64 x.Energy], rfl, rfl, rfl⟩⟩⟩⟩⟩⟩
theorem qpV {w0 w : World} {L : List Ch} (x : qJ) {I0 I1 I2 I3 I4 I5 I6 : List Nat} {c0 c1 c2 c3 c4 c5 c6 : List Value} (h : SH w0 w L) (h0 : PO w L I0 x.Name c0) (h1 : PO w L I1 x.Kind c1) (h2 : PO w L I2 x.Pins c2) (h3 : PO w L I3 x.Arcs c3) (h4 : PO w L I4 x.Truth c4) (h5 : PO w L I5 x.Leak c5) (h6 : PO w L I6 x.Energy c6) (b0 : apartB I0 (I1 ++ (I2 ++ (I3 ++ (I4 ++ (I5 ++ I6))))) = true) (b1 : apartB I1 (I2 ++ (I3 ++ (I4 ++ (I5 ++ I6)))) = true) (b2 : apartB I2 (I3 ++ (I4 ++ (I5 ++ I6))) = true) (b3 : apartB I3 (I4 ++ (I5 ++ I6)) = true) (b4 : apartB I4 (I5 ++ I6) = true) (b5 : apartB I5 I6 = true) : PO w L (I0 ++ (I1 ++ (I2 ++ (I3 ++ (I4 ++ (I5 ++ I6)))))) x (c0 ++ (c1 ++ (c2 ++ (c3 ++ (c4 ++ (c5 ++ c6)))))) :=
 (qca h h0 (qca h h1 (qca h h2 (qca h h3 (qca h h4 (qca h h5 h6 b5) b4) b3) b2) b1) b0)

structure qA where
 Cells : (List qJ)
instance gt_TLibrary : GoT qA := isoT (@instList qJ gt_TCell) (fun x => x.Cells) ⟨[]⟩ rfl true (fun h => by cases h)
theorem qbR {w : World} {S : Nat → Prop} {x : qA} {cs : List Value} (h : GoT.R w S x cs) : ∃ p0 k0, cs = [.slice p0 (x.Cells).length k0] ∧ SlR w S x.Cells p0 k0 := by
 obtain ⟨p0, k0, rfl, s0⟩ := h
 exact ⟨p0, k0, rfl, s0⟩
theorem qeS {w : World} {S : Nat → Prop} (x : qA) {p0 : Option Addr} {k0 : Nat} (s0 : SlR w S x.Cells p0 k0) : GoT.R w S x [.slice p0 (x.Cells).length k0] := ⟨p0, k0, rfl, s0⟩
theorem qns {w0 w : World} {L : List Ch} (x : qA) {I0 : List Nat} {c0 : List Value} (_ : SH w0 w L) (h0 : PO w L I0 x.Cells c0) : PO w L I0 x c0 :=
 h0

structure qq where
 Name : ByteArray
 Cell : Int
 Nets : (List Int)
instance gt_TInstance : GoT qq := isoT (pairT instStr (pairT instInt (@instList Int instInt))) (fun x => (x.Name, x.Cell, x.Nets)) ⟨ByteArray.empty, 0, []⟩ rfl true (fun h => by cases h)
theorem qaf {w : World} {S : Nat → Prop} {x : qq} {cs : List Value} (h : GoT.R w S x cs) : ∃ p0 k0, cs = [.string x.Name, .int .i64 x.Cell, .slice p0 (x.Nets).length k0] ∧ SlR w S x.Nets p0 k0 := by
 obtain ⟨_, _, rfl, rfl, ⟨_, _, rfl, rfl, ⟨p0, k0, rfl, s0⟩⟩⟩ := h
 exact ⟨p0, k0, rfl, s0⟩
theorem qe6 {w : World} {S : Nat → Prop} (x : qq) {p0 : Option Addr} {k0 : Nat} (s0 : SlR w S x.Nets p0 k0) : GoT.R w S x [.string x.Name, .int .i64 x.Cell, .slice p0 (x.Nets).length k0] := ⟨[.string x.Name], [.int .i64 x.Cell, .slice p0 (x.Nets).length k0], rfl, rfl, ⟨[.int .i64 x.Cell], [.slice p0 (x.Nets).length k0], rfl, rfl, ⟨p0, k0, rfl, s0⟩⟩⟩
theorem qmR {w0 w : World} {L : List Ch} (x : qq) {I0 I1 I2 : List Nat} {c0 c1 c2 : List Value} (h : SH w0 w L) (h0 : PO w L I0 x.Name c0) (h1 : PO w L I1 x.Cell c1) (h2 : PO w L I2 x.Nets c2) (b0 : apartB I0 (I1 ++ I2) = true) (b1 : apartB I1 I2 = true) : PO w L (I0 ++ (I1 ++ I2)) x (c0 ++ (c1 ++ c2)) :=
 (qca h h0 (qca h h1 h2 b1) b0)

structure qaj where
 Name : ByteArray
 Dir : Int
 Net : Int
instance gt_TPort : GoT qaj := isoT (pairT instStr (pairT instInt instInt)) (fun x => (x.Name, x.Dir, x.Net)) ⟨ByteArray.empty, 0, 0⟩ rfl true (fun h => by cases h)
instance fl_TPort : Flat qaj := qhp (pairT instStr (pairT instInt instInt)) (fun x : qaj => (x.Name, x.Dir, x.Net)) ⟨ByteArray.empty, 0, 0⟩ rfl true (fun h => by cases h) (qbZ _ _ (inferInstanceAs (Flat ByteArray)) (qbZ _ _ (inferInstanceAs (Flat Int)) (inferInstanceAs (Flat Int))))
theorem qbk {w : World} {S : Nat → Prop} {x : qaj} {cs : List Value} (h : GoT.R w S x cs) : cs = [.string x.Name, .int .i64 x.Dir, .int .i64 x.Net] := by
 obtain ⟨_, _, rfl, rfl, ⟨_, _, rfl, rfl, rfl⟩⟩ := h
 exact rfl
theorem qg8 {w : World} {S : Nat → Prop} (x : qaj) : GoT.R w S x [.string x.Name, .int .i64 x.Dir, .int .i64 x.Net] := ⟨[.string x.Name], [.int .i64 x.Dir, .int .i64 x.Net], rfl, rfl, ⟨[.int .i64 x.Dir], [.int .i64 x.Net], rfl, rfl, rfl⟩⟩
structure qk where
 Instances : (List qq)
 Nets : (List ByteArray)
 Ports : (List qaj)
instance gt_TDesign : GoT qk := isoT (pairT (@instList qq gt_TInstance) (pairT (@instList ByteArray instStr) (@instList qaj gt_TPort))) (fun x => (x.Instances, x.Nets, x.Ports)) ⟨[], [], []⟩ rfl true (fun h => by cases h)
theorem qaQ {w : World} {S : Nat → Prop} {x : qk} {cs : List Value} (h : GoT.R w S x cs) : ∃ p0 k0 p1 k1 p2 k2, cs = [.slice p0 (x.Instances).length k0, .slice p1 (x.Nets).length k1, .slice p2 (x.Ports).length k2] ∧ SlR w S x.Instances p0 k0 ∧ SlR w S x.Nets p1 k1 ∧ SlR w S x.Ports p2 k2 := by
 obtain ⟨_, _, rfl, ⟨p0, k0, rfl, s0⟩, ⟨_, _, rfl, ⟨p1, k1, rfl, s1⟩, ⟨p2, k2, rfl, s2⟩⟩⟩ := h
 exact ⟨p0, k0, p1, k1, p2, k2, rfl, s0, s1, s2⟩
theorem qb6 {w : World} {S : Nat → Prop} (x : qk) {p0 : Option Addr} {k0 : Nat} {p1 : Option Addr} {k1 : Nat} {p2 : Option Addr} {k2 : Nat} (s0 : SlR w S x.Instances p0 k0) (s1 : SlR w S x.Nets p1 k1) (s2 : SlR w S x.Ports p2 k2) : GoT.R w S x [.slice p0 (x.Instances).length k0, .slice p1 (x.Nets).length k1, .slice p2 (x.Ports).length k2] := ⟨[.slice p0 (x.Instances).length k0], [.slice p1 (x.Nets).length k1, .slice p2 (x.Ports).length k2], rfl, ⟨p0, k0, rfl, s0⟩, ⟨[.slice p1 (x.Nets).length k1], [.slice p2 (x.Ports).length k2], rfl, ⟨p1, k1, rfl, s1⟩, ⟨p2, k2, rfl, s2⟩⟩⟩
theorem qnE {w0 w : World} {L : List Ch} (x : qk) {I0 I1 I2 : List Nat} {c0 c1 c2 : List Value} (h : SH w0 w L) (h0 : PO w L I0 x.Instances c0) (h1 : PO w L I1 x.Nets c1) (h2 : PO w L I2 x.Ports c2) (b0 : apartB I0 (I1 ++ I2) = true) (b1 : apartB I1 I2 = true) : PO w L (I0 ++ (I1 ++ I2)) x (c0 ++ (c1 ++ c2)) :=
 (qca h h0 (qca h h1 h2 b1) b0)

structure qac where
 Parent : (List Int)
 Res : (List Int)
 Cap : (List Int)
 Sink : (List Int)
instance gt_TWire : GoT qac := isoT (pairT (@instList Int instInt) (pairT (@instList Int instInt) (pairT (@instList Int instInt) (@instList Int instInt)))) (fun x => (x.Parent, x.Res, x.Cap, x.Sink)) ⟨[], [], [], []⟩ rfl true (fun h => by cases h)
theorem qbF {w : World} {S : Nat → Prop} {x : qac} {cs : List Value} (h : GoT.R w S x cs) : ∃ p0 k0 p1 k1 p2 k2 p3 k3, cs = [.slice p0 (x.Parent).length k0, .slice p1 (x.Res).length k1, .slice p2 (x.Cap).length k2, .slice p3 (x.Sink).length k3] ∧ SlR w S x.Parent p0 k0 ∧ SlR w S x.Res p1 k1 ∧ SlR w S x.Cap p2 k2 ∧ SlR w S x.Sink p3 k3 := by
 obtain ⟨_, _, rfl, ⟨p0, k0, rfl, s0⟩, ⟨_, _, rfl, ⟨p1, k1, rfl, s1⟩, ⟨_, _, rfl, ⟨p2, k2, rfl, s2⟩, ⟨p3, k3, rfl, s3⟩⟩⟩⟩ := h
 exact ⟨p0, k0, p1, k1, p2, k2, p3, k3, rfl, s0, s1, s2, s3⟩
theorem qhK {w : World} {S : Nat → Prop} (x : qac) {p0 : Option Addr} {k0 : Nat} {p1 : Option Addr} {k1 : Nat} {p2 : Option Addr} {k2 : Nat} {p3 : Option Addr} {k3 : Nat} (s0 : SlR w S x.Parent p0 k0) (s1 : SlR w S x.Res p1 k1) (s2 : SlR w S x.Cap p2 k2) (s3 : SlR w S x.Sink p3 k3) : GoT.R w S x [.slice p0 (x.Parent).length k0, .slice p1 (x.Res).length k1, .slice p2 (x.Cap).length k2, .slice p3 (x.Sink).length k3] := ⟨[.slice p0 (x.Parent).length k0], [.slice p1 (x.Res).length k1, .slice p2 (x.Cap).length k2, .slice p3 (x.Sink).length k3], rfl, ⟨p0, k0, rfl, s0⟩, ⟨[.slice p1 (x.Res).length k1], [.slice p2 (x.Cap).length k2, .slice p3 (x.Sink).length k3], rfl, ⟨p1, k1, rfl, s1⟩, ⟨[.slice p2 (x.Cap).length k2], [.slice p3 (x.Sink).length k3], rfl, ⟨p2, k2, rfl, s2⟩, ⟨p3, k3, rfl, s3⟩⟩⟩⟩
theorem qqa {w0 w : World} {L : List Ch} (x : qac) {I0 I1 I2 I3 : List Nat} {c0 c1 c2 c3 : List Value} (h : SH w0 w L) (h0 : PO w L I0 x.Parent c0) (h1 : PO w L I1 x.Res c1) (h2 : PO w L I2 x.Cap c2) (h3 : PO w L I3 x.Sink c3) (b0 : apartB I0 (I1 ++ (I2 ++ I3)) = true) (b1 : apartB I1 (I2 ++ I3) = true) (b2 : apartB I2 I3 = true) : PO w L (I0 ++ (I1 ++ (I2 ++ I3))) x (c0 ++ (c1 ++ (c2 ++ c3))) :=
 (qca h h0 (qca h h1 (qca h h2 h3 b2) b1) b0)

structure qD where
 Library : qA
 Design : qk
 Wires : (List qac)
instance gt_TBlock : GoT qD := isoT (pairT gt_TLibrary (pairT gt_TDesign (@instList qac gt_TWire))) (fun x => (x.Library, x.Design, x.Wires)) ⟨(⟨[]⟩ : qA), (⟨[], [], []⟩ : qk), []⟩ rfl true (fun h => by cases h)
theorem qax {w : World} {S : Nat → Prop} {x : qD} {cs : List Value} (h : GoT.R w S x cs) : ∃ p0 k0 p1 k1 p2 k2 p3 k3 p4 k4, cs = [.slice p0 (x.Library.Cells).length k0, .slice p1 (x.Design.Instances).length k1, .slice p2 (x.Design.Nets).length k2, .slice p3 (x.Design.Ports).length k3, .slice p4 (x.Wires).length k4] ∧ SlR w S x.Library.Cells p0 k0 ∧ SlR w S x.Design.Instances p1 k1 ∧ SlR w S x.Design.Nets p2 k2 ∧ SlR w S x.Design.Ports p3 k3 ∧ SlR w S x.Wires p4 k4 := by
 obtain ⟨_, _, rfl, ⟨p0, k0, rfl, s0⟩, ⟨_, _, rfl, ⟨_, _, rfl, ⟨p1, k1, rfl, s1⟩, ⟨_, _, rfl, ⟨p2, k2, rfl, s2⟩, ⟨p3, k3, rfl, s3⟩⟩⟩, ⟨p4, k4, rfl, s4⟩⟩⟩ := h
 exact ⟨p0, k0, p1, k1, p2, k2, p3, k3, p4, k4, rfl, s0, s1, s2, s3, s4⟩
theorem qo5 {w0 w : World} {L : List Ch} (x : qD) {I0 I1 I2 : List Nat} {c0 c1 c2 : List Value} (h : SH w0 w L) (h0 : PO w L I0 x.Library c0) (h1 : PO w L I1 x.Design c1) (h2 : PO w L I2 x.Wires c2) (b0 : apartB I0 (I1 ++ I2) = true) (b1 : apartB I1 I2 = true) : PO w L (I0 ++ (I1 ++ I2)) x (c0 ++ (c1 ++ c2)) :=
 (qca h h0 (qca h h1 h2 b1) b0)

structure qe where
 Kind : Int
 Value : Int
 From : (List Int)
 Through : (List Int)
 To : (List Int)
instance gt_TException : GoT qe := isoT (pairT instInt (pairT instInt (pairT (@instList Int instInt) (pairT (@instList Int instInt) (@instList Int instInt))))) (fun x => (x.Kind, x.Value, x.From, x.Through, x.To)) ⟨0, 0, [], [], []⟩ rfl true (fun h => by cases h)
theorem qF {w : World} {S : Nat → Prop} {x : qe} {cs : List Value} (h : GoT.R w S x cs) : ∃ p0 k0 p1 k1 p2 k2, cs = [.int .i64 x.Kind, .int .i64 x.Value, .slice p0 (x.From).length k0, .slice p1 (x.Through).length k1, .slice p2 (x.To).length k2] ∧ SlR w S x.From p0 k0 ∧ SlR w S x.Through p1 k1 ∧ SlR w S x.To p2 k2 := by
 obtain ⟨_, _, rfl, rfl, ⟨_, _, rfl, rfl, ⟨_, _, rfl, ⟨p0, k0, rfl, s0⟩, ⟨_, _, rfl, ⟨p1, k1, rfl, s1⟩, ⟨p2, k2, rfl, s2⟩⟩⟩⟩⟩ := h
 exact ⟨p0, k0, p1, k1, p2, k2, rfl, s0, s1, s2⟩
theorem qbd {w : World} {S : Nat → Prop} (x : qe) {p0 : Option Addr} {k0 : Nat} {p1 : Option Addr} {k1 : Nat} {p2 : Option Addr} {k2 : Nat} (s0 : SlR w S x.From p0 k0) (s1 : SlR w S x.Through p1 k1) (s2 : SlR w S x.To p2 k2) : GoT.R w S x [.int .i64 x.Kind, .int .i64 x.Value, .slice p0 (x.From).length k0, .slice p1 (x.Through).length k1, .slice p2 (x.To).length k2] := ⟨[.int .i64 x.Kind], [.int .i64 x.Value, .slice p0 (x.From).length k0, .slice p1 (x.Through).length k1, .slice p2 (x.To).length k2], rfl, rfl, ⟨[.int .i64 x.Value], [.slice p0 (x.From).length k0, .slice p1 (x.Through).length k1, .slice p2 (x.To).length k2], rfl, rfl, ⟨[.slice p0 (x.From).length k0], [.slice p1 (x.Through).length k1, .slice p2 (x.To).length k2], rfl, ⟨p0, k0, rfl, s0⟩, ⟨[.slice p1 (x.Through).length k1], [.slice p2 (x.To).length k2], rfl, ⟨p1, k1, rfl, s1⟩, ⟨p2, k2, rfl, s2⟩⟩⟩⟩⟩
theorem qlZ {w0 w : World} {L : List Ch} (x : qe) {I0 I1 I2 I3 I4 : List Nat} {c0 c1 c2 c3 c4 : List Value} (h : SH w0 w L) (h0 : PO w L I0 x.Kind c0) (h1 : PO w L I1 x.Value c1) (h2 : PO w L I2 x.From c2) (h3 : PO w L I3 x.Through c3) (h4 : PO w L I4 x.To c4) (b0 : apartB I0 (I1 ++ (I2 ++ (I3 ++ I4))) = true) (b1 : apartB I1 (I2 ++ (I3 ++ I4)) = true) (b2 : apartB I2 (I3 ++ I4) = true) (b3 : apartB I3 I4 = true) : PO w L (I0 ++ (I1 ++ (I2 ++ (I3 ++ I4)))) x (c0 ++ (c1 ++ (c2 ++ (c3 ++ c4)))) :=
 (qca h h0 (qca h h1 (qca h h2 (qca h h3 h4 b3) b2) b1) b0)

structure qR where
 False : Bool
 Cycles : Int
 MaxLimit : Int
 MinLimit : Int
instance gt_TEffect : GoT qR := isoT (pairT instBool (pairT instInt (pairT instInt instInt))) (fun x => (x.False, x.Cycles, x.MaxLimit, x.MinLimit)) ⟨false, 0, 0, 0⟩ rfl true (fun h => by cases h)
instance fl_TEffect : Flat qR := qhp (pairT instBool (pairT instInt (pairT instInt instInt))) (fun x : qR => (x.False, x.Cycles, x.MaxLimit, x.MinLimit)) ⟨false, 0, 0, 0⟩ rfl true (fun h => by cases h) (qbZ _ _ (inferInstanceAs (Flat Bool)) (qbZ _ _ (inferInstanceAs (Flat Int)) (qbZ _ _ (inferInstanceAs (Flat Int)) (inferInstanceAs (Flat Int)))))
theorem qeY {w : World} {S : Nat → Prop} {x : qR} {cs : List Value} (h : GoT.R w S x cs) : cs = [.bool x.False, .int .i64 x.Cycles, .int .i64 x.MaxLimit, .int .i64 x.MinLimit] := by
 obtain ⟨_, _, rfl, rfl, ⟨_, _, rfl, rfl, ⟨_, _, rfl, rfl, rfl⟩⟩⟩ := h
 exact rfl
theorem qdi {w : World} {S : Nat → Prop} (x : qR) : GoT.R w S x [.bool x.False, .int .i64 x.Cycles, .int .i64 x.MaxLimit, .int .i64 x.MinLimit] := ⟨[.bool x.False], [.int .i64 x.Cycles, .int .i64 x.MaxLimit, .int .i64 x.MinLimit], rfl, rfl, ⟨[.int .i64 x.Cycles], [.int .i64 x.MaxLimit, .int .i64 x.MinLimit], rfl, rfl, ⟨[.int .i64 x.MaxLimit], [.int .i64 x.MinLimit], rfl, rfl, rfl⟩⟩⟩
structure Tplace where
 instance_ : Int
 pin : Int
 net : Int
 drives : Bool
instance gt_Tplace : GoT Tplace := isoT (pairT instInt (pairT instInt (pairT instInt instBool))) (fun x => (x.instance_, x.pin, x.net, x.drives)) ⟨0, 0, 0, false⟩ rfl true (fun h => by cases h)
instance fl_Tplace : Flat Tplace := qhp (pairT instInt (pairT instInt (pairT instInt instBool))) (fun x : Tplace => (x.instance_, x.pin, x.net, x.drives)) ⟨0, 0, 0, false⟩ rfl true (fun h => by cases h) (qbZ _ _ (inferInstanceAs (Flat Int)) (qbZ _ _ (inferInstanceAs (Flat Int)) (qbZ _ _ (inferInstanceAs (Flat Int)) (inferInstanceAs (Flat Bool)))))
theorem qhn {w : World} {S : Nat → Prop} {x : Tplace} {cs : List Value} (h : GoT.R w S x cs) : cs = [.int .i64 x.instance_, .int .i64 x.pin, .int .i64 x.net, .bool x.drives] := by
 obtain ⟨_, _, rfl, rfl, ⟨_, _, rfl, rfl, ⟨_, _, rfl, rfl, rfl⟩⟩⟩ := h
 exact rfl
theorem qiH {w : World} {S : Nat → Prop} (x : Tplace) : GoT.R w S x [.int .i64 x.instance_, .int .i64 x.pin, .int .i64 x.net, .bool x.drives] := ⟨[.int .i64 x.instance_], [.int .i64 x.pin, .int .i64 x.net, .bool x.drives], rfl, rfl, ⟨[.int .i64 x.pin], [.int .i64 x.net, .bool x.drives], rfl, rfl, ⟨[.int .i64 x.net], [.bool x.drives], rfl, rfl, rfl⟩⟩⟩
structure qbb where
 From : Int
 To : Int
 Kind : Int
 Index : Int
instance gt_TLink : GoT qbb := isoT (pairT instInt (pairT instInt (pairT instInt instInt))) (fun x => (x.From, x.To, x.Kind, x.Index)) ⟨0, 0, 0, 0⟩ rfl true (fun h => by cases h)
instance fl_TLink : Flat qbb := qhp (pairT instInt (pairT instInt (pairT instInt instInt))) (fun x : qbb => (x.From, x.To, x.Kind, x.Index)) ⟨0, 0, 0, 0⟩ rfl true (fun h => by cases h) (qbZ _ _ (inferInstanceAs (Flat Int)) (qbZ _ _ (inferInstanceAs (Flat Int)) (qbZ _ _ (inferInstanceAs (Flat Int)) (inferInstanceAs (Flat Int)))))
theorem qmx {w : World} {S : Nat → Prop} (x : qbb) : GoT.R w S x [.int .i64 x.From, .int .i64 x.To, .int .i64 x.Kind, .int .i64 x.Index] := ⟨[.int .i64 x.From], [.int .i64 x.To, .int .i64 x.Kind, .int .i64 x.Index], rfl, rfl, ⟨[.int .i64 x.To], [.int .i64 x.Kind, .int .i64 x.Index], rfl, rfl, ⟨[.int .i64 x.Kind], [.int .i64 x.Index], rfl, rfl, rfl⟩⟩⟩
structure Tview where
 Block : qD
 places : (List Tplace)
 links : (List qbb)
 loads : (List Int)
 delays : (List (List Int))
 extras : (List Int)
instance gt_Tview : GoT Tview := isoT (pairT gt_TBlock (pairT (@instList Tplace gt_Tplace) (pairT (@instList qbb gt_TLink) (pairT (@instList Int instInt) (pairT (@instList (List Int) (@instList Int instInt)) (@instList Int instInt)))))) (fun x => (x.Block, x.places, x.links, x.loads, x.delays, x.extras)) ⟨(⟨(⟨[]⟩ : qA), (⟨[], [], []⟩ : qk), []⟩ : qD), [], [], [], [], []⟩ rfl true (fun h => by cases h)
theorem qlR {w : World} {S : Nat → Prop} {x : Tview} {cs : List Value} (h : GoT.R w S x cs) : ∃ p0 k0 p1 k1 p2 k2 p3 k3 p4 k4 p5 k5 p6 k6 p7 k7 p8 k8 p9 k9, cs = [.slice p0 (x.Block.Library.Cells).length k0, .slice p1 (x.Block.Design.Instances).length k1, .slice p2 (x.Block.Design.Nets).length k2, .slice p3 (x.Block.Design.Ports).length k3, .slice p4 (x.Block.Wires).length k4, .slice p5 (x.places).length k5, .slice p6 (x.links).length k6, .slice p7 (x.loads).length k7, .slice p8 (x.delays).length k8, .slice p9 (x.extras).length k9] ∧ SlR w S x.Block.Library.Cells p0 k0 ∧ SlR w S x.Block.Design.Instances p1 k1 ∧ SlR w S x.Block.Design.Nets p2 k2 ∧ SlR w S x.Block.Design.Ports p3 k3 ∧ SlR w S x.Block.Wires p4 k4 ∧ SlR w S x.places p5 k5 ∧ SlR w S x.links p6 k6 ∧ SlR w S x.loads p7 k7 ∧ SlR w S x.delays p8 k8 ∧ SlR w S x.extras p9 k9 := by
 obtain ⟨_, _, rfl, ⟨_, _, rfl, ⟨p0, k0, rfl, s0⟩, ⟨_, _, rfl, ⟨_, _, rfl, ⟨p1, k1, rfl, s1⟩, ⟨_, _, rfl, ⟨p2, k2, rfl, s2⟩, ⟨p3, k3, rfl, s3⟩⟩⟩, ⟨p4, k4, rfl, s4⟩⟩⟩, ⟨_, _, rfl, ⟨p5, k5, rfl, s5⟩, ⟨_, _, rfl, ⟨p6, k6, rfl, s6⟩, ⟨_, _, rfl, ⟨p7, k7, rfl, s7⟩, ⟨_, _, rfl, ⟨p8, k8, rfl, s8⟩, ⟨p9, k9, rfl, s9⟩⟩⟩⟩⟩⟩ := h
 exact ⟨p0, k0, p1, k1, p2, k2, p3, k3, p4, k4, p5, k5, p6, k6, p7, k7, p8, k8, p9, k9, rfl, s0, s1, s2, s3, s4, s5, s6, s7, s8, s9⟩
structure Tl05Place where
 instance_ : Int
 pin : Int
 net : Int
 drives : Bool
instance gt_Tl05Place : GoT Tl05Place := isoT (pairT instInt (pairT instInt (pairT instInt instBool))) (fun x => (x.instance_, x.pin, x.net, x.drives)) ⟨0, 0, 0, false⟩ rfl true (fun h => by cases h)
instance fl_Tl05Place : Flat Tl05Place := qhp (pairT instInt (pairT instInt (pairT instInt instBool))) (fun x : Tl05Place => (x.instance_, x.pin, x.net, x.drives)) ⟨0, 0, 0, false⟩ rfl true (fun h => by cases h) (qbZ _ _ (inferInstanceAs (Flat Int)) (qbZ _ _ (inferInstanceAs (Flat Int)) (qbZ _ _ (inferInstanceAs (Flat Int)) (inferInstanceAs (Flat Bool)))))
theorem qjk {w : World} {S : Nat → Prop} {x : Tl05Place} {cs : List Value} (h : GoT.R w S x cs) : cs = [.int .i64 x.instance_, .int .i64 x.pin, .int .i64 x.net, .bool x.drives] := by
 obtain ⟨_, _, rfl, rfl, ⟨_, _, rfl, rfl, ⟨_, _, rfl, rfl, rfl⟩⟩⟩ := h
 exact rfl
theorem qjJ {w : World} {S : Nat → Prop} (x : Tl05Place) : GoT.R w S x [.int .i64 x.instance_, .int .i64 x.pin, .int .i64 x.net, .bool x.drives] := ⟨[.int .i64 x.instance_], [.int .i64 x.pin, .int .i64 x.net, .bool x.drives], rfl, rfl, ⟨[.int .i64 x.pin], [.int .i64 x.net, .bool x.drives], rfl, rfl, ⟨[.int .i64 x.net], [.bool x.drives], rfl, rfl, rfl⟩⟩⟩
structure qU where
 e0 : Int
 e1 : Int
instance gt_TA2_Int : GoT qU := isoT (pairT instInt instInt) (fun x => (x.e0, x.e1)) ⟨0, 0⟩ rfl true (fun h => by cases h)
instance fl_TA2_Int : Flat qU := qhp (pairT instInt instInt) (fun x : qU => (x.e0, x.e1)) ⟨0, 0⟩ rfl true (fun h => by cases h) (qbZ _ _ (inferInstanceAs (Flat Int)) (inferInstanceAs (Flat Int)))
theorem qmH {w : World} {S : Nat → Prop} {x : qU} {cs : List Value} (h : GoT.R w S x cs) : cs = [.int .i64 x.e0, .int .i64 x.e1] := by
 obtain ⟨_, _, rfl, rfl, rfl⟩ := h
 exact rfl
theorem qcO {w : World} {S : Nat → Prop} (x : qU) : GoT.R w S x [.int .i64 x.e0, .int .i64 x.e1] := ⟨[.int .i64 x.e0], [.int .i64 x.e1], rfl, rfl, rfl⟩
structure qhM where
 Early : Int
 Late : Int
instance gt_TSpan : GoT qhM := isoT (pairT instInt instInt) (fun x => (x.Early, x.Late)) ⟨0, 0⟩ rfl true (fun h => by cases h)
instance fl_TSpan : Flat qhM := qhp (pairT instInt instInt) (fun x : qhM => (x.Early, x.Late)) ⟨0, 0⟩ rfl true (fun h => by cases h) (qbZ _ _ (inferInstanceAs (Flat Int)) (inferInstanceAs (Flat Int)))
theorem qnL {w : World} {S : Nat → Prop} {x : qhM} {cs : List Value} (h : GoT.R w S x cs) : cs = [.int .i64 x.Early, .int .i64 x.Late] := by
 obtain ⟨_, _, rfl, rfl, rfl⟩ := h
 exact rfl
theorem qmh {w : World} {S : Nat → Prop} (x : qhM) : GoT.R w S x [.int .i64 x.Early, .int .i64 x.Late] := ⟨[.int .i64 x.Early], [.int .i64 x.Late], rfl, rfl, rfl⟩
def tab : Tab := [
 (2, ⟨.int .i64, 1, 8, some (.int .i64 0), []⟩),
 (3, ⟨.int .i64, 1, 8, some (.int .i64 0), []⟩),
 (4, ⟨.bool, 1, 1, some (.bool false), []⟩),
 (5, ⟨.int .u8, 1, 1, some (.int .u8 0), []⟩),
 (9, ⟨.str, 1, 16, some (.string ByteArray.empty), []⟩),
 (22, ⟨.slice 171, 1, 24, some (.slice none 0 0), []⟩),
 (24, ⟨.struct, 1, 24, some (.agg #[.slice none 0 0]), [(0, 1, some false)]⟩),
 (25, ⟨.slice 174, 1, 24, some (.slice none 0 0), []⟩),
 (26, ⟨.slice 9, 1, 24, some (.slice none 0 0), []⟩),
 (27, ⟨.slice 177, 1, 24, some (.slice none 0 0), []⟩),
 (29, ⟨.struct, 3, 72, some (.agg #[.slice none 0 0, .slice none 0 0, .slice none 0 0]), [(0, 1, some false), (1, 1, some false), (2, 1, some false)]⟩),
 (30, ⟨.slice 122, 1, 24, some (.slice none 0 0), []⟩),
 (32, ⟨.struct, 5, 120, some (.agg #[.slice none 0 0, .slice none 0 0, .slice none 0 0, .slice none 0 0, .slice none 0 0]), [(0, 1, some true), (1, 3, some true), (4, 1, some false)]⟩),
 (33, ⟨.slice 80, 1, 24, some (.slice none 0 0), []⟩),
 (34, ⟨.slice 2, 1, 24, some (.slice none 0 0), []⟩),
 (38, ⟨.struct, 4, 32, some (.agg #[.bool false, .int .i64 0, .int .i64 0, .int .i64 0]), [(0, 1, some false), (1, 1, some false), (2, 1, some false), (3, 1, some false)]⟩),
 (41, ⟨.slice 183, 1, 24, some (.slice none 0 0), []⟩),
 (43, ⟨.struct, 1, 24, some (.agg #[.slice none 0 0]), [(0, 1, some false)]⟩),
 (44, ⟨.slice 185, 1, 24, some (.slice none 0 0), []⟩),
 (45, ⟨.slice 187, 1, 24, some (.slice none 0 0), []⟩),
 (47, ⟨.struct, 3, 72, some (.agg #[.slice none 0 0, .slice none 0 0, .slice none 0 0]), [(0, 1, some false), (1, 1, some false), (2, 1, some false)]⟩),
 (48, ⟨.slice 130, 1, 24, some (.slice none 0 0), []⟩),
 (50, ⟨.struct, 5, 120, some (.agg #[.slice none 0 0, .slice none 0 0, .slice none 0 0, .slice none 0 0, .slice none 0 0]), [(0, 1, some true), (1, 3, some true), (4, 1, some false)]⟩),
 (52, ⟨.slice 87, 1, 24, some (.slice none 0 0), []⟩),
 (70, ⟨.slice 34, 1, 24, some (.slice none 0 0), []⟩),
 (80, ⟨.struct, 5, 88, some (.agg #[.int .i64 0, .int .i64 0, .slice none 0 0, .slice none 0 0, .slice none 0 0]), [(0, 1, some false), (1, 1, some false), (2, 1, some false), (3, 1, some false), (4, 1, some false)]⟩),
 (87, ⟨.struct, 5, 88, some (.agg #[.int .i64 0, .int .i64 0, .slice none 0 0, .slice none 0 0, .slice none 0 0]), [(0, 1, some false), (1, 1, some false), (2, 1, some false), (3, 1, some false), (4, 1, some false)]⟩),
 (89, ⟨.ptr, 1, 8, some (.pointer none), []⟩),
 (104, ⟨.slice 4, 1, 24, some (.slice none 0 0), []⟩),
 (122, ⟨.struct, 4, 96, some (.agg #[.slice none 0 0, .slice none 0 0, .slice none 0 0, .slice none 0 0]), [(0, 1, some false), (1, 1, some false), (2, 1, some false), (3, 1, some false)]⟩),
 (130, ⟨.struct, 4, 96, some (.agg #[.slice none 0 0, .slice none 0 0, .slice none 0 0, .slice none 0 0]), [(0, 1, some false), (1, 1, some false), (2, 1, some false), (3, 1, some false)]⟩),
 (156, ⟨.struct, 4, 32, some (.agg #[.int .i64 0, .int .i64 0, .int .i64 0, .bool false]), [(0, 1, some false), (1, 1, some false), (2, 1, some false), (3, 1, some false)]⟩),
 (157, ⟨.slice 156, 1, 24, some (.slice none 0 0), []⟩),
 (158, ⟨.slice 216, 1, 24, some (.slice none 0 0), []⟩),
 (160, ⟨.struct, 10, 240, some (.agg #[.slice none 0 0, .slice none 0 0, .slice none 0 0, .slice none 0 0, .slice none 0 0, .slice none 0 0, .slice none 0 0, .slice none 0 0, .slice none 0 0, .slice none 0 0]), [(0, 5, some true), (5, 1, some false), (6, 1, some false), (7, 1, some false), (8, 1, some false), (9, 1, some false)]⟩),
 (168, ⟨.slice 257, 1, 24, some (.slice none 0 0), []⟩),
 (169, ⟨.slice 261, 1, 24, some (.slice none 0 0), []⟩),
 (171, ⟨.struct, 7, 112, some (.agg #[.string ByteArray.empty, .int .i64 0, .slice none 0 0, .slice none 0 0, .slice none 0 0, .int .i64 0, .int .i64 0]), [(0, 1, some false), (1, 1, some false), (2, 1, some false), (3, 1, some false), (4, 1, some false), (5, 1, some false), (6, 1, some false)]⟩),
 (174, ⟨.struct, 3, 48, some (.agg #[.string ByteArray.empty, .int .i64 0, .slice none 0 0]), [(0, 1, some false), (1, 1, some false), (2, 1, some false)]⟩),
 (177, ⟨.struct, 3, 32, some (.agg #[.string ByteArray.empty, .int .i64 0, .int .i64 0]), [(0, 1, some false), (1, 1, some false), (2, 1, some false)]⟩),
 (178, ⟨.slice 202, 1, 24, some (.slice none 0 0), []⟩),
 (180, ⟨.slice 238, 1, 24, some (.slice none 0 0), []⟩),
 (181, ⟨.slice 211, 1, 24, some (.slice none 0 0), []⟩),
 (183, ⟨.struct, 7, 112, some (.agg #[.string ByteArray.empty, .int .i64 0, .slice none 0 0, .slice none 0 0, .slice none 0 0, .int .i64 0, .int .i64 0]), [(0, 1, some false), (1, 1, some false), (2, 1, some false), (3, 1, some false), (4, 1, some false), (5, 1, some false), (6, 1, some false)]⟩),
 (185, ⟨.struct, 3, 48, some (.agg #[.string ByteArray.empty, .int .i64 0, .slice none 0 0]), [(0, 1, some false), (1, 1, some false), (2, 1, some false)]⟩),
 (187, ⟨.struct, 3, 32, some (.agg #[.string ByteArray.empty, .int .i64 0, .int .i64 0]), [(0, 1, some false), (1, 1, some false), (2, 1, some false)]⟩),
 (202, ⟨.struct, 4, 32, some (.agg #[.int .i64 0, .int .i64 0, .int .i64 0, .bool false]), [(0, 1, some false), (1, 1, some false), (2, 1, some false), (3, 1, some false)]⟩),
 (209, ⟨.slice 267, 1, 24, some (.slice none 0 0), []⟩),
 (211, ⟨.struct, 6, 80, some (.agg #[.int .i64 0, .int .i64 0, .int .i64 0, .int .i64 0, .slice none 0 0, .slice none 0 0]), [(0, 1, some false), (1, 1, some false), (2, 1, some false), (3, 1, some false), (4, 1, some false), (5, 1, some false)]⟩),
 (216, ⟨.struct, 4, 32, some (.agg #[.int .i64 0, .int .i64 0, .int .i64 0, .int .i64 0]), [(0, 1, some false), (1, 1, some false), (2, 1, some false), (3, 1, some false)]⟩),
 (224, ⟨.slice 3, 1, 24, some (.slice none 0 0), []⟩),
 (236, ⟨.slice 5, 1, 24, some (.slice none 0 0), []⟩),
 (238, ⟨.struct, 4, 40, some (.agg #[.string ByteArray.empty, .int .i64 0, .int .i64 0, .bool false]), [(0, 1, some false), (1, 1, some false), (2, 1, some false), (3, 1, some false)]⟩),
 (246, ⟨.slice 248, 1, 24, some (.slice none 0 0), []⟩),
 (248, ⟨.arr 2 2, 2, 16, some (.agg #[.int .i64 0, .int .i64 0]), []⟩),
 (253, ⟨.int .u64, 1, 8, some (.int .u64 0), []⟩),
 (257, ⟨.struct, 4, 40, some (.agg #[.string ByteArray.empty, .int .i64 0, .int .i64 0, .bool false]), [(0, 1, some false), (1, 1, some false), (2, 1, some false), (3, 1, some false)]⟩),
 (259, ⟨.slice 283, 1, 24, some (.slice none 0 0), []⟩),
 (261, ⟨.struct, 6, 80, some (.agg #[.int .i64 0, .int .i64 0, .int .i64 0, .int .i64 0, .slice none 0 0, .slice none 0 0]), [(0, 1, some false), (1, 1, some false), (2, 1, some false), (3, 1, some false), (4, 1, some false), (5, 1, some false)]⟩),
 (267, ⟨.struct, 3, 72, some (.agg #[.slice none 0 0, .slice none 0 0, .slice none 0 0]), [(0, 1, some false), (1, 1, some false), (2, 1, some false)]⟩),
 (283, ⟨.struct, 3, 72, some (.agg #[.slice none 0 0, .slice none 0 0, .slice none 0 0]), [(0, 1, some false), (1, 1, some false), (2, 1, some false)]⟩),
 (291, ⟨.struct, 2, 16, some (.agg #[.int .i64 0, .int .i64 0]), [(0, 1, some false), (1, 1, some false)]⟩)]
theorem qc : TabOk Tryz.prog tab := TabOk.mk (by kernel_rfl)
theorem rp {n : Nat} {Q : Exit → Act → World → Prop} {k : List It} {e : Env} {w : World} {all : Array Oper} {l : List Oper} {op : Op} {d t : Nat} {ps : String} {af : Array Edge} {v : Value}
  (h : pev tab e op = some v) (hn : Nat.blt d n = true) (hk : Run Tryz.prog n Q (.ops all l :: k) ((d, v) :: e) w) : Run Tryz.prog n Q (.ops all (⟨some d, op, t, ps, af, none⟩ :: l) :: k) e w := r_p qc h hn hk
theorem dp {n : Nat} {Q : Exit → Act → World → Prop} {k : List It} {e : Env} {w : World} {all : Array Oper} {l : List Oper} {op : Op} {d t : Nat} {ps : String} {af : Array Edge} {v : Value}
  (h : pev tab e op = some v) (hn : Nat.blt d n = true) (hk : RunD Tryz.prog n Q k all w l ((d, v) :: e)) : RunD Tryz.prog n Q k all w (⟨some d, op, t, ps, af, none⟩ :: l) e := d_p qc h hn hk
section
variable {P : Program} {n : Nat} {Q : Exit → Act → World → Prop} {k : List It} {e : Env} {w : World}
theorem zSR {i4 : Nat} {o5 : List Oper} {x3 : Code} (h : Run P n Q (.ops o5.toArray o5 :: .code x3 :: k) e w) : Run P n Q (.code (.seq (.region i4 o5.toArray false) x3) :: k) e w := qbm <| qx h
theorem zSSR {i6 : Nat} {o7 : List Oper} {x5 : Code} {x3 : Code} (h : Run P n Q (.ops o7.toArray o7 :: .code x5 :: .code x3 :: k) e w) : Run P n Q (.code (.seq (.seq (.region i6 o7.toArray false) x5) x3) :: k) e w := qbm <| qbm <| qx h
theorem zKSR {i5 : Nat} {o6 : List Oper} {x4 : Code} (h : Run P n Q (.ops o6.toArray o6 :: .code x4 :: k) e w) : Run P n Q (.code .skip :: .code (.seq (.region i5 o6.toArray false) x4) :: k) e w := qdQ <| qbm <| qx h
theorem zKSSR {i7 : Nat} {o8 : List Oper} {x6 : Code} {x4 : Code} (h : Run P n Q (.ops o8.toArray o8 :: .code x6 :: .code x4 :: k) e w) : Run P n Q (.code .skip :: .code (.seq (.seq (.region i7 o8.toArray false) x6) x4) :: k) e w := qdQ <| qbm <| qbm <| qx h
theorem zNSR {a1 : Array Oper} {i5 : Nat} {o6 : List Oper} {x4 : Code} (h : Run P n Q (.ops o6.toArray o6 :: .code x4 :: k) e w) : Run P n Q (.ops a1 [] :: .code (.seq (.region i5 o6.toArray false) x4) :: k) e w := qb <| qbm <| qx h
theorem zNSSR {a1 : Array Oper} {i7 : Nat} {o8 : List Oper} {x6 : Code} {x4 : Code} (h : Run P n Q (.ops o8.toArray o8 :: .code x6 :: .code x4 :: k) e w) : Run P n Q (.ops a1 [] :: .code (.seq (.seq (.region i7 o8.toArray false) x6) x4) :: k) e w := qb <| qbm <| qbm <| qx h
theorem zKS {x3 : Code} {x4 : Code} (h : Run P n Q (.code x3 :: .code x4 :: k) e w) : Run P n Q (.code .skip :: .code (.seq x3 x4) :: k) e w := qdQ <| qbm h
theorem zNS {a1 : Array Oper} {x3 : Code} {x4 : Code} (h : Run P n Q (.code x3 :: .code x4 :: k) e w) : Run P n Q (.ops a1 [] :: .code (.seq x3 x4) :: k) e w := qb <| qbm h
theorem zNSS {a1 : Array Oper} {x5 : Code} {x6 : Code} {x4 : Code} (h : Run P n Q (.code x5 :: .code x6 :: .code x4 :: k) e w) : Run P n Q (.ops a1 [] :: .code (.seq (.seq x5 x6) x4) :: k) e w := qb <| qbm <| qbm h
theorem zBSR {i2 : Nat} {i6 : Nat} {o7 : List Oper} {x5 : Code} (h : Run P n Q (.ops o7.toArray o7 :: .code x5 :: .blk i2 :: k) e w) : Run P n Q (.code (.block i2 (.seq (.region i6 o7.toArray false) x5)) :: k) e w := qy <| qbm <| qx h
theorem zKSB {i5 : Nat} {x6 : Code} {x4 : Code} (h : Run P n Q (.code x6 :: .blk i5 :: .code x4 :: k) e w) : Run P n Q (.code .skip :: .code (.seq (.block i5 x6) x4) :: k) e w := qdQ <| qbm <| qy h
theorem zKSBR {i5 : Nat} {i7 : Nat} {o8 : List Oper} {x4 : Code} (h : Run P n Q (.ops o8.toArray o8 :: .blk i5 :: .code x4 :: k) e w) : Run P n Q (.code .skip :: .code (.seq (.block i5 (.region i7 o8.toArray false)) x4) :: k) e w := qdQ <| qbm <| qy <| qx h
theorem zKSBSR {i5 : Nat} {i9 : Nat} {o10 : List Oper} {x8 : Code} {x4 : Code} (h : Run P n Q (.ops o10.toArray o10 :: .code x8 :: .blk i5 :: .code x4 :: k) e w) : Run P n Q (.code .skip :: .code (.seq (.block i5 (.seq (.region i9 o10.toArray false) x8)) x4) :: k) e w := qdQ <| qbm <| qy <| qbm <| qx h
theorem zKE {i2 : Nat} (h : Run P n Q (k) e w) : Run P n Q (.code .skip :: .blk i2 :: k) e w := qdQ <| qe1 h
theorem zKER {i4 : Nat} {o5 : List Oper} {i2 : Nat} (h : Run P n Q (.ops o5.toArray o5 :: k) e w) : Run P n Q (.code .skip :: .blk i2 :: .code (.region i4 o5.toArray false) :: k) e w := qdQ <| qe1 <| qx h
theorem zNER {a1 : Array Oper} {i4 : Nat} {o5 : List Oper} {i2 : Nat} (h : Run P n Q (.ops o5.toArray o5 :: k) e w) : Run P n Q (.ops a1 [] :: .blk i2 :: .code (.region i4 o5.toArray false) :: k) e w := qb <| qe1 <| qx h
theorem zNSB {a1 : Array Oper} {i5 : Nat} {x6 : Code} {x4 : Code} (h : Run P n Q (.code x6 :: .blk i5 :: .code x4 :: k) e w) : Run P n Q (.ops a1 [] :: .code (.seq (.block i5 x6) x4) :: k) e w := qb <| qbm <| qy h
theorem zSS {x4 : Code} {x5 : Code} {x3 : Code} (h : Run P n Q (.code x4 :: .code x5 :: .code x3 :: k) e w) : Run P n Q (.code (.seq (.seq x4 x5) x3) :: k) e w := qbm <| qbm h
theorem zKSS {x5 : Code} {x6 : Code} {x4 : Code} (h : Run P n Q (.code x5 :: .code x6 :: .code x4 :: k) e w) : Run P n Q (.code .skip :: .code (.seq (.seq x5 x6) x4) :: k) e w := qdQ <| qbm <| qbm h
end
section
variable {w0 w : World} {L : List Ch} {n : Nat} {Q : Exit → Act → World → Prop} {k : List It} {e : Env} {all : Array Oper} {l : List Oper}
theorem zp1 {op0 : Op} {d0 t0 : Nat} {s0 : String} {f0 : Array Edge} {v0 : Value} (h : (pev tab (e) op0, Nat.blt d0 n) = (some v0, true)) (hk : Run Tryz.prog n Q (.ops all l :: k) ((d0, v0) :: e) w) : Run Tryz.prog n Q (.ops all (⟨some d0, op0, t0, s0, f0, none⟩ :: l) :: k) e w := by
 have H := h
 simp only [Prod.mk.injEq] at H
 exact rp (H.1) (H.2) (hk)
theorem zd1 {op0 : Op} {d0 t0 : Nat} {s0 : String} {f0 : Array Edge} {v0 : Value} (h : (pev tab (e) op0, Nat.blt d0 n) = (some v0, true)) (hk : RunD Tryz.prog n Q k all w l ((d0, v0) :: e)) : RunD Tryz.prog n Q k all w (⟨some d0, op0, t0, s0, f0, none⟩ :: l) e := by
 have H := h
 simp only [Prod.mk.injEq] at H
 exact dp (H.1) (H.2) (hk)
theorem zp2 {op0 : Op} {d0 t0 : Nat} {s0 : String} {f0 : Array Edge} {v0 : Value} {op1 : Op} {d1 t1 : Nat} {s1 : String} {f1 : Array Edge} {v1 : Value} (h : (pev tab (e) op0, Nat.blt d0 n, pev tab ((d0, v0) :: e) op1, Nat.blt d1 n) = (some v0, true, some v1, true)) (hk : Run Tryz.prog n Q (.ops all l :: k) ((d1, v1) :: (d0, v0) :: e) w) : Run Tryz.prog n Q (.ops all (⟨some d0, op0, t0, s0, f0, none⟩ :: ⟨some d1, op1, t1, s1, f1, none⟩ :: l) :: k) e w := by
 have H := h
 simp only [Prod.mk.injEq] at H
 exact rp (H.1) (H.2.1) (rp (H.2.2.1) (H.2.2.2) (hk))
theorem zd2 {op0 : Op} {d0 t0 : Nat} {s0 : String} {f0 : Array Edge} {v0 : Value} {op1 : Op} {d1 t1 : Nat} {s1 : String} {f1 : Array Edge} {v1 : Value} (h : (pev tab (e) op0, Nat.blt d0 n, pev tab ((d0, v0) :: e) op1, Nat.blt d1 n) = (some v0, true, some v1, true)) (hk : RunD Tryz.prog n Q k all w l ((d1, v1) :: (d0, v0) :: e)) : RunD Tryz.prog n Q k all w (⟨some d0, op0, t0, s0, f0, none⟩ :: ⟨some d1, op1, t1, s1, f1, none⟩ :: l) e := by
 have H := h
 simp only [Prod.mk.injEq] at H
 exact dp (H.1) (H.2.1) (dp (H.2.2.1) (H.2.2.2) (hk))
theorem zp3 {op0 : Op} {d0 t0 : Nat} {s0 : String} {f0 : Array Edge} {v0 : Value} {op1 : Op} {d1 t1 : Nat} {s1 : String} {f1 : Array Edge} {v1 : Value} {op2 : Op} {d2 t2 : Nat} {s2 : String} {f2 : Array Edge} {v2 : Value} (h : (pev tab (e) op0, Nat.blt d0 n, pev tab ((d0, v0) :: e) op1, Nat.blt d1 n, pev tab ((d1, v1) :: (d0, v0) :: e) op2, Nat.blt d2 n) = (some v0, true, some v1, true, some v2, true)) (hk : Run Tryz.prog n Q (.ops all l :: k) ((d2, v2) :: (d1, v1) :: (d0, v0) :: e) w) : Run Tryz.prog n Q (.ops all (⟨some d0, op0, t0, s0, f0, none⟩ :: ⟨some d1, op1, t1, s1, f1, none⟩ :: ⟨some d2, op2, t2, s2, f2, none⟩ :: l) :: k) e w := by
 have H := h
 simp only [Prod.mk.injEq] at H
 exact rp (H.1) (H.2.1) (rp (H.2.2.1) (H.2.2.2.1) (rp (H.2.2.2.2.1) (H.2.2.2.2.2) (hk)))
theorem zd3 {op0 : Op} {d0 t0 : Nat} {s0 : String} {f0 : Array Edge} {v0 : Value} {op1 : Op} {d1 t1 : Nat} {s1 : String} {f1 : Array Edge} {v1 : Value} {op2 : Op} {d2 t2 : Nat} {s2 : String} {f2 : Array Edge} {v2 : Value} (h : (pev tab (e) op0, Nat.blt d0 n, pev tab ((d0, v0) :: e) op1, Nat.blt d1 n, pev tab ((d1, v1) :: (d0, v0) :: e) op2, Nat.blt d2 n) = (some v0, true, some v1, true, some v2, true)) (hk : RunD Tryz.prog n Q k all w l ((d2, v2) :: (d1, v1) :: (d0, v0) :: e)) : RunD Tryz.prog n Q k all w (⟨some d0, op0, t0, s0, f0, none⟩ :: ⟨some d1, op1, t1, s1, f1, none⟩ :: ⟨some d2, op2, t2, s2, f2, none⟩ :: l) e := by
 have H := h
 simp only [Prod.mk.injEq] at H
 exact dp (H.1) (H.2.1) (dp (H.2.2.1) (H.2.2.2.1) (dp (H.2.2.2.2.1) (H.2.2.2.2.2) (hk)))
theorem zp4 {op0 : Op} {d0 t0 : Nat} {s0 : String} {f0 : Array Edge} {v0 : Value} {op1 : Op} {d1 t1 : Nat} {s1 : String} {f1 : Array Edge} {v1 : Value} {op2 : Op} {d2 t2 : Nat} {s2 : String} {f2 : Array Edge} {v2 : Value} {op3 : Op} {d3 t3 : Nat} {s3 : String} {f3 : Array Edge} {v3 : Value} (h : (pev tab (e) op0, Nat.blt d0 n, pev tab ((d0, v0) :: e) op1, Nat.blt d1 n, pev tab ((d1, v1) :: (d0, v0) :: e) op2, Nat.blt d2 n, pev tab ((d2, v2) :: (d1, v1) :: (d0, v0) :: e) op3, Nat.blt d3 n) = (some v0, true, some v1, true, some v2, true, some v3, true)) (hk : Run Tryz.prog n Q (.ops all l :: k) ((d3, v3) :: (d2, v2) :: (d1, v1) :: (d0, v0) :: e) w) : Run Tryz.prog n Q (.ops all (⟨some d0, op0, t0, s0, f0, none⟩ :: ⟨some d1, op1, t1, s1, f1, none⟩ :: ⟨some d2, op2, t2, s2, f2, none⟩ :: ⟨some d3, op3, t3, s3, f3, none⟩ :: l) :: k) e w := by
 have H := h
 simp only [Prod.mk.injEq] at H
 exact rp (H.1) (H.2.1) (rp (H.2.2.1) (H.2.2.2.1) (rp (H.2.2.2.2.1) (H.2.2.2.2.2.1) (rp (H.2.2.2.2.2.2.1) (H.2.2.2.2.2.2.2) (hk))))
theorem zp5 {op0 : Op} {d0 t0 : Nat} {s0 : String} {f0 : Array Edge} {v0 : Value} {op1 : Op} {d1 t1 : Nat} {s1 : String} {f1 : Array Edge} {v1 : Value} {op2 : Op} {d2 t2 : Nat} {s2 : String} {f2 : Array Edge} {v2 : Value} {op3 : Op} {d3 t3 : Nat} {s3 : String} {f3 : Array Edge} {v3 : Value} {op4 : Op} {d4 t4 : Nat} {s4 : String} {f4 : Array Edge} {v4 : Value} (h : (pev tab (e) op0, Nat.blt d0 n, pev tab ((d0, v0) :: e) op1, Nat.blt d1 n, pev tab ((d1, v1) :: (d0, v0) :: e) op2, Nat.blt d2 n, pev tab ((d2, v2) :: (d1, v1) :: (d0, v0) :: e) op3, Nat.blt d3 n, pev tab ((d3, v3) :: (d2, v2) :: (d1, v1) :: (d0, v0) :: e) op4, Nat.blt d4 n) = (some v0, true, some v1, true, some v2, true, some v3, true, some v4, true)) (hk : Run Tryz.prog n Q (.ops all l :: k) ((d4, v4) :: (d3, v3) :: (d2, v2) :: (d1, v1) :: (d0, v0) :: e) w) : Run Tryz.prog n Q (.ops all (⟨some d0, op0, t0, s0, f0, none⟩ :: ⟨some d1, op1, t1, s1, f1, none⟩ :: ⟨some d2, op2, t2, s2, f2, none⟩ :: ⟨some d3, op3, t3, s3, f3, none⟩ :: ⟨some d4, op4, t4, s4, f4, none⟩ :: l) :: k) e w := by
 have H := h
 simp only [Prod.mk.injEq] at H
 exact rp (H.1) (H.2.1) (rp (H.2.2.1) (H.2.2.2.1) (rp (H.2.2.2.2.1) (H.2.2.2.2.2.1) (rp (H.2.2.2.2.2.2.1) (H.2.2.2.2.2.2.2.1) (rp (H.2.2.2.2.2.2.2.2.1) (H.2.2.2.2.2.2.2.2.2) (hk)))))
theorem zn1 {o0 : Oper} {d0 : Nat} (h : (notW (e) all o0, o0.dst, Nat.blt d0 n) = (true, some d0, true)) (hk : Run Tryz.prog n Q (.ops all l :: k) ((d0, undef) :: e) w) : Run Tryz.prog n Q (.ops all (o0 :: l) :: k) e w := by
 have H := h
 simp only [Prod.mk.injEq] at H
 exact qhT (H.1) (H.2.1) (H.2.2) (hk)
theorem zn2 {o0 : Oper} {d0 : Nat} {o1 : Oper} {d1 : Nat} (h : (notW (e) all o0, o0.dst, Nat.blt d0 n, notW ((d0, undef) :: e) all o1, o1.dst, Nat.blt d1 n) = (true, some d0, true, true, some d1, true)) (hk : Run Tryz.prog n Q (.ops all l :: k) ((d1, undef) :: (d0, undef) :: e) w) : Run Tryz.prog n Q (.ops all (o0 :: o1 :: l) :: k) e w := by
 have H := h
 simp only [Prod.mk.injEq] at H
 exact qhT (H.1) (H.2.1) (H.2.2.1) (qhT (H.2.2.2.1) (H.2.2.2.2.1) (H.2.2.2.2.2) (hk))
theorem zn3 {o0 : Oper} {d0 : Nat} {o1 : Oper} {d1 : Nat} {o2 : Oper} {d2 : Nat} (h : (notW (e) all o0, o0.dst, Nat.blt d0 n, notW ((d0, undef) :: e) all o1, o1.dst, Nat.blt d1 n, notW ((d1, undef) :: (d0, undef) :: e) all o2, o2.dst, Nat.blt d2 n) = (true, some d0, true, true, some d1, true, true, some d2, true)) (hk : Run Tryz.prog n Q (.ops all l :: k) ((d2, undef) :: (d1, undef) :: (d0, undef) :: e) w) : Run Tryz.prog n Q (.ops all (o0 :: o1 :: o2 :: l) :: k) e w := by
 have H := h
 simp only [Prod.mk.injEq] at H
 exact qhT (H.1) (H.2.1) (H.2.2.1) (qhT (H.2.2.2.1) (H.2.2.2.2.1) (H.2.2.2.2.2.1) (qhT (H.2.2.2.2.2.2.1) (H.2.2.2.2.2.2.2.1) (H.2.2.2.2.2.2.2.2) (hk)))
theorem zn4 {o0 : Oper} {d0 : Nat} {o1 : Oper} {d1 : Nat} {o2 : Oper} {d2 : Nat} {o3 : Oper} {d3 : Nat} (h : (notW (e) all o0, o0.dst, Nat.blt d0 n, notW ((d0, undef) :: e) all o1, o1.dst, Nat.blt d1 n, notW ((d1, undef) :: (d0, undef) :: e) all o2, o2.dst, Nat.blt d2 n, notW ((d2, undef) :: (d1, undef) :: (d0, undef) :: e) all o3, o3.dst, Nat.blt d3 n) = (true, some d0, true, true, some d1, true, true, some d2, true, true, some d3, true)) (hk : Run Tryz.prog n Q (.ops all l :: k) ((d3, undef) :: (d2, undef) :: (d1, undef) :: (d0, undef) :: e) w) : Run Tryz.prog n Q (.ops all (o0 :: o1 :: o2 :: o3 :: l) :: k) e w := by
 have H := h
 simp only [Prod.mk.injEq] at H
 exact qhT (H.1) (H.2.1) (H.2.2.1) (qhT (H.2.2.2.1) (H.2.2.2.2.1) (H.2.2.2.2.2.1) (qhT (H.2.2.2.2.2.2.1) (H.2.2.2.2.2.2.2.1) (H.2.2.2.2.2.2.2.2.1) (qhT (H.2.2.2.2.2.2.2.2.2.1) (H.2.2.2.2.2.2.2.2.2.2.1) (H.2.2.2.2.2.2.2.2.2.2.2) (hk))))
theorem zn5 {o0 : Oper} {d0 : Nat} {o1 : Oper} {d1 : Nat} {o2 : Oper} {d2 : Nat} {o3 : Oper} {d3 : Nat} {o4 : Oper} {d4 : Nat} (h : (notW (e) all o0, o0.dst, Nat.blt d0 n, notW ((d0, undef) :: e) all o1, o1.dst, Nat.blt d1 n, notW ((d1, undef) :: (d0, undef) :: e) all o2, o2.dst, Nat.blt d2 n, notW ((d2, undef) :: (d1, undef) :: (d0, undef) :: e) all o3, o3.dst, Nat.blt d3 n, notW ((d3, undef) :: (d2, undef) :: (d1, undef) :: (d0, undef) :: e) all o4, o4.dst, Nat.blt d4 n) = (true, some d0, true, true, some d1, true, true, some d2, true, true, some d3, true, true, some d4, true)) (hk : Run Tryz.prog n Q (.ops all l :: k) ((d4, undef) :: (d3, undef) :: (d2, undef) :: (d1, undef) :: (d0, undef) :: e) w) : Run Tryz.prog n Q (.ops all (o0 :: o1 :: o2 :: o3 :: o4 :: l) :: k) e w := by
 have H := h
 simp only [Prod.mk.injEq] at H
 exact qhT (H.1) (H.2.1) (H.2.2.1) (qhT (H.2.2.2.1) (H.2.2.2.2.1) (H.2.2.2.2.2.1) (qhT (H.2.2.2.2.2.2.1) (H.2.2.2.2.2.2.2.1) (H.2.2.2.2.2.2.2.2.1) (qhT (H.2.2.2.2.2.2.2.2.2.1) (H.2.2.2.2.2.2.2.2.2.2.1) (H.2.2.2.2.2.2.2.2.2.2.2.1) (qhT (H.2.2.2.2.2.2.2.2.2.2.2.2.1) (H.2.2.2.2.2.2.2.2.2.2.2.2.2.1) (H.2.2.2.2.2.2.2.2.2.2.2.2.2.2) (hk)))))
theorem zl (i j : Nat) {d t ty : Nat} {x : Operand} {te : TE} {ps : String} {af : Array Edge} {v : Value} {b : Nat} {cs : List Value} {t' : TypeId} (h : SH w0 w L) (hh : (L[i]?, opv e x, tab.get t, ld te cs j, Nat.blt d n) = (some (Ch.box b cs t'), some (.pointer (some ⟨b, 0 + j, none⟩)), some te, some v, true))
  (hk : Run Tryz.prog n Q (.ops all l :: k) ((d, v) :: e) w) : Run Tryz.prog n Q (.ops all (⟨some d, .load t x, ty, ps, af, none⟩ :: l) :: k) e w := by
 simp only [Prod.mk.injEq] at hh
 exact r_v (qcK qc (h.box i hh.1) (j := j) hh.2.1 hh.2.2.1 hh.2.2.2.1) hh.2.2.2.2 hk
theorem zc (j : Nat) {d t ty : Nat} {x : Operand} {te : TE} {ps : String} {af : Array Edge} {v : Value} {b o : Nat} {cs : List Value} (h : CellsAt w b o cs) (hh : (opv e x, tab.get t, ld te cs j, Nat.blt d n) = (some (.pointer (some ⟨b, o + j, none⟩)), some te, some v, true))
  (hk : Run Tryz.prog n Q (.ops all l :: k) ((d, v) :: e) w) : Run Tryz.prog n Q (.ops all (⟨some d, .load t x, ty, ps, af, none⟩ :: l) :: k) e w := by
 simp only [Prod.mk.injEq] at hh
 exact r_v (qcK qc h (j := j) hh.1 hh.2.1 hh.2.2.1) hh.2.2.2 hk
theorem zdl (i j : Nat) {d t ty : Nat} {x : Operand} {te : TE} {ps : String} {af : Array Edge} {v : Value} {b : Nat} {cs : List Value} {t' : TypeId} (h : SH w0 w L) (hh : (L[i]?, opv e x, tab.get t, ld te cs j, Nat.blt d n) = (some (Ch.box b cs t'), some (.pointer (some ⟨b, 0 + j, none⟩)), some te, some v, true))
  (hk : RunD Tryz.prog n Q k all w l ((d, v) :: e)) : RunD Tryz.prog n Q k all w (⟨some d, .load t x, ty, ps, af, none⟩ :: l) e := by
 simp only [Prod.mk.injEq] at hh
 exact d_v (fun _ hb => qcK qc ((h.box i hh.1).below hb) (j := j) hh.2.1 hh.2.2.1 hh.2.2.2.1) hh.2.2.2.2 hk
theorem zdc (j : Nat) {d t ty : Nat} {x : Operand} {te : TE} {ps : String} {af : Array Edge} {v : Value} {b o : Nat} {cs : List Value} (h : CellsAt w b o cs) (hh : (opv e x, tab.get t, ld te cs j, Nat.blt d n) = (some (.pointer (some ⟨b, o + j, none⟩)), some te, some v, true))
  (hk : RunD Tryz.prog n Q k all w l ((d, v) :: e)) : RunD Tryz.prog n Q k all w (⟨some d, .load t x, ty, ps, af, none⟩ :: l) e := by
 simp only [Prod.mk.injEq] at hh
 exact d_v (fun _ hb => qcK qc (h.below hb) (j := j) hh.1 hh.2.1 hh.2.2.1) hh.2.2.2 hk
theorem zx {x i : Operand} {t ty d el m : Nat} {te te1 : TE} {ps : String} {af : Array Edge} {p : Option Addr} {ln c : Nat} {kd : IntKind} {iv : Int} {b o q : Nat} (hp : p = some ⟨b, o, none⟩) (hq : q = o + iv.toNat * m) (hlt : 0 ≤ iv ∧ iv < ln) (hh : (opv e x, opv e i, tab.get t, te.kind, tab.get el, te1.size, Nat.blt d n) = (some (.slice p ln c), some (.int kd iv), some te, TK.slice el, some te1, m, true)) (hk : Run Tryz.prog n Q (.ops all l :: k) ((d, .pointer (some ⟨b, q, none⟩)) :: e) w) : Run Tryz.prog n Q (.ops all (⟨some d, .indexAddr t x i, ty, ps, af, none⟩ :: l) :: k) e w := by
 simp only [Prod.mk.injEq] at hh
 exact r_v (qgT qc hp hq hlt hh.1 hh.2.1 hh.2.2.1 hh.2.2.2.1 hh.2.2.2.2.1 hh.2.2.2.2.2.1) hh.2.2.2.2.2.2 hk
theorem zxe {x i : Operand} {t ty d el m : Nat} {te te1 : TE} {ps : String} {af : Array Edge} {p : Option Addr} {ln c : Nat} {kd : IntKind} {iv : Int} {b o q : Nat} {α : Prop} (hp : p = some ⟨b, o, none⟩) (hq : q = o + iv.toNat * m) (hlt : 0 ≤ iv ∧ iv < ln ∧ α) (hh : (opv e x, opv e i, tab.get t, te.kind, tab.get el, te1.size, Nat.blt d n) = (some (.slice p ln c), some (.int kd iv), some te, TK.slice el, some te1, m, true)) (hk : Run Tryz.prog n Q (.ops all l :: k) ((d, .pointer (some ⟨b, q, none⟩)) :: e) w) : Run Tryz.prog n Q (.ops all (⟨some d, .indexAddr t x i, ty, ps, af, none⟩ :: l) :: k) e w := zx hp hq ⟨hlt.1, hlt.2.1⟩ hh hk
theorem zdx {x i : Operand} {t ty d el m : Nat} {te te1 : TE} {ps : String} {af : Array Edge} {p : Option Addr} {ln c : Nat} {kd : IntKind} {iv : Int} {b o q : Nat} (hp : p = some ⟨b, o, none⟩) (hq : q = o + iv.toNat * m) (hlt : 0 ≤ iv ∧ iv < ln) (hh : (opv e x, opv e i, tab.get t, te.kind, tab.get el, te1.size, Nat.blt d n) = (some (.slice p ln c), some (.int kd iv), some te, TK.slice el, some te1, m, true)) (hk : RunD Tryz.prog n Q k all w l ((d, .pointer (some ⟨b, q, none⟩)) :: e)) : RunD Tryz.prog n Q k all w (⟨some d, .indexAddr t x i, ty, ps, af, none⟩ :: l) e := by
 simp only [Prod.mk.injEq] at hh
 exact d_v (fun _ _ => qgT qc hp hq hlt hh.1 hh.2.1 hh.2.2.1 hh.2.2.2.1 hh.2.2.2.2.1 hh.2.2.2.2.2.1) hh.2.2.2.2.2.2 hk
theorem zdxe {x i : Operand} {t ty d el m : Nat} {te te1 : TE} {ps : String} {af : Array Edge} {p : Option Addr} {ln c : Nat} {kd : IntKind} {iv : Int} {b o q : Nat} {α : Prop} (hp : p = some ⟨b, o, none⟩) (hq : q = o + iv.toNat * m) (hlt : 0 ≤ iv ∧ iv < ln ∧ α) (hh : (opv e x, opv e i, tab.get t, te.kind, tab.get el, te1.size, Nat.blt d n) = (some (.slice p ln c), some (.int kd iv), some te, TK.slice el, some te1, m, true)) (hk : RunD Tryz.prog n Q k all w l ((d, .pointer (some ⟨b, q, none⟩)) :: e)) : RunD Tryz.prog n Q k all w (⟨some d, .indexAddr t x i, ty, ps, af, none⟩ :: l) e := zdx hp hq ⟨hlt.1, hlt.2.1⟩ hh hk
theorem zs (i : Nat) {t ty : Nat} {ps : String} {af : Array Edge} {x v : Operand} {te : TE} {b j : Nat} {cs : List Value} {t' : TypeId} {u : Value} (h : SH w0 w L)
  (hh : (L[i]?, opv e x, opv e v, tab.get t, Nat.beq (cellsL u).length te.size, Nat.ble (j + (cellsL u).length) cs.length, ones (cellsL u)) = (some (Ch.box b cs t'), some (.pointer (some ⟨b, j, none⟩)), some u, some te, true, true, true))
  (hk : ∀ w', SH w0 w' (L.set i (Ch.box b (splice cs j (cellsL u)) t')) → Run Tryz.prog n Q (.ops all l :: k) e w') : Run Tryz.prog n Q (.ops all (⟨none, .store t x v, ty, ps, af, none⟩ :: l) :: k) e w := by
 simp only [Prod.mk.injEq] at hh
 exact qqI qc i h hh.1 hh.2.1 hh.2.2.1 hh.2.2.2.1 hh.2.2.2.2.1 hh.2.2.2.2.2.1 hh.2.2.2.2.2.2 hk
theorem zb {b : Bool} (h : ¬ b = true) : b = false := Bool.eq_false_iff.2 h
end
theorem call9 : qn Tryz.prog 9 := ⟨_, Tryz.func9, rfl, by kernel_rfl⟩
theorem call10 : qn Tryz.prog 10 := ⟨_, Tryz.func10, rfl, by kernel_rfl⟩
theorem call11 : qn Tryz.prog 11 := ⟨_, Tryz.func11, rfl, by kernel_rfl⟩
theorem call12 : qn Tryz.prog 12 := ⟨_, Tryz.func12, rfl, by kernel_rfl⟩
theorem call13 : qn Tryz.prog 13 := ⟨_, Tryz.func13, rfl, by kernel_rfl⟩
theorem call14 : qn Tryz.prog 14 := ⟨_, Tryz.func14, rfl, by kernel_rfl⟩
theorem call15 : qn Tryz.prog 15 := ⟨_, Tryz.func15, rfl, by kernel_rfl⟩
theorem call16 : qn Tryz.prog 16 := ⟨_, Tryz.func16, rfl, by kernel_rfl⟩
theorem call17 : qn Tryz.prog 17 := ⟨_, Tryz.func17, rfl, by kernel_rfl⟩
theorem call18 : qn Tryz.prog 18 := ⟨_, Tryz.func18, rfl, by kernel_rfl⟩
theorem call19 : qn Tryz.prog 19 := ⟨_, Tryz.func19, rfl, by kernel_rfl⟩
theorem call37 : qn Tryz.prog 37 := ⟨_, Tryz.func37, rfl, by kernel_rfl⟩
theorem call38 : qn Tryz.prog 38 := ⟨_, Tryz.func38, rfl, by kernel_rfl⟩
theorem call39 : qn Tryz.prog 39 := ⟨_, Tryz.func39, rfl, by kernel_rfl⟩
theorem call40 : qn Tryz.prog 40 := ⟨_, Tryz.func40, rfl, by kernel_rfl⟩
theorem call41 : qn Tryz.prog 41 := ⟨_, Tryz.func41, rfl, by kernel_rfl⟩
theorem call42 : qn Tryz.prog 42 := ⟨_, Tryz.func42, rfl, by kernel_rfl⟩
theorem call43 : qn Tryz.prog 43 := ⟨_, Tryz.func43, rfl, by kernel_rfl⟩
theorem call44 : qn Tryz.prog 44 := ⟨_, Tryz.func44, rfl, by kernel_rfl⟩
theorem call45 : qn Tryz.prog 45 := ⟨_, Tryz.func45, rfl, by kernel_rfl⟩
theorem call46 : qn Tryz.prog 46 := ⟨_, Tryz.func46, rfl, by kernel_rfl⟩
theorem call47 : qn Tryz.prog 47 := ⟨_, Tryz.func47, rfl, by kernel_rfl⟩
theorem call48 : qn Tryz.prog 48 := ⟨_, Tryz.func48, rfl, by kernel_rfl⟩
theorem call49 : qn Tryz.prog 49 := ⟨_, Tryz.func49, rfl, by kernel_rfl⟩
theorem call50 : qn Tryz.prog 50 := ⟨_, Tryz.func50, rfl, by kernel_rfl⟩
theorem call51 : qn Tryz.prog 51 := ⟨_, Tryz.func51, rfl, by kernel_rfl⟩
theorem call52 : qn Tryz.prog 52 := ⟨_, Tryz.func52, rfl, by kernel_rfl⟩
theorem call53 : qn Tryz.prog 53 := ⟨_, Tryz.func53, rfl, by kernel_rfl⟩
theorem call54 : qn Tryz.prog 54 := ⟨_, Tryz.func54, rfl, by kernel_rfl⟩
theorem call62 : qn Tryz.prog 62 := ⟨_, Tryz.func62, rfl, by kernel_rfl⟩
theorem call65 : qn Tryz.prog 65 := ⟨_, Tryz.func65, rfl, by kernel_rfl⟩
theorem call66 : qn Tryz.prog 66 := ⟨_, Tryz.func66, rfl, by kernel_rfl⟩
theorem call71 : qn Tryz.prog 71 := ⟨_, Tryz.func71, rfl, by kernel_rfl⟩
theorem call72 : qn Tryz.prog 72 := ⟨_, Tryz.func72, rfl, by kernel_rfl⟩
theorem call73 : qn Tryz.prog 73 := ⟨_, Tryz.func73, rfl, by kernel_rfl⟩
theorem call74 : qn Tryz.prog 74 := ⟨_, Tryz.func74, rfl, by kernel_rfl⟩
theorem call75 : qn Tryz.prog 75 := ⟨_, Tryz.func75, rfl, by kernel_rfl⟩
theorem call76 : qn Tryz.prog 76 := ⟨_, Tryz.func76, rfl, by kernel_rfl⟩
theorem call77 : qn Tryz.prog 77 := ⟨_, Tryz.func77, rfl, by kernel_rfl⟩
theorem call78 : qn Tryz.prog 78 := ⟨_, Tryz.func78, rfl, by kernel_rfl⟩
theorem call79 : qn Tryz.prog 79 := ⟨_, Tryz.func79, rfl, by kernel_rfl⟩
theorem call80 : qn Tryz.prog 80 := ⟨_, Tryz.func80, rfl, by kernel_rfl⟩
theorem call81 : qn Tryz.prog 81 := ⟨_, Tryz.func81, rfl, by kernel_rfl⟩
theorem call82 : qn Tryz.prog 82 := ⟨_, Tryz.func82, rfl, by kernel_rfl⟩
theorem call83 : qn Tryz.prog 83 := ⟨_, Tryz.func83, rfl, by kernel_rfl⟩
theorem call84 : qn Tryz.prog 84 := ⟨_, Tryz.func84, rfl, by kernel_rfl⟩
theorem call85 : qn Tryz.prog 85 := ⟨_, Tryz.func85, rfl, by kernel_rfl⟩
theorem call86 : qn Tryz.prog 86 := ⟨_, Tryz.func86, rfl, by kernel_rfl⟩
theorem call87 : qn Tryz.prog 87 := ⟨_, Tryz.func87, rfl, by kernel_rfl⟩
theorem call88 : qn Tryz.prog 88 := ⟨_, Tryz.func88, rfl, by kernel_rfl⟩
theorem call89 : qn Tryz.prog 89 := ⟨_, Tryz.func89, rfl, by kernel_rfl⟩
theorem call90 : qn Tryz.prog 90 := ⟨_, Tryz.func90, rfl, by kernel_rfl⟩
theorem call91 : qn Tryz.prog 91 := ⟨_, Tryz.func91, rfl, by kernel_rfl⟩
theorem call92 : qn Tryz.prog 92 := ⟨_, Tryz.func92, rfl, by kernel_rfl⟩
theorem call93 : qn Tryz.prog 93 := ⟨_, Tryz.func93, rfl, by kernel_rfl⟩
theorem call94 : qn Tryz.prog 94 := ⟨_, Tryz.func94, rfl, by kernel_rfl⟩
theorem call95 : qn Tryz.prog 95 := ⟨_, Tryz.func95, rfl, by kernel_rfl⟩
theorem call96 : qn Tryz.prog 96 := ⟨_, Tryz.func96, rfl, by kernel_rfl⟩
theorem call97 : qn Tryz.prog 97 := ⟨_, Tryz.func97, rfl, by kernel_rfl⟩
theorem call104 : qn Tryz.prog 104 := ⟨_, Tryz.func104, rfl, by kernel_rfl⟩
theorem call105 : qn Tryz.prog 105 := ⟨_, Tryz.func105, rfl, by kernel_rfl⟩
theorem call107 : qn Tryz.prog 107 := ⟨_, Tryz.func107, rfl, by kernel_rfl⟩
theorem call108 : qn Tryz.prog 108 := ⟨_, Tryz.func108, rfl, by kernel_rfl⟩
theorem call109 : qn Tryz.prog 109 := ⟨_, Tryz.func109, rfl, by kernel_rfl⟩
theorem call110 : qn Tryz.prog 110 := ⟨_, Tryz.func110, rfl, by kernel_rfl⟩
theorem call111 : qn Tryz.prog 111 := ⟨_, Tryz.func111, rfl, by kernel_rfl⟩
theorem call112 : qn Tryz.prog 112 := ⟨_, Tryz.func112, rfl, by kernel_rfl⟩
theorem call113 : qn Tryz.prog 113 := ⟨_, Tryz.func113, rfl, by kernel_rfl⟩
theorem call114 : qn Tryz.prog 114 := ⟨_, Tryz.func114, rfl, by kernel_rfl⟩
theorem call121 : qn Tryz.prog 121 := ⟨_, Tryz.func121, rfl, by kernel_rfl⟩
theorem call122 : qn Tryz.prog 122 := ⟨_, Tryz.func122, rfl, by kernel_rfl⟩
theorem call123 : qn Tryz.prog 123 := ⟨_, Tryz.func123, rfl, by kernel_rfl⟩
theorem call124 : qn Tryz.prog 124 := ⟨_, Tryz.func124, rfl, by kernel_rfl⟩
theorem call125 : qn Tryz.prog 125 := ⟨_, Tryz.func125, rfl, by kernel_rfl⟩
theorem call126 : qn Tryz.prog 126 := ⟨_, Tryz.func126, rfl, by kernel_rfl⟩
theorem call127 : qn Tryz.prog 127 := ⟨_, Tryz.func127, rfl, by kernel_rfl⟩
theorem call128 : qn Tryz.prog 128 := ⟨_, Tryz.func128, rfl, by kernel_rfl⟩
theorem call129 : qn Tryz.prog 129 := ⟨_, Tryz.func129, rfl, by kernel_rfl⟩
theorem call130 : qn Tryz.prog 130 := ⟨_, Tryz.func130, rfl, by kernel_rfl⟩
theorem call131 : qn Tryz.prog 131 := ⟨_, Tryz.func131, rfl, by kernel_rfl⟩
theorem call132 : qn Tryz.prog 132 := ⟨_, Tryz.func132, rfl, by kernel_rfl⟩
theorem call136 : qn Tryz.prog 136 := ⟨_, Tryz.func136, rfl, by kernel_rfl⟩
theorem call137 : qn Tryz.prog 137 := ⟨_, Tryz.func137, rfl, by kernel_rfl⟩
theorem call138 : qn Tryz.prog 138 := ⟨_, Tryz.func138, rfl, by kernel_rfl⟩
theorem call139 : qn Tryz.prog 139 := ⟨_, Tryz.func139, rfl, by kernel_rfl⟩
theorem call146 : qn Tryz.prog 146 := ⟨_, Tryz.func146, rfl, by kernel_rfl⟩
theorem call147 : qn Tryz.prog 147 := ⟨_, Tryz.func147, rfl, by kernel_rfl⟩
theorem call148 : qn Tryz.prog 148 := ⟨_, Tryz.func148, rfl, by kernel_rfl⟩
theorem call149 : qn Tryz.prog 149 := ⟨_, Tryz.func149, rfl, by kernel_rfl⟩
theorem call150 : qn Tryz.prog 150 := ⟨_, Tryz.func150, rfl, by kernel_rfl⟩
theorem call151 : qn Tryz.prog 151 := ⟨_, Tryz.func151, rfl, by kernel_rfl⟩
theorem call152 : qn Tryz.prog 152 := ⟨_, Tryz.func152, rfl, by kernel_rfl⟩
theorem call153 : qn Tryz.prog 153 := ⟨_, Tryz.func153, rfl, by kernel_rfl⟩
theorem call154 : qn Tryz.prog 154 := ⟨_, Tryz.func154, rfl, by kernel_rfl⟩
theorem call155 : qn Tryz.prog 155 := ⟨_, Tryz.func155, rfl, by kernel_rfl⟩
theorem call156 : qn Tryz.prog 156 := ⟨_, Tryz.func156, rfl, by kernel_rfl⟩
theorem call157 : qn Tryz.prog 157 := ⟨_, Tryz.func157, rfl, by kernel_rfl⟩
theorem call160 : qn Tryz.prog 160 := ⟨_, Tryz.func160, rfl, by kernel_rfl⟩
theorem call163 : qn Tryz.prog 163 := ⟨_, Tryz.func163, rfl, by kernel_rfl⟩
theorem call169 : qn Tryz.prog 169 := ⟨_, Tryz.func169, rfl, by kernel_rfl⟩
theorem call170 : qn Tryz.prog 170 := ⟨_, Tryz.func170, rfl, by kernel_rfl⟩
theorem call171 : qn Tryz.prog 171 := ⟨_, Tryz.func171, rfl, by kernel_rfl⟩
theorem call172 : qn Tryz.prog 172 := ⟨_, Tryz.func172, rfl, by kernel_rfl⟩
theorem call173 : qn Tryz.prog 173 := ⟨_, Tryz.func173, rfl, by kernel_rfl⟩
theorem call174 : qn Tryz.prog 174 := ⟨_, Tryz.func174, rfl, by kernel_rfl⟩
theorem call176 : qn Tryz.prog 176 := ⟨_, Tryz.func176, rfl, by kernel_rfl⟩
theorem call177 : qn Tryz.prog 177 := ⟨_, Tryz.func177, rfl, by kernel_rfl⟩
theorem call178 : qn Tryz.prog 178 := ⟨_, Tryz.func178, rfl, by kernel_rfl⟩
theorem call179 : qn Tryz.prog 179 := ⟨_, Tryz.func179, rfl, by kernel_rfl⟩
theorem call180 : qn Tryz.prog 180 := ⟨_, Tryz.func180, rfl, by kernel_rfl⟩
theorem call181 : qn Tryz.prog 181 := ⟨_, Tryz.func181, rfl, by kernel_rfl⟩
theorem call182 : qn Tryz.prog 182 := ⟨_, Tryz.func182, rfl, by kernel_rfl⟩
theorem call183 : qn Tryz.prog 183 := ⟨_, Tryz.func183, rfl, by kernel_rfl⟩
theorem call184 : qn Tryz.prog 184 := ⟨_, Tryz.func184, rfl, by kernel_rfl⟩
theorem call185 : qn Tryz.prog 185 := ⟨_, Tryz.func185, rfl, by kernel_rfl⟩
theorem call186 : qn Tryz.prog 186 := ⟨_, Tryz.func186, rfl, by kernel_rfl⟩
theorem call187 : qn Tryz.prog 187 := ⟨_, Tryz.func187, rfl, by kernel_rfl⟩
theorem call188 : qn Tryz.prog 188 := ⟨_, Tryz.func188, rfl, by kernel_rfl⟩
theorem call189 : qn Tryz.prog 189 := ⟨_, Tryz.func189, rfl, by kernel_rfl⟩
theorem call190 : qn Tryz.prog 190 := ⟨_, Tryz.func190, rfl, by kernel_rfl⟩
theorem call191 : qn Tryz.prog 191 := ⟨_, Tryz.func191, rfl, by kernel_rfl⟩
theorem call192 : qn Tryz.prog 192 := ⟨_, Tryz.func192, rfl, by kernel_rfl⟩
theorem call196 : qn Tryz.prog 196 := ⟨_, Tryz.func196, rfl, by kernel_rfl⟩
theorem call197 : qn Tryz.prog 197 := ⟨_, Tryz.func197, rfl, by kernel_rfl⟩
theorem call198 : qn Tryz.prog 198 := ⟨_, Tryz.func198, rfl, by kernel_rfl⟩
theorem call199 : qn Tryz.prog 199 := ⟨_, Tryz.func199, rfl, by kernel_rfl⟩
theorem call200 : qn Tryz.prog 200 := ⟨_, Tryz.func200, rfl, by kernel_rfl⟩
theorem call201 : qn Tryz.prog 201 := ⟨_, Tryz.func201, rfl, by kernel_rfl⟩
theorem call202 : qn Tryz.prog 202 := ⟨_, Tryz.func202, rfl, by kernel_rfl⟩
theorem call203 : qn Tryz.prog 203 := ⟨_, Tryz.func203, rfl, by kernel_rfl⟩
theorem call204 : qn Tryz.prog 204 := ⟨_, Tryz.func204, rfl, by kernel_rfl⟩
theorem call205 : qn Tryz.prog 205 := ⟨_, Tryz.func205, rfl, by kernel_rfl⟩
theorem call206 : qn Tryz.prog 206 := ⟨_, Tryz.func206, rfl, by kernel_rfl⟩
theorem call207 : qn Tryz.prog 207 := ⟨_, Tryz.func207, rfl, by kernel_rfl⟩
theorem call208 : qn Tryz.prog 208 := ⟨_, Tryz.func208, rfl, by kernel_rfl⟩
theorem call209 : qn Tryz.prog 209 := ⟨_, Tryz.func209, rfl, by kernel_rfl⟩
theorem call212 : qn Tryz.prog 212 := ⟨_, Tryz.func212, rfl, by kernel_rfl⟩
theorem call213 : qn Tryz.prog 213 := ⟨_, Tryz.func213, rfl, by kernel_rfl⟩
theorem call214 : qn Tryz.prog 214 := ⟨_, Tryz.func214, rfl, by kernel_rfl⟩
theorem call215 : qn Tryz.prog 215 := ⟨_, Tryz.func215, rfl, by kernel_rfl⟩
theorem call216 : qn Tryz.prog 216 := ⟨_, Tryz.func216, rfl, by kernel_rfl⟩
theorem call217 : qn Tryz.prog 217 := ⟨_, Tryz.func217, rfl, by kernel_rfl⟩
theorem call218 : qn Tryz.prog 218 := ⟨_, Tryz.func218, rfl, by kernel_rfl⟩
theorem call219 : qn Tryz.prog 219 := ⟨_, Tryz.func219, rfl, by kernel_rfl⟩
theorem call220 : qn Tryz.prog 220 := ⟨_, Tryz.func220, rfl, by kernel_rfl⟩
theorem call221 : qn Tryz.prog 221 := ⟨_, Tryz.func221, rfl, by kernel_rfl⟩
theorem call222 : qn Tryz.prog 222 := ⟨_, Tryz.func222, rfl, by kernel_rfl⟩
theorem call224 : qn Tryz.prog 224 := ⟨_, Tryz.func224, rfl, by kernel_rfl⟩
theorem call225 : qn Tryz.prog 225 := ⟨_, Tryz.func225, rfl, by kernel_rfl⟩
theorem call226 : qn Tryz.prog 226 := ⟨_, Tryz.func226, rfl, by kernel_rfl⟩
theorem call227 : qn Tryz.prog 227 := ⟨_, Tryz.func227, rfl, by kernel_rfl⟩
theorem call228 : qn Tryz.prog 228 := ⟨_, Tryz.func228, rfl, by kernel_rfl⟩
theorem call229 : qn Tryz.prog 229 := ⟨_, Tryz.func229, rfl, by kernel_rfl⟩
theorem call230 : qn Tryz.prog 230 := ⟨_, Tryz.func230, rfl, by kernel_rfl⟩
theorem call231 : qn Tryz.prog 231 := ⟨_, Tryz.func231, rfl, by kernel_rfl⟩
theorem call232 : qn Tryz.prog 232 := ⟨_, Tryz.func232, rfl, by kernel_rfl⟩
theorem call233 : qn Tryz.prog 233 := ⟨_, Tryz.func233, rfl, by kernel_rfl⟩
theorem call234 : qn Tryz.prog 234 := ⟨_, Tryz.func234, rfl, by kernel_rfl⟩
theorem call243 : qn Tryz.prog 243 := ⟨_, Tryz.func243, rfl, by kernel_rfl⟩
theorem call244 : qn Tryz.prog 244 := ⟨_, Tryz.func244, rfl, by kernel_rfl⟩
theorem call245 : qn Tryz.prog 245 := ⟨_, Tryz.func245, rfl, by kernel_rfl⟩
theorem call246 : qn Tryz.prog 246 := ⟨_, Tryz.func246, rfl, by kernel_rfl⟩
theorem call247 : qn Tryz.prog 247 := ⟨_, Tryz.func247, rfl, by kernel_rfl⟩
theorem call248 : qn Tryz.prog 248 := ⟨_, Tryz.func248, rfl, by kernel_rfl⟩
theorem call254 : qn Tryz.prog 254 := ⟨_, Tryz.func254, rfl, by kernel_rfl⟩
theorem call255 : qn Tryz.prog 255 := ⟨_, Tryz.func255, rfl, by kernel_rfl⟩
theorem call256 : qn Tryz.prog 256 := ⟨_, Tryz.func256, rfl, by kernel_rfl⟩
theorem call257 : qn Tryz.prog 257 := ⟨_, Tryz.func257, rfl, by kernel_rfl⟩
theorem call258 : qn Tryz.prog 258 := ⟨_, Tryz.func258, rfl, by kernel_rfl⟩
theorem call259 : qn Tryz.prog 259 := ⟨_, Tryz.func259, rfl, by kernel_rfl⟩
theorem call260 : qn Tryz.prog 260 := ⟨_, Tryz.func260, rfl, by kernel_rfl⟩
theorem call264 : qn Tryz.prog 264 := ⟨_, Tryz.func264, rfl, by kernel_rfl⟩
theorem call265 : qn Tryz.prog 265 := ⟨_, Tryz.func265, rfl, by kernel_rfl⟩

def qbf (_ : Nat) (a : (List Int)) (left : Int) : Option Int :=
 bif decide ((W64 (left - (a.length : Int))) < 0) then
  some (-1)
 else
  some (W64 (left - (a.length : Int)))

theorem qa9 {n : Nat} {w : World} {a : (List Int)} {left : Int} {cs1 : List Value} (ha1 : GoT.R w (old w) a cs1) {r : Int} (hF : qbf n a left = some r) : RetV Tryz.prog 76 [GoT.v (List Int) cs1, .int .i64 left] w r := by
 obtain ⟨p1, k1, rfl, s1⟩ := ha1
 refine qf Tryz.func76 rfl (m := 12) rfl rfl (fun h => ?_)
 rw [qbf] at hF
 refine zSR (zp1 rfl (zNSR (zp5 rfl (qb ?_))))
 refine zSSR (zp2 rfl (qb ?_))
 refine qp rfl hF ?_ ?_ <;> intro hF
 ·exact zSR (zp1 rfl (qb (qar qc h hF ⟨rfl, trivial⟩)))
 exact zKSR (zp2 rfl (qb (qar qc h hF ⟨rfl, trivial⟩)))

def qgX (_ : Nat) (a : qas) (left : Int) : Option Int :=
 bif decide ((W64 (left - (a.Name.size : Int))) < 0) then
  some (-1)
 else
  some (W64 (left - (a.Name.size : Int)))

theorem qme {n : Nat} {w : World} {a : qas} {left : Int} {cs1 : List Value} (ha1 : GoT.R w (old w) a cs1) {r : Int} (hF : qgX n a left = some r) : RetV Tryz.prog 196 [GoT.v qas cs1, .int .i64 left] w r := by
 obtain rfl := qbx ha1
 refine qf Tryz.func196 rfl (m := 13) rfl rfl (fun h => ?_)
 rw [qgX] at hF
 refine zSR (qS h rfl rfl ?_)
 intro w1 bb1 h
 refine zp1 rfl (zNSR (zp2 rfl (zl 0 0 h rfl (zp3 rfl (zNS ?_)))))
 refine zSR (zp2 rfl (qb ?_))
 refine qp rfl hF ?_ ?_ <;> intro hF
 ·exact zSR (zp1 rfl (qb (qar qc h hF ⟨rfl, trivial⟩)))
 exact zKSR (zp2 rfl (qb (qar qc h hF ⟨rfl, trivial⟩)))

def qdj (a : (List qas)) : Nat → Int → Int → Option (Flow Int (Int × Int))
 | 0, _, _ => none
 | n + 1, i1, i2 =>
  bif decide (i2 < (a.length : Int)) then
   (idx a i2).bind fun y1 =>
   (qgX n y1 i1).bind fun r1 =>
   bif decide (r1 < 0) then
    some (.ret (-1))
   else
    qdj a n r1 (W64 (i2 + 1))
  else
   some (.nxt (i1, i2))

def qh8 (n : Nat) (a : (List qas)) (left : Int) : Option Int :=
 bif decide ((W64 (left - (a.length : Int))) < 0) then
  some (-1)
 else
  (qdj a n (W64 (left - (a.length : Int))) 0).bind fun o => match o with
  | .ret r => some r
  | .nxt (i1, _) =>
   some i1

theorem qlo {n : Nat} {w : World} {a : (List qas)} {left : Int} {cs1 : List Value} (ha1 : GoT.R w (old w) a cs1) {r : Int} (hF : qh8 n a left = some r) : RetV Tryz.prog 169 [GoT.v (List qas) cs1, .int .i64 left] w r := by
 obtain ⟨p1, k1, rfl, s1⟩ := ha1
 refine qf Tryz.func169 rfl (m := 27) rfl rfl (fun h => ?_)
 rw [qh8] at hF
 refine zSR (zp1 rfl (zNSR (zp5 rfl (qb ?_))))
 refine zSSR (zp2 rfl (qb ?_))
 refine qp rfl hF ?_ ?_ <;> intro hF
 ·exact zSR (zp1 rfl (qb (qar qc h hF ⟨rfl, trivial⟩)))
 refine zKSSR (zp1 rfl (qb ?_))
 obtain ⟨o1, hF, hK1⟩ := qd hF
 refine qy (qW [(0, _), (1, _), (5, _)] ⟨rfl, rfl, rfl, trivial⟩ ?_)
 refine qI (fun m e w' => ∃ (i1 : Int) (i2 : Int), qdj a m i1 i2 = some o1 ∧ e = [(0, .slice p1 a.length k1), (1, .int .i64 i1), (5, .int .i64 i2)] ∧ SH w w' []) n ⟨_, _, hF, rfl, h⟩ ?_
 rintro m1 e1 w1 ⟨i1, i2, hF, rfl, h⟩
 rcases m1 with _ | m1
 ·rw [qdj] at hF
  cases hF
 rw [qdj] at hF
 refine zSSR (zp4 rfl (qb ?_))
 refine qp rfl hF ?_ ?_ <;> intro hF
 ·refine zKSBSR (zp2 rfl ?_)
  obtain ⟨y1, hy1, hF⟩ := qd hF
  have he1 := qg hy1
  obtain ⟨b1, o_1, q1, cs2, hp1, hq1, -, hr1, hc3⟩ := s1.at hy1
  obtain rfl := qbx hr1
  refine zxe hp1 hq1 he1 rfl (zc 0 (hc3.below h.below) rfl (zp1 rfl ?_))
  obtain ⟨r1, hr2, hF⟩ := qd hF
  refine qP r1 h call196 (qme (qhj y1) hr2) rfl rfl rfl rfl ?_
  intro w2 h
  refine zp1 rfl (zNSR (zp2 rfl (qb ?_)))
  refine qp rfl hF ?_ ?_ <;> intro hF
  ·refine zSR (zp1 rfl (qb ?_))
   obtain rfl := qh hF; replace hF := hK1
   exact qar qc h hF ⟨rfl, trivial⟩
  exact zKER (zp3 rfl (qb (qz m1 [(0, _), (1, _), (5, _)] (Nat.lt_succ_self m1) ⟨rfl, rfl, rfl, trivial⟩ ⟨_, _, hF, rfl, h⟩)))
 refine qG rfl ?_
 obtain rfl := qh hF; replace hF := hK1
 exact zSR (zp2 rfl (qb (qar qc h hF ⟨rfl, trivial⟩)))

def qfC (n : Nat) (a : qH) (left : Int) : Option Int :=
 (qbf n a.Slews left).bind fun r1 =>
 bif decide (r1 < 0) then
  some (-1)
 else
  (qbf n a.Loads r1).bind fun r2 =>
  bif decide (r2 < 0) then
   some (-1)
  else
   (qbf n a.Values r2).bind fun r3 =>
   bif decide (r3 < 0) then
    some (-1)
   else
    some r3

theorem qkY {n : Nat} {w : World} {a : qH} {left : Int} {cs1 : List Value} (ha1 : GoT.R w (old w) a cs1) {r : Int} (hF : qfC n a left = some r) : RetV Tryz.prog 224 [GoT.v qH cs1, .int .i64 left] w r := by
 obtain ⟨p1, k1, p2, k2, p3, k3, rfl, s1, s2, s3⟩ := qbB ha1
 refine qf Tryz.func224 rfl (m := 24) rfl rfl (fun h => ?_)
 rw [qfC] at hF
 refine zSR (qS h rfl rfl ?_)
 intro w1 bb1 h
 refine zp1 rfl (zNSR (zp1 rfl (zl 0 0 h rfl (zp1 rfl ?_))))
 obtain ⟨r1, hr1, hF⟩ := qd hF
 refine qP r1 h call76 (qa9 ⟨_, _, rfl, (h.oldS s1)⟩ hr1) rfl rfl rfl rfl ?_
 intro w2 h
 refine zp1 rfl (zNSSR (zp2 rfl (qb ?_)))
 refine qp rfl hF ?_ ?_ <;> intro hF
 ·exact zSR (zp1 rfl (qb (qar qc h hF ⟨rfl, trivial⟩)))
 refine zKSR (zp1 rfl (zl 0 1 h rfl (zp1 rfl ?_)))
 obtain ⟨r2, hr2, hF⟩ := qd hF
 refine qP r2 h call76 (qa9 ⟨_, _, rfl, (h.oldS s2)⟩ hr2) rfl rfl rfl rfl ?_
 intro w3 h
 refine zp1 rfl (zNSSR (zp2 rfl (qb ?_)))
 refine qp rfl hF ?_ ?_ <;> intro hF
 ·exact zSR (zp1 rfl (qb (qar qc h hF ⟨rfl, trivial⟩)))
 refine zKSR (zp1 rfl (zl 0 2 h rfl (zp1 rfl ?_)))
 obtain ⟨r3, hr3, hF⟩ := qd hF
 refine qP r3 h call76 (qa9 ⟨_, _, rfl, (h.oldS s3)⟩ hr3) rfl rfl rfl rfl ?_
 intro w4 h
 refine zp1 rfl (zNSSR (zp2 rfl (qb ?_)))
 refine qp rfl hF ?_ ?_ <;> intro hF
 ·exact zSR (zp1 rfl (qb (qar qc h hF ⟨rfl, trivial⟩)))
 exact zKSR (zp2 rfl (qb (qar qc h hF ⟨rfl, trivial⟩)))

def qco (a : (List qH)) : Nat → Int → Int → Option (Flow Int (Int × Int))
 | 0, _, _ => none
 | n + 1, i1, i2 =>
  bif decide (i2 < (a.length : Int)) then
   (idx a i2).bind fun y1 =>
   (qfC n y1 i1).bind fun r1 =>
   bif decide (r1 < 0) then
    some (.ret (-1))
   else
    qco a n r1 (W64 (i2 + 1))
  else
   some (.nxt (i1, i2))

def qfS (n : Nat) (a : (List qH)) (left : Int) : Option Int :=
 bif decide ((W64 (left - (a.length : Int))) < 0) then
  some (-1)
 else
  (qco a n (W64 (left - (a.length : Int))) 0).bind fun o => match o with
  | .ret r => some r
  | .nxt (i1, _) =>
   some i1

theorem qiv {n : Nat} {w : World} {a : (List qH)} {left : Int} {cs1 : List Value} (ha1 : GoT.R w (old w) a cs1) {r : Int} (hF : qfS n a left = some r) : RetV Tryz.prog 212 [GoT.v (List qH) cs1, .int .i64 left] w r := by
 obtain ⟨p1, k1, rfl, s1⟩ := ha1
 refine qf Tryz.func212 rfl (m := 27) rfl rfl (fun h => ?_)
 rw [qfS] at hF
 refine zSR (zp1 rfl (zNSR (zp5 rfl (qb ?_))))
 refine zSSR (zp2 rfl (qb ?_))
 refine qp rfl hF ?_ ?_ <;> intro hF
 ·exact zSR (zp1 rfl (qb (qar qc h hF ⟨rfl, trivial⟩)))
 refine zKSSR (zp1 rfl (qb ?_))
 obtain ⟨o1, hF, hK1⟩ := qd hF
 refine qy (qW [(0, _), (1, _), (5, _)] ⟨rfl, rfl, rfl, trivial⟩ ?_)
 refine qI (fun m e w' => ∃ (i1 : Int) (i2 : Int), qco a m i1 i2 = some o1 ∧ e = [(0, .slice p1 a.length k1), (1, .int .i64 i1), (5, .int .i64 i2)] ∧ SH w w' []) n ⟨_, _, hF, rfl, h⟩ ?_
 rintro m1 e1 w1 ⟨i1, i2, hF, rfl, h⟩
 rcases m1 with _ | m1
 ·rw [qco] at hF
  cases hF
 rw [qco] at hF
 refine zSSR (zp4 rfl (qb ?_))
 refine qp rfl hF ?_ ?_ <;> intro hF
 ·refine zKSBSR (zp2 rfl ?_)
  obtain ⟨y1, hy1, hF⟩ := qd hF
  have he1 := qg hy1
  obtain ⟨b1, o_1, q1, cs2, hp1, hq1, -, hr1, hc3⟩ := s1.at hy1
  obtain ⟨p2, k2, p3, k3, p4, k4, rfl, s2, s3, s4⟩ := qbB hr1
  refine zxe hp1 hq1 he1 rfl (zc 0 (hc3.below h.below) rfl (zp1 rfl ?_))
  obtain ⟨r1, hr2, hF⟩ := qd hF
  refine qP r1 h call224 (qkY (qg6 y1 (h.oldS s2) (h.oldS s3) (h.oldS s4)) hr2) rfl rfl rfl rfl ?_
  intro w2 h
  refine zp1 rfl (zNSR (zp2 rfl (qb ?_)))
  refine qp rfl hF ?_ ?_ <;> intro hF
  ·refine zSR (zp1 rfl (qb ?_))
   obtain rfl := qh hF; replace hF := hK1
   exact qar qc h hF ⟨rfl, trivial⟩
  exact zKER (zp3 rfl (qb (qz m1 [(0, _), (1, _), (5, _)] (Nat.lt_succ_self m1) ⟨rfl, rfl, rfl, trivial⟩ ⟨_, _, hF, rfl, h⟩)))
 refine qG rfl ?_
 obtain rfl := qh hF; replace hF := hK1
 exact zSR (zp2 rfl (qb (qar qc h hF ⟨rfl, trivial⟩)))

def qgZ (n : Nat) (a : qag) (left : Int) : Option Int :=
 (qfS n a.Delay left).bind fun r1 =>
 bif decide (r1 < 0) then
  some (-1)
 else
  (qfS n a.Slew r1).bind fun r2 =>
  bif decide (r2 < 0) then
   some (-1)
  else
   some r2

theorem qmc {n : Nat} {w : World} {a : qag} {left : Int} {cs1 : List Value} (ha1 : GoT.R w (old w) a cs1) {r : Int} (hF : qgZ n a left = some r) : RetV Tryz.prog 197 [GoT.v qag cs1, .int .i64 left] w r := by
 obtain ⟨p1, k1, p2, k2, rfl, s1, s2⟩ := qaV ha1
 refine qf Tryz.func197 rfl (m := 18) rfl rfl (fun h => ?_)
 rw [qgZ] at hF
 refine zSR (qS h rfl rfl ?_)
 intro w1 bb1 h
 refine zp1 rfl (zNSR (zp1 rfl (zl 0 4 h rfl (zp1 rfl ?_))))
 obtain ⟨r1, hr1, hF⟩ := qd hF
 refine qP r1 h call212 (qiv ⟨_, _, rfl, (h.oldS s1)⟩ hr1) rfl rfl rfl rfl ?_
 intro w2 h
 refine zp1 rfl (zNSSR (zp2 rfl (qb ?_)))
 refine qp rfl hF ?_ ?_ <;> intro hF
 ·exact zSR (zp1 rfl (qb (qar qc h hF ⟨rfl, trivial⟩)))
 refine zKSR (zp1 rfl (zl 0 5 h rfl (zp1 rfl ?_)))
 obtain ⟨r2, hr2, hF⟩ := qd hF
 refine qP r2 h call212 (qiv ⟨_, _, rfl, (h.oldS s2)⟩ hr2) rfl rfl rfl rfl ?_
 intro w3 h
 refine zp1 rfl (zNSSR (zp2 rfl (qb ?_)))
 refine qp rfl hF ?_ ?_ <;> intro hF
 ·exact zSR (zp1 rfl (qb (qar qc h hF ⟨rfl, trivial⟩)))
 exact zKSR (zp2 rfl (qb (qar qc h hF ⟨rfl, trivial⟩)))

def qdh (a : (List qag)) : Nat → Int → Int → Option (Flow Int (Int × Int))
 | 0, _, _ => none
 | n + 1, i1, i2 =>
  bif decide (i2 < (a.length : Int)) then
   (idx a i2).bind fun y1 =>
   (qgZ n y1 i1).bind fun r1 =>
   bif decide (r1 < 0) then
    some (.ret (-1))
   else
    qdh a n r1 (W64 (i2 + 1))
  else
   some (.nxt (i1, i2))

def qia (n : Nat) (a : (List qag)) (left : Int) : Option Int :=
 bif decide ((W64 (left - (a.length : Int))) < 0) then
  some (-1)
 else
  (qdh a n (W64 (left - (a.length : Int))) 0).bind fun o => match o with
  | .ret r => some r
  | .nxt (i1, _) =>
   some i1

theorem qlO {n : Nat} {w : World} {a : (List qag)} {left : Int} {cs1 : List Value} (ha1 : GoT.R w (old w) a cs1) {r : Int} (hF : qia n a left = some r) : RetV Tryz.prog 170 [GoT.v (List qag) cs1, .int .i64 left] w r := by
 obtain ⟨p1, k1, rfl, s1⟩ := ha1
 refine qf Tryz.func170 rfl (m := 27) rfl rfl (fun h => ?_)
 rw [qia] at hF
 refine zSR (zp1 rfl (zNSR (zp5 rfl (qb ?_))))
 refine zSSR (zp2 rfl (qb ?_))
 refine qp rfl hF ?_ ?_ <;> intro hF
 ·exact zSR (zp1 rfl (qb (qar qc h hF ⟨rfl, trivial⟩)))
 refine zKSSR (zp1 rfl (qb ?_))
 obtain ⟨o1, hF, hK1⟩ := qd hF
 refine qy (qW [(0, _), (1, _), (5, _)] ⟨rfl, rfl, rfl, trivial⟩ ?_)
 refine qI (fun m e w' => ∃ (i1 : Int) (i2 : Int), qdh a m i1 i2 = some o1 ∧ e = [(0, .slice p1 a.length k1), (1, .int .i64 i1), (5, .int .i64 i2)] ∧ SH w w' []) n ⟨_, _, hF, rfl, h⟩ ?_
 rintro m1 e1 w1 ⟨i1, i2, hF, rfl, h⟩
 rcases m1 with _ | m1
 ·rw [qdh] at hF
  cases hF
 rw [qdh] at hF
 refine zSSR (zp4 rfl (qb ?_))
 refine qp rfl hF ?_ ?_ <;> intro hF
 ·refine zKSBSR (zp2 rfl ?_)
  obtain ⟨y1, hy1, hF⟩ := qd hF
  have he1 := qg hy1
  obtain ⟨b1, o_1, q1, cs2, hp1, hq1, -, hr1, hc3⟩ := s1.at hy1
  obtain ⟨p2, k2, p3, k3, rfl, s2, s3⟩ := qaV hr1
  refine zxe hp1 hq1 he1 rfl (zc 0 (hc3.below h.below) rfl (zp1 rfl ?_))
  obtain ⟨r1, hr2, hF⟩ := qd hF
  refine qP r1 h call197 (qmc (qfY y1 (h.oldS s2) (h.oldS s3)) hr2) rfl rfl rfl rfl ?_
  intro w2 h
  refine zp1 rfl (zNSR (zp2 rfl (qb ?_)))
  refine qp rfl hF ?_ ?_ <;> intro hF
  ·refine zSR (zp1 rfl (qb ?_))
   obtain rfl := qh hF; replace hF := hK1
   exact qar qc h hF ⟨rfl, trivial⟩
  exact zKER (zp3 rfl (qb (qz m1 [(0, _), (1, _), (5, _)] (Nat.lt_succ_self m1) ⟨rfl, rfl, rfl, trivial⟩ ⟨_, _, hF, rfl, h⟩)))
 refine qG rfl ?_
 obtain rfl := qh hF; replace hF := hK1
 exact zSR (zp2 rfl (qb (qar qc h hF ⟨rfl, trivial⟩)))

def qgd (n : Nat) (a : qJ) (left : Int) : Option Int :=
 bif decide ((W64 (left - (a.Name.size : Int))) < 0) then
  some (-1)
 else
  (qh8 n a.Pins (W64 (left - (a.Name.size : Int)))).bind fun r1 =>
  bif decide (r1 < 0) then
   some (-1)
  else
   (qia n a.Arcs r1).bind fun r2 =>
   bif decide (r2 < 0) then
    some (-1)
   else
    (qbf n a.Truth r2).bind fun r3 =>
    bif decide (r3 < 0) then
     some (-1)
    else
     some r3

theorem qlk {n : Nat} {w : World} {a : qJ} {left : Int} {cs1 : List Value} (ha1 : GoT.R w (old w) a cs1) {r : Int} (hF : qgd n a left = some r) : RetV Tryz.prog 121 [GoT.v qJ cs1, .int .i64 left] w r := by
 obtain ⟨p1, k1, p2, k2, p3, k3, rfl, s1, s2, s3⟩ := qak ha1
 refine qf Tryz.func121 rfl (m := 31) rfl rfl (fun h => ?_)
 rw [qgd] at hF
 refine zSR (qS h rfl rfl ?_)
 intro w1 bb1 h
 refine zp1 rfl (zNSR (zp2 rfl (zl 0 0 h rfl (zp3 rfl (zNS ?_)))))
 refine zSR (zp2 rfl (qb ?_))
 refine qp rfl hF ?_ ?_ <;> intro hF
 ·exact zSR (zp1 rfl (qb (qar qc h hF ⟨rfl, trivial⟩)))
 refine zKSR (zp1 rfl (zl 0 2 h rfl (zp1 rfl ?_)))
 obtain ⟨r1, hr1, hF⟩ := qd hF
 refine qP r1 h call169 (qlo ⟨_, _, rfl, (h.oldS s1)⟩ hr1) rfl rfl rfl rfl ?_
 intro w2 h
 refine zp1 rfl (zNSSR (zp2 rfl (qb ?_)))
 refine qp rfl hF ?_ ?_ <;> intro hF
 ·exact zSR (zp1 rfl (qb (qar qc h hF ⟨rfl, trivial⟩)))
 refine zKSR (zp1 rfl (zl 0 3 h rfl (zp1 rfl ?_)))
 obtain ⟨r2, hr2, hF⟩ := qd hF
 refine qP r2 h call170 (qlO ⟨_, _, rfl, (h.oldS s2)⟩ hr2) rfl rfl rfl rfl ?_
 intro w3 h
 refine zp1 rfl (zNSSR (zp2 rfl (qb ?_)))
 refine qp rfl hF ?_ ?_ <;> intro hF
 ·exact zSR (zp1 rfl (qb (qar qc h hF ⟨rfl, trivial⟩)))
 refine zKSR (zp1 rfl (zl 0 4 h rfl (zp1 rfl ?_)))
 obtain ⟨r3, hr3, hF⟩ := qd hF
 refine qP r3 h call76 (qa9 ⟨_, _, rfl, (h.oldS s3)⟩ hr3) rfl rfl rfl rfl ?_
 intro w4 h
 refine zp1 rfl (zNSSR (zp2 rfl (qb ?_)))
 refine qp rfl hF ?_ ?_ <;> intro hF
 ·exact zSR (zp1 rfl (qb (qar qc h hF ⟨rfl, trivial⟩)))
 exact zKSR (zp2 rfl (qb (qar qc h hF ⟨rfl, trivial⟩)))

def qcR (a : (List qJ)) : Nat → Int → Int → Option (Flow Int (Int × Int))
 | 0, _, _ => none
 | n + 1, i1, i2 =>
  bif decide (i2 < (a.length : Int)) then
   (idx a i2).bind fun y1 =>
   (qgd n y1 i1).bind fun r1 =>
   bif decide (r1 < 0) then
    some (.ret (-1))
   else
    qcR a n r1 (W64 (i2 + 1))
  else
   some (.nxt (i1, i2))

def qhE (n : Nat) (a : (List qJ)) (left : Int) : Option Int :=
 bif decide ((W64 (left - (a.length : Int))) < 0) then
  some (-1)
 else
  (qcR a n (W64 (left - (a.length : Int))) 0).bind fun o => match o with
  | .ret r => some r
  | .nxt (i1, _) =>
   some i1

theorem qk1 {n : Nat} {w : World} {a : (List qJ)} {left : Int} {cs1 : List Value} (ha1 : GoT.R w (old w) a cs1) {r : Int} (hF : qhE n a left = some r) : RetV Tryz.prog 71 [GoT.v (List qJ) cs1, .int .i64 left] w r := by
 obtain ⟨p1, k1, rfl, s1⟩ := ha1
 refine qf Tryz.func71 rfl (m := 27) rfl rfl (fun h => ?_)
 rw [qhE] at hF
 refine zSR (zp1 rfl (zNSR (zp5 rfl (qb ?_))))
 refine zSSR (zp2 rfl (qb ?_))
 refine qp rfl hF ?_ ?_ <;> intro hF
 ·exact zSR (zp1 rfl (qb (qar qc h hF ⟨rfl, trivial⟩)))
 refine zKSSR (zp1 rfl (qb ?_))
 obtain ⟨o1, hF, hK1⟩ := qd hF
 refine qy (qW [(0, _), (1, _), (5, _)] ⟨rfl, rfl, rfl, trivial⟩ ?_)
 refine qI (fun m e w' => ∃ (i1 : Int) (i2 : Int), qcR a m i1 i2 = some o1 ∧ e = [(0, .slice p1 a.length k1), (1, .int .i64 i1), (5, .int .i64 i2)] ∧ SH w w' []) n ⟨_, _, hF, rfl, h⟩ ?_
 rintro m1 e1 w1 ⟨i1, i2, hF, rfl, h⟩
 rcases m1 with _ | m1
 ·rw [qcR] at hF
  cases hF
 rw [qcR] at hF
 refine zSSR (zp4 rfl (qb ?_))
 refine qp rfl hF ?_ ?_ <;> intro hF
 ·refine zKSBSR (zp2 rfl ?_)
  obtain ⟨y1, hy1, hF⟩ := qd hF
  have he1 := qg hy1
  obtain ⟨b1, o_1, q1, cs2, hp1, hq1, -, hr1, hc3⟩ := s1.at hy1
  obtain ⟨p2, k2, p3, k3, p4, k4, rfl, s2, s3, s4⟩ := qak hr1
  refine zxe hp1 hq1 he1 rfl (zc 0 (hc3.below h.below) rfl (zp1 rfl ?_))
  obtain ⟨r1, hr2, hF⟩ := qd hF
  refine qP r1 h call121 (qlk (qhH y1 (h.oldS s2) (h.oldS s3) (h.oldS s4)) hr2) rfl rfl rfl rfl ?_
  intro w2 h
  refine zp1 rfl (zNSR (zp2 rfl (qb ?_)))
  refine qp rfl hF ?_ ?_ <;> intro hF
  ·refine zSR (zp1 rfl (qb ?_))
   obtain rfl := qh hF; replace hF := hK1
   exact qar qc h hF ⟨rfl, trivial⟩
  exact zKER (zp3 rfl (qb (qz m1 [(0, _), (1, _), (5, _)] (Nat.lt_succ_self m1) ⟨rfl, rfl, rfl, trivial⟩ ⟨_, _, hF, rfl, h⟩)))
 refine qG rfl ?_
 obtain rfl := qh hF; replace hF := hK1
 exact zSR (zp2 rfl (qb (qar qc h hF ⟨rfl, trivial⟩)))

def qfi (n : Nat) (a : qA) (left : Int) : Option Int :=
 (qhE n a.Cells left).bind fun r1 =>
 bif decide (r1 < 0) then
  some (-1)
 else
  some r1

theorem qj3 {n : Nat} {w : World} {a : qA} {left : Int} {cs1 : List Value} (ha1 : GoT.R w (old w) a cs1) {r : Int} (hF : qfi n a left = some r) : RetV Tryz.prog 37 [GoT.v qA cs1, .int .i64 left] w r := by
 obtain ⟨p1, k1, rfl, s1⟩ := qbR ha1
 refine qf Tryz.func37 rfl (m := 12) rfl rfl (fun h => ?_)
 rw [qfi] at hF
 refine zSR (qS h rfl rfl ?_)
 intro w1 bb1 h
 refine zp1 rfl (zNSR (zp1 rfl (zl 0 0 h rfl (zp1 rfl ?_))))
 obtain ⟨r1, hr1, hF⟩ := qd hF
 refine qP r1 h call71 (qk1 ⟨_, _, rfl, (h.oldS s1)⟩ hr1) rfl rfl rfl rfl ?_
 intro w2 h
 refine zp1 rfl (zNSSR (zp2 rfl (qb ?_)))
 refine qp rfl hF ?_ ?_ <;> intro hF
 ·exact zSR (zp1 rfl (qb (qar qc h hF ⟨rfl, trivial⟩)))
 exact zKSR (zp2 rfl (qb (qar qc h hF ⟨rfl, trivial⟩)))

def qea (n : Nat) (a : qq) (left : Int) : Option Int :=
 bif decide ((W64 (left - (a.Name.size : Int))) < 0) then
  some (-1)
 else
  (qbf n a.Nets (W64 (left - (a.Name.size : Int)))).bind fun r1 =>
  bif decide (r1 < 0) then
   some (-1)
  else
   some r1

theorem qjX {n : Nat} {w : World} {a : qq} {left : Int} {cs1 : List Value} (ha1 : GoT.R w (old w) a cs1) {r : Int} (hF : qea n a left = some r) : RetV Tryz.prog 122 [GoT.v qq cs1, .int .i64 left] w r := by
 obtain ⟨p1, k1, rfl, s1⟩ := qaf ha1
 refine qf Tryz.func122 rfl (m := 19) rfl rfl (fun h => ?_)
 rw [qea] at hF
 refine zSR (qS h rfl rfl ?_)
 intro w1 bb1 h
 refine zp1 rfl (zNSR (zp2 rfl (zl 0 0 h rfl (zp3 rfl (zNS ?_)))))
 refine zSR (zp2 rfl (qb ?_))
 refine qp rfl hF ?_ ?_ <;> intro hF
 ·exact zSR (zp1 rfl (qb (qar qc h hF ⟨rfl, trivial⟩)))
 refine zKSR (zp1 rfl (zl 0 2 h rfl (zp1 rfl ?_)))
 obtain ⟨r1, hr1, hF⟩ := qd hF
 refine qP r1 h call76 (qa9 ⟨_, _, rfl, (h.oldS s1)⟩ hr1) rfl rfl rfl rfl ?_
 intro w2 h
 refine zp1 rfl (zNSSR (zp2 rfl (qb ?_)))
 refine qp rfl hF ?_ ?_ <;> intro hF
 ·exact zSR (zp1 rfl (qb (qar qc h hF ⟨rfl, trivial⟩)))
 exact zKSR (zp2 rfl (qb (qar qc h hF ⟨rfl, trivial⟩)))

def qbC (a : (List qq)) : Nat → Int → Int → Option (Flow Int (Int × Int))
 | 0, _, _ => none
 | n + 1, i1, i2 =>
  bif decide (i2 < (a.length : Int)) then
   (idx a i2).bind fun y1 =>
   (qea n y1 i1).bind fun r1 =>
   bif decide (r1 < 0) then
    some (.ret (-1))
   else
    qbC a n r1 (W64 (i2 + 1))
  else
   some (.nxt (i1, i2))

def qfB (n : Nat) (a : (List qq)) (left : Int) : Option Int :=
 bif decide ((W64 (left - (a.length : Int))) < 0) then
  some (-1)
 else
  (qbC a n (W64 (left - (a.length : Int))) 0).bind fun o => match o with
  | .ret r => some r
  | .nxt (i1, _) =>
   some i1

theorem qjB {n : Nat} {w : World} {a : (List qq)} {left : Int} {cs1 : List Value} (ha1 : GoT.R w (old w) a cs1) {r : Int} (hF : qfB n a left = some r) : RetV Tryz.prog 72 [GoT.v (List qq) cs1, .int .i64 left] w r := by
 obtain ⟨p1, k1, rfl, s1⟩ := ha1
 refine qf Tryz.func72 rfl (m := 27) rfl rfl (fun h => ?_)
 rw [qfB] at hF
 refine zSR (zp1 rfl (zNSR (zp5 rfl (qb ?_))))
 refine zSSR (zp2 rfl (qb ?_))
 refine qp rfl hF ?_ ?_ <;> intro hF
 ·exact zSR (zp1 rfl (qb (qar qc h hF ⟨rfl, trivial⟩)))
 refine zKSSR (zp1 rfl (qb ?_))
 obtain ⟨o1, hF, hK1⟩ := qd hF
 refine qy (qW [(0, _), (1, _), (5, _)] ⟨rfl, rfl, rfl, trivial⟩ ?_)
 refine qI (fun m e w' => ∃ (i1 : Int) (i2 : Int), qbC a m i1 i2 = some o1 ∧ e = [(0, .slice p1 a.length k1), (1, .int .i64 i1), (5, .int .i64 i2)] ∧ SH w w' []) n ⟨_, _, hF, rfl, h⟩ ?_
 rintro m1 e1 w1 ⟨i1, i2, hF, rfl, h⟩
 rcases m1 with _ | m1
 ·rw [qbC] at hF
  cases hF
 rw [qbC] at hF
 refine zSSR (zp4 rfl (qb ?_))
 refine qp rfl hF ?_ ?_ <;> intro hF
 ·refine zKSBSR (zp2 rfl ?_)
  obtain ⟨y1, hy1, hF⟩ := qd hF
  have he1 := qg hy1
  obtain ⟨b1, o_1, q1, cs2, hp1, hq1, -, hr1, hc3⟩ := s1.at hy1
  obtain ⟨p2, k2, rfl, s2⟩ := qaf hr1
  refine zxe hp1 hq1 he1 rfl (zc 0 (hc3.below h.below) rfl (zp1 rfl ?_))
  obtain ⟨r1, hr2, hF⟩ := qd hF
  refine qP r1 h call122 (qjX (qe6 y1 (h.oldS s2)) hr2) rfl rfl rfl rfl ?_
  intro w2 h
  refine zp1 rfl (zNSR (zp2 rfl (qb ?_)))
  refine qp rfl hF ?_ ?_ <;> intro hF
  ·refine zSR (zp1 rfl (qb ?_))
   obtain rfl := qh hF; replace hF := hK1
   exact qar qc h hF ⟨rfl, trivial⟩
  exact zKER (zp3 rfl (qb (qz m1 [(0, _), (1, _), (5, _)] (Nat.lt_succ_self m1) ⟨rfl, rfl, rfl, trivial⟩ ⟨_, _, hF, rfl, h⟩)))
 refine qG rfl ?_
 obtain rfl := qh hF; replace hF := hK1
 exact zSR (zp2 rfl (qb (qar qc h hF ⟨rfl, trivial⟩)))

def qb7 (a : (List ByteArray)) : Nat → Int → Int → Option (Flow Int (Int × Int))
 | 0, _, _ => none
 | n + 1, i1, i2 =>
  bif decide (i2 < (a.length : Int)) then
   (idx a i2).bind fun y1 =>
   bif decide ((W64 (i1 - (y1.size : Int))) < 0) then
    some (.ret (-1))
   else
    qb7 a n (W64 (i1 - (y1.size : Int))) (W64 (i2 + 1))
  else
   some (.nxt (i1, i2))

def qgE (n : Nat) (a : (List ByteArray)) (left : Int) : Option Int :=
 bif decide ((W64 (left - (a.length : Int))) < 0) then
  some (-1)
 else
  (qb7 a n (W64 (left - (a.length : Int))) 0).bind fun o => match o with
  | .ret r => some r
  | .nxt (i1, _) =>
   some i1

theorem qkg {n : Nat} {w : World} {a : (List ByteArray)} {left : Int} {cs1 : List Value} (ha1 : GoT.R w (old w) a cs1) {r : Int} (hF : qgE n a left = some r) : RetV Tryz.prog 73 [GoT.v (List ByteArray) cs1, .int .i64 left] w r := by
 obtain ⟨p1, k1, rfl, s1⟩ := ha1
 refine qf Tryz.func73 rfl (m := 28) rfl rfl (fun h => ?_)
 rw [qgE] at hF
 refine zSR (zp1 rfl (zNSR (zp5 rfl (qb ?_))))
 refine zSSR (zp2 rfl (qb ?_))
 refine qp rfl hF ?_ ?_ <;> intro hF
 ·exact zSR (zp1 rfl (qb (qar qc h hF ⟨rfl, trivial⟩)))
 refine zKSSR (zp1 rfl (qb ?_))
 obtain ⟨o1, hF, hK1⟩ := qd hF
 refine qy (qW [(0, _), (1, _), (5, _)] ⟨rfl, rfl, rfl, trivial⟩ ?_)
 refine qI (fun m e w' => ∃ (i1 : Int) (i2 : Int), qb7 a m i1 i2 = some o1 ∧ e = [(0, .slice p1 a.length k1), (1, .int .i64 i1), (5, .int .i64 i2)] ∧ SH w w' []) n ⟨_, _, hF, rfl, h⟩ ?_
 rintro m1 e1 w1 ⟨i1, i2, hF, rfl, h⟩
 rcases m1 with _ | m1
 ·rw [qb7] at hF
  cases hF
 rw [qb7] at hF
 refine zSSR (zp4 rfl (qb ?_))
 refine qp rfl hF ?_ ?_ <;> intro hF
 ·refine zKSBSR (zp3 rfl ?_)
  obtain ⟨y1, hy1, hF⟩ := qd hF
  have he1 := qg hy1
  obtain ⟨b1, o_1, q1, cs2, hp1, hq1, -, hr1, hc3⟩ := s1.at hy1
  obtain rfl := hr1
  refine zxe hp1 hq1 he1 rfl (zc 0 (hc3.below h.below) rfl (zp3 rfl (zNSR (zp2 rfl (qb ?_)))))
  refine qp rfl hF ?_ ?_ <;> intro hF
  ·refine zSR (zp1 rfl (qb ?_))
   obtain rfl := qh hF; replace hF := hK1
   exact qar qc h hF ⟨rfl, trivial⟩
  exact zKER (zp3 rfl (qb (qz m1 [(0, _), (1, _), (5, _)] (Nat.lt_succ_self m1) ⟨rfl, rfl, rfl, trivial⟩ ⟨_, _, hF, rfl, h⟩)))
 refine qG rfl ?_
 obtain rfl := qh hF; replace hF := hK1
 exact zSR (zp2 rfl (qb (qar qc h hF ⟨rfl, trivial⟩)))

def qgh (_ : Nat) (a : qaj) (left : Int) : Option Int :=
 bif decide ((W64 (left - (a.Name.size : Int))) < 0) then
  some (-1)
 else
  some (W64 (left - (a.Name.size : Int)))

theorem qlq {n : Nat} {w : World} {a : qaj} {left : Int} {cs1 : List Value} (ha1 : GoT.R w (old w) a cs1) {r : Int} (hF : qgh n a left = some r) : RetV Tryz.prog 123 [GoT.v qaj cs1, .int .i64 left] w r := by
 obtain rfl := qbk ha1
 refine qf Tryz.func123 rfl (m := 13) rfl rfl (fun h => ?_)
 rw [qgh] at hF
 refine zSR (qS h rfl rfl ?_)
 intro w1 bb1 h
 refine zp1 rfl (zNSR (zp2 rfl (zl 0 0 h rfl (zp3 rfl (zNS ?_)))))
 refine zSR (zp2 rfl (qb ?_))
 refine qp rfl hF ?_ ?_ <;> intro hF
 ·exact zSR (zp1 rfl (qb (qar qc h hF ⟨rfl, trivial⟩)))
 exact zKSR (zp2 rfl (qb (qar qc h hF ⟨rfl, trivial⟩)))

def qcW (a : (List qaj)) : Nat → Int → Int → Option (Flow Int (Int × Int))
 | 0, _, _ => none
 | n + 1, i1, i2 =>
  bif decide (i2 < (a.length : Int)) then
   (idx a i2).bind fun y1 =>
   (qgh n y1 i1).bind fun r1 =>
   bif decide (r1 < 0) then
    some (.ret (-1))
   else
    qcW a n r1 (W64 (i2 + 1))
  else
   some (.nxt (i1, i2))

def qhC (n : Nat) (a : (List qaj)) (left : Int) : Option Int :=
 bif decide ((W64 (left - (a.length : Int))) < 0) then
  some (-1)
 else
  (qcW a n (W64 (left - (a.length : Int))) 0).bind fun o => match o with
  | .ret r => some r
  | .nxt (i1, _) =>
   some i1

theorem qk4 {n : Nat} {w : World} {a : (List qaj)} {left : Int} {cs1 : List Value} (ha1 : GoT.R w (old w) a cs1) {r : Int} (hF : qhC n a left = some r) : RetV Tryz.prog 74 [GoT.v (List qaj) cs1, .int .i64 left] w r := by
 obtain ⟨p1, k1, rfl, s1⟩ := ha1
 refine qf Tryz.func74 rfl (m := 27) rfl rfl (fun h => ?_)
 rw [qhC] at hF
 refine zSR (zp1 rfl (zNSR (zp5 rfl (qb ?_))))
 refine zSSR (zp2 rfl (qb ?_))
 refine qp rfl hF ?_ ?_ <;> intro hF
 ·exact zSR (zp1 rfl (qb (qar qc h hF ⟨rfl, trivial⟩)))
 refine zKSSR (zp1 rfl (qb ?_))
 obtain ⟨o1, hF, hK1⟩ := qd hF
 refine qy (qW [(0, _), (1, _), (5, _)] ⟨rfl, rfl, rfl, trivial⟩ ?_)
 refine qI (fun m e w' => ∃ (i1 : Int) (i2 : Int), qcW a m i1 i2 = some o1 ∧ e = [(0, .slice p1 a.length k1), (1, .int .i64 i1), (5, .int .i64 i2)] ∧ SH w w' []) n ⟨_, _, hF, rfl, h⟩ ?_
 rintro m1 e1 w1 ⟨i1, i2, hF, rfl, h⟩
 rcases m1 with _ | m1
 ·rw [qcW] at hF
  cases hF
 rw [qcW] at hF
 refine zSSR (zp4 rfl (qb ?_))
 refine qp rfl hF ?_ ?_ <;> intro hF
 ·refine zKSBSR (zp2 rfl ?_)
  obtain ⟨y1, hy1, hF⟩ := qd hF
  have he1 := qg hy1
  obtain ⟨b1, o_1, q1, cs2, hp1, hq1, -, hr1, hc3⟩ := s1.at hy1
  obtain rfl := qbk hr1
  refine zxe hp1 hq1 he1 rfl (zc 0 (hc3.below h.below) rfl (zp1 rfl ?_))
  obtain ⟨r1, hr2, hF⟩ := qd hF
  refine qP r1 h call123 (qlq (qg8 y1) hr2) rfl rfl rfl rfl ?_
  intro w2 h
  refine zp1 rfl (zNSR (zp2 rfl (qb ?_)))
  refine qp rfl hF ?_ ?_ <;> intro hF
  ·refine zSR (zp1 rfl (qb ?_))
   obtain rfl := qh hF; replace hF := hK1
   exact qar qc h hF ⟨rfl, trivial⟩
  exact zKER (zp3 rfl (qb (qz m1 [(0, _), (1, _), (5, _)] (Nat.lt_succ_self m1) ⟨rfl, rfl, rfl, trivial⟩ ⟨_, _, hF, rfl, h⟩)))
 refine qG rfl ?_
 obtain rfl := qh hF; replace hF := hK1
 exact zSR (zp2 rfl (qb (qar qc h hF ⟨rfl, trivial⟩)))

def qfQ (n : Nat) (a : qk) (left : Int) : Option Int :=
 (qfB n a.Instances left).bind fun r1 =>
 bif decide (r1 < 0) then
  some (-1)
 else
  (qgE n a.Nets r1).bind fun r2 =>
  bif decide (r2 < 0) then
   some (-1)
  else
   (qhC n a.Ports r2).bind fun r3 =>
   bif decide (r3 < 0) then
    some (-1)
   else
    some r3

theorem qkr {n : Nat} {w : World} {a : qk} {left : Int} {cs1 : List Value} (ha1 : GoT.R w (old w) a cs1) {r : Int} (hF : qfQ n a left = some r) : RetV Tryz.prog 38 [GoT.v qk cs1, .int .i64 left] w r := by
 obtain ⟨p1, k1, p2, k2, p3, k3, rfl, s1, s2, s3⟩ := qaQ ha1
 refine qf Tryz.func38 rfl (m := 24) rfl rfl (fun h => ?_)
 rw [qfQ] at hF
 refine zSR (qS h rfl rfl ?_)
 intro w1 bb1 h
 refine zp1 rfl (zNSR (zp1 rfl (zl 0 0 h rfl (zp1 rfl ?_))))
 obtain ⟨r1, hr1, hF⟩ := qd hF
 refine qP r1 h call72 (qjB ⟨_, _, rfl, (h.oldS s1)⟩ hr1) rfl rfl rfl rfl ?_
 intro w2 h
 refine zp1 rfl (zNSSR (zp2 rfl (qb ?_)))
 refine qp rfl hF ?_ ?_ <;> intro hF
 ·exact zSR (zp1 rfl (qb (qar qc h hF ⟨rfl, trivial⟩)))
 refine zKSR (zp1 rfl (zl 0 1 h rfl (zp1 rfl ?_)))
 obtain ⟨r2, hr2, hF⟩ := qd hF
 refine qP r2 h call73 (qkg ⟨_, _, rfl, (h.oldS s2)⟩ hr2) rfl rfl rfl rfl ?_
 intro w3 h
 refine zp1 rfl (zNSSR (zp2 rfl (qb ?_)))
 refine qp rfl hF ?_ ?_ <;> intro hF
 ·exact zSR (zp1 rfl (qb (qar qc h hF ⟨rfl, trivial⟩)))
 refine zKSR (zp1 rfl (zl 0 2 h rfl (zp1 rfl ?_)))
 obtain ⟨r3, hr3, hF⟩ := qd hF
 refine qP r3 h call74 (qk4 ⟨_, _, rfl, (h.oldS s3)⟩ hr3) rfl rfl rfl rfl ?_
 intro w4 h
 refine zp1 rfl (zNSSR (zp2 rfl (qb ?_)))
 refine qp rfl hF ?_ ?_ <;> intro hF
 ·exact zSR (zp1 rfl (qb (qar qc h hF ⟨rfl, trivial⟩)))
 exact zKSR (zp2 rfl (qb (qar qc h hF ⟨rfl, trivial⟩)))

def qgi (n : Nat) (a : qac) (left : Int) : Option Int :=
 (qbf n a.Parent left).bind fun r1 =>
 bif decide (r1 < 0) then
  some (-1)
 else
  (qbf n a.Res r1).bind fun r2 =>
  bif decide (r2 < 0) then
   some (-1)
  else
   (qbf n a.Cap r2).bind fun r3 =>
   bif decide (r3 < 0) then
    some (-1)
   else
    (qbf n a.Sink r3).bind fun r4 =>
    bif decide (r4 < 0) then
     some (-1)
    else
     some r4

theorem qlm {n : Nat} {w : World} {a : qac} {left : Int} {cs1 : List Value} (ha1 : GoT.R w (old w) a cs1) {r : Int} (hF : qgi n a left = some r) : RetV Tryz.prog 75 [GoT.v qac cs1, .int .i64 left] w r := by
 obtain ⟨p1, k1, p2, k2, p3, k3, p4, k4, rfl, s1, s2, s3, s4⟩ := qbF ha1
 refine qf Tryz.func75 rfl (m := 30) rfl rfl (fun h => ?_)
 rw [qgi] at hF
 refine zSR (qS h rfl rfl ?_)
 intro w1 bb1 h
 refine zp1 rfl (zNSR (zp1 rfl (zl 0 0 h rfl (zp1 rfl ?_))))
 obtain ⟨r1, hr1, hF⟩ := qd hF
 refine qP r1 h call76 (qa9 ⟨_, _, rfl, (h.oldS s1)⟩ hr1) rfl rfl rfl rfl ?_
 intro w2 h
 refine zp1 rfl (zNSSR (zp2 rfl (qb ?_)))
 refine qp rfl hF ?_ ?_ <;> intro hF
 ·exact zSR (zp1 rfl (qb (qar qc h hF ⟨rfl, trivial⟩)))
 refine zKSR (zp1 rfl (zl 0 1 h rfl (zp1 rfl ?_)))
 obtain ⟨r2, hr2, hF⟩ := qd hF
 refine qP r2 h call76 (qa9 ⟨_, _, rfl, (h.oldS s2)⟩ hr2) rfl rfl rfl rfl ?_
 intro w3 h
 refine zp1 rfl (zNSSR (zp2 rfl (qb ?_)))
 refine qp rfl hF ?_ ?_ <;> intro hF
 ·exact zSR (zp1 rfl (qb (qar qc h hF ⟨rfl, trivial⟩)))
 refine zKSR (zp1 rfl (zl 0 2 h rfl (zp1 rfl ?_)))
 obtain ⟨r3, hr3, hF⟩ := qd hF
 refine qP r3 h call76 (qa9 ⟨_, _, rfl, (h.oldS s3)⟩ hr3) rfl rfl rfl rfl ?_
 intro w4 h
 refine zp1 rfl (zNSSR (zp2 rfl (qb ?_)))
 refine qp rfl hF ?_ ?_ <;> intro hF
 ·exact zSR (zp1 rfl (qb (qar qc h hF ⟨rfl, trivial⟩)))
 refine zKSR (zp1 rfl (zl 0 3 h rfl (zp1 rfl ?_)))
 obtain ⟨r4, hr4, hF⟩ := qd hF
 refine qP r4 h call76 (qa9 ⟨_, _, rfl, (h.oldS s4)⟩ hr4) rfl rfl rfl rfl ?_
 intro w5 h
 refine zp1 rfl (zNSSR (zp2 rfl (qb ?_)))
 refine qp rfl hF ?_ ?_ <;> intro hF
 ·exact zSR (zp1 rfl (qb (qar qc h hF ⟨rfl, trivial⟩)))
 exact zKSR (zp2 rfl (qb (qar qc h hF ⟨rfl, trivial⟩)))

def qcU (a : (List qac)) : Nat → Int → Int → Option (Flow Int (Int × Int))
 | 0, _, _ => none
 | n + 1, i1, i2 =>
  bif decide (i2 < (a.length : Int)) then
   (idx a i2).bind fun y1 =>
   (qgi n y1 i1).bind fun r1 =>
   bif decide (r1 < 0) then
    some (.ret (-1))
   else
    qcU a n r1 (W64 (i2 + 1))
  else
   some (.nxt (i1, i2))

def qhB (n : Nat) (a : (List qac)) (left : Int) : Option Int :=
 bif decide ((W64 (left - (a.length : Int))) < 0) then
  some (-1)
 else
  (qcU a n (W64 (left - (a.length : Int))) 0).bind fun o => match o with
  | .ret r => some r
  | .nxt (i1, _) =>
   some i1

theorem qkQ {n : Nat} {w : World} {a : (List qac)} {left : Int} {cs1 : List Value} (ha1 : GoT.R w (old w) a cs1) {r : Int} (hF : qhB n a left = some r) : RetV Tryz.prog 39 [GoT.v (List qac) cs1, .int .i64 left] w r := by
 obtain ⟨p1, k1, rfl, s1⟩ := ha1
 refine qf Tryz.func39 rfl (m := 27) rfl rfl (fun h => ?_)
 rw [qhB] at hF
 refine zSR (zp1 rfl (zNSR (zp5 rfl (qb ?_))))
 refine zSSR (zp2 rfl (qb ?_))
 refine qp rfl hF ?_ ?_ <;> intro hF
 ·exact zSR (zp1 rfl (qb (qar qc h hF ⟨rfl, trivial⟩)))
 refine zKSSR (zp1 rfl (qb ?_))
 obtain ⟨o1, hF, hK1⟩ := qd hF
 refine qy (qW [(0, _), (1, _), (5, _)] ⟨rfl, rfl, rfl, trivial⟩ ?_)
 refine qI (fun m e w' => ∃ (i1 : Int) (i2 : Int), qcU a m i1 i2 = some o1 ∧ e = [(0, .slice p1 a.length k1), (1, .int .i64 i1), (5, .int .i64 i2)] ∧ SH w w' []) n ⟨_, _, hF, rfl, h⟩ ?_
 rintro m1 e1 w1 ⟨i1, i2, hF, rfl, h⟩
 rcases m1 with _ | m1
 ·rw [qcU] at hF
  cases hF
 rw [qcU] at hF
 refine zSSR (zp4 rfl (qb ?_))
 refine qp rfl hF ?_ ?_ <;> intro hF
 ·refine zKSBSR (zp2 rfl ?_)
  obtain ⟨y1, hy1, hF⟩ := qd hF
  have he1 := qg hy1
  obtain ⟨b1, o_1, q1, cs2, hp1, hq1, -, hr1, hc3⟩ := s1.at hy1
  obtain ⟨p2, k2, p3, k3, p4, k4, p5, k5, rfl, s2, s3, s4, s5⟩ := qbF hr1
  refine zxe hp1 hq1 he1 rfl (zc 0 (hc3.below h.below) rfl (zp1 rfl ?_))
  obtain ⟨r1, hr2, hF⟩ := qd hF
  refine qP r1 h call75 (qlm (qhK y1 (h.oldS s2) (h.oldS s3) (h.oldS s4) (h.oldS s5)) hr2) rfl rfl rfl rfl ?_
  intro w2 h
  refine zp1 rfl (zNSR (zp2 rfl (qb ?_)))
  refine qp rfl hF ?_ ?_ <;> intro hF
  ·refine zSR (zp1 rfl (qb ?_))
   obtain rfl := qh hF; replace hF := hK1
   exact qar qc h hF ⟨rfl, trivial⟩
  exact zKER (zp3 rfl (qb (qz m1 [(0, _), (1, _), (5, _)] (Nat.lt_succ_self m1) ⟨rfl, rfl, rfl, trivial⟩ ⟨_, _, hF, rfl, h⟩)))
 refine qG rfl ?_
 obtain rfl := qh hF; replace hF := hK1
 exact zSR (zp2 rfl (qb (qar qc h hF ⟨rfl, trivial⟩)))

def qgD (n : Nat) (a : qD) (left : Int) : Option Int :=
 (qfi n (⟨a.Library.Cells⟩ : qA) left).bind fun r1 =>
 bif decide (r1 < 0) then
  some (-1)
 else
  (qfQ n (⟨a.Design.Instances, a.Design.Nets, a.Design.Ports⟩ : qk) r1).bind fun r2 =>
  bif decide (r2 < 0) then
   some (-1)
  else
   (qhB n a.Wires r2).bind fun r3 =>
   bif decide (r3 < 0) then
    some (-1)
   else
    some r3

theorem qkO {n : Nat} {w : World} {a : qD} {left : Int} {cs1 : List Value} (ha1 : GoT.R w (old w) a cs1) {r : Int} (hF : qgD n a left = some r) : RetV Tryz.prog 9 [GoT.v qD cs1, .int .i64 left] w r := by
 obtain ⟨p1, k1, p2, k2, p3, k3, p4, k4, p5, k5, rfl, s1, s2, s3, s4, s5⟩ := qax ha1
 refine qf Tryz.func9 rfl (m := 24) rfl rfl (fun h => ?_)
 rw [qgD] at hF
 refine zSR (qS h rfl rfl ?_)
 intro w1 bb1 h
 refine zp1 rfl (zNSR (zp1 rfl (zl 0 0 h rfl (zp1 rfl ?_))))
 obtain ⟨r1, hr1, hF⟩ := qd hF
 refine qP r1 h call37 (qj3 (qeS (⟨a.Library.Cells⟩ : qA) (h.oldS s1)) hr1) rfl rfl rfl rfl ?_
 intro w2 h
 refine zp1 rfl (zNSSR (zp2 rfl (qb ?_)))
 refine qp rfl hF ?_ ?_ <;> intro hF
 ·exact zSR (zp1 rfl (qb (qar qc h hF ⟨rfl, trivial⟩)))
 refine zKSR (zp1 rfl (zl 0 1 h rfl (zp1 rfl ?_)))
 obtain ⟨r2, hr2, hF⟩ := qd hF
 refine qP r2 h call38 (qkr (qb6 (⟨a.Design.Instances, a.Design.Nets, a.Design.Ports⟩ : qk) (h.oldS s2) (h.oldS s3) (h.oldS s4)) hr2) rfl rfl rfl rfl ?_
 intro w3 h
 refine zp1 rfl (zNSSR (zp2 rfl (qb ?_)))
 refine qp rfl hF ?_ ?_ <;> intro hF
 ·exact zSR (zp1 rfl (qb (qar qc h hF ⟨rfl, trivial⟩)))
 refine zKSR (zp1 rfl (zl 0 4 h rfl (zp1 rfl ?_)))
 obtain ⟨r3, hr3, hF⟩ := qd hF
 refine qP r3 h call39 (qkQ ⟨_, _, rfl, (h.oldS s5)⟩ hr3) rfl rfl rfl rfl ?_
 intro w4 h
 refine zp1 rfl (zNSSR (zp2 rfl (qb ?_)))
 refine qp rfl hF ?_ ?_ <;> intro hF
 ·exact zSR (zp1 rfl (qb (qar qc h hF ⟨rfl, trivial⟩)))
 exact zKSR (zp2 rfl (qb (qar qc h hF ⟨rfl, trivial⟩)))

def qc4 (a : (List Int)) : Nat → (List Int) → Int → Option ((List Int) × Int)
 | 0, _, _ => none
 | n + 1, x2, i1 =>
  bif decide (i1 < (a.length : Int)) then
   (idx a i1).bind fun y1 =>
   (idx x2 i1).bind fun _ =>
   qc4 a n (setS x2 i1 y1) (W64 (i1 + 1))
  else
   some (x2, i1)

def qaC (n : Nat) (a : (List Int)) : Option (List Int) :=
 (mkS (a.length : Int) (0 : Int)).bind fun x1 =>
 (qc4 a n x1 0).bind fun o => match o with
 | (x2, _) =>
  some x2

theorem qaA {n : Nat} {w : World} {a : (List Int)} {cs1 : List Value} (ha1 : GoT.R w (old w) a cs1) {r : (List Int)} (hF : qaC n a = some r) : RetV Tryz.prog 14 [GoT.v (List Int) cs1] w r := by
 obtain ⟨p1, k1, rfl, s1⟩ := ha1
 refine qf Tryz.func14 rfl (m := 22) rfl rfl (fun h => ?_)
 rw [qaC] at hF
 refine zSR (zp1 rfl (zNSR (zp2 rfl ?_)))
 obtain ⟨x1, hx1, hF⟩ := qd hF
 obtain ⟨g1, g2, hx1⟩ := qda hx1
 refine qer qc Int h rfl rfl rfl rfl rfl rfl rfl rfl rfl g1 g2 hx1 rfl ?_
 intro w1 S1 p2 h
 refine zp1 rfl (zNSSR (zp1 rfl (qb ?_)))
 obtain ⟨o1, hF, hK1⟩ := qd hF
 refine qy (qW [(0, _), (3, _), (4, _)] ⟨rfl, rfl, rfl, trivial⟩ ?_)
 refine qI (fun m e w' => ∃ (x2 : (List Int)) (i1 : Int), qc4 a m x2 i1 = some o1 ∧ e = [(0, .slice p1 a.length k1), (3, .slice p2 x1.length x1.length), (4, .int .i64 i1)] ∧ SH w w' [Ch.own S1 (x2 : List Int) [.slice p2 x1.length x1.length]]) n ⟨_, _, hF, rfl, h⟩ ?_
 rintro m1 e1 w2 ⟨x2, i1, hF, rfl, h⟩
 rcases m1 with _ | m1
 ·rw [qc4] at hF
  cases hF
 rw [qc4] at hF
 refine zSSR (zp4 rfl (qb ?_))
 refine qp rfl hF ?_ ?_ <;> intro hF
 ·refine zKSBR (zp4 rfl ?_)
  obtain ⟨y1, hy1, hF⟩ := qd hF
  have he1 := qg hy1
  obtain ⟨b1, o_1, q1, cs2, hp1, hq1, -, hr1, hc2⟩ := s1.at hy1
  obtain rfl := hr1
  refine zxe hp1 hq1 he1 rfl (zc 0 (hc2.below h.below) rfl ?_)
  obtain ⟨y2, hy2, hF⟩ := qd hF
  have he2 := qg hy2
  obtain ⟨b2, o_2, q2, cs3, hp2, hq2, -, hr2, hc3⟩ := (h.sl 0 rfl).1.at hy2
  obtain rfl := hr2
  refine zx hp2 hq2 ⟨he2.1, qbo he2.2.1 (h.sl 0 rfl).2⟩ rfl (qfe qc 0 0 y1 h rfl hy2 hp2 hq2 rfl hc3 rfl rfl rfl rfl rfl rfl rfl ?_)
  intro w3 h
  exact zNER (zp3 rfl (qb (qz m1 [(0, _), (3, _), (4, _)] (Nat.lt_succ_self m1) ⟨rfl, rfl, rfl, trivial⟩ ⟨_, _, hF, rfl, h⟩)))
 refine qG rfl ?_
 obtain rfl := qh hF; replace hF := hK1
 refine zSR (zp2 rfl (qb ?_))
 obtain rfl := qh hF
 exact qal qc (ρ := (List Int)) [GoT.v (List Int) [.slice p2 x1.length x1.length]] h ⟨rfl, trivial⟩ (PV.done h (qaq (qaG 0 h rfl)))

def qg1 (_ : Nat) (a : qas) : Option qas :=
 some (⟨a.Name, a.Dir, a.Cap, a.Clock⟩ : qas)

theorem qma {n : Nat} {w : World} {a : qas} {cs1 : List Value} (ha1 : GoT.R w (old w) a cs1) {r : qas} (hF : qg1 n a = some r) : RetV Tryz.prog 198 [GoT.v qas cs1] w r := by
 obtain rfl := qbx ha1
 refine qf Tryz.func198 rfl (m := 17) rfl rfl (fun h => ?_)
 rw [qg1] at hF
 refine zSR (qS h rfl rfl ?_)
 intro w1 bb1 h
 refine qY qc h rfl rfl rfl ?_
 intro w2 bb2 h
 refine zNSR (qY qc h rfl rfl rfl ?_)
 intro w3 bb3 h
 refine zNSR (zp1 rfl (zl 2 0 h rfl (zp1 rfl (zs 0 h rfl ?_))))
 intro w4 h
 refine zNSR (zp1 rfl (zl 2 1 h rfl (zp1 rfl (zs 0 h rfl ?_))))
 intro w5 h
 replace h : SH _ _ [Ch.box bb3 [.string a.Name, .int .i64 a.Dir, .int .i64 0, .bool false] 238, Ch.box bb2 [.string ByteArray.empty, .int .i64 0, .int .i64 0, .bool false] 238, Ch.box bb1 [.string a.Name, .int .i64 a.Dir, .int .i64 a.Cap, .bool a.Clock] 257] := h
 refine zNSR (zp1 rfl (zl 2 2 h rfl (zp1 rfl (zs 0 h rfl ?_))))
 intro w6 h
 refine zNSR (zp1 rfl (zl 2 3 h rfl (zp1 rfl (zs 0 h rfl ?_))))
 intro w7 h
 replace h : SH _ _ [Ch.box bb3 [.string a.Name, .int .i64 a.Dir, .int .i64 a.Cap, .bool a.Clock] 238, Ch.box bb2 [.string ByteArray.empty, .int .i64 0, .int .i64 0, .bool false] 238, Ch.box bb1 [.string a.Name, .int .i64 a.Dir, .int .i64 a.Cap, .bool a.Clock] 257] := h
 refine zNSR (zl 0 0 h rfl (zs 1 h rfl ?_))
 intro w8 h
 refine qb ?_
 obtain rfl := qh hF
 exact qal qc (ρ := qas) [GoT.v qas [.string a.Name, .int .i64 a.Dir, .int .i64 a.Cap, .bool a.Clock]] h ⟨⟨_, _, _, rfl, rfl, h.box 1 rfl, rfl⟩, trivial⟩ (PV.done h (qaq (qaz (S := fun _ => False) (qhj (⟨a.Name, a.Dir, a.Cap, a.Clock⟩ : qas)))))

def qdY (a : (List qas)) : Nat → (List qas) → Int → Option ((List qas) × Int)
 | 0, _, _ => none
 | n + 1, x2, i1 =>
  bif decide (i1 < (a.length : Int)) then
   (idx a i1).bind fun y1 =>
   (qg1 n y1).bind fun r1 =>
   (idx x2 i1).bind fun _ =>
   qdY a n (setS x2 i1 r1) (W64 (i1 + 1))
  else
   some (x2, i1)

def qhv (n : Nat) (a : (List qas)) : Option (List qas) :=
 (mkS (a.length : Int) ((⟨ByteArray.empty, 0, 0, false⟩ : qas) : qas)).bind fun x1 =>
 (qdY a n x1 0).bind fun o => match o with
 | (x2, _) =>
  some x2

theorem qlP {n : Nat} {w : World} {a : (List qas)} {cs1 : List Value} (ha1 : GoT.R w (old w) a cs1) {r : (List qas)} (hF : qhv n a = some r) : RetV Tryz.prog 171 [GoT.v (List qas) cs1] w r := by
 obtain ⟨p1, k1, rfl, s1⟩ := ha1
 refine qf Tryz.func171 rfl (m := 23) rfl rfl (fun h => ?_)
 rw [qhv] at hF
 refine zSR (zp1 rfl (zNSR (zp2 rfl ?_)))
 obtain ⟨x1, hx1, hF⟩ := qd hF
 obtain ⟨g1, g2, hx1⟩ := qda hx1
 refine qer qc qas h rfl rfl rfl rfl rfl rfl rfl rfl rfl g1 g2 hx1 rfl ?_
 intro w1 S1 p2 h
 refine zp1 rfl (zNSSR (zp1 rfl (qb ?_)))
 obtain ⟨o1, hF, hK1⟩ := qd hF
 refine qy (qW [(0, _), (3, _), (4, _)] ⟨rfl, rfl, rfl, trivial⟩ ?_)
 refine qI (fun m e w' => ∃ (x2 : (List qas)) (i1 : Int), qdY a m x2 i1 = some o1 ∧ e = [(0, .slice p1 a.length k1), (3, .slice p2 x1.length x1.length), (4, .int .i64 i1)] ∧ SH w w' [Ch.own S1 (x2 : List qas) [.slice p2 x1.length x1.length]]) n ⟨_, _, hF, rfl, h⟩ ?_
 rintro m1 e1 w2 ⟨x2, i1, hF, rfl, h⟩
 rcases m1 with _ | m1
 ·rw [qdY] at hF
  cases hF
 rw [qdY] at hF
 refine zSSR (zp4 rfl (qb ?_))
 refine qp rfl hF ?_ ?_ <;> intro hF
 ·refine zKSBR (zp4 rfl ?_)
  obtain ⟨y1, hy1, hF⟩ := qd hF
  have he1 := qg hy1
  obtain ⟨b1, o_1, q1, cs2, hp1, hq1, -, hr1, hc2⟩ := s1.at hy1
  obtain rfl := qbx hr1
  refine zxe hp1 hq1 he1 rfl (zc 0 (hc2.below h.below) rfl ?_)
  obtain ⟨r1, hr2, hF⟩ := qd hF
  refine qex r1 h call198 (qma (qhj y1) hr2) rfl rfl rfl rfl ?_
  intro w3 S2 cs3 h
  obtain rfl := qbx (h.own 0 rfl)
  obtain ⟨y2, hy2, hF⟩ := qd hF
  have he2 := qg hy2
  obtain ⟨b2, o_2, q2, cs4, hp2, hq2, -, hr3, hc3⟩ := (h.sl 1 rfl).1.at hy2
  obtain rfl := qbx hr3
  refine zx hp2 hq2 ⟨he2.1, qbo he2.2.1 (h.sl 1 rfl).2⟩ rfl (qfe qc 1 0 r1 h rfl hy2 hp2 hq2 (qhj y2) hc3 rfl rfl rfl (qhj r1) rfl rfl rfl ?_)
  intro w4 h
  refine zNER (zp3 rfl (qb ?_))
  replace h := h.pick [1] rfl
  exact qz m1 [(0, _), (3, _), (4, _)] (Nat.lt_succ_self m1) ⟨rfl, rfl, rfl, trivial⟩ ⟨_, _, hF, rfl, h⟩
 refine qG rfl ?_
 obtain rfl := qh hF; replace hF := hK1
 refine zSR (zp2 rfl (qb ?_))
 obtain rfl := qh hF
 exact qal qc (ρ := (List qas)) [GoT.v (List qas) [.slice p2 x1.length x1.length]] h ⟨rfl, trivial⟩ (PV.done h (qaq (qaG 0 h rfl)))

def qfA (n : Nat) (a : qH) : Option qH :=
 (qaC n a.Slews).bind fun r1 =>
 (qaC n a.Loads).bind fun r2 =>
 (qaC n a.Values).bind fun r3 =>
 some (⟨r1, r2, r3⟩ : qH)

theorem qkX {n : Nat} {w : World} {a : qH} {cs1 : List Value} (ha1 : GoT.R w (old w) a cs1) {r : qH} (hF : qfA n a = some r) : RetV Tryz.prog 225 [GoT.v qH cs1] w r := by
 obtain ⟨p1, k1, p2, k2, p3, k3, rfl, s1, s2, s3⟩ := qbB ha1
 refine qf Tryz.func225 rfl (m := 17) rfl rfl (fun h => ?_)
 rw [qfA] at hF
 refine zSR (qS h rfl rfl ?_)
 intro w1 bb1 h
 refine qY qc h rfl rfl rfl ?_
 intro w2 bb2 h
 refine zNSR (qY qc h rfl rfl rfl ?_)
 intro w3 bb3 h
 refine zNSR (zp1 rfl (zl 2 0 h rfl ?_))
 obtain ⟨r1, hr1, hF⟩ := qd hF
 refine qay r1 h call14 (qaA ⟨_, _, rfl, (h.oldS s1)⟩ hr1) rfl rfl rfl rfl ?_
 intro w4 S1 p4 k4 h
 refine zp1 rfl (zs 1 h rfl ?_)
 intro w5 h
 refine zNSR (zp1 rfl (zl 3 1 h rfl ?_))
 obtain ⟨r2, hr2, hF⟩ := qd hF
 refine qay r2 h call14 (qaA ⟨_, _, rfl, (h.oldS s2)⟩ hr2) rfl rfl rfl rfl ?_
 intro w6 S2 p5 k5 h
 refine zp1 rfl (zs 2 h rfl ?_)
 intro w7 h
 replace h : SH _ _ [Ch.own S2 (r2 : List Int) [.slice p5 r2.length k5], Ch.own S1 (r1 : List Int) [.slice p4 r1.length k4], Ch.box bb3 [.slice p4 r1.length k4, .slice p5 r2.length k5, .slice none 0 0] 267, Ch.box bb2 [.slice none 0 0, .slice none 0 0, .slice none 0 0] 267, Ch.box bb1 [.slice p1 a.Slews.length k1, .slice p2 a.Loads.length k2, .slice p3 a.Values.length k3] 283] := h
 refine zNSR (zp1 rfl (zl 4 2 h rfl ?_))
 obtain ⟨r3, hr3, hF⟩ := qd hF
 refine qay r3 h call14 (qaA ⟨_, _, rfl, (h.oldS s3)⟩ hr3) rfl rfl rfl rfl ?_
 intro w8 S3 p6 k6 h
 refine zp1 rfl (zs 3 h rfl ?_)
 intro w9 h
 refine zNSR (zl 3 0 h rfl (zs 4 h rfl ?_))
 intro w10 h
 replace h : SH _ _ [Ch.own S3 (r3 : List Int) [.slice p6 r3.length k6], Ch.own S2 (r2 : List Int) [.slice p5 r2.length k5], Ch.own S1 (r1 : List Int) [.slice p4 r1.length k4], Ch.box bb3 [.slice p4 r1.length k4, .slice p5 r2.length k5, .slice p6 r3.length k6] 267, Ch.box bb2 [.slice p4 r1.length k4, .slice p5 r2.length k5, .slice p6 r3.length k6] 267, Ch.box bb1 [.slice p1 a.Slews.length k1, .slice p2 a.Loads.length k2, .slice p3 a.Values.length k3] 283] := h
 refine qb ?_
 obtain rfl := qh hF
 exact qal qc (ρ := qH) [GoT.v qH [.slice p4 r1.length k4, .slice p5 r2.length k5, .slice p6 r3.length k6]] h ⟨⟨_, _, _, rfl, rfl, h.box 4 rfl, rfl⟩, trivial⟩ (PV.done h (qaq (qoG (⟨r1, r2, r3⟩ : qH) h (qaG 2 h rfl) (qaG 1 h rfl) (qaG 0 h rfl) (by rfl) (by rfl))))

def qc8 (a : (List qH)) : Nat → (List qH) → Int → Option ((List qH) × Int)
 | 0, _, _ => none
 | n + 1, x2, i1 =>
  bif decide (i1 < (a.length : Int)) then
   (idx a i1).bind fun y1 =>
   (qfA n y1).bind fun r1 =>
   (idx x2 i1).bind fun _ =>
   qc8 a n (setS x2 i1 r1) (W64 (i1 + 1))
  else
   some (x2, i1)

def qe8 (n : Nat) (a : (List qH)) : Option (List qH) :=
 (mkS (a.length : Int) ((⟨[], [], []⟩ : qH) : qH)).bind fun x1 =>
 (qc8 a n x1 0).bind fun o => match o with
 | (x2, _) =>
  some x2

theorem qit {n : Nat} {w : World} {a : (List qH)} {cs1 : List Value} (ha1 : GoT.R w (old w) a cs1) {r : (List qH)} (hF : qe8 n a = some r) : RetV Tryz.prog 213 [GoT.v (List qH) cs1] w r := by
 obtain ⟨p1, k1, rfl, s1⟩ := ha1
 refine qf Tryz.func213 rfl (m := 23) rfl rfl (fun h => ?_)
 rw [qe8] at hF
 refine zSR (zp1 rfl (zNSR (zp2 rfl ?_)))
 obtain ⟨x1, hx1, hF⟩ := qd hF
 obtain ⟨g1, g2, hx1⟩ := qda hx1
 refine qer qc qH h rfl rfl rfl rfl rfl rfl rfl rfl rfl g1 g2 hx1 rfl ?_
 intro w1 S1 p2 h
 refine zp1 rfl (zNSSR (zp1 rfl (qb ?_)))
 obtain ⟨o1, hF, hK1⟩ := qd hF
 refine qy (qW [(0, _), (3, _), (4, _)] ⟨rfl, rfl, rfl, trivial⟩ ?_)
 refine qI (fun m e w' => ∃ (S2 : Nat → Prop) (x2 : (List qH)) (i1 : Int), qc8 a m x2 i1 = some o1 ∧ e = [(0, .slice p1 a.length k1), (3, .slice p2 x1.length x1.length), (4, .int .i64 i1)] ∧ SH w w' [Ch.own S2 (x2 : List qH) [.slice p2 x1.length x1.length]]) n ⟨_, _, _, hF, rfl, h⟩ ?_
 rintro m1 e1 w2 ⟨S2, x2, i1, hF, rfl, h⟩
 rcases m1 with _ | m1
 ·rw [qc8] at hF
  cases hF
 rw [qc8] at hF
 refine zSSR (zp4 rfl (qb ?_))
 refine qp rfl hF ?_ ?_ <;> intro hF
 ·refine zKSBR (zp4 rfl ?_)
  obtain ⟨y1, hy1, hF⟩ := qd hF
  have he1 := qg hy1
  obtain ⟨b1, o_1, q1, cs2, hp1, hq1, -, hr1, hc2⟩ := s1.at hy1
  obtain ⟨p3, k2, p4, k3, p5, k4, rfl, s2, s3, s4⟩ := qbB hr1
  refine zxe hp1 hq1 he1 rfl (zc 0 (hc2.below h.below) rfl ?_)
  obtain ⟨r1, hr2, hF⟩ := qd hF
  refine qex r1 h call225 (qkX (qg6 y1 (h.oldS s2) (h.oldS s3) (h.oldS s4)) hr2) rfl rfl rfl rfl ?_
  intro w3 S3 cs3 h
  obtain ⟨p6, k5, p7, k6, p8, k7, rfl, -, -, -⟩ := qbB (h.own 0 rfl)
  obtain ⟨y2, hy2, hF⟩ := qd hF
  have he2 := qg hy2
  replace h := h.lrn0 1 rfl
  obtain ⟨b2, o_2, q2, cs4, hp2, hq2, -, hr3, hc3⟩ := (qhz (h.lrnO 1 rfl)).1.at hy2
  have hr4 := hr3
  obtain ⟨p9, k8, p10, k9, p11, k10, rfl, s8, s9, s10⟩ := qbB hr3
  replace h := h.lrnAdd 1 rfl hr4
  refine zx hp2 hq2 ⟨he2.1, qbo he2.2.1 (qhz (h.lrnO 1 rfl)).2⟩ rfl ?_
  replace h := h.unlrn 1 rfl
  refine qir qc r1 h hy2 hp2 hq2 rfl rfl rfl rfl rfl ?_
  intro w4 S4 h
  exact zNER (zp3 rfl (qb (qz m1 [(0, _), (3, _), (4, _)] (Nat.lt_succ_self m1) ⟨rfl, rfl, rfl, trivial⟩ ⟨_, _, _, hF, rfl, h⟩)))
 refine qG rfl ?_
 obtain rfl := qh hF; replace hF := hK1
 refine zSR (zp2 rfl (qb ?_))
 obtain rfl := qh hF
 exact qal qc (ρ := (List qH)) [GoT.v (List qH) [.slice p2 x1.length x1.length]] h ⟨rfl, trivial⟩ (PV.done h (qaq (qaG 0 h rfl)))

def qg7 (n : Nat) (a : qag) : Option qag :=
 (qe8 n a.Delay).bind fun r1 =>
 (qe8 n a.Slew).bind fun r2 =>
 some (⟨a.Kind, a.From, a.To, a.Sense, r1, r2⟩ : qag)

theorem ql3 {n : Nat} {w : World} {a : qag} {cs1 : List Value} (ha1 : GoT.R w (old w) a cs1) {r : qag} (hF : qg7 n a = some r) : RetV Tryz.prog 199 [GoT.v qag cs1] w r := by
 obtain ⟨p1, k1, p2, k2, rfl, s1, s2⟩ := qaV ha1
 refine qf Tryz.func199 rfl (m := 25) rfl rfl (fun h => ?_)
 rw [qg7] at hF
 refine zSR (qS h rfl rfl ?_)
 intro w1 bb1 h
 refine qY qc h rfl rfl rfl ?_
 intro w2 bb2 h
 refine zNSR (qY qc h rfl rfl rfl ?_)
 intro w3 bb3 h
 refine zNSR (zp1 rfl (zl 2 0 h rfl (zp1 rfl (zs 0 h rfl ?_))))
 intro w4 h
 refine zNSR (zp1 rfl (zl 2 1 h rfl (zp1 rfl (zs 0 h rfl ?_))))
 intro w5 h
 replace h : SH _ _ [Ch.box bb3 [.int .i64 a.Kind, .int .i64 a.From, .int .i64 0, .int .i64 0, .slice none 0 0, .slice none 0 0] 211, Ch.box bb2 [.int .i64 0, .int .i64 0, .int .i64 0, .int .i64 0, .slice none 0 0, .slice none 0 0] 211, Ch.box bb1 [.int .i64 a.Kind, .int .i64 a.From, .int .i64 a.To, .int .i64 a.Sense, .slice p1 a.Delay.length k1, .slice p2 a.Slew.length k2] 261] := h
 refine zNSR (zp1 rfl (zl 2 2 h rfl (zp1 rfl (zs 0 h rfl ?_))))
 intro w6 h
 refine zNSR (zp1 rfl (zl 2 3 h rfl (zp1 rfl (zs 0 h rfl ?_))))
 intro w7 h
 replace h : SH _ _ [Ch.box bb3 [.int .i64 a.Kind, .int .i64 a.From, .int .i64 a.To, .int .i64 a.Sense, .slice none 0 0, .slice none 0 0] 211, Ch.box bb2 [.int .i64 0, .int .i64 0, .int .i64 0, .int .i64 0, .slice none 0 0, .slice none 0 0] 211, Ch.box bb1 [.int .i64 a.Kind, .int .i64 a.From, .int .i64 a.To, .int .i64 a.Sense, .slice p1 a.Delay.length k1, .slice p2 a.Slew.length k2] 261] := h
 refine zNSR (zp1 rfl (zl 2 4 h rfl ?_))
 obtain ⟨r1, hr1, hF⟩ := qd hF
 refine qay r1 h call213 (qit ⟨_, _, rfl, (h.oldS s1)⟩ hr1) rfl rfl rfl rfl ?_
 intro w8 S1 p3 k3 h
 refine zp1 rfl (zs 1 h rfl ?_)
 intro w9 h
 refine zNSR (zp1 rfl (zl 3 5 h rfl ?_))
 obtain ⟨r2, hr2, hF⟩ := qd hF
 refine qay r2 h call213 (qit ⟨_, _, rfl, (h.oldS s2)⟩ hr2) rfl rfl rfl rfl ?_
 intro w10 S2 p4 k4 h
 refine zp1 rfl (zs 2 h rfl ?_)
 intro w11 h
 replace h : SH _ _ [Ch.own S2 (r2 : List qH) [.slice p4 r2.length k4], Ch.own S1 (r1 : List qH) [.slice p3 r1.length k3], Ch.box bb3 [.int .i64 a.Kind, .int .i64 a.From, .int .i64 a.To, .int .i64 a.Sense, .slice p3 r1.length k3, .slice p4 r2.length k4] 211, Ch.box bb2 [.int .i64 0, .int .i64 0, .int .i64 0, .int .i64 0, .slice none 0 0, .slice none 0 0] 211, Ch.box bb1 [.int .i64 a.Kind, .int .i64 a.From, .int .i64 a.To, .int .i64 a.Sense, .slice p1 a.Delay.length k1, .slice p2 a.Slew.length k2] 261] := h
 refine zNSR (zl 2 0 h rfl (zs 3 h rfl ?_))
 intro w12 h
 refine qb ?_
 obtain rfl := qh hF
 exact qal qc (ρ := qag) [GoT.v qag [.int .i64 a.Kind, .int .i64 a.From, .int .i64 a.To, .int .i64 a.Sense, .slice p3 r1.length k3, .slice p4 r2.length k4]] h ⟨⟨_, _, _, rfl, rfl, h.box 3 rfl, rfl⟩, trivial⟩ (PV.done h (qaq (qqE (⟨a.Kind, a.From, a.To, a.Sense, r1, r2⟩ : qag) h (qaz (S := fun _ => False) rfl) (qaz (S := fun _ => False) rfl) (qaz (S := fun _ => False) rfl) (qaz (S := fun _ => False) rfl) (qaG 1 h rfl) (qaG 0 h rfl) (by rfl) (by rfl) (by rfl) (by rfl) (by rfl))))

def qdR (a : (List qag)) : Nat → (List qag) → Int → Option ((List qag) × Int)
 | 0, _, _ => none
 | n + 1, x2, i1 =>
  bif decide (i1 < (a.length : Int)) then
   (idx a i1).bind fun y1 =>
   (qg7 n y1).bind fun r1 =>
   (idx x2 i1).bind fun _ =>
   qdR a n (setS x2 i1 r1) (W64 (i1 + 1))
  else
   some (x2, i1)

def qhf (n : Nat) (a : (List qag)) : Option (List qag) :=
 (mkS (a.length : Int) ((⟨0, 0, 0, 0, [], []⟩ : qag) : qag)).bind fun x1 =>
 (qdR a n x1 0).bind fun o => match o with
 | (x2, _) =>
  some x2

theorem qlH {n : Nat} {w : World} {a : (List qag)} {cs1 : List Value} (ha1 : GoT.R w (old w) a cs1) {r : (List qag)} (hF : qhf n a = some r) : RetV Tryz.prog 172 [GoT.v (List qag) cs1] w r := by
 obtain ⟨p1, k1, rfl, s1⟩ := ha1
 refine qf Tryz.func172 rfl (m := 23) rfl rfl (fun h => ?_)
 rw [qhf] at hF
 refine zSR (zp1 rfl (zNSR (zp2 rfl ?_)))
 obtain ⟨x1, hx1, hF⟩ := qd hF
 obtain ⟨g1, g2, hx1⟩ := qda hx1
 refine qer qc qag h rfl rfl rfl rfl rfl rfl rfl rfl rfl g1 g2 hx1 rfl ?_
 intro w1 S1 p2 h
 refine zp1 rfl (zNSSR (zp1 rfl (qb ?_)))
 obtain ⟨o1, hF, hK1⟩ := qd hF
 refine qy (qW [(0, _), (3, _), (4, _)] ⟨rfl, rfl, rfl, trivial⟩ ?_)
 refine qI (fun m e w' => ∃ (S2 : Nat → Prop) (x2 : (List qag)) (i1 : Int), qdR a m x2 i1 = some o1 ∧ e = [(0, .slice p1 a.length k1), (3, .slice p2 x1.length x1.length), (4, .int .i64 i1)] ∧ SH w w' [Ch.own S2 (x2 : List qag) [.slice p2 x1.length x1.length]]) n ⟨_, _, _, hF, rfl, h⟩ ?_
 rintro m1 e1 w2 ⟨S2, x2, i1, hF, rfl, h⟩
 rcases m1 with _ | m1
 ·rw [qdR] at hF
  cases hF
 rw [qdR] at hF
 refine zSSR (zp4 rfl (qb ?_))
 refine qp rfl hF ?_ ?_ <;> intro hF
 ·refine zKSBR (zp4 rfl ?_)
  obtain ⟨y1, hy1, hF⟩ := qd hF
  have he1 := qg hy1
  obtain ⟨b1, o_1, q1, cs2, hp1, hq1, -, hr1, hc2⟩ := s1.at hy1
  obtain ⟨p3, k2, p4, k3, rfl, s2, s3⟩ := qaV hr1
  refine zxe hp1 hq1 he1 rfl (zc 0 (hc2.below h.below) rfl ?_)
  obtain ⟨r1, hr2, hF⟩ := qd hF
  refine qex r1 h call199 (ql3 (qfY y1 (h.oldS s2) (h.oldS s3)) hr2) rfl rfl rfl rfl ?_
  intro w3 S3 cs3 h
  obtain ⟨p5, k4, p6, k5, rfl, -, -⟩ := qaV (h.own 0 rfl)
  obtain ⟨y2, hy2, hF⟩ := qd hF
  have he2 := qg hy2
  replace h := h.lrn0 1 rfl
  obtain ⟨b2, o_2, q2, cs4, hp2, hq2, -, hr3, hc3⟩ := (qhz (h.lrnO 1 rfl)).1.at hy2
  have hr4 := hr3
  obtain ⟨p7, k6, p8, k7, rfl, s6, s7⟩ := qaV hr3
  replace h := h.lrnAdd 1 rfl hr4
  refine zx hp2 hq2 ⟨he2.1, qbo he2.2.1 (qhz (h.lrnO 1 rfl)).2⟩ rfl ?_
  replace h := h.unlrn 1 rfl
  refine qir qc r1 h hy2 hp2 hq2 rfl rfl rfl rfl rfl ?_
  intro w4 S4 h
  exact zNER (zp3 rfl (qb (qz m1 [(0, _), (3, _), (4, _)] (Nat.lt_succ_self m1) ⟨rfl, rfl, rfl, trivial⟩ ⟨_, _, _, hF, rfl, h⟩)))
 refine qG rfl ?_
 obtain rfl := qh hF; replace hF := hK1
 refine zSR (zp2 rfl (qb ?_))
 obtain rfl := qh hF
 exact qal qc (ρ := (List qag)) [GoT.v (List qag) [.slice p2 x1.length x1.length]] h ⟨rfl, trivial⟩ (PV.done h (qaq (qaG 0 h rfl)))

def qgj (n : Nat) (a : qJ) : Option qJ :=
 (qhv n a.Pins).bind fun r1 =>
 (qhf n a.Arcs).bind fun r2 =>
 (qaC n a.Truth).bind fun r3 =>
 some (⟨a.Name, a.Kind, r1, r2, r3, a.Leak, a.Energy⟩ : qJ)

theorem qlp {n : Nat} {w : World} {a : qJ} {cs1 : List Value} (ha1 : GoT.R w (old w) a cs1) {r : qJ} (hF : qgj n a = some r) : RetV Tryz.prog 125 [GoT.v qJ cs1] w r := by
 obtain ⟨p1, k1, p2, k2, p3, k3, rfl, s1, s2, s3⟩ := qak ha1
 refine qf Tryz.func125 rfl (m := 29) rfl rfl (fun h => ?_)
 rw [qgj] at hF
 refine zSR (qS h rfl rfl ?_)
 intro w1 bb1 h
 refine qY qc h rfl rfl rfl ?_
 intro w2 bb2 h
 refine zNSR (qY qc h rfl rfl rfl ?_)
 intro w3 bb3 h
 refine zNSR (zp1 rfl (zl 2 0 h rfl (zp1 rfl (zs 0 h rfl ?_))))
 intro w4 h
 refine zNSR (zp1 rfl (zl 2 1 h rfl (zp1 rfl (zs 0 h rfl ?_))))
 intro w5 h
 replace h : SH _ _ [Ch.box bb3 [.string a.Name, .int .i64 a.Kind, .slice none 0 0, .slice none 0 0, .slice none 0 0, .int .i64 0, .int .i64 0] 183, Ch.box bb2 [.string ByteArray.empty, .int .i64 0, .slice none 0 0, .slice none 0 0, .slice none 0 0, .int .i64 0, .int .i64 0] 183, Ch.box bb1 [.string a.Name, .int .i64 a.Kind, .slice p1 a.Pins.length k1, .slice p2 a.Arcs.length k2, .slice p3 a.Truth.length k3, .int .i64 a.Leak, .int .i64 a.Energy] 171] := h
 refine zNSR (zp1 rfl (zl 2 2 h rfl ?_))
 obtain ⟨r1, hr1, hF⟩ := qd hF
 refine qay r1 h call171 (qlP ⟨_, _, rfl, (h.oldS s1)⟩ hr1) rfl rfl rfl rfl ?_
 intro w6 S1 p4 k4 h
 refine zp1 rfl (zs 1 h rfl ?_)
 intro w7 h
 refine zNSR (zp1 rfl (zl 3 3 h rfl ?_))
 obtain ⟨r2, hr2, hF⟩ := qd hF
 refine qay r2 h call172 (qlH ⟨_, _, rfl, (h.oldS s2)⟩ hr2) rfl rfl rfl rfl ?_
 intro w8 S2 p5 k5 h
 refine zp1 rfl (zs 2 h rfl ?_)
 intro w9 h
 replace h : SH _ _ [Ch.own S2 (r2 : List qag) [.slice p5 r2.length k5], Ch.own S1 (r1 : List qas) [.slice p4 r1.length k4], Ch.box bb3 [.string a.Name, .int .i64 a.Kind, .slice p4 r1.length k4, .slice p5 r2.length k5, .slice none 0 0, .int .i64 0, .int .i64 0] 183, Ch.box bb2 [.string ByteArray.empty, .int .i64 0, .slice none 0 0, .slice none 0 0, .slice none 0 0, .int .i64 0, .int .i64 0] 183, Ch.box bb1 [.string a.Name, .int .i64 a.Kind, .slice p1 a.Pins.length k1, .slice p2 a.Arcs.length k2, .slice p3 a.Truth.length k3, .int .i64 a.Leak, .int .i64 a.Energy] 171] := h
 refine zNSR (zp1 rfl (zl 4 4 h rfl ?_))
 obtain ⟨r3, hr3, hF⟩ := qd hF
 refine qay r3 h call14 (qaA ⟨_, _, rfl, (h.oldS s3)⟩ hr3) rfl rfl rfl rfl ?_
 intro w10 S3 p6 k6 h
 refine zp1 rfl (zs 3 h rfl ?_)
 intro w11 h
 refine zNSR (zp1 rfl (zl 5 5 h rfl (zp1 rfl (zs 3 h rfl ?_))))
 intro w12 h
 replace h : SH _ _ [Ch.own S3 (r3 : List Int) [.slice p6 r3.length k6], Ch.own S2 (r2 : List qag) [.slice p5 r2.length k5], Ch.own S1 (r1 : List qas) [.slice p4 r1.length k4], Ch.box bb3 [.string a.Name, .int .i64 a.Kind, .slice p4 r1.length k4, .slice p5 r2.length k5, .slice p6 r3.length k6, .int .i64 a.Leak, .int .i64 0] 183, Ch.box bb2 [.string ByteArray.empty, .int .i64 0, .slice none 0 0, .slice none 0 0, .slice none 0 0, .int .i64 0, .int .i64 0] 183, Ch.box bb1 [.string a.Name, .int .i64 a.Kind, .slice p1 a.Pins.length k1, .slice p2 a.Arcs.length k2, .slice p3 a.Truth.length k3, .int .i64 a.Leak, .int .i64 a.Energy] 171] := h
 refine zNSR (zp1 rfl (zl 5 6 h rfl (zp1 rfl (zs 3 h rfl ?_))))
 intro w13 h
 refine zNSR (zl 3 0 h rfl (zs 4 h rfl ?_))
 intro w14 h
 replace h : SH _ _ [Ch.own S3 (r3 : List Int) [.slice p6 r3.length k6], Ch.own S2 (r2 : List qag) [.slice p5 r2.length k5], Ch.own S1 (r1 : List qas) [.slice p4 r1.length k4], Ch.box bb3 [.string a.Name, .int .i64 a.Kind, .slice p4 r1.length k4, .slice p5 r2.length k5, .slice p6 r3.length k6, .int .i64 a.Leak, .int .i64 a.Energy] 183, Ch.box bb2 [.string a.Name, .int .i64 a.Kind, .slice p4 r1.length k4, .slice p5 r2.length k5, .slice p6 r3.length k6, .int .i64 a.Leak, .int .i64 a.Energy] 183, Ch.box bb1 [.string a.Name, .int .i64 a.Kind, .slice p1 a.Pins.length k1, .slice p2 a.Arcs.length k2, .slice p3 a.Truth.length k3, .int .i64 a.Leak, .int .i64 a.Energy] 171] := h
 refine qb ?_
 obtain rfl := qh hF
 exact qal qc (ρ := qJ) [GoT.v qJ [.string a.Name, .int .i64 a.Kind, .slice p4 r1.length k4, .slice p5 r2.length k5, .slice p6 r3.length k6, .int .i64 a.Leak, .int .i64 a.Energy]] h ⟨⟨_, _, _, rfl, rfl, h.box 4 rfl, rfl⟩, trivial⟩ (PV.done h (qaq (qpV (⟨a.Name, a.Kind, r1, r2, r3, a.Leak, a.Energy⟩ : qJ) h (qaz (S := fun _ => False) rfl) (qaz (S := fun _ => False) rfl) (qaG 2 h rfl) (qaG 1 h rfl) (qaG 0 h rfl) (qaz (S := fun _ => False) rfl) (qaz (S := fun _ => False) rfl) (by rfl) (by rfl) (by rfl) (by rfl) (by rfl) (by rfl))))

def qdv (a : (List qJ)) : Nat → (List qJ) → Int → Option ((List qJ) × Int)
 | 0, _, _ => none
 | n + 1, x2, i1 =>
  bif decide (i1 < (a.length : Int)) then
   (idx a i1).bind fun y1 =>
   (qgj n y1).bind fun r1 =>
   (idx x2 i1).bind fun _ =>
   qdv a n (setS x2 i1 r1) (W64 (i1 + 1))
  else
   some (x2, i1)

def qgK (n : Nat) (a : (List qJ)) : Option (List qJ) :=
 (mkS (a.length : Int) ((⟨ByteArray.empty, 0, [], [], [], 0, 0⟩ : qJ) : qJ)).bind fun x1 =>
 (qdv a n x1 0).bind fun o => match o with
 | (x2, _) =>
  some x2

theorem qkN {n : Nat} {w : World} {a : (List qJ)} {cs1 : List Value} (ha1 : GoT.R w (old w) a cs1) {r : (List qJ)} (hF : qgK n a = some r) : RetV Tryz.prog 80 [GoT.v (List qJ) cs1] w r := by
 obtain ⟨p1, k1, rfl, s1⟩ := ha1
 refine qf Tryz.func80 rfl (m := 23) rfl rfl (fun h => ?_)
 rw [qgK] at hF
 refine zSR (zp1 rfl (zNSR (zp2 rfl ?_)))
 obtain ⟨x1, hx1, hF⟩ := qd hF
 obtain ⟨g1, g2, hx1⟩ := qda hx1
 refine qer qc qJ h rfl rfl rfl rfl rfl rfl rfl rfl rfl g1 g2 hx1 rfl ?_
 intro w1 S1 p2 h
 refine zp1 rfl (zNSSR (zp1 rfl (qb ?_)))
 obtain ⟨o1, hF, hK1⟩ := qd hF
 refine qy (qW [(0, _), (3, _), (4, _)] ⟨rfl, rfl, rfl, trivial⟩ ?_)
 refine qI (fun m e w' => ∃ (S2 : Nat → Prop) (x2 : (List qJ)) (i1 : Int), qdv a m x2 i1 = some o1 ∧ e = [(0, .slice p1 a.length k1), (3, .slice p2 x1.length x1.length), (4, .int .i64 i1)] ∧ SH w w' [Ch.own S2 (x2 : List qJ) [.slice p2 x1.length x1.length]]) n ⟨_, _, _, hF, rfl, h⟩ ?_
 rintro m1 e1 w2 ⟨S2, x2, i1, hF, rfl, h⟩
 rcases m1 with _ | m1
 ·rw [qdv] at hF
  cases hF
 rw [qdv] at hF
 refine zSSR (zp4 rfl (qb ?_))
 refine qp rfl hF ?_ ?_ <;> intro hF
 ·refine zKSBR (zp4 rfl ?_)
  obtain ⟨y1, hy1, hF⟩ := qd hF
  have he1 := qg hy1
  obtain ⟨b1, o_1, q1, cs2, hp1, hq1, -, hr1, hc2⟩ := s1.at hy1
  obtain ⟨p3, k2, p4, k3, p5, k4, rfl, s2, s3, s4⟩ := qak hr1
  refine zxe hp1 hq1 he1 rfl (zc 0 (hc2.below h.below) rfl ?_)
  obtain ⟨r1, hr2, hF⟩ := qd hF
  refine qex r1 h call125 (qlp (qhH y1 (h.oldS s2) (h.oldS s3) (h.oldS s4)) hr2) rfl rfl rfl rfl ?_
  intro w3 S3 cs3 h
  obtain ⟨p6, k5, p7, k6, p8, k7, rfl, -, -, -⟩ := qak (h.own 0 rfl)
  obtain ⟨y2, hy2, hF⟩ := qd hF
  have he2 := qg hy2
  replace h := h.lrn0 1 rfl
  obtain ⟨b2, o_2, q2, cs4, hp2, hq2, -, hr3, hc3⟩ := (qhz (h.lrnO 1 rfl)).1.at hy2
  have hr4 := hr3
  obtain ⟨p9, k8, p10, k9, p11, k10, rfl, s8, s9, s10⟩ := qak hr3
  replace h := h.lrnAdd 1 rfl hr4
  refine zx hp2 hq2 ⟨he2.1, qbo he2.2.1 (qhz (h.lrnO 1 rfl)).2⟩ rfl ?_
  replace h := h.unlrn 1 rfl
  refine qir qc r1 h hy2 hp2 hq2 rfl rfl rfl rfl rfl ?_
  intro w4 S4 h
  exact zNER (zp3 rfl (qb (qz m1 [(0, _), (3, _), (4, _)] (Nat.lt_succ_self m1) ⟨rfl, rfl, rfl, trivial⟩ ⟨_, _, _, hF, rfl, h⟩)))
 refine qG rfl ?_
 obtain rfl := qh hF; replace hF := hK1
 refine zSR (zp2 rfl (qb ?_))
 obtain rfl := qh hF
 exact qal qc (ρ := (List qJ)) [GoT.v (List qJ) [.slice p2 x1.length x1.length]] h ⟨rfl, trivial⟩ (PV.done h (qaq (qaG 0 h rfl)))

def qfr (n : Nat) (a : qA) : Option qA :=
 (qgK n a.Cells).bind fun r1 =>
 some (⟨r1⟩ : qA)

theorem qj1 {n : Nat} {w : World} {a : qA} {cs1 : List Value} (ha1 : GoT.R w (old w) a cs1) {r : qA} (hF : qfr n a = some r) : RetV Tryz.prog 44 [GoT.v qA cs1] w r := by
 obtain ⟨p1, k1, rfl, s1⟩ := qbR ha1
 refine qf Tryz.func44 rfl (m := 9) rfl rfl (fun h => ?_)
 rw [qfr] at hF
 refine zSR (qS h rfl rfl ?_)
 intro w1 bb1 h
 refine qY qc h rfl rfl rfl ?_
 intro w2 bb2 h
 refine zNSR (qY qc h rfl rfl rfl ?_)
 intro w3 bb3 h
 refine zNSR (zp1 rfl (zl 2 0 h rfl ?_))
 obtain ⟨r1, hr1, hF⟩ := qd hF
 refine qay r1 h call80 (qkN ⟨_, _, rfl, (h.oldS s1)⟩ hr1) rfl rfl rfl rfl ?_
 intro w4 S1 p2 k2 h
 refine zp1 rfl (zs 1 h rfl ?_)
 intro w5 h
 refine zNSR (zl 1 0 h rfl (zs 2 h rfl ?_))
 intro w6 h
 replace h : SH _ _ [Ch.own S1 (r1 : List qJ) [.slice p2 r1.length k2], Ch.box bb3 [.slice p2 r1.length k2] 43, Ch.box bb2 [.slice p2 r1.length k2] 43, Ch.box bb1 [.slice p1 a.Cells.length k1] 24] := h
 refine qb ?_
 obtain rfl := qh hF
 exact qal qc (ρ := qA) [GoT.v qA [.slice p2 r1.length k2]] h ⟨⟨_, _, _, rfl, rfl, h.box 2 rfl, rfl⟩, trivial⟩ (PV.done h (qaq (qns (⟨r1⟩ : qA) h (qaG 0 h rfl))))

def qd9 (n : Nat) (a : qq) : Option qq :=
 (qaC n a.Nets).bind fun r1 =>
 some (⟨a.Name, a.Cell, r1⟩ : qq)

theorem qjZ {n : Nat} {w : World} {a : qq} {cs1 : List Value} (ha1 : GoT.R w (old w) a cs1) {r : qq} (hF : qd9 n a = some r) : RetV Tryz.prog 126 [GoT.v qq cs1] w r := by
 obtain ⟨p1, k1, rfl, s1⟩ := qaf ha1
 refine qf Tryz.func126 rfl (m := 15) rfl rfl (fun h => ?_)
 rw [qd9] at hF
 refine zSR (qS h rfl rfl ?_)
 intro w1 bb1 h
 refine qY qc h rfl rfl rfl ?_
 intro w2 bb2 h
 refine zNSR (qY qc h rfl rfl rfl ?_)
 intro w3 bb3 h
 refine zNSR (zp1 rfl (zl 2 0 h rfl (zp1 rfl (zs 0 h rfl ?_))))
 intro w4 h
 refine zNSR (zp1 rfl (zl 2 1 h rfl (zp1 rfl (zs 0 h rfl ?_))))
 intro w5 h
 replace h : SH _ _ [Ch.box bb3 [.string a.Name, .int .i64 a.Cell, .slice none 0 0] 185, Ch.box bb2 [.string ByteArray.empty, .int .i64 0, .slice none 0 0] 185, Ch.box bb1 [.string a.Name, .int .i64 a.Cell, .slice p1 a.Nets.length k1] 174] := h
 refine zNSR (zp1 rfl (zl 2 2 h rfl ?_))
 obtain ⟨r1, hr1, hF⟩ := qd hF
 refine qay r1 h call14 (qaA ⟨_, _, rfl, (h.oldS s1)⟩ hr1) rfl rfl rfl rfl ?_
 intro w6 S1 p2 k2 h
 refine zp1 rfl (zs 1 h rfl ?_)
 intro w7 h
 refine zNSR (zl 1 0 h rfl (zs 2 h rfl ?_))
 intro w8 h
 replace h : SH _ _ [Ch.own S1 (r1 : List Int) [.slice p2 r1.length k2], Ch.box bb3 [.string a.Name, .int .i64 a.Cell, .slice p2 r1.length k2] 185, Ch.box bb2 [.string a.Name, .int .i64 a.Cell, .slice p2 r1.length k2] 185, Ch.box bb1 [.string a.Name, .int .i64 a.Cell, .slice p1 a.Nets.length k1] 174] := h
 refine qb ?_
 obtain rfl := qh hF
 exact qal qc (ρ := qq) [GoT.v qq [.string a.Name, .int .i64 a.Cell, .slice p2 r1.length k2]] h ⟨⟨_, _, _, rfl, rfl, h.box 2 rfl, rfl⟩, trivial⟩ (PV.done h (qaq (qmR (⟨a.Name, a.Cell, r1⟩ : qq) h (qaz (S := fun _ => False) rfl) (qaz (S := fun _ => False) rfl) (qaG 0 h rfl) (by rfl) (by rfl))))

def qb3 (a : (List qq)) : Nat → (List qq) → Int → Option ((List qq) × Int)
 | 0, _, _ => none
 | n + 1, x2, i1 =>
  bif decide (i1 < (a.length : Int)) then
   (idx a i1).bind fun y1 =>
   (qd9 n y1).bind fun r1 =>
   (idx x2 i1).bind fun _ =>
   qb3 a n (setS x2 i1 r1) (W64 (i1 + 1))
  else
   some (x2, i1)

def qeM (n : Nat) (a : (List qq)) : Option (List qq) :=
 (mkS (a.length : Int) ((⟨ByteArray.empty, 0, []⟩ : qq) : qq)).bind fun x1 =>
 (qb3 a n x1 0).bind fun o => match o with
 | (x2, _) =>
  some x2

theorem qjA {n : Nat} {w : World} {a : (List qq)} {cs1 : List Value} (ha1 : GoT.R w (old w) a cs1) {r : (List qq)} (hF : qeM n a = some r) : RetV Tryz.prog 81 [GoT.v (List qq) cs1] w r := by
 obtain ⟨p1, k1, rfl, s1⟩ := ha1
 refine qf Tryz.func81 rfl (m := 23) rfl rfl (fun h => ?_)
 rw [qeM] at hF
 refine zSR (zp1 rfl (zNSR (zp2 rfl ?_)))
 obtain ⟨x1, hx1, hF⟩ := qd hF
 obtain ⟨g1, g2, hx1⟩ := qda hx1
 refine qer qc qq h rfl rfl rfl rfl rfl rfl rfl rfl rfl g1 g2 hx1 rfl ?_
 intro w1 S1 p2 h
 refine zp1 rfl (zNSSR (zp1 rfl (qb ?_)))
 obtain ⟨o1, hF, hK1⟩ := qd hF
 refine qy (qW [(0, _), (3, _), (4, _)] ⟨rfl, rfl, rfl, trivial⟩ ?_)
 refine qI (fun m e w' => ∃ (S2 : Nat → Prop) (x2 : (List qq)) (i1 : Int), qb3 a m x2 i1 = some o1 ∧ e = [(0, .slice p1 a.length k1), (3, .slice p2 x1.length x1.length), (4, .int .i64 i1)] ∧ SH w w' [Ch.own S2 (x2 : List qq) [.slice p2 x1.length x1.length]]) n ⟨_, _, _, hF, rfl, h⟩ ?_
 rintro m1 e1 w2 ⟨S2, x2, i1, hF, rfl, h⟩
 rcases m1 with _ | m1
 ·rw [qb3] at hF
  cases hF
 rw [qb3] at hF
 refine zSSR (zp4 rfl (qb ?_))
 refine qp rfl hF ?_ ?_ <;> intro hF
 ·refine zKSBR (zp4 rfl ?_)
  obtain ⟨y1, hy1, hF⟩ := qd hF
  have he1 := qg hy1
  obtain ⟨b1, o_1, q1, cs2, hp1, hq1, -, hr1, hc2⟩ := s1.at hy1
  obtain ⟨p3, k2, rfl, s2⟩ := qaf hr1
  refine zxe hp1 hq1 he1 rfl (zc 0 (hc2.below h.below) rfl ?_)
  obtain ⟨r1, hr2, hF⟩ := qd hF
  refine qex r1 h call126 (qjZ (qe6 y1 (h.oldS s2)) hr2) rfl rfl rfl rfl ?_
  intro w3 S3 cs3 h
  obtain ⟨p4, k3, rfl, -⟩ := qaf (h.own 0 rfl)
  obtain ⟨y2, hy2, hF⟩ := qd hF
  have he2 := qg hy2
  replace h := h.lrn0 1 rfl
  obtain ⟨b2, o_2, q2, cs4, hp2, hq2, -, hr3, hc3⟩ := (qhz (h.lrnO 1 rfl)).1.at hy2
  have hr4 := hr3
  obtain ⟨p5, k4, rfl, s4⟩ := qaf hr3
  replace h := h.lrnAdd 1 rfl hr4
  refine zx hp2 hq2 ⟨he2.1, qbo he2.2.1 (qhz (h.lrnO 1 rfl)).2⟩ rfl ?_
  replace h := h.unlrn 1 rfl
  refine qir qc r1 h hy2 hp2 hq2 rfl rfl rfl rfl rfl ?_
  intro w4 S4 h
  exact zNER (zp3 rfl (qb (qz m1 [(0, _), (3, _), (4, _)] (Nat.lt_succ_self m1) ⟨rfl, rfl, rfl, trivial⟩ ⟨_, _, _, hF, rfl, h⟩)))
 refine qG rfl ?_
 obtain rfl := qh hF; replace hF := hK1
 refine zSR (zp2 rfl (qb ?_))
 obtain rfl := qh hF
 exact qal qc (ρ := (List qq)) [GoT.v (List qq) [.slice p2 x1.length x1.length]] h ⟨rfl, trivial⟩ (PV.done h (qaq (qaG 0 h rfl)))

def qcy (a : (List ByteArray)) : Nat → (List ByteArray) → Int → Option ((List ByteArray) × Int)
 | 0, _, _ => none
 | n + 1, x2, i1 =>
  bif decide (i1 < (a.length : Int)) then
   (idx a i1).bind fun y1 =>
   (idx x2 i1).bind fun _ =>
   qcy a n (setS x2 i1 y1) (W64 (i1 + 1))
  else
   some (x2, i1)

def qfl (n : Nat) (a : (List ByteArray)) : Option (List ByteArray) :=
 (mkS (a.length : Int) (ByteArray.empty : ByteArray)).bind fun x1 =>
 (qcy a n x1 0).bind fun o => match o with
 | (x2, _) =>
  some x2

theorem qj6 {n : Nat} {w : World} {a : (List ByteArray)} {cs1 : List Value} (ha1 : GoT.R w (old w) a cs1) {r : (List ByteArray)} (hF : qfl n a = some r) : RetV Tryz.prog 82 [GoT.v (List ByteArray) cs1] w r := by
 obtain ⟨p1, k1, rfl, s1⟩ := ha1
 refine qf Tryz.func82 rfl (m := 22) rfl rfl (fun h => ?_)
 rw [qfl] at hF
 refine zSR (zp1 rfl (zNSR (zp2 rfl ?_)))
 obtain ⟨x1, hx1, hF⟩ := qd hF
 obtain ⟨g1, g2, hx1⟩ := qda hx1
 refine qer qc ByteArray h rfl rfl rfl rfl rfl rfl rfl rfl rfl g1 g2 hx1 rfl ?_
 intro w1 S1 p2 h
 refine zp1 rfl (zNSSR (zp1 rfl (qb ?_)))
 obtain ⟨o1, hF, hK1⟩ := qd hF
 refine qy (qW [(0, _), (3, _), (4, _)] ⟨rfl, rfl, rfl, trivial⟩ ?_)
 refine qI (fun m e w' => ∃ (x2 : (List ByteArray)) (i1 : Int), qcy a m x2 i1 = some o1 ∧ e = [(0, .slice p1 a.length k1), (3, .slice p2 x1.length x1.length), (4, .int .i64 i1)] ∧ SH w w' [Ch.own S1 (x2 : List ByteArray) [.slice p2 x1.length x1.length]]) n ⟨_, _, hF, rfl, h⟩ ?_
 rintro m1 e1 w2 ⟨x2, i1, hF, rfl, h⟩
 rcases m1 with _ | m1
 ·rw [qcy] at hF
  cases hF
 rw [qcy] at hF
 refine zSSR (zp4 rfl (qb ?_))
 refine qp rfl hF ?_ ?_ <;> intro hF
 ·refine zKSBR (zp4 rfl ?_)
  obtain ⟨y1, hy1, hF⟩ := qd hF
  have he1 := qg hy1
  obtain ⟨b1, o_1, q1, cs2, hp1, hq1, -, hr1, hc2⟩ := s1.at hy1
  obtain rfl := hr1
  refine zxe hp1 hq1 he1 rfl (zc 0 (hc2.below h.below) rfl ?_)
  obtain ⟨y2, hy2, hF⟩ := qd hF
  have he2 := qg hy2
  obtain ⟨b2, o_2, q2, cs3, hp2, hq2, -, hr2, hc3⟩ := (h.sl 0 rfl).1.at hy2
  obtain rfl := hr2
  refine zx hp2 hq2 ⟨he2.1, qbo he2.2.1 (h.sl 0 rfl).2⟩ rfl (qfe qc 0 0 y1 h rfl hy2 hp2 hq2 rfl hc3 rfl rfl rfl rfl rfl rfl rfl ?_)
  intro w3 h
  exact zNER (zp3 rfl (qb (qz m1 [(0, _), (3, _), (4, _)] (Nat.lt_succ_self m1) ⟨rfl, rfl, rfl, trivial⟩ ⟨_, _, hF, rfl, h⟩)))
 refine qG rfl ?_
 obtain rfl := qh hF; replace hF := hK1
 refine zSR (zp2 rfl (qb ?_))
 obtain rfl := qh hF
 exact qal qc (ρ := (List ByteArray)) [GoT.v (List ByteArray) [.slice p2 x1.length x1.length]] h ⟨rfl, trivial⟩ (PV.done h (qaq (qaG 0 h rfl)))

def qgg (_ : Nat) (a : qaj) : Option qaj :=
 some (⟨a.Name, a.Dir, a.Net⟩ : qaj)

theorem qli {n : Nat} {w : World} {a : qaj} {cs1 : List Value} (ha1 : GoT.R w (old w) a cs1) {r : qaj} (hF : qgg n a = some r) : RetV Tryz.prog 127 [GoT.v qaj cs1] w r := by
 obtain rfl := qbk ha1
 refine qf Tryz.func127 rfl (m := 14) rfl rfl (fun h => ?_)
 rw [qgg] at hF
 refine zSR (qS h rfl rfl ?_)
 intro w1 bb1 h
 refine qY qc h rfl rfl rfl ?_
 intro w2 bb2 h
 refine zNSR (qY qc h rfl rfl rfl ?_)
 intro w3 bb3 h
 refine zNSR (zp1 rfl (zl 2 0 h rfl (zp1 rfl (zs 0 h rfl ?_))))
 intro w4 h
 refine zNSR (zp1 rfl (zl 2 1 h rfl (zp1 rfl (zs 0 h rfl ?_))))
 intro w5 h
 replace h : SH _ _ [Ch.box bb3 [.string a.Name, .int .i64 a.Dir, .int .i64 0] 187, Ch.box bb2 [.string ByteArray.empty, .int .i64 0, .int .i64 0] 187, Ch.box bb1 [.string a.Name, .int .i64 a.Dir, .int .i64 a.Net] 177] := h
 refine zNSR (zp1 rfl (zl 2 2 h rfl (zp1 rfl (zs 0 h rfl ?_))))
 intro w6 h
 refine zNSR (zl 0 0 h rfl (zs 1 h rfl ?_))
 intro w7 h
 replace h : SH _ _ [Ch.box bb3 [.string a.Name, .int .i64 a.Dir, .int .i64 a.Net] 187, Ch.box bb2 [.string a.Name, .int .i64 a.Dir, .int .i64 a.Net] 187, Ch.box bb1 [.string a.Name, .int .i64 a.Dir, .int .i64 a.Net] 177] := h
 refine qb ?_
 obtain rfl := qh hF
 exact qal qc (ρ := qaj) [GoT.v qaj [.string a.Name, .int .i64 a.Dir, .int .i64 a.Net]] h ⟨⟨_, _, _, rfl, rfl, h.box 1 rfl, rfl⟩, trivial⟩ (PV.done h (qaq (qaz (S := fun _ => False) (qg8 (⟨a.Name, a.Dir, a.Net⟩ : qaj)))))

def qdw (a : (List qaj)) : Nat → (List qaj) → Int → Option ((List qaj) × Int)
 | 0, _, _ => none
 | n + 1, x2, i1 =>
  bif decide (i1 < (a.length : Int)) then
   (idx a i1).bind fun y1 =>
   (qgg n y1).bind fun r1 =>
   (idx x2 i1).bind fun _ =>
   qdw a n (setS x2 i1 r1) (W64 (i1 + 1))
  else
   some (x2, i1)

def qgJ (n : Nat) (a : (List qaj)) : Option (List qaj) :=
 (mkS (a.length : Int) ((⟨ByteArray.empty, 0, 0⟩ : qaj) : qaj)).bind fun x1 =>
 (qdw a n x1 0).bind fun o => match o with
 | (x2, _) =>
  some x2

theorem qkZ {n : Nat} {w : World} {a : (List qaj)} {cs1 : List Value} (ha1 : GoT.R w (old w) a cs1) {r : (List qaj)} (hF : qgJ n a = some r) : RetV Tryz.prog 83 [GoT.v (List qaj) cs1] w r := by
 obtain ⟨p1, k1, rfl, s1⟩ := ha1
 refine qf Tryz.func83 rfl (m := 23) rfl rfl (fun h => ?_)
 rw [qgJ] at hF
 refine zSR (zp1 rfl (zNSR (zp2 rfl ?_)))
 obtain ⟨x1, hx1, hF⟩ := qd hF
 obtain ⟨g1, g2, hx1⟩ := qda hx1
 refine qer qc qaj h rfl rfl rfl rfl rfl rfl rfl rfl rfl g1 g2 hx1 rfl ?_
 intro w1 S1 p2 h
 refine zp1 rfl (zNSSR (zp1 rfl (qb ?_)))
 obtain ⟨o1, hF, hK1⟩ := qd hF
 refine qy (qW [(0, _), (3, _), (4, _)] ⟨rfl, rfl, rfl, trivial⟩ ?_)
 refine qI (fun m e w' => ∃ (x2 : (List qaj)) (i1 : Int), qdw a m x2 i1 = some o1 ∧ e = [(0, .slice p1 a.length k1), (3, .slice p2 x1.length x1.length), (4, .int .i64 i1)] ∧ SH w w' [Ch.own S1 (x2 : List qaj) [.slice p2 x1.length x1.length]]) n ⟨_, _, hF, rfl, h⟩ ?_
 rintro m1 e1 w2 ⟨x2, i1, hF, rfl, h⟩
 rcases m1 with _ | m1
 ·rw [qdw] at hF
  cases hF
 rw [qdw] at hF
 refine zSSR (zp4 rfl (qb ?_))
 refine qp rfl hF ?_ ?_ <;> intro hF
 ·refine zKSBR (zp4 rfl ?_)
  obtain ⟨y1, hy1, hF⟩ := qd hF
  have he1 := qg hy1
  obtain ⟨b1, o_1, q1, cs2, hp1, hq1, -, hr1, hc2⟩ := s1.at hy1
  obtain rfl := qbk hr1
  refine zxe hp1 hq1 he1 rfl (zc 0 (hc2.below h.below) rfl ?_)
  obtain ⟨r1, hr2, hF⟩ := qd hF
  refine qex r1 h call127 (qli (qg8 y1) hr2) rfl rfl rfl rfl ?_
  intro w3 S2 cs3 h
  obtain rfl := qbk (h.own 0 rfl)
  obtain ⟨y2, hy2, hF⟩ := qd hF
  have he2 := qg hy2
  obtain ⟨b2, o_2, q2, cs4, hp2, hq2, -, hr3, hc3⟩ := (h.sl 1 rfl).1.at hy2
  obtain rfl := qbk hr3
  refine zx hp2 hq2 ⟨he2.1, qbo he2.2.1 (h.sl 1 rfl).2⟩ rfl (qfe qc 1 0 r1 h rfl hy2 hp2 hq2 (qg8 y2) hc3 rfl rfl rfl (qg8 r1) rfl rfl rfl ?_)
  intro w4 h
  refine zNER (zp3 rfl (qb ?_))
  replace h := h.pick [1] rfl
  exact qz m1 [(0, _), (3, _), (4, _)] (Nat.lt_succ_self m1) ⟨rfl, rfl, rfl, trivial⟩ ⟨_, _, hF, rfl, h⟩
 refine qG rfl ?_
 obtain rfl := qh hF; replace hF := hK1
 refine zSR (zp2 rfl (qb ?_))
 obtain rfl := qh hF
 exact qal qc (ρ := (List qaj)) [GoT.v (List qaj) [.slice p2 x1.length x1.length]] h ⟨rfl, trivial⟩ (PV.done h (qaq (qaG 0 h rfl)))

def qfN (n : Nat) (a : qk) : Option qk :=
 (qeM n a.Instances).bind fun r1 =>
 (qfl n a.Nets).bind fun r2 =>
 (qgJ n a.Ports).bind fun r3 =>
 some (⟨r1, r2, r3⟩ : qk)

theorem qko {n : Nat} {w : World} {a : qk} {cs1 : List Value} (ha1 : GoT.R w (old w) a cs1) {r : qk} (hF : qfN n a = some r) : RetV Tryz.prog 45 [GoT.v qk cs1] w r := by
 obtain ⟨p1, k1, p2, k2, p3, k3, rfl, s1, s2, s3⟩ := qaQ ha1
 refine qf Tryz.func45 rfl (m := 17) rfl rfl (fun h => ?_)
 rw [qfN] at hF
 refine zSR (qS h rfl rfl ?_)
 intro w1 bb1 h
 refine qY qc h rfl rfl rfl ?_
 intro w2 bb2 h
 refine zNSR (qY qc h rfl rfl rfl ?_)
 intro w3 bb3 h
 refine zNSR (zp1 rfl (zl 2 0 h rfl ?_))
 obtain ⟨r1, hr1, hF⟩ := qd hF
 refine qay r1 h call81 (qjA ⟨_, _, rfl, (h.oldS s1)⟩ hr1) rfl rfl rfl rfl ?_
 intro w4 S1 p4 k4 h
 refine zp1 rfl (zs 1 h rfl ?_)
 intro w5 h
 refine zNSR (zp1 rfl (zl 3 1 h rfl ?_))
 obtain ⟨r2, hr2, hF⟩ := qd hF
 refine qay r2 h call82 (qj6 ⟨_, _, rfl, (h.oldS s2)⟩ hr2) rfl rfl rfl rfl ?_
 intro w6 S2 p5 k5 h
 refine zp1 rfl (zs 2 h rfl ?_)
 intro w7 h
 replace h : SH _ _ [Ch.own S2 (r2 : List ByteArray) [.slice p5 r2.length k5], Ch.own S1 (r1 : List qq) [.slice p4 r1.length k4], Ch.box bb3 [.slice p4 r1.length k4, .slice p5 r2.length k5, .slice none 0 0] 47, Ch.box bb2 [.slice none 0 0, .slice none 0 0, .slice none 0 0] 47, Ch.box bb1 [.slice p1 a.Instances.length k1, .slice p2 a.Nets.length k2, .slice p3 a.Ports.length k3] 29] := h
 refine zNSR (zp1 rfl (zl 4 2 h rfl ?_))
 obtain ⟨r3, hr3, hF⟩ := qd hF
 refine qay r3 h call83 (qkZ ⟨_, _, rfl, (h.oldS s3)⟩ hr3) rfl rfl rfl rfl ?_
 intro w8 S3 p6 k6 h
 refine zp1 rfl (zs 3 h rfl ?_)
 intro w9 h
 refine zNSR (zl 3 0 h rfl (zs 4 h rfl ?_))
 intro w10 h
 replace h : SH _ _ [Ch.own S3 (r3 : List qaj) [.slice p6 r3.length k6], Ch.own S2 (r2 : List ByteArray) [.slice p5 r2.length k5], Ch.own S1 (r1 : List qq) [.slice p4 r1.length k4], Ch.box bb3 [.slice p4 r1.length k4, .slice p5 r2.length k5, .slice p6 r3.length k6] 47, Ch.box bb2 [.slice p4 r1.length k4, .slice p5 r2.length k5, .slice p6 r3.length k6] 47, Ch.box bb1 [.slice p1 a.Instances.length k1, .slice p2 a.Nets.length k2, .slice p3 a.Ports.length k3] 29] := h
 refine qb ?_
 obtain rfl := qh hF
 exact qal qc (ρ := qk) [GoT.v qk [.slice p4 r1.length k4, .slice p5 r2.length k5, .slice p6 r3.length k6]] h ⟨⟨_, _, _, rfl, rfl, h.box 4 rfl, rfl⟩, trivial⟩ (PV.done h (qaq (qnE (⟨r1, r2, r3⟩ : qk) h (qaG 2 h rfl) (qaG 1 h rfl) (qaG 0 h rfl) (by rfl) (by rfl))))

def qgb (n : Nat) (a : qac) : Option qac :=
 (qaC n a.Parent).bind fun r1 =>
 (qaC n a.Res).bind fun r2 =>
 (qaC n a.Cap).bind fun r3 =>
 (qaC n a.Sink).bind fun r4 =>
 some (⟨r1, r2, r3, r4⟩ : qac)

theorem qly {n : Nat} {w : World} {a : qac} {cs1 : List Value} (ha1 : GoT.R w (old w) a cs1) {r : qac} (hF : qgb n a = some r) : RetV Tryz.prog 84 [GoT.v qac cs1] w r := by
 obtain ⟨p1, k1, p2, k2, p3, k3, p4, k4, rfl, s1, s2, s3, s4⟩ := qbF ha1
 refine qf Tryz.func84 rfl (m := 21) rfl rfl (fun h => ?_)
 rw [qgb] at hF
 refine zSR (qS h rfl rfl ?_)
 intro w1 bb1 h
 refine qY qc h rfl rfl rfl ?_
 intro w2 bb2 h
 refine zNSR (qY qc h rfl rfl rfl ?_)
 intro w3 bb3 h
 refine zNSR (zp1 rfl (zl 2 0 h rfl ?_))
 obtain ⟨r1, hr1, hF⟩ := qd hF
 refine qay r1 h call14 (qaA ⟨_, _, rfl, (h.oldS s1)⟩ hr1) rfl rfl rfl rfl ?_
 intro w4 S1 p5 k5 h
 refine zp1 rfl (zs 1 h rfl ?_)
 intro w5 h
 refine zNSR (zp1 rfl (zl 3 1 h rfl ?_))
 obtain ⟨r2, hr2, hF⟩ := qd hF
 refine qay r2 h call14 (qaA ⟨_, _, rfl, (h.oldS s2)⟩ hr2) rfl rfl rfl rfl ?_
 intro w6 S2 p6 k6 h
 refine zp1 rfl (zs 2 h rfl ?_)
 intro w7 h
 replace h : SH _ _ [Ch.own S2 (r2 : List Int) [.slice p6 r2.length k6], Ch.own S1 (r1 : List Int) [.slice p5 r1.length k5], Ch.box bb3 [.slice p5 r1.length k5, .slice p6 r2.length k6, .slice none 0 0, .slice none 0 0] 130, Ch.box bb2 [.slice none 0 0, .slice none 0 0, .slice none 0 0, .slice none 0 0] 130, Ch.box bb1 [.slice p1 a.Parent.length k1, .slice p2 a.Res.length k2, .slice p3 a.Cap.length k3, .slice p4 a.Sink.length k4] 122] := h
 refine zNSR (zp1 rfl (zl 4 2 h rfl ?_))
 obtain ⟨r3, hr3, hF⟩ := qd hF
 refine qay r3 h call14 (qaA ⟨_, _, rfl, (h.oldS s3)⟩ hr3) rfl rfl rfl rfl ?_
 intro w8 S3 p7 k7 h
 refine zp1 rfl (zs 3 h rfl ?_)
 intro w9 h
 refine zNSR (zp1 rfl (zl 5 3 h rfl ?_))
 obtain ⟨r4, hr4, hF⟩ := qd hF
 refine qay r4 h call14 (qaA ⟨_, _, rfl, (h.oldS s4)⟩ hr4) rfl rfl rfl rfl ?_
 intro w10 S4 p8 k8 h
 refine zp1 rfl (zs 4 h rfl ?_)
 intro w11 h
 replace h : SH _ _ [Ch.own S4 (r4 : List Int) [.slice p8 r4.length k8], Ch.own S3 (r3 : List Int) [.slice p7 r3.length k7], Ch.own S2 (r2 : List Int) [.slice p6 r2.length k6], Ch.own S1 (r1 : List Int) [.slice p5 r1.length k5], Ch.box bb3 [.slice p5 r1.length k5, .slice p6 r2.length k6, .slice p7 r3.length k7, .slice p8 r4.length k8] 130, Ch.box bb2 [.slice none 0 0, .slice none 0 0, .slice none 0 0, .slice none 0 0] 130, Ch.box bb1 [.slice p1 a.Parent.length k1, .slice p2 a.Res.length k2, .slice p3 a.Cap.length k3, .slice p4 a.Sink.length k4] 122] := h
 refine zNSR (zl 4 0 h rfl (zs 5 h rfl ?_))
 intro w12 h
 refine qb ?_
 obtain rfl := qh hF
 exact qal qc (ρ := qac) [GoT.v qac [.slice p5 r1.length k5, .slice p6 r2.length k6, .slice p7 r3.length k7, .slice p8 r4.length k8]] h ⟨⟨_, _, _, rfl, rfl, h.box 5 rfl, rfl⟩, trivial⟩ (PV.done h (qaq (qqa (⟨r1, r2, r3, r4⟩ : qac) h (qaG 3 h rfl) (qaG 2 h rfl) (qaG 1 h rfl) (qaG 0 h rfl) (by rfl) (by rfl) (by rfl))))

def qdr (a : (List qac)) : Nat → (List qac) → Int → Option ((List qac) × Int)
 | 0, _, _ => none
 | n + 1, x2, i1 =>
  bif decide (i1 < (a.length : Int)) then
   (idx a i1).bind fun y1 =>
   (qgb n y1).bind fun r1 =>
   (idx x2 i1).bind fun _ =>
   qdr a n (setS x2 i1 r1) (W64 (i1 + 1))
  else
   some (x2, i1)

def qgU (n : Nat) (a : (List qac)) : Option (List qac) :=
 (mkS (a.length : Int) ((⟨[], [], [], []⟩ : qac) : qac)).bind fun x1 =>
 (qdr a n x1 0).bind fun o => match o with
 | (x2, _) =>
  some x2

theorem qk5 {n : Nat} {w : World} {a : (List qac)} {cs1 : List Value} (ha1 : GoT.R w (old w) a cs1) {r : (List qac)} (hF : qgU n a = some r) : RetV Tryz.prog 46 [GoT.v (List qac) cs1] w r := by
 obtain ⟨p1, k1, rfl, s1⟩ := ha1
 refine qf Tryz.func46 rfl (m := 23) rfl rfl (fun h => ?_)
 rw [qgU] at hF
 refine zSR (zp1 rfl (zNSR (zp2 rfl ?_)))
 obtain ⟨x1, hx1, hF⟩ := qd hF
 obtain ⟨g1, g2, hx1⟩ := qda hx1
 refine qer qc qac h rfl rfl rfl rfl rfl rfl rfl rfl rfl g1 g2 hx1 rfl ?_
 intro w1 S1 p2 h
 refine zp1 rfl (zNSSR (zp1 rfl (qb ?_)))
 obtain ⟨o1, hF, hK1⟩ := qd hF
 refine qy (qW [(0, _), (3, _), (4, _)] ⟨rfl, rfl, rfl, trivial⟩ ?_)
 refine qI (fun m e w' => ∃ (S2 : Nat → Prop) (x2 : (List qac)) (i1 : Int), qdr a m x2 i1 = some o1 ∧ e = [(0, .slice p1 a.length k1), (3, .slice p2 x1.length x1.length), (4, .int .i64 i1)] ∧ SH w w' [Ch.own S2 (x2 : List qac) [.slice p2 x1.length x1.length]]) n ⟨_, _, _, hF, rfl, h⟩ ?_
 rintro m1 e1 w2 ⟨S2, x2, i1, hF, rfl, h⟩
 rcases m1 with _ | m1
 ·rw [qdr] at hF
  cases hF
 rw [qdr] at hF
 refine zSSR (zp4 rfl (qb ?_))
 refine qp rfl hF ?_ ?_ <;> intro hF
 ·refine zKSBR (zp4 rfl ?_)
  obtain ⟨y1, hy1, hF⟩ := qd hF
  have he1 := qg hy1
  obtain ⟨b1, o_1, q1, cs2, hp1, hq1, -, hr1, hc2⟩ := s1.at hy1
  obtain ⟨p3, k2, p4, k3, p5, k4, p6, k5, rfl, s2, s3, s4, s5⟩ := qbF hr1
  refine zxe hp1 hq1 he1 rfl (zc 0 (hc2.below h.below) rfl ?_)
  obtain ⟨r1, hr2, hF⟩ := qd hF
  refine qex r1 h call84 (qly (qhK y1 (h.oldS s2) (h.oldS s3) (h.oldS s4) (h.oldS s5)) hr2) rfl rfl rfl rfl ?_
  intro w3 S3 cs3 h
  obtain ⟨p7, k6, p8, k7, p9, k8, p10, k9, rfl, -, -, -, -⟩ := qbF (h.own 0 rfl)
  obtain ⟨y2, hy2, hF⟩ := qd hF
  have he2 := qg hy2
  replace h := h.lrn0 1 rfl
  obtain ⟨b2, o_2, q2, cs4, hp2, hq2, -, hr3, hc3⟩ := (qhz (h.lrnO 1 rfl)).1.at hy2
  have hr4 := hr3
  obtain ⟨p11, k10, p12, k11, p13, k12, p14, k13, rfl, s10, s11, s12, s13⟩ := qbF hr3
  replace h := h.lrnAdd 1 rfl hr4
  refine zx hp2 hq2 ⟨he2.1, qbo he2.2.1 (qhz (h.lrnO 1 rfl)).2⟩ rfl ?_
  replace h := h.unlrn 1 rfl
  refine qir qc r1 h hy2 hp2 hq2 rfl rfl rfl rfl rfl ?_
  intro w4 S4 h
  exact zNER (zp3 rfl (qb (qz m1 [(0, _), (3, _), (4, _)] (Nat.lt_succ_self m1) ⟨rfl, rfl, rfl, trivial⟩ ⟨_, _, _, hF, rfl, h⟩)))
 refine qG rfl ?_
 obtain rfl := qh hF; replace hF := hK1
 refine zSR (zp2 rfl (qb ?_))
 obtain rfl := qh hF
 exact qal qc (ρ := (List qac)) [GoT.v (List qac) [.slice p2 x1.length x1.length]] h ⟨rfl, trivial⟩ (PV.done h (qaq (qaG 0 h rfl)))

def qeU (n : Nat) (a : qD) : Option qD :=
 (qfr n (⟨a.Library.Cells⟩ : qA)).bind fun r1 =>
 (qfN n (⟨a.Design.Instances, a.Design.Nets, a.Design.Ports⟩ : qk)).bind fun r2 =>
 (qgU n a.Wires).bind fun r3 =>
 some (⟨r1, r2, r3⟩ : qD)

theorem qhy {n : Nat} {w : World} {a : qD} {cs1 : List Value} (ha1 : GoT.R w (old w) a cs1) {r : qD} (hF : qeU n a = some r) : RetV Tryz.prog 12 [GoT.v qD cs1] w r := by
 obtain ⟨p1, k1, p2, k2, p3, k3, p4, k4, p5, k5, rfl, s1, s2, s3, s4, s5⟩ := qax ha1
 refine qf Tryz.func12 rfl (m := 17) rfl rfl (fun h => ?_)
 rw [qeU] at hF
 refine zSR (qS h rfl rfl ?_)
 intro w1 bb1 h
 refine qY qc h rfl rfl rfl ?_
 intro w2 bb2 h
 refine zNSR (qY qc h rfl rfl rfl ?_)
 intro w3 bb3 h
 refine zNSR (zp1 rfl (zl 2 0 h rfl ?_))
 obtain ⟨r1, hr1, hF⟩ := qd hF
 refine qex r1 h call44 (qj1 (qeS (⟨a.Library.Cells⟩ : qA) (h.oldS s1)) hr1) rfl rfl rfl rfl ?_
 intro w4 S1 cs2 h
 obtain ⟨p6, k6, rfl, -⟩ := qbR (h.own 0 rfl)
 refine zp1 rfl (zs 1 h rfl ?_)
 intro w5 h
 refine zNSR (zp1 rfl (zl 3 1 h rfl ?_))
 obtain ⟨r2, hr2, hF⟩ := qd hF
 refine qex r2 h call45 (qko (qb6 (⟨a.Design.Instances, a.Design.Nets, a.Design.Ports⟩ : qk) (h.oldS s2) (h.oldS s3) (h.oldS s4)) hr2) rfl rfl rfl rfl ?_
 intro w6 S2 cs3 h
 obtain ⟨p7, k7, p8, k8, p9, k9, rfl, -, -, -⟩ := qaQ (h.own 0 rfl)
 refine zp1 rfl (zs 2 h rfl ?_)
 intro w7 h
 replace h : SH _ _ [Ch.own S2 (r2 : qk) [.slice p7 r2.Instances.length k7, .slice p8 r2.Nets.length k8, .slice p9 r2.Ports.length k9], Ch.own S1 (r1 : qA) [.slice p6 r1.Cells.length k6], Ch.box bb3 [.slice p6 r1.Cells.length k6, .slice p7 r2.Instances.length k7, .slice p8 r2.Nets.length k8, .slice p9 r2.Ports.length k9, .slice none 0 0] 50, Ch.box bb2 [.slice none 0 0, .slice none 0 0, .slice none 0 0, .slice none 0 0, .slice none 0 0] 50, Ch.box bb1 [.slice p1 a.Library.Cells.length k1, .slice p2 a.Design.Instances.length k2, .slice p3 a.Design.Nets.length k3, .slice p4 a.Design.Ports.length k4, .slice p5 a.Wires.length k5] 32] := h
 refine zNSR (zp1 rfl (zl 4 4 h rfl ?_))
 obtain ⟨r3, hr3, hF⟩ := qd hF
 refine qay r3 h call46 (qk5 ⟨_, _, rfl, (h.oldS s5)⟩ hr3) rfl rfl rfl rfl ?_
 intro w8 S3 p10 k10 h
 refine zp1 rfl (zs 3 h rfl ?_)
 intro w9 h
 refine zNSR (zl 3 0 h rfl (zs 4 h rfl ?_))
 intro w10 h
 replace h : SH _ _ [Ch.own S3 (r3 : List qac) [.slice p10 r3.length k10], Ch.own S2 (r2 : qk) [.slice p7 r2.Instances.length k7, .slice p8 r2.Nets.length k8, .slice p9 r2.Ports.length k9], Ch.own S1 (r1 : qA) [.slice p6 r1.Cells.length k6], Ch.box bb3 [.slice p6 r1.Cells.length k6, .slice p7 r2.Instances.length k7, .slice p8 r2.Nets.length k8, .slice p9 r2.Ports.length k9, .slice p10 r3.length k10] 50, Ch.box bb2 [.slice p6 r1.Cells.length k6, .slice p7 r2.Instances.length k7, .slice p8 r2.Nets.length k8, .slice p9 r2.Ports.length k9, .slice p10 r3.length k10] 50, Ch.box bb1 [.slice p1 a.Library.Cells.length k1, .slice p2 a.Design.Instances.length k2, .slice p3 a.Design.Nets.length k3, .slice p4 a.Design.Ports.length k4, .slice p5 a.Wires.length k5] 32] := h
 refine qb ?_
 obtain rfl := qh hF
 exact qal qc (ρ := qD) [GoT.v qD [.slice p6 r1.Cells.length k6, .slice p7 r2.Instances.length k7, .slice p8 r2.Nets.length k8, .slice p9 r2.Ports.length k9, .slice p10 r3.length k10]] h ⟨⟨_, _, _, rfl, rfl, h.box 4 rfl, rfl⟩, trivial⟩ (PV.done h (qaq (qo5 (⟨r1, r2, r3⟩ : qD) h (qaG 2 h rfl) (qaG 1 h rfl) (qaG 0 h rfl) (by rfl) (by rfl))))

end Go.Fw
