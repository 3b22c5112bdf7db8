/- By a program of mine (gen.py): for each function a plain function and the proof that the code computes it. -/
import Derived.Test.YtihkipojhdehnaaGreatDoorFw34
import Derived.Test.YtihkipojhdehnaaGreatDoorChecked
import Derived.Test.YtihkipojhdehnaaGreatDoorS1

namespace Go.Fw
open Go Go.Proofs
open Go.RowKit (Below)
set_option maxRecDepth 100000
set_option maxHeartbeats 1600000
structure qaC where
 Name : ByteArray
 Dir : Int
 Cap : Int
 Clock : Bool
instance gt_TPin : GoT qaC := isoT (pairT instStr (pairT instInt (pairT instInt instBool))) (fun x => (x.Name, x.Dir, x.Cap, x.Clock)) ⟨ByteArray.empty, 0, 0, false⟩ rfl true (fun h => by cases h)
instance fl_TPin : Flat qaC := qhY (pairT instStr (pairT instInt (pairT instInt instBool))) (fun x : qaC => (x.Name, x.Dir, x.Cap, x.Clock)) ⟨ByteArray.empty, 0, 0, false⟩ rfl true (fun h => by cases h) (qcf _ _ (inferInstanceAs (Flat ByteArray)) (qcf _ _ (inferInstanceAs (Flat Int)) (qcf _ _ (inferInstanceAs (Flat Int)) (inferInstanceAs (Flat Bool)))))
theorem qbx {w : World} {S : Nat → Prop} {x : qaC} {cs : List Value} (h : GoT.R w S x cs) : cs = [.string x.Name, .int .i64 x.Dir, .int .i64 x.Cap, .bool x.Clock] := by
 obtain ⟨_, _, rfl, rfl, ⟨_, _, rfl, rfl, ⟨_, _, rfl, rfl, rfl⟩⟩⟩ := h
 exact rfl
theorem qhX {w : World} {S : Nat → Prop} (x : qaC) : GoT.R w S x [.string x.Name, .int .i64 x.Dir, .int .i64 x.Cap, .bool x.Clock] := ⟨[.string x.Name], [.int .i64 x.Dir, .int .i64 x.Cap, .bool x.Clock], rfl, rfl, ⟨[.int .i64 x.Dir], [.int .i64 x.Cap, .bool x.Clock], rfl, rfl, ⟨[.int .i64 x.Cap], [.bool x.Clock], rfl, rfl, rfl⟩⟩⟩
structure qJ where
 Slews : (List Int)
 Loads : (List Int)
 Values : (List Int)
instance gt_TTable : GoT qJ := isoT (pairT (@instList Int instInt) (pairT (@instList Int instInt) (@instList Int instInt))) (fun x => (x.Slews, x.Loads, x.Values)) ⟨[], [], []⟩ rfl true (fun h => by cases h)
theorem qbP {w : World} {S : Nat → Prop} {x : qJ} {cs : List Value} (h : GoT.R w S x cs) : ∃ p0 k0 p1 k1 p2 k2, cs = [.slice p0 (x.Slews).length k0, .slice p1 (x.Loads).length k1, .slice p2 (x.Values).length k2] ∧ SlR w S x.Slews p0 k0 ∧ SlR w S x.Loads p1 k1 ∧ SlR w S x.Values p2 k2 := by
 obtain ⟨_, _, rfl, ⟨p0, k0, rfl, s0⟩, ⟨_, _, rfl, ⟨p1, k1, rfl, s1⟩, ⟨p2, k2, rfl, s2⟩⟩⟩ := h
 exact ⟨p0, k0, p1, k1, p2, k2, rfl, s0, s1, s2⟩
theorem qhJ {w : World} {S : Nat → Prop} (x : qJ) {p0 : Option Addr} {k0 : Nat} {p1 : Option Addr} {k1 : Nat} {p2 : Option Addr} {k2 : Nat} (s0 : SlR w S x.Slews p0 k0) (s1 : SlR w S x.Loads p1 k1) (s2 : SlR w S x.Values p2 k2) : GoT.R w S x [.slice p0 (x.Slews).length k0, .slice p1 (x.Loads).length k1, .slice p2 (x.Values).length k2] := ⟨[.slice p0 (x.Slews).length k0], [.slice p1 (x.Loads).length k1, .slice p2 (x.Values).length k2], rfl, ⟨p0, k0, rfl, s0⟩, ⟨[.slice p1 (x.Loads).length k1], [.slice p2 (x.Values).length k2], rfl, ⟨p1, k1, rfl, s1⟩, ⟨p2, k2, rfl, s2⟩⟩⟩
theorem qpQ {w0 w : World} {L : List Ch} (x : qJ) {I0 I1 I2 : List Nat} {c0 c1 c2 : List Value} (h : SH w0 w L) (h0 : PO w L I0 x.Slews c0) (h1 : PO w L I1 x.Loads c1) (h2 : PO w L I2 x.Values c2) (b0 : apartB I0 (I1 ++ I2) = true) (b1 : apartB I1 I2 = true) : PO w L (I0 ++ (I1 ++ I2)) x (c0 ++ (c1 ++ c2)) :=
 (qcu h h0 (qcu h h1 h2 b1) b0)

structure qah where
 Kind : Int
 From : Int
 To : Int
 Sense : Int
 Delay : (List qJ)
 Slew : (List qJ)
instance gt_TArc : GoT qah := isoT (pairT instInt (pairT instInt (pairT instInt (pairT instInt (pairT (@instList qJ gt_TTable) (@instList qJ gt_TTable)))))) (fun x => (x.Kind, x.From, x.To, x.Sense, x.Delay, x.Slew)) ⟨0, 0, 0, 0, [], []⟩ rfl true (fun h => by cases h)
theorem qaD {w : World} {S : Nat → Prop} {x : qah} {cs : List Value} (h : GoT.R w S x cs) : ∃ p0 k0 p1 k1, cs = [.int .i64 x.Kind, .int .i64 x.From, .int .i64 x.To, .int .i64 x.Sense, .slice p0 (x.Delay).length k0, .slice p1 (x.Slew).length k1] ∧ SlR w S x.Delay p0 k0 ∧ SlR w S x.Slew p1 k1 := by
 obtain ⟨_, _, rfl, rfl, ⟨_, _, rfl, rfl, ⟨_, _, rfl, rfl, ⟨_, _, rfl, rfl, ⟨_, _, rfl, ⟨p0, k0, rfl, s0⟩, ⟨p1, k1, rfl, s1⟩⟩⟩⟩⟩⟩ := h
 exact ⟨p0, k0, p1, k1, rfl, s0, s1⟩
theorem qf5 {w : World} {S : Nat → Prop} (x : qah) {p0 : Option Addr} {k0 : Nat} {p1 : Option Addr} {k1 : Nat} (s0 : SlR w S x.Delay p0 k0) (s1 : SlR w S x.Slew p1 k1) : GoT.R w S x [.int .i64 x.Kind, .int .i64 x.From, .int .i64 x.To, .int .i64 x.Sense, .slice p0 (x.Delay).length k0, .slice p1 (x.Slew).length k1] := ⟨[.int .i64 x.Kind], [.int .i64 x.From, .int .i64 x.To, .int .i64 x.Sense, .slice p0 (x.Delay).length k0, .slice p1 (x.Slew).length k1], rfl, rfl, ⟨[.int .i64 x.From], [.int .i64 x.To, .int .i64 x.Sense, .slice p0 (x.Delay).length k0, .slice p1 (x.Slew).length k1], rfl, rfl, ⟨[.int .i64 x.To], [.int .i64 x.Sense, .slice p0 (x.Delay).length k0, .slice p1 (x.Slew).length k1], rfl, rfl, ⟨[.int .i64 x.Sense], [.slice p0 (x.Delay).length k0, .slice p1 (x.Slew).length k1], rfl, rfl, ⟨[.slice p0 (x.Delay).length k0], [.slice p1 (x.Slew).length k1], rfl, ⟨p0, k0, rfl, s0⟩, ⟨p1, k1, rfl, s1⟩⟩⟩⟩⟩⟩
theorem qrC {w0 w : World} {L : List Ch} (x : qah) {I0 I1 I2 I3 I4 I5 : List Nat} {c0 c1 c2 c3 c4 c5 : List Value} (h : SH w0 w L) (h0 : PO w L I0 x.Kind c0) (h1 : PO w L I1 x.From c1) (h2 : PO w L I2 x.To c2) (h3 : PO w L I3 x.Sense c3) (h4 : PO w L I4 x.Delay c4) (h5 : PO w L I5 x.Slew c5) (b0 : apartB I0 (I1 ++ (I2 ++ (I3 ++ (I4 ++ I5)))) = true) (b1 : apartB I1 (I2 ++ (I3 ++ (I4 ++ I5))) = true) (b2 : apartB I2 (I3 ++ (I4 ++ I5)) = true) (b3 : apartB I3 (I4 ++ I5) = true) (b4 : apartB I4 I5 = true) : PO w L (I0 ++ (I1 ++ (I2 ++ (I3 ++ (I4 ++ I5))))) x (c0 ++ (c1 ++ (c2 ++ (c3 ++ (c4 ++ c5))))) :=
 (qcu h h0 (qcu h h1 (qcu h h2 (qcu h h3 (qcu h h4 h5 b4) b3) b2) b1) b0)

structure qE where
 Name : ByteArray
 Kind : Int
 Pins : (List qaC)
 Arcs : (List qah)
 Truth : (List Int)
 Leak : Int
 Energy : Int
instance gt_TCell : GoT qE := isoT (pairT instStr (pairT instInt (pairT (@instList qaC gt_TPin) (pairT (@instList qah gt_TArc) (pairT (@instList Int instInt) (pairT instInt instInt)))))) (fun x => (x.Name, x.Kind, x.Pins, x.Arcs, x.Truth, x.Leak, x.Energy)) ⟨ByteArray.empty, 0, [], [], [], 0, 0⟩ rfl true (fun h => by cases h)
theorem qaa {w : World} {S : Nat → Prop} {x : qE} {cs : List Value} (h : GoT.R w S x cs) : ∃ p0 k0 p1 k1 p2 k2, cs = [.string x.Name, .int .i64 x.Kind, .slice p0 (x.Pins).length k0, .slice p1 (x.Arcs).length k1, .slice p2 (x.Truth).length k2, .int .i64 x.Leak, .int .i64 x.Energy] ∧ SlR w S x.Pins p0 k0 ∧ SlR w S x.Arcs p1 k1 ∧ SlR w S x.Truth p2 k2 := by
 obtain ⟨_, _, rfl, rfl, ⟨_, _, rfl, rfl, ⟨_, _, rfl, ⟨p0, k0, rfl, s0⟩, ⟨_, _, rfl, ⟨p1, k1, rfl, s1⟩, ⟨_, _, rfl, ⟨p2, k2, rfl, s2⟩, ⟨_, _, rfl, rfl, rfl⟩⟩⟩⟩⟩⟩ := h
 exact ⟨p0, k0, p1, k1, p2, k2, rfl, s0, s1, s2⟩
theorem qgW {w : World} {S : Nat → Prop} (x : qE) {p0 : Option Addr} {k0 : Nat} {p1 : Option Addr} {k1 : Nat} {p2 : Option Addr} {k2 : Nat} (s0 : SlR w S x.Pins p0 k0) (s1 : SlR w S x.Arcs p1 k1) (s2 : SlR w S x.Truth p2 k2) : GoT.R w S x [.string x.Name, .int .i64 x.Kind, .slice p0 (x.Pins).length k0, .slice p1 (x.Arcs).length k1, .slice p2 (x.Truth).length k2, .int .i64 x.Leak, .int .i64 x.Energy] := ⟨[.string x.Name], [.int .i64 x.Kind, .slice p0 (x.Pins).length k0, .slice p1 (x.Arcs).length k1, .slice p2 (x.Truth).length k2, .int .i64 x.Leak, .int .i64 x.Energy], rfl, rfl, ⟨[.int .i64 x.Kind], [.slice p0 (x.Pins).length k0, .slice p1 (x.Arcs).length k1, .slice p2 (x.Truth).length k2, .int .i64 x.Leak, .int .i64 x.Energy], rfl, rfl, ⟨[.slice p0 (x.Pins).length k0], [.slice p1 (x.Arcs).length k1, .slice p2 (x.Truth).length k2, .int .i64 x.Leak, .int .i64 x.Energy], rfl, ⟨p0, k0, rfl, s0⟩, ⟨[.slice p1 (x.Arcs).length k1], [.slice p2 (x.Truth).length k2, .int .i64 x.Leak, .int .i64 x.Energy], rfl, ⟨p1, k1, rfl, s1⟩, ⟨[.slice p2 (x.Truth).length k2], [.int .i64 x.Leak, .int .i64 x.Energy], rfl, ⟨p2, k2, rfl, s2⟩, ⟨[.int .i64 x.Leak], [.int .i64 x.Energy], rfl, rfl, rfl⟩⟩⟩⟩⟩⟩
theorem qhM {w : World} {S : Nat → Prop} {x : qE} {p0 : Option Addr} {l0 k0 : Nat} {p1 : Option Addr} {l1 k1 : Nat} {p2 : Option Addr} {l2 k2 : Nat} (h : GoT.R w S x [.string x.Name, .int .i64 x.Kind, .slice p0 l0 k0, .slice p1 l1 k1, .slice p2 l2 k2, .int .i64 x.Leak, .int .i64 x.Energy]) : (SlR w S x.Pins p0 k0 ∧ l0 = (x.Pins).length) ∧ (SlR w S x.Arcs p1 k1 ∧ l1 = (x.Arcs).length) ∧ (SlR w S x.Truth p2 k2 ∧ l2 = (x.Truth).length) := by
 obtain ⟨q0, j0, q1, j1, q2, j2, he, s0, s1, s2⟩ := qaa h
 cases he
 exact ⟨⟨s0, rfl⟩, ⟨s1, rfl⟩, ⟨s2, rfl⟩⟩
theorem qqP {w0 w : World} {L : List Ch} (x : qE) {I0 I1 I2 I3 I4 I5 I6 : List Nat} {c0 c1 c2 c3 c4 c5 c6 : List Value} (h : SH w0 w L) (h0 : PO w L I0 x.Name c0) (h1 : PO w L I1 x.Kind c1) (h2 : PO w L I2 x.Pins c2) (h3 : PO w L I3 x.Arcs c3) (h4 : PO w L I4 x.Truth c4) (h5 : PO w L I5 x.Leak c5) (h6 : PO w L I6 x.Energy c6) (b0 : apartB I0 (I1 ++ (I2 ++ (I3 ++ (I4 ++ (I5 ++ I6))))) = true) (b1 : apartB I1 (I2 ++ (I3 ++ (I4 ++ (I5 ++ I6)))) = true) (b2 : apartB I2 (I3 ++ (I4 ++ (I5 ++ I6))) = true) (b3 : apartB I3 (I4 ++ (I5 ++ I6)) = true) (b4 : apartB I4 (I5 ++ I6) = true) (b5 : apartB I5 I6 = true) : PO w L (I0 ++ (I1 ++ (I2 ++ (I3 ++ (I4 ++ (I5 ++ I6)))))) x (c0 ++ (c1 ++ (c2 ++ (c3 ++ (c4 ++ (c5 ++ c6)))))) :=
 (qcu h h0 (qcu h h1 (qcu h h2 (qcu h h3 (qcu h h4 (qcu h h5 h6 b5) b4) b3) b2) b1) b0)

structure qw where
 Cells : (List qE)
instance gt_TLibrary : GoT qw := isoT (@instList qE gt_TCell) (fun x => x.Cells) ⟨[]⟩ rfl true (fun h => by cases h)
theorem qbB {w : World} {S : Nat → Prop} {x : qw} {cs : List Value} (h : GoT.R w S x cs) : ∃ p0 k0, cs = [.slice p0 (x.Cells).length k0] ∧ SlR w S x.Cells p0 k0 := by
 obtain ⟨p0, k0, rfl, s0⟩ := h
 exact ⟨p0, k0, rfl, s0⟩
theorem qdx {w : World} {S : Nat → Prop} (x : qw) {p0 : Option Addr} {k0 : Nat} (s0 : SlR w S x.Cells p0 k0) : GoT.R w S x [.slice p0 (x.Cells).length k0] := ⟨p0, k0, rfl, s0⟩
theorem qoe {w0 w : World} {L : List Ch} (x : qw) {I0 : List Nat} {c0 : List Value} (_ : SH w0 w L) (h0 : PO w L I0 x.Cells c0) : PO w L I0 x c0 :=
 h0

structure qr where
 Name : ByteArray
 Cell : Int
 Nets : (List Int)
instance gt_TInstance : GoT qr := isoT (pairT instStr (pairT instInt (@instList Int instInt))) (fun x => (x.Name, x.Cell, x.Nets)) ⟨ByteArray.empty, 0, []⟩ rfl true (fun h => by cases h)
theorem qab {w : World} {S : Nat → Prop} {x : qr} {cs : List Value} (h : GoT.R w S x cs) : ∃ p0 k0, cs = [.string x.Name, .int .i64 x.Cell, .slice p0 (x.Nets).length k0] ∧ SlR w S x.Nets p0 k0 := by
 obtain ⟨_, _, rfl, rfl, ⟨_, _, rfl, rfl, ⟨p0, k0, rfl, s0⟩⟩⟩ := h
 exact ⟨p0, k0, rfl, s0⟩
theorem qfI {w : World} {S : Nat → Prop} (x : qr) {p0 : Option Addr} {k0 : Nat} (s0 : SlR w S x.Nets p0 k0) : GoT.R w S x [.string x.Name, .int .i64 x.Cell, .slice p0 (x.Nets).length k0] := ⟨[.string x.Name], [.int .i64 x.Cell, .slice p0 (x.Nets).length k0], rfl, rfl, ⟨[.int .i64 x.Cell], [.slice p0 (x.Nets).length k0], rfl, rfl, ⟨p0, k0, rfl, s0⟩⟩⟩
theorem qnT {w0 w : World} {L : List Ch} (x : qr) {I0 I1 I2 : List Nat} {c0 c1 c2 : List Value} (h : SH w0 w L) (h0 : PO w L I0 x.Name c0) (h1 : PO w L I1 x.Cell c1) (h2 : PO w L I2 x.Nets c2) (b0 : apartB I0 (I1 ++ I2) = true) (b1 : apartB I1 I2 = true) : PO w L (I0 ++ (I1 ++ I2)) x (c0 ++ (c1 ++ c2)) :=
 (qcu h h0 (qcu h h1 h2 b1) b0)

structure qaw where
 Name : ByteArray
 Dir : Int
 Net : Int
instance gt_TPort : GoT qaw := isoT (pairT instStr (pairT instInt instInt)) (fun x => (x.Name, x.Dir, x.Net)) ⟨ByteArray.empty, 0, 0⟩ rfl true (fun h => by cases h)
instance fl_TPort : Flat qaw := qhY (pairT instStr (pairT instInt instInt)) (fun x : qaw => (x.Name, x.Dir, x.Net)) ⟨ByteArray.empty, 0, 0⟩ rfl true (fun h => by cases h) (qcf _ _ (inferInstanceAs (Flat ByteArray)) (qcf _ _ (inferInstanceAs (Flat Int)) (inferInstanceAs (Flat Int))))
theorem qbz {w : World} {S : Nat → Prop} {x : qaw} {cs : List Value} (h : GoT.R w S x cs) : cs = [.string x.Name, .int .i64 x.Dir, .int .i64 x.Net] := by
 obtain ⟨_, _, rfl, rfl, ⟨_, _, rfl, rfl, rfl⟩⟩ := h
 exact rfl
theorem qhF {w : World} {S : Nat → Prop} (x : qaw) : GoT.R w S x [.string x.Name, .int .i64 x.Dir, .int .i64 x.Net] := ⟨[.string x.Name], [.int .i64 x.Dir, .int .i64 x.Net], rfl, rfl, ⟨[.int .i64 x.Dir], [.int .i64 x.Net], rfl, rfl, rfl⟩⟩
structure ql where
 Instances : (List qr)
 Nets : (List ByteArray)
 Ports : (List qaw)
instance gt_TDesign : GoT ql := isoT (pairT (@instList qr gt_TInstance) (pairT (@instList ByteArray instStr) (@instList qaw gt_TPort))) (fun x => (x.Instances, x.Nets, x.Ports)) ⟨[], [], []⟩ rfl true (fun h => by cases h)
theorem qaz {w : World} {S : Nat → Prop} {x : ql} {cs : List Value} (h : GoT.R w S x cs) : ∃ p0 k0 p1 k1 p2 k2, cs = [.slice p0 (x.Instances).length k0, .slice p1 (x.Nets).length k1, .slice p2 (x.Ports).length k2] ∧ SlR w S x.Instances p0 k0 ∧ SlR w S x.Nets p1 k1 ∧ SlR w S x.Ports p2 k2 := by
 obtain ⟨_, _, rfl, ⟨p0, k0, rfl, s0⟩, ⟨_, _, rfl, ⟨p1, k1, rfl, s1⟩, ⟨p2, k2, rfl, s2⟩⟩⟩ := h
 exact ⟨p0, k0, p1, k1, p2, k2, rfl, s0, s1, s2⟩
theorem qbf {w : World} {S : Nat → Prop} (x : ql) {p0 : Option Addr} {k0 : Nat} {p1 : Option Addr} {k1 : Nat} {p2 : Option Addr} {k2 : Nat} (s0 : SlR w S x.Instances p0 k0) (s1 : SlR w S x.Nets p1 k1) (s2 : SlR w S x.Ports p2 k2) : GoT.R w S x [.slice p0 (x.Instances).length k0, .slice p1 (x.Nets).length k1, .slice p2 (x.Ports).length k2] := ⟨[.slice p0 (x.Instances).length k0], [.slice p1 (x.Nets).length k1, .slice p2 (x.Ports).length k2], rfl, ⟨p0, k0, rfl, s0⟩, ⟨[.slice p1 (x.Nets).length k1], [.slice p2 (x.Ports).length k2], rfl, ⟨p1, k1, rfl, s1⟩, ⟨p2, k2, rfl, s2⟩⟩⟩
theorem qpb {w0 w : World} {L : List Ch} (x : ql) {I0 I1 I2 : List Nat} {c0 c1 c2 : List Value} (h : SH w0 w L) (h0 : PO w L I0 x.Instances c0) (h1 : PO w L I1 x.Nets c1) (h2 : PO w L I2 x.Ports c2) (b0 : apartB I0 (I1 ++ I2) = true) (b1 : apartB I1 I2 = true) : PO w L (I0 ++ (I1 ++ I2)) x (c0 ++ (c1 ++ c2)) :=
 (qcu h h0 (qcu h h1 h2 b1) b0)

structure qaj where
 Parent : (List Int)
 Res : (List Int)
 Cap : (List Int)
 Sink : (List Int)
instance gt_TWire : GoT qaj := isoT (pairT (@instList Int instInt) (pairT (@instList Int instInt) (pairT (@instList Int instInt) (@instList Int instInt)))) (fun x => (x.Parent, x.Res, x.Cap, x.Sink)) ⟨[], [], [], []⟩ rfl true (fun h => by cases h)
theorem qbU {w : World} {S : Nat → Prop} {x : qaj} {cs : List Value} (h : GoT.R w S x cs) : ∃ p0 k0 p1 k1 p2 k2 p3 k3, cs = [.slice p0 (x.Parent).length k0, .slice p1 (x.Res).length k1, .slice p2 (x.Cap).length k2, .slice p3 (x.Sink).length k3] ∧ SlR w S x.Parent p0 k0 ∧ SlR w S x.Res p1 k1 ∧ SlR w S x.Cap p2 k2 ∧ SlR w S x.Sink p3 k3 := by
 obtain ⟨_, _, rfl, ⟨p0, k0, rfl, s0⟩, ⟨_, _, rfl, ⟨p1, k1, rfl, s1⟩, ⟨_, _, rfl, ⟨p2, k2, rfl, s2⟩, ⟨p3, k3, rfl, s3⟩⟩⟩⟩ := h
 exact ⟨p0, k0, p1, k1, p2, k2, p3, k3, rfl, s0, s1, s2, s3⟩
theorem qip {w : World} {S : Nat → Prop} (x : qaj) {p0 : Option Addr} {k0 : Nat} {p1 : Option Addr} {k1 : Nat} {p2 : Option Addr} {k2 : Nat} {p3 : Option Addr} {k3 : Nat} (s0 : SlR w S x.Parent p0 k0) (s1 : SlR w S x.Res p1 k1) (s2 : SlR w S x.Cap p2 k2) (s3 : SlR w S x.Sink p3 k3) : GoT.R w S x [.slice p0 (x.Parent).length k0, .slice p1 (x.Res).length k1, .slice p2 (x.Cap).length k2, .slice p3 (x.Sink).length k3] := ⟨[.slice p0 (x.Parent).length k0], [.slice p1 (x.Res).length k1, .slice p2 (x.Cap).length k2, .slice p3 (x.Sink).length k3], rfl, ⟨p0, k0, rfl, s0⟩, ⟨[.slice p1 (x.Res).length k1], [.slice p2 (x.Cap).length k2, .slice p3 (x.Sink).length k3], rfl, ⟨p1, k1, rfl, s1⟩, ⟨[.slice p2 (x.Cap).length k2], [.slice p3 (x.Sink).length k3], rfl, ⟨p2, k2, rfl, s2⟩, ⟨p3, k3, rfl, s3⟩⟩⟩⟩
theorem qqB {w0 w : World} {L : List Ch} (x : qaj) {I0 I1 I2 I3 : List Nat} {c0 c1 c2 c3 : List Value} (h : SH w0 w L) (h0 : PO w L I0 x.Parent c0) (h1 : PO w L I1 x.Res c1) (h2 : PO w L I2 x.Cap c2) (h3 : PO w L I3 x.Sink c3) (b0 : apartB I0 (I1 ++ (I2 ++ I3)) = true) (b1 : apartB I1 (I2 ++ I3) = true) (b2 : apartB I2 I3 = true) : PO w L (I0 ++ (I1 ++ (I2 ++ I3))) x (c0 ++ (c1 ++ (c2 ++ c3))) :=
 (qcu h h0 (qcu h h1 (qcu h h2 h3 b2) b1) b0)

structure qz where
 Library : qw
 Design : ql
 Wires : (List qaj)
instance gt_TBlock : GoT qz := isoT (pairT gt_TLibrary (pairT gt_TDesign (@instList qaj gt_TWire))) (fun x => (x.Library, x.Design, x.Wires)) ⟨(⟨[]⟩ : qw), (⟨[], [], []⟩ : ql), []⟩ rfl true (fun h => by cases h)
theorem qat {w : World} {S : Nat → Prop} {x : qz} {cs : List Value} (h : GoT.R w S x cs) : ∃ p0 k0 p1 k1 p2 k2 p3 k3 p4 k4, cs = [.slice p0 (x.Library.Cells).length k0, .slice p1 (x.Design.Instances).length k1, .slice p2 (x.Design.Nets).length k2, .slice p3 (x.Design.Ports).length k3, .slice p4 (x.Wires).length k4] ∧ SlR w S x.Library.Cells p0 k0 ∧ SlR w S x.Design.Instances p1 k1 ∧ SlR w S x.Design.Nets p2 k2 ∧ SlR w S x.Design.Ports p3 k3 ∧ SlR w S x.Wires p4 k4 := by
 obtain ⟨_, _, rfl, ⟨p0, k0, rfl, s0⟩, ⟨_, _, rfl, ⟨_, _, rfl, ⟨p1, k1, rfl, s1⟩, ⟨_, _, rfl, ⟨p2, k2, rfl, s2⟩, ⟨p3, k3, rfl, s3⟩⟩⟩, ⟨p4, k4, rfl, s4⟩⟩⟩ := h
 exact ⟨p0, k0, p1, k1, p2, k2, p3, k3, p4, k4, rfl, s0, s1, s2, s3, s4⟩
theorem qmI {w : World} {S : Nat → Prop} (x : qz) {p0 : Option Addr} {k0 : Nat} {p1 : Option Addr} {k1 : Nat} {p2 : Option Addr} {k2 : Nat} {p3 : Option Addr} {k3 : Nat} {p4 : Option Addr} {k4 : Nat} (s0 : SlR w S x.Library.Cells p0 k0) (s1 : SlR w S x.Design.Instances p1 k1) (s2 : SlR w S x.Design.Nets p2 k2) (s3 : SlR w S x.Design.Ports p3 k3) (s4 : SlR w S x.Wires p4 k4) : GoT.R w S x [.slice p0 (x.Library.Cells).length k0, .slice p1 (x.Design.Instances).length k1, .slice p2 (x.Design.Nets).length k2, .slice p3 (x.Design.Ports).length k3, .slice p4 (x.Wires).length k4] := ⟨[.slice p0 (x.Library.Cells).length k0], [.slice p1 (x.Design.Instances).length k1, .slice p2 (x.Design.Nets).length k2, .slice p3 (x.Design.Ports).length k3, .slice p4 (x.Wires).length k4], rfl, ⟨p0, k0, rfl, s0⟩, ⟨[.slice p1 (x.Design.Instances).length k1, .slice p2 (x.Design.Nets).length k2, .slice p3 (x.Design.Ports).length k3], [.slice p4 (x.Wires).length k4], rfl, ⟨[.slice p1 (x.Design.Instances).length k1], [.slice p2 (x.Design.Nets).length k2, .slice p3 (x.Design.Ports).length k3], rfl, ⟨p1, k1, rfl, s1⟩, ⟨[.slice p2 (x.Design.Nets).length k2], [.slice p3 (x.Design.Ports).length k3], rfl, ⟨p2, k2, rfl, s2⟩, ⟨p3, k3, rfl, s3⟩⟩⟩, ⟨p4, k4, rfl, s4⟩⟩⟩
theorem qp5 {w0 w : World} {L : List Ch} (x : qz) {I0 I1 I2 : List Nat} {c0 c1 c2 : List Value} (h : SH w0 w L) (h0 : PO w L I0 x.Library c0) (h1 : PO w L I1 x.Design c1) (h2 : PO w L I2 x.Wires c2) (b0 : apartB I0 (I1 ++ I2) = true) (b1 : apartB I1 I2 = true) : PO w L (I0 ++ (I1 ++ I2)) x (c0 ++ (c1 ++ c2)) :=
 (qcu h h0 (qcu h h1 h2 b1) b0)

structure qe where
 Kind : Int
 Value : Int
 From : (List Int)
 Through : (List Int)
 To : (List Int)
instance gt_TException : GoT qe := isoT (pairT instInt (pairT instInt (pairT (@instList Int instInt) (pairT (@instList Int instInt) (@instList Int instInt))))) (fun x => (x.Kind, x.Value, x.From, x.Through, x.To)) ⟨0, 0, [], [], []⟩ rfl true (fun h => by cases h)
theorem qI {w : World} {S : Nat → Prop} {x : qe} {cs : List Value} (h : GoT.R w S x cs) : ∃ p0 k0 p1 k1 p2 k2, cs = [.int .i64 x.Kind, .int .i64 x.Value, .slice p0 (x.From).length k0, .slice p1 (x.Through).length k1, .slice p2 (x.To).length k2] ∧ SlR w S x.From p0 k0 ∧ SlR w S x.Through p1 k1 ∧ SlR w S x.To p2 k2 := by
 obtain ⟨_, _, rfl, rfl, ⟨_, _, rfl, rfl, ⟨_, _, rfl, ⟨p0, k0, rfl, s0⟩, ⟨_, _, rfl, ⟨p1, k1, rfl, s1⟩, ⟨p2, k2, rfl, s2⟩⟩⟩⟩⟩ := h
 exact ⟨p0, k0, p1, k1, p2, k2, rfl, s0, s1, s2⟩
theorem qaO {w : World} {S : Nat → Prop} (x : qe) {p0 : Option Addr} {k0 : Nat} {p1 : Option Addr} {k1 : Nat} {p2 : Option Addr} {k2 : Nat} (s0 : SlR w S x.From p0 k0) (s1 : SlR w S x.Through p1 k1) (s2 : SlR w S x.To p2 k2) : GoT.R w S x [.int .i64 x.Kind, .int .i64 x.Value, .slice p0 (x.From).length k0, .slice p1 (x.Through).length k1, .slice p2 (x.To).length k2] := ⟨[.int .i64 x.Kind], [.int .i64 x.Value, .slice p0 (x.From).length k0, .slice p1 (x.Through).length k1, .slice p2 (x.To).length k2], rfl, rfl, ⟨[.int .i64 x.Value], [.slice p0 (x.From).length k0, .slice p1 (x.Through).length k1, .slice p2 (x.To).length k2], rfl, rfl, ⟨[.slice p0 (x.From).length k0], [.slice p1 (x.Through).length k1, .slice p2 (x.To).length k2], rfl, ⟨p0, k0, rfl, s0⟩, ⟨[.slice p1 (x.Through).length k1], [.slice p2 (x.To).length k2], rfl, ⟨p1, k1, rfl, s1⟩, ⟨p2, k2, rfl, s2⟩⟩⟩⟩⟩
theorem qm2 {w0 w : World} {L : List Ch} (x : qe) {I0 I1 I2 I3 I4 : List Nat} {c0 c1 c2 c3 c4 : List Value} (h : SH w0 w L) (h0 : PO w L I0 x.Kind c0) (h1 : PO w L I1 x.Value c1) (h2 : PO w L I2 x.From c2) (h3 : PO w L I3 x.Through c3) (h4 : PO w L I4 x.To c4) (b0 : apartB I0 (I1 ++ (I2 ++ (I3 ++ I4))) = true) (b1 : apartB I1 (I2 ++ (I3 ++ I4)) = true) (b2 : apartB I2 (I3 ++ I4) = true) (b3 : apartB I3 I4 = true) : PO w L (I0 ++ (I1 ++ (I2 ++ (I3 ++ I4)))) x (c0 ++ (c1 ++ (c2 ++ (c3 ++ c4)))) :=
 (qcu h h0 (qcu h h1 (qcu h h2 (qcu h h3 h4 b3) b2) b1) b0)

structure qU where
 False : Bool
 Cycles : Int
 MaxLimit : Int
 MinLimit : Int
instance gt_TEffect : GoT qU := isoT (pairT instBool (pairT instInt (pairT instInt instInt))) (fun x => (x.False, x.Cycles, x.MaxLimit, x.MinLimit)) ⟨false, 0, 0, 0⟩ rfl true (fun h => by cases h)
instance fl_TEffect : Flat qU := qhY (pairT instBool (pairT instInt (pairT instInt instInt))) (fun x : qU => (x.False, x.Cycles, x.MaxLimit, x.MinLimit)) ⟨false, 0, 0, 0⟩ rfl true (fun h => by cases h) (qcf _ _ (inferInstanceAs (Flat Bool)) (qcf _ _ (inferInstanceAs (Flat Int)) (qcf _ _ (inferInstanceAs (Flat Int)) (inferInstanceAs (Flat Int)))))
theorem qge {w : World} {S : Nat → Prop} {x : qU} {cs : List Value} (h : GoT.R w S x cs) : cs = [.bool x.False, .int .i64 x.Cycles, .int .i64 x.MaxLimit, .int .i64 x.MinLimit] := by
 obtain ⟨_, _, rfl, rfl, ⟨_, _, rfl, rfl, ⟨_, _, rfl, rfl, rfl⟩⟩⟩ := h
 exact rfl
theorem qdI {w : World} {S : Nat → Prop} (x : qU) : GoT.R w S x [.bool x.False, .int .i64 x.Cycles, .int .i64 x.MaxLimit, .int .i64 x.MinLimit] := ⟨[.bool x.False], [.int .i64 x.Cycles, .int .i64 x.MaxLimit, .int .i64 x.MinLimit], rfl, rfl, ⟨[.int .i64 x.Cycles], [.int .i64 x.MaxLimit, .int .i64 x.MinLimit], rfl, rfl, ⟨[.int .i64 x.MaxLimit], [.int .i64 x.MinLimit], rfl, rfl, rfl⟩⟩⟩
structure Tplace where
 instance_ : Int
 pin : Int
 net : Int
 drives : Bool
instance gt_Tplace : GoT Tplace := isoT (pairT instInt (pairT instInt (pairT instInt instBool))) (fun x => (x.instance_, x.pin, x.net, x.drives)) ⟨0, 0, 0, false⟩ rfl true (fun h => by cases h)
instance fl_Tplace : Flat Tplace := qhY (pairT instInt (pairT instInt (pairT instInt instBool))) (fun x : Tplace => (x.instance_, x.pin, x.net, x.drives)) ⟨0, 0, 0, false⟩ rfl true (fun h => by cases h) (qcf _ _ (inferInstanceAs (Flat Int)) (qcf _ _ (inferInstanceAs (Flat Int)) (qcf _ _ (inferInstanceAs (Flat Int)) (inferInstanceAs (Flat Bool)))))
theorem qdE {w : World} {S : Nat → Prop} {x : Tplace} {cs : List Value} (h : GoT.R w S x cs) : cs = [.int .i64 x.instance_, .int .i64 x.pin, .int .i64 x.net, .bool x.drives] := by
 obtain ⟨_, _, rfl, rfl, ⟨_, _, rfl, rfl, ⟨_, _, rfl, rfl, rfl⟩⟩⟩ := h
 exact rfl
theorem qhK {w : World} {S : Nat → Prop} (x : Tplace) : GoT.R w S x [.int .i64 x.instance_, .int .i64 x.pin, .int .i64 x.net, .bool x.drives] := ⟨[.int .i64 x.instance_], [.int .i64 x.pin, .int .i64 x.net, .bool x.drives], rfl, rfl, ⟨[.int .i64 x.pin], [.int .i64 x.net, .bool x.drives], rfl, rfl, ⟨[.int .i64 x.net], [.bool x.drives], rfl, rfl, rfl⟩⟩⟩
structure qbs where
 From : Int
 To : Int
 Kind : Int
 Index : Int
instance gt_TLink : GoT qbs := isoT (pairT instInt (pairT instInt (pairT instInt instInt))) (fun x => (x.From, x.To, x.Kind, x.Index)) ⟨0, 0, 0, 0⟩ rfl true (fun h => by cases h)
instance fl_TLink : Flat qbs := qhY (pairT instInt (pairT instInt (pairT instInt instInt))) (fun x : qbs => (x.From, x.To, x.Kind, x.Index)) ⟨0, 0, 0, 0⟩ rfl true (fun h => by cases h) (qcf _ _ (inferInstanceAs (Flat Int)) (qcf _ _ (inferInstanceAs (Flat Int)) (qcf _ _ (inferInstanceAs (Flat Int)) (inferInstanceAs (Flat Int)))))
theorem qnC {w : World} {S : Nat → Prop} (x : qbs) : GoT.R w S x [.int .i64 x.From, .int .i64 x.To, .int .i64 x.Kind, .int .i64 x.Index] := ⟨[.int .i64 x.From], [.int .i64 x.To, .int .i64 x.Kind, .int .i64 x.Index], rfl, rfl, ⟨[.int .i64 x.To], [.int .i64 x.Kind, .int .i64 x.Index], rfl, rfl, ⟨[.int .i64 x.Kind], [.int .i64 x.Index], rfl, rfl, rfl⟩⟩⟩
structure Tview where
 Block : qz
 places : (List Tplace)
 links : (List qbs)
 loads : (List Int)
 delays : (List (List Int))
 extras : (List Int)
instance gt_Tview : GoT Tview := isoT (pairT gt_TBlock (pairT (@instList Tplace gt_Tplace) (pairT (@instList qbs gt_TLink) (pairT (@instList Int instInt) (pairT (@instList (List Int) (@instList Int instInt)) (@instList Int instInt)))))) (fun x => (x.Block, x.places, x.links, x.loads, x.delays, x.extras)) ⟨(⟨(⟨[]⟩ : qw), (⟨[], [], []⟩ : ql), []⟩ : qz), [], [], [], [], []⟩ rfl true (fun h => by cases h)
theorem qjA {w : World} {S : Nat → Prop} {x : Tview} {cs : List Value} (h : GoT.R w S x cs) : ∃ p0 k0 p1 k1 p2 k2 p3 k3 p4 k4 p5 k5 p6 k6 p7 k7 p8 k8 p9 k9, cs = [.slice p0 (x.Block.Library.Cells).length k0, .slice p1 (x.Block.Design.Instances).length k1, .slice p2 (x.Block.Design.Nets).length k2, .slice p3 (x.Block.Design.Ports).length k3, .slice p4 (x.Block.Wires).length k4, .slice p5 (x.places).length k5, .slice p6 (x.links).length k6, .slice p7 (x.loads).length k7, .slice p8 (x.delays).length k8, .slice p9 (x.extras).length k9] ∧ SlR w S x.Block.Library.Cells p0 k0 ∧ SlR w S x.Block.Design.Instances p1 k1 ∧ SlR w S x.Block.Design.Nets p2 k2 ∧ SlR w S x.Block.Design.Ports p3 k3 ∧ SlR w S x.Block.Wires p4 k4 ∧ SlR w S x.places p5 k5 ∧ SlR w S x.links p6 k6 ∧ SlR w S x.loads p7 k7 ∧ SlR w S x.delays p8 k8 ∧ SlR w S x.extras p9 k9 := by
 obtain ⟨_, _, rfl, ⟨_, _, rfl, ⟨p0, k0, rfl, s0⟩, ⟨_, _, rfl, ⟨_, _, rfl, ⟨p1, k1, rfl, s1⟩, ⟨_, _, rfl, ⟨p2, k2, rfl, s2⟩, ⟨p3, k3, rfl, s3⟩⟩⟩, ⟨p4, k4, rfl, s4⟩⟩⟩, ⟨_, _, rfl, ⟨p5, k5, rfl, s5⟩, ⟨_, _, rfl, ⟨p6, k6, rfl, s6⟩, ⟨_, _, rfl, ⟨p7, k7, rfl, s7⟩, ⟨_, _, rfl, ⟨p8, k8, rfl, s8⟩, ⟨p9, k9, rfl, s9⟩⟩⟩⟩⟩⟩ := h
 exact ⟨p0, k0, p1, k1, p2, k2, p3, k3, p4, k4, p5, k5, p6, k6, p7, k7, p8, k8, p9, k9, rfl, s0, s1, s2, s3, s4, s5, s6, s7, s8, s9⟩
structure Tl05Place where
 instance_ : Int
 pin : Int
 net : Int
 drives : Bool
instance gt_Tl05Place : GoT Tl05Place := isoT (pairT instInt (pairT instInt (pairT instInt instBool))) (fun x => (x.instance_, x.pin, x.net, x.drives)) ⟨0, 0, 0, false⟩ rfl true (fun h => by cases h)
instance fl_Tl05Place : Flat Tl05Place := qhY (pairT instInt (pairT instInt (pairT instInt instBool))) (fun x : Tl05Place => (x.instance_, x.pin, x.net, x.drives)) ⟨0, 0, 0, false⟩ rfl true (fun h => by cases h) (qcf _ _ (inferInstanceAs (Flat Int)) (qcf _ _ (inferInstanceAs (Flat Int)) (qcf _ _ (inferInstanceAs (Flat Int)) (inferInstanceAs (Flat Bool)))))
theorem qcA {w : World} {S : Nat → Prop} {x : Tl05Place} {cs : List Value} (h : GoT.R w S x cs) : cs = [.int .i64 x.instance_, .int .i64 x.pin, .int .i64 x.net, .bool x.drives] := by
 obtain ⟨_, _, rfl, rfl, ⟨_, _, rfl, rfl, ⟨_, _, rfl, rfl, rfl⟩⟩⟩ := h
 exact rfl
theorem qgB {w : World} {S : Nat → Prop} (x : Tl05Place) : GoT.R w S x [.int .i64 x.instance_, .int .i64 x.pin, .int .i64 x.net, .bool x.drives] := ⟨[.int .i64 x.instance_], [.int .i64 x.pin, .int .i64 x.net, .bool x.drives], rfl, rfl, ⟨[.int .i64 x.pin], [.int .i64 x.net, .bool x.drives], rfl, rfl, ⟨[.int .i64 x.net], [.bool x.drives], rfl, rfl, rfl⟩⟩⟩
structure qX where
 e0 : Int
 e1 : Int
instance gt_TA2_Int : GoT qX := isoT (pairT instInt instInt) (fun x => (x.e0, x.e1)) ⟨0, 0⟩ rfl true (fun h => by cases h)
instance fl_TA2_Int : Flat qX := qhY (pairT instInt instInt) (fun x : qX => (x.e0, x.e1)) ⟨0, 0⟩ rfl true (fun h => by cases h) (qcf _ _ (inferInstanceAs (Flat Int)) (inferInstanceAs (Flat Int)))
theorem qnQ {w : World} {S : Nat → Prop} {x : qX} {cs : List Value} (h : GoT.R w S x cs) : cs = [.int .i64 x.e0, .int .i64 x.e1] := by
 obtain ⟨_, _, rfl, rfl, rfl⟩ := h
 exact rfl
theorem qdf {w : World} {S : Nat → Prop} (x : qX) : GoT.R w S x [.int .i64 x.e0, .int .i64 x.e1] := ⟨[.int .i64 x.e0], [.int .i64 x.e1], rfl, rfl, rfl⟩
structure qiw where
 Early : Int
 Late : Int
instance gt_TSpan : GoT qiw := isoT (pairT instInt instInt) (fun x => (x.Early, x.Late)) ⟨0, 0⟩ rfl true (fun h => by cases h)
instance fl_TSpan : Flat qiw := qhY (pairT instInt instInt) (fun x : qiw => (x.Early, x.Late)) ⟨0, 0⟩ rfl true (fun h => by cases h) (qcf _ _ (inferInstanceAs (Flat Int)) (inferInstanceAs (Flat Int)))
theorem qoN {w : World} {S : Nat → Prop} {x : qiw} {cs : List Value} (h : GoT.R w S x cs) : cs = [.int .i64 x.Early, .int .i64 x.Late] := by
 obtain ⟨_, _, rfl, rfl, rfl⟩ := h
 exact rfl
theorem qnv {w : World} {S : Nat → Prop} (x : qiw) : GoT.R w S x [.int .i64 x.Early, .int .i64 x.Late] := ⟨[.int .i64 x.Early], [.int .i64 x.Late], rfl, rfl, rfl⟩
def tab : Tab := [
 (2, ⟨.int .i64, 1, 8, some (.int .i64 0), []⟩),
 (3, ⟨.int .i64, 1, 8, some (.int .i64 0), []⟩),
 (4, ⟨.bool, 1, 1, some (.bool false), []⟩),
 (5, ⟨.int .u8, 1, 1, some (.int .u8 0), []⟩),
 (9, ⟨.str, 1, 16, some (.string ByteArray.empty), []⟩),
 (22, ⟨.slice 171, 1, 24, some (.slice none 0 0), []⟩),
 (24, ⟨.struct, 1, 24, some (.agg #[.slice none 0 0]), [(0, 1, some false)]⟩),
 (25, ⟨.slice 174, 1, 24, some (.slice none 0 0), []⟩),
 (26, ⟨.slice 9, 1, 24, some (.slice none 0 0), []⟩),
 (27, ⟨.slice 177, 1, 24, some (.slice none 0 0), []⟩),
 (29, ⟨.struct, 3, 72, some (.agg #[.slice none 0 0, .slice none 0 0, .slice none 0 0]), [(0, 1, some false), (1, 1, some false), (2, 1, some false)]⟩),
 (30, ⟨.slice 122, 1, 24, some (.slice none 0 0), []⟩),
 (32, ⟨.struct, 5, 120, some (.agg #[.slice none 0 0, .slice none 0 0, .slice none 0 0, .slice none 0 0, .slice none 0 0]), [(0, 1, some true), (1, 3, some true), (4, 1, some false)]⟩),
 (33, ⟨.slice 80, 1, 24, some (.slice none 0 0), []⟩),
 (34, ⟨.slice 2, 1, 24, some (.slice none 0 0), []⟩),
 (38, ⟨.struct, 4, 32, some (.agg #[.bool false, .int .i64 0, .int .i64 0, .int .i64 0]), [(0, 1, some false), (1, 1, some false), (2, 1, some false), (3, 1, some false)]⟩),
 (41, ⟨.slice 183, 1, 24, some (.slice none 0 0), []⟩),
 (43, ⟨.struct, 1, 24, some (.agg #[.slice none 0 0]), [(0, 1, some false)]⟩),
 (44, ⟨.slice 185, 1, 24, some (.slice none 0 0), []⟩),
 (45, ⟨.slice 187, 1, 24, some (.slice none 0 0), []⟩),
 (47, ⟨.struct, 3, 72, some (.agg #[.slice none 0 0, .slice none 0 0, .slice none 0 0]), [(0, 1, some false), (1, 1, some false), (2, 1, some false)]⟩),
 (48, ⟨.slice 130, 1, 24, some (.slice none 0 0), []⟩),
 (50, ⟨.struct, 5, 120, some (.agg #[.slice none 0 0, .slice none 0 0, .slice none 0 0, .slice none 0 0, .slice none 0 0]), [(0, 1, some true), (1, 3, some true), (4, 1, some false)]⟩),
 (52, ⟨.slice 87, 1, 24, some (.slice none 0 0), []⟩),
 (70, ⟨.slice 34, 1, 24, some (.slice none 0 0), []⟩),
 (80, ⟨.struct, 5, 88, some (.agg #[.int .i64 0, .int .i64 0, .slice none 0 0, .slice none 0 0, .slice none 0 0]), [(0, 1, some false), (1, 1, some false), (2, 1, some false), (3, 1, some false), (4, 1, some false)]⟩),
 (87, ⟨.struct, 5, 88, some (.agg #[.int .i64 0, .int .i64 0, .slice none 0 0, .slice none 0 0, .slice none 0 0]), [(0, 1, some false), (1, 1, some false), (2, 1, some false), (3, 1, some false), (4, 1, some false)]⟩),
 (89, ⟨.ptr, 1, 8, some (.pointer none), []⟩),
 (104, ⟨.slice 4, 1, 24, some (.slice none 0 0), []⟩),
 (122, ⟨.struct, 4, 96, some (.agg #[.slice none 0 0, .slice none 0 0, .slice none 0 0, .slice none 0 0]), [(0, 1, some false), (1, 1, some false), (2, 1, some false), (3, 1, some false)]⟩),
 (130, ⟨.struct, 4, 96, some (.agg #[.slice none 0 0, .slice none 0 0, .slice none 0 0, .slice none 0 0]), [(0, 1, some false), (1, 1, some false), (2, 1, some false), (3, 1, some false)]⟩),
 (156, ⟨.struct, 4, 32, some (.agg #[.int .i64 0, .int .i64 0, .int .i64 0, .bool false]), [(0, 1, some false), (1, 1, some false), (2, 1, some false), (3, 1, some false)]⟩),
 (157, ⟨.slice 156, 1, 24, some (.slice none 0 0), []⟩),
 (158, ⟨.slice 216, 1, 24, some (.slice none 0 0), []⟩),
 (160, ⟨.struct, 10, 240, some (.agg #[.slice none 0 0, .slice none 0 0, .slice none 0 0, .slice none 0 0, .slice none 0 0, .slice none 0 0, .slice none 0 0, .slice none 0 0, .slice none 0 0, .slice none 0 0]), [(0, 5, some true), (5, 1, some false), (6, 1, some false), (7, 1, some false), (8, 1, some false), (9, 1, some false)]⟩),
 (168, ⟨.slice 257, 1, 24, some (.slice none 0 0), []⟩),
 (169, ⟨.slice 261, 1, 24, some (.slice none 0 0), []⟩),
 (171, ⟨.struct, 7, 112, some (.agg #[.string ByteArray.empty, .int .i64 0, .slice none 0 0, .slice none 0 0, .slice none 0 0, .int .i64 0, .int .i64 0]), [(0, 1, some false), (1, 1, some false), (2, 1, some false), (3, 1, some false), (4, 1, some false), (5, 1, some false), (6, 1, some false)]⟩),
 (174, ⟨.struct, 3, 48, some (.agg #[.string ByteArray.empty, .int .i64 0, .slice none 0 0]), [(0, 1, some false), (1, 1, some false), (2, 1, some false)]⟩),
 (177, ⟨.struct, 3, 32, some (.agg #[.string ByteArray.empty, .int .i64 0, .int .i64 0]), [(0, 1, some false), (1, 1, some false), (2, 1, some false)]⟩),
 (178, ⟨.slice 202, 1, 24, some (.slice none 0 0), []⟩),
 (180, ⟨.slice 238, 1, 24, some (.slice none 0 0), []⟩),
 (181, ⟨.slice 211, 1, 24, some (.slice none 0 0), []⟩),
 (183, ⟨.struct, 7, 112, some (.agg #[.string ByteArray.empty, .int .i64 0, .slice none 0 0, .slice none 0 0, .slice none 0 0, .int .i64 0, .int .i64 0]), [(0, 1, some false), (1, 1, some false), (2, 1, some false), (3, 1, some false), (4, 1, some false), (5, 1, some false), (6, 1, some false)]⟩),
 (185, ⟨.struct, 3, 48, some (.agg #[.string ByteArray.empty, .int .i64 0, .slice none 0 0]), [(0, 1, some false), (1, 1, some false), (2, 1, some false)]⟩),
 (187, ⟨.struct, 3, 32, some (.agg #[.string ByteArray.empty, .int .i64 0, .int .i64 0]), [(0, 1, some false), (1, 1, some false), (2, 1, some false)]⟩),
 (202, ⟨.struct, 4, 32, some (.agg #[.int .i64 0, .int .i64 0, .int .i64 0, .bool false]), [(0, 1, some false), (1, 1, some false), (2, 1, some false), (3, 1, some false)]⟩),
 (209, ⟨.slice 267, 1, 24, some (.slice none 0 0), []⟩),
 (211, ⟨.struct, 6, 80, some (.agg #[.int .i64 0, .int .i64 0, .int .i64 0, .int .i64 0, .slice none 0 0, .slice none 0 0]), [(0, 1, some false), (1, 1, some false), (2, 1, some false), (3, 1, some false), (4, 1, some false), (5, 1, some false)]⟩),
 (216, ⟨.struct, 4, 32, some (.agg #[.int .i64 0, .int .i64 0, .int .i64 0, .int .i64 0]), [(0, 1, some false), (1, 1, some false), (2, 1, some false), (3, 1, some false)]⟩),
 (224, ⟨.slice 3, 1, 24, some (.slice none 0 0), []⟩),
 (236, ⟨.slice 5, 1, 24, some (.slice none 0 0), []⟩),
 (238, ⟨.struct, 4, 40, some (.agg #[.string ByteArray.empty, .int .i64 0, .int .i64 0, .bool false]), [(0, 1, some false), (1, 1, some false), (2, 1, some false), (3, 1, some false)]⟩),
 (246, ⟨.slice 248, 1, 24, some (.slice none 0 0), []⟩),
 (248, ⟨.arr 2 2, 2, 16, some (.agg #[.int .i64 0, .int .i64 0]), []⟩),
 (253, ⟨.int .u64, 1, 8, some (.int .u64 0), []⟩),
 (257, ⟨.struct, 4, 40, some (.agg #[.string ByteArray.empty, .int .i64 0, .int .i64 0, .bool false]), [(0, 1, some false), (1, 1, some false), (2, 1, some false), (3, 1, some false)]⟩),
 (259, ⟨.slice 283, 1, 24, some (.slice none 0 0), []⟩),
 (261, ⟨.struct, 6, 80, some (.agg #[.int .i64 0, .int .i64 0, .int .i64 0, .int .i64 0, .slice none 0 0, .slice none 0 0]), [(0, 1, some false), (1, 1, some false), (2, 1, some false), (3, 1, some false), (4, 1, some false), (5, 1, some false)]⟩),
 (267, ⟨.struct, 3, 72, some (.agg #[.slice none 0 0, .slice none 0 0, .slice none 0 0]), [(0, 1, some false), (1, 1, some false), (2, 1, some false)]⟩),
 (283, ⟨.struct, 3, 72, some (.agg #[.slice none 0 0, .slice none 0 0, .slice none 0 0]), [(0, 1, some false), (1, 1, some false), (2, 1, some false)]⟩),
 (291, ⟨.struct, 2, 16, some (.agg #[.int .i64 0, .int .i64 0]), [(0, 1, some false), (1, 1, some false)]⟩)]
theorem qc : TabOk Tryz.prog tab := TabOk.mk (by kernel_rfl)
theorem rp {n : Nat} {Q : Exit → Act → World → Prop} {k : List It} {e : Env} {w : World} {all : Array Oper} {l : List Oper} {op : Op} {d t : Nat} {ps : String} {af : Array Edge} {v : Value}
  (h : pev tab e op = some v) (hn : Nat.blt d n = true) (hk : Run Tryz.prog n Q (.ops all l :: k) ((d, v) :: e) w) : Run Tryz.prog n Q (.ops all (⟨some d, op, t, ps, af, none⟩ :: l) :: k) e w := r_p qc h hn hk
theorem dp {n : Nat} {Q : Exit → Act → World → Prop} {k : List It} {e : Env} {w : World} {all : Array Oper} {l : List Oper} {op : Op} {d t : Nat} {ps : String} {af : Array Edge} {v : Value}
  (h : pev tab e op = some v) (hn : Nat.blt d n = true) (hk : RunD Tryz.prog n Q k all w l ((d, v) :: e)) : RunD Tryz.prog n Q k all w (⟨some d, op, t, ps, af, none⟩ :: l) e := d_p qc h hn hk
section
variable {P : Program} {n : Nat} {Q : Exit → Act → World → Prop} {k : List It} {e : Env} {w : World}
theorem zSR {i4 : Nat} {o5 : List Oper} {x3 : Code} (h : Run P n Q (.ops o5.toArray o5 :: .code x3 :: k) e w) : Run P n Q (.code (.seq (.region i4 o5.toArray false) x3) :: k) e w := qbl <| qB h
theorem zSSR {i6 : Nat} {o7 : List Oper} {x5 : Code} {x3 : Code} (h : Run P n Q (.ops o7.toArray o7 :: .code x5 :: .code x3 :: k) e w) : Run P n Q (.code (.seq (.seq (.region i6 o7.toArray false) x5) x3) :: k) e w := qbl <| qbl <| qB h
theorem zKSR {i5 : Nat} {o6 : List Oper} {x4 : Code} (h : Run P n Q (.ops o6.toArray o6 :: .code x4 :: k) e w) : Run P n Q (.code .skip :: .code (.seq (.region i5 o6.toArray false) x4) :: k) e w := qd1 <| qbl <| qB h
theorem zKSSR {i7 : Nat} {o8 : List Oper} {x6 : Code} {x4 : Code} (h : Run P n Q (.ops o8.toArray o8 :: .code x6 :: .code x4 :: k) e w) : Run P n Q (.code .skip :: .code (.seq (.seq (.region i7 o8.toArray false) x6) x4) :: k) e w := qd1 <| qbl <| qbl <| qB h
theorem zNSR {a1 : Array Oper} {i5 : Nat} {o6 : List Oper} {x4 : Code} (h : Run P n Q (.ops o6.toArray o6 :: .code x4 :: k) e w) : Run P n Q (.ops a1 [] :: .code (.seq (.region i5 o6.toArray false) x4) :: k) e w := qb <| qbl <| qB h
theorem zNSSR {a1 : Array Oper} {i7 : Nat} {o8 : List Oper} {x6 : Code} {x4 : Code} (h : Run P n Q (.ops o8.toArray o8 :: .code x6 :: .code x4 :: k) e w) : Run P n Q (.ops a1 [] :: .code (.seq (.seq (.region i7 o8.toArray false) x6) x4) :: k) e w := qb <| qbl <| qbl <| qB h
theorem zKS {x3 : Code} {x4 : Code} (h : Run P n Q (.code x3 :: .code x4 :: k) e w) : Run P n Q (.code .skip :: .code (.seq x3 x4) :: k) e w := qd1 <| qbl h
theorem zNS {a1 : Array Oper} {x3 : Code} {x4 : Code} (h : Run P n Q (.code x3 :: .code x4 :: k) e w) : Run P n Q (.ops a1 [] :: .code (.seq x3 x4) :: k) e w := qb <| qbl h
theorem zNSS {a1 : Array Oper} {x5 : Code} {x6 : Code} {x4 : Code} (h : Run P n Q (.code x5 :: .code x6 :: .code x4 :: k) e w) : Run P n Q (.ops a1 [] :: .code (.seq (.seq x5 x6) x4) :: k) e w := qb <| qbl <| qbl h
theorem zBSR {i2 : Nat} {i6 : Nat} {o7 : List Oper} {x5 : Code} (h : Run P n Q (.ops o7.toArray o7 :: .code x5 :: .blk i2 :: k) e w) : Run P n Q (.code (.block i2 (.seq (.region i6 o7.toArray false) x5)) :: k) e w := qA <| qbl <| qB h
theorem zKSB {i5 : Nat} {x6 : Code} {x4 : Code} (h : Run P n Q (.code x6 :: .blk i5 :: .code x4 :: k) e w) : Run P n Q (.code .skip :: .code (.seq (.block i5 x6) x4) :: k) e w := qd1 <| qbl <| qA h
theorem zKSBR {i5 : Nat} {i7 : Nat} {o8 : List Oper} {x4 : Code} (h : Run P n Q (.ops o8.toArray o8 :: .blk i5 :: .code x4 :: k) e w) : Run P n Q (.code .skip :: .code (.seq (.block i5 (.region i7 o8.toArray false)) x4) :: k) e w := qd1 <| qbl <| qA <| qB h
theorem zKSBSR {i5 : Nat} {i9 : Nat} {o10 : List Oper} {x8 : Code} {x4 : Code} (h : Run P n Q (.ops o10.toArray o10 :: .code x8 :: .blk i5 :: .code x4 :: k) e w) : Run P n Q (.code .skip :: .code (.seq (.block i5 (.seq (.region i9 o10.toArray false) x8)) x4) :: k) e w := qd1 <| qbl <| qA <| qbl <| qB h
theorem zKE {i2 : Nat} (h : Run P n Q (k) e w) : Run P n Q (.code .skip :: .blk i2 :: k) e w := qd1 <| qfP h
theorem zKER {i4 : Nat} {o5 : List Oper} {i2 : Nat} (h : Run P n Q (.ops o5.toArray o5 :: k) e w) : Run P n Q (.code .skip :: .blk i2 :: .code (.region i4 o5.toArray false) :: k) e w := qd1 <| qfP <| qB h
theorem zNER {a1 : Array Oper} {i4 : Nat} {o5 : List Oper} {i2 : Nat} (h : Run P n Q (.ops o5.toArray o5 :: k) e w) : Run P n Q (.ops a1 [] :: .blk i2 :: .code (.region i4 o5.toArray false) :: k) e w := qb <| qfP <| qB h
theorem zNSB {a1 : Array Oper} {i5 : Nat} {x6 : Code} {x4 : Code} (h : Run P n Q (.code x6 :: .blk i5 :: .code x4 :: k) e w) : Run P n Q (.ops a1 [] :: .code (.seq (.block i5 x6) x4) :: k) e w := qb <| qbl <| qA h
theorem zSS {x4 : Code} {x5 : Code} {x3 : Code} (h : Run P n Q (.code x4 :: .code x5 :: .code x3 :: k) e w) : Run P n Q (.code (.seq (.seq x4 x5) x3) :: k) e w := qbl <| qbl h
theorem zKSS {x5 : Code} {x6 : Code} {x4 : Code} (h : Run P n Q (.code x5 :: .code x6 :: .code x4 :: k) e w) : Run P n Q (.code .skip :: .code (.seq (.seq x5 x6) x4) :: k) e w := qd1 <| qbl <| qbl h
end
section
variable {w0 w : World} {L : List Ch} {n : Nat} {Q : Exit → Act → World → Prop} {k : List It} {e : Env} {all : Array Oper} {l : List Oper}
theorem zp1 {op0 : Op} {d0 t0 : Nat} {s0 : String} {f0 : Array Edge} {v0 : Value} (h : (pev tab (e) op0, Nat.blt d0 n) = (some v0, true)) (hk : Run Tryz.prog n Q (.ops all l :: k) ((d0, v0) :: e) w) : Run Tryz.prog n Q (.ops all (⟨some d0, op0, t0, s0, f0, none⟩ :: l) :: k) e w := by
 have H := h
 simp only [Prod.mk.injEq] at H
 exact rp (H.1) (H.2) (hk)
theorem zd1 {op0 : Op} {d0 t0 : Nat} {s0 : String} {f0 : Array Edge} {v0 : Value} (h : (pev tab (e) op0, Nat.blt d0 n) = (some v0, true)) (hk : RunD Tryz.prog n Q k all w l ((d0, v0) :: e)) : RunD Tryz.prog n Q k all w (⟨some d0, op0, t0, s0, f0, none⟩ :: l) e := by
 have H := h
 simp only [Prod.mk.injEq] at H
 exact dp (H.1) (H.2) (hk)
theorem zp2 {op0 : Op} {d0 t0 : Nat} {s0 : String} {f0 : Array Edge} {v0 : Value} {op1 : Op} {d1 t1 : Nat} {s1 : String} {f1 : Array Edge} {v1 : Value} (h : (pev tab (e) op0, Nat.blt d0 n, pev tab ((d0, v0) :: e) op1, Nat.blt d1 n) = (some v0, true, some v1, true)) (hk : Run Tryz.prog n Q (.ops all l :: k) ((d1, v1) :: (d0, v0) :: e) w) : Run Tryz.prog n Q (.ops all (⟨some d0, op0, t0, s0, f0, none⟩ :: ⟨some d1, op1, t1, s1, f1, none⟩ :: l) :: k) e w := by
 have H := h
 simp only [Prod.mk.injEq] at H
 exact rp (H.1) (H.2.1) (rp (H.2.2.1) (H.2.2.2) (hk))
theorem zd2 {op0 : Op} {d0 t0 : Nat} {s0 : String} {f0 : Array Edge} {v0 : Value} {op1 : Op} {d1 t1 : Nat} {s1 : String} {f1 : Array Edge} {v1 : Value} (h : (pev tab (e) op0, Nat.blt d0 n, pev tab ((d0, v0) :: e) op1, Nat.blt d1 n) = (some v0, true, some v1, true)) (hk : RunD Tryz.prog n Q k all w l ((d1, v1) :: (d0, v0) :: e)) : RunD Tryz.prog n Q k all w (⟨some d0, op0, t0, s0, f0, none⟩ :: ⟨some d1, op1, t1, s1, f1, none⟩ :: l) e := by
 have H := h
 simp only [Prod.mk.injEq] at H
 exact dp (H.1) (H.2.1) (dp (H.2.2.1) (H.2.2.2) (hk))
theorem zp3 {op0 : Op} {d0 t0 : Nat} {s0 : String} {f0 : Array Edge} {v0 : Value} {op1 : Op} {d1 t1 : Nat} {s1 : String} {f1 : Array Edge} {v1 : Value} {op2 : Op} {d2 t2 : Nat} {s2 : String} {f2 : Array Edge} {v2 : Value} (h : (pev tab (e) op0, Nat.blt d0 n, pev tab ((d0, v0) :: e) op1, Nat.blt d1 n, pev tab ((d1, v1) :: (d0, v0) :: e) op2, Nat.blt d2 n) = (some v0, true, some v1, true, some v2, true)) (hk : Run Tryz.prog n Q (.ops all l :: k) ((d2, v2) :: (d1, v1) :: (d0, v0) :: e) w) : Run Tryz.prog n Q (.ops all (⟨some d0, op0, t0, s0, f0, none⟩ :: ⟨some d1, op1, t1, s1, f1, none⟩ :: ⟨some d2, op2, t2, s2, f2, none⟩ :: l) :: k) e w := by
 have H := h
 simp only [Prod.mk.injEq] at H
 exact rp (H.1) (H.2.1) (rp (H.2.2.1) (H.2.2.2.1) (rp (H.2.2.2.2.1) (H.2.2.2.2.2) (hk)))
theorem zd3 {op0 : Op} {d0 t0 : Nat} {s0 : String} {f0 : Array Edge} {v0 : Value} {op1 : Op} {d1 t1 : Nat} {s1 : String} {f1 : Array Edge} {v1 : Value} {op2 : Op} {d2 t2 : Nat} {s2 : String} {f2 : Array Edge} {v2 : Value} (h : (pev tab (e) op0, Nat.blt d0 n, pev tab ((d0, v0) :: e) op1, Nat.blt d1 n, pev tab ((d1, v1) :: (d0, v0) :: e) op2, Nat.blt d2 n) = (some v0, true, some v1, true, some v2, true)) (hk : RunD Tryz.prog n Q k all w l ((d2, v2) :: (d1, v1) :: (d0, v0) :: e)) : RunD Tryz.prog n Q k all w (⟨some d0, op0, t0, s0, f0, none⟩ :: ⟨some d1, op1, t1, s1, f1, none⟩ :: ⟨some d2, op2, t2, s2, f2, none⟩ :: l) e := by
 have H := h
 simp only [Prod.mk.injEq] at H
 exact dp (H.1) (H.2.1) (dp (H.2.2.1) (H.2.2.2.1) (dp (H.2.2.2.2.1) (H.2.2.2.2.2) (hk)))
theorem zp4 {op0 : Op} {d0 t0 : Nat} {s0 : String} {f0 : Array Edge} {v0 : Value} {op1 : Op} {d1 t1 : Nat} {s1 : String} {f1 : Array Edge} {v1 : Value} {op2 : Op} {d2 t2 : Nat} {s2 : String} {f2 : Array Edge} {v2 : Value} {op3 : Op} {d3 t3 : Nat} {s3 : String} {f3 : Array Edge} {v3 : Value} (h : (pev tab (e) op0, Nat.blt d0 n, pev tab ((d0, v0) :: e) op1, Nat.blt d1 n, pev tab ((d1, v1) :: (d0, v0) :: e) op2, Nat.blt d2 n, pev tab ((d2, v2) :: (d1, v1) :: (d0, v0) :: e) op3, Nat.blt d3 n) = (some v0, true, some v1, true, some v2, true, some v3, true)) (hk : Run Tryz.prog n Q (.ops all l :: k) ((d3, v3) :: (d2, v2) :: (d1, v1) :: (d0, v0) :: e) w) : Run Tryz.prog n Q (.ops all (⟨some d0, op0, t0, s0, f0, none⟩ :: ⟨some d1, op1, t1, s1, f1, none⟩ :: ⟨some d2, op2, t2, s2, f2, none⟩ :: ⟨some d3, op3, t3, s3, f3, none⟩ :: l) :: k) e w := by
 have H := h
 simp only [Prod.mk.injEq] at H
 exact rp (H.1) (H.2.1) (rp (H.2.2.1) (H.2.2.2.1) (rp (H.2.2.2.2.1) (H.2.2.2.2.2.1) (rp (H.2.2.2.2.2.2.1) (H.2.2.2.2.2.2.2) (hk))))
theorem zp5 {op0 : Op} {d0 t0 : Nat} {s0 : String} {f0 : Array Edge} {v0 : Value} {op1 : Op} {d1 t1 : Nat} {s1 : String} {f1 : Array Edge} {v1 : Value} {op2 : Op} {d2 t2 : Nat} {s2 : String} {f2 : Array Edge} {v2 : Value} {op3 : Op} {d3 t3 : Nat} {s3 : String} {f3 : Array Edge} {v3 : Value} {op4 : Op} {d4 t4 : Nat} {s4 : String} {f4 : Array Edge} {v4 : Value} (h : (pev tab (e) op0, Nat.blt d0 n, pev tab ((d0, v0) :: e) op1, Nat.blt d1 n, pev tab ((d1, v1) :: (d0, v0) :: e) op2, Nat.blt d2 n, pev tab ((d2, v2) :: (d1, v1) :: (d0, v0) :: e) op3, Nat.blt d3 n, pev tab ((d3, v3) :: (d2, v2) :: (d1, v1) :: (d0, v0) :: e) op4, Nat.blt d4 n) = (some v0, true, some v1, true, some v2, true, some v3, true, some v4, true)) (hk : Run Tryz.prog n Q (.ops all l :: k) ((d4, v4) :: (d3, v3) :: (d2, v2) :: (d1, v1) :: (d0, v0) :: e) w) : Run Tryz.prog n Q (.ops all (⟨some d0, op0, t0, s0, f0, none⟩ :: ⟨some d1, op1, t1, s1, f1, none⟩ :: ⟨some d2, op2, t2, s2, f2, none⟩ :: ⟨some d3, op3, t3, s3, f3, none⟩ :: ⟨some d4, op4, t4, s4, f4, none⟩ :: l) :: k) e w := by
 have H := h
 simp only [Prod.mk.injEq] at H
 exact rp (H.1) (H.2.1) (rp (H.2.2.1) (H.2.2.2.1) (rp (H.2.2.2.2.1) (H.2.2.2.2.2.1) (rp (H.2.2.2.2.2.2.1) (H.2.2.2.2.2.2.2.1) (rp (H.2.2.2.2.2.2.2.2.1) (H.2.2.2.2.2.2.2.2.2) (hk)))))
theorem zn1 {o0 : Oper} {d0 : Nat} (h : (notW (e) all o0, o0.dst, Nat.blt d0 n) = (true, some d0, true)) (hk : Run Tryz.prog n Q (.ops all l :: k) ((d0, undef) :: e) w) : Run Tryz.prog n Q (.ops all (o0 :: l) :: k) e w := by
 have H := h
 simp only [Prod.mk.injEq] at H
 exact qiC (H.1) (H.2.1) (H.2.2) (hk)
theorem zn2 {o0 : Oper} {d0 : Nat} {o1 : Oper} {d1 : Nat} (h : (notW (e) all o0, o0.dst, Nat.blt d0 n, notW ((d0, undef) :: e) all o1, o1.dst, Nat.blt d1 n) = (true, some d0, true, true, some d1, true)) (hk : Run Tryz.prog n Q (.ops all l :: k) ((d1, undef) :: (d0, undef) :: e) w) : Run Tryz.prog n Q (.ops all (o0 :: o1 :: l) :: k) e w := by
 have H := h
 simp only [Prod.mk.injEq] at H
 exact qiC (H.1) (H.2.1) (H.2.2.1) (qiC (H.2.2.2.1) (H.2.2.2.2.1) (H.2.2.2.2.2) (hk))
theorem zn3 {o0 : Oper} {d0 : Nat} {o1 : Oper} {d1 : Nat} {o2 : Oper} {d2 : Nat} (h : (notW (e) all o0, o0.dst, Nat.blt d0 n, notW ((d0, undef) :: e) all o1, o1.dst, Nat.blt d1 n, notW ((d1, undef) :: (d0, undef) :: e) all o2, o2.dst, Nat.blt d2 n) = (true, some d0, true, true, some d1, true, true, some d2, true)) (hk : Run Tryz.prog n Q (.ops all l :: k) ((d2, undef) :: (d1, undef) :: (d0, undef) :: e) w) : Run Tryz.prog n Q (.ops all (o0 :: o1 :: o2 :: l) :: k) e w := by
 have H := h
 simp only [Prod.mk.injEq] at H
 exact qiC (H.1) (H.2.1) (H.2.2.1) (qiC (H.2.2.2.1) (H.2.2.2.2.1) (H.2.2.2.2.2.1) (qiC (H.2.2.2.2.2.2.1) (H.2.2.2.2.2.2.2.1) (H.2.2.2.2.2.2.2.2) (hk)))
theorem zn4 {o0 : Oper} {d0 : Nat} {o1 : Oper} {d1 : Nat} {o2 : Oper} {d2 : Nat} {o3 : Oper} {d3 : Nat} (h : (notW (e) all o0, o0.dst, Nat.blt d0 n, notW ((d0, undef) :: e) all o1, o1.dst, Nat.blt d1 n, notW ((d1, undef) :: (d0, undef) :: e) all o2, o2.dst, Nat.blt d2 n, notW ((d2, undef) :: (d1, undef) :: (d0, undef) :: e) all o3, o3.dst, Nat.blt d3 n) = (true, some d0, true, true, some d1, true, true, some d2, true, true, some d3, true)) (hk : Run Tryz.prog n Q (.ops all l :: k) ((d3, undef) :: (d2, undef) :: (d1, undef) :: (d0, undef) :: e) w) : Run Tryz.prog n Q (.ops all (o0 :: o1 :: o2 :: o3 :: l) :: k) e w := by
 have H := h
 simp only [Prod.mk.injEq] at H
 exact qiC (H.1) (H.2.1) (H.2.2.1) (qiC (H.2.2.2.1) (H.2.2.2.2.1) (H.2.2.2.2.2.1) (qiC (H.2.2.2.2.2.2.1) (H.2.2.2.2.2.2.2.1) (H.2.2.2.2.2.2.2.2.1) (qiC (H.2.2.2.2.2.2.2.2.2.1) (H.2.2.2.2.2.2.2.2.2.2.1) (H.2.2.2.2.2.2.2.2.2.2.2) (hk))))
theorem zn5 {o0 : Oper} {d0 : Nat} {o1 : Oper} {d1 : Nat} {o2 : Oper} {d2 : Nat} {o3 : Oper} {d3 : Nat} {o4 : Oper} {d4 : Nat} (h : (notW (e) all o0, o0.dst, Nat.blt d0 n, notW ((d0, undef) :: e) all o1, o1.dst, Nat.blt d1 n, notW ((d1, undef) :: (d0, undef) :: e) all o2, o2.dst, Nat.blt d2 n, notW ((d2, undef) :: (d1, undef) :: (d0, undef) :: e) all o3, o3.dst, Nat.blt d3 n, notW ((d3, undef) :: (d2, undef) :: (d1, undef) :: (d0, undef) :: e) all o4, o4.dst, Nat.blt d4 n) = (true, some d0, true, true, some d1, true, true, some d2, true, true, some d3, true, true, some d4, true)) (hk : Run Tryz.prog n Q (.ops all l :: k) ((d4, undef) :: (d3, undef) :: (d2, undef) :: (d1, undef) :: (d0, undef) :: e) w) : Run Tryz.prog n Q (.ops all (o0 :: o1 :: o2 :: o3 :: o4 :: l) :: k) e w := by
 have H := h
 simp only [Prod.mk.injEq] at H
 exact qiC (H.1) (H.2.1) (H.2.2.1) (qiC (H.2.2.2.1) (H.2.2.2.2.1) (H.2.2.2.2.2.1) (qiC (H.2.2.2.2.2.2.1) (H.2.2.2.2.2.2.2.1) (H.2.2.2.2.2.2.2.2.1) (qiC (H.2.2.2.2.2.2.2.2.2.1) (H.2.2.2.2.2.2.2.2.2.2.1) (H.2.2.2.2.2.2.2.2.2.2.2.1) (qiC (H.2.2.2.2.2.2.2.2.2.2.2.2.1) (H.2.2.2.2.2.2.2.2.2.2.2.2.2.1) (H.2.2.2.2.2.2.2.2.2.2.2.2.2.2) (hk)))))
theorem zl (i j : Nat) {d t ty : Nat} {x : Operand} {te : TE} {ps : String} {af : Array Edge} {v : Value} {b : Nat} {cs : List Value} {t' : TypeId} (h : SH w0 w L) (hh : (L[i]?, opv e x, tab.get t, ld te cs j, Nat.blt d n) = (some (Ch.box b cs t'), some (.pointer (some ⟨b, 0 + j, none⟩)), some te, some v, true))
  (hk : Run Tryz.prog n Q (.ops all l :: k) ((d, v) :: e) w) : Run Tryz.prog n Q (.ops all (⟨some d, .load t x, ty, ps, af, none⟩ :: l) :: k) e w := by
 simp only [Prod.mk.injEq] at hh
 exact r_v (qbE qc (h.box i hh.1) (j := j) hh.2.1 hh.2.2.1 hh.2.2.2.1) hh.2.2.2.2 hk
theorem zc (j : Nat) {d t ty : Nat} {x : Operand} {te : TE} {ps : String} {af : Array Edge} {v : Value} {b o : Nat} {cs : List Value} (h : CellsAt w b o cs) (hh : (opv e x, tab.get t, ld te cs j, Nat.blt d n) = (some (.pointer (some ⟨b, o + j, none⟩)), some te, some v, true))
  (hk : Run Tryz.prog n Q (.ops all l :: k) ((d, v) :: e) w) : Run Tryz.prog n Q (.ops all (⟨some d, .load t x, ty, ps, af, none⟩ :: l) :: k) e w := by
 simp only [Prod.mk.injEq] at hh
 exact r_v (qbE qc h (j := j) hh.1 hh.2.1 hh.2.2.1) hh.2.2.2 hk
theorem zdl (i j : Nat) {d t ty : Nat} {x : Operand} {te : TE} {ps : String} {af : Array Edge} {v : Value} {b : Nat} {cs : List Value} {t' : TypeId} (h : SH w0 w L) (hh : (L[i]?, opv e x, tab.get t, ld te cs j, Nat.blt d n) = (some (Ch.box b cs t'), some (.pointer (some ⟨b, 0 + j, none⟩)), some te, some v, true))
  (hk : RunD Tryz.prog n Q k all w l ((d, v) :: e)) : RunD Tryz.prog n Q k all w (⟨some d, .load t x, ty, ps, af, none⟩ :: l) e := by
 simp only [Prod.mk.injEq] at hh
 exact d_v (fun _ hb => qbE qc ((h.box i hh.1).below hb) (j := j) hh.2.1 hh.2.2.1 hh.2.2.2.1) hh.2.2.2.2 hk
theorem zdc (j : Nat) {d t ty : Nat} {x : Operand} {te : TE} {ps : String} {af : Array Edge} {v : Value} {b o : Nat} {cs : List Value} (h : CellsAt w b o cs) (hh : (opv e x, tab.get t, ld te cs j, Nat.blt d n) = (some (.pointer (some ⟨b, o + j, none⟩)), some te, some v, true))
  (hk : RunD Tryz.prog n Q k all w l ((d, v) :: e)) : RunD Tryz.prog n Q k all w (⟨some d, .load t x, ty, ps, af, none⟩ :: l) e := by
 simp only [Prod.mk.injEq] at hh
 exact d_v (fun _ hb => qbE qc (h.below hb) (j := j) hh.1 hh.2.1 hh.2.2.1) hh.2.2.2 hk
theorem zx {x i : Operand} {t ty d el m : Nat} {te te1 : TE} {ps : String} {af : Array Edge} {p : Option Addr} {ln c : Nat} {kd : IntKind} {iv : Int} {b o q : Nat} (hp : p = some ⟨b, o, none⟩) (hq : q = o + iv.toNat * m) (hlt : 0 ≤ iv ∧ iv < ln) (hh : (opv e x, opv e i, tab.get t, te.kind, tab.get el, te1.size, Nat.blt d n) = (some (.slice p ln c), some (.int kd iv), some te, TK.slice el, some te1, m, true)) (hk : Run Tryz.prog n Q (.ops all l :: k) ((d, .pointer (some ⟨b, q, none⟩)) :: e) w) : Run Tryz.prog n Q (.ops all (⟨some d, .indexAddr t x i, ty, ps, af, none⟩ :: l) :: k) e w := by
 simp only [Prod.mk.injEq] at hh
 exact r_v (qfA qc hp hq hlt hh.1 hh.2.1 hh.2.2.1 hh.2.2.2.1 hh.2.2.2.2.1 hh.2.2.2.2.2.1) hh.2.2.2.2.2.2 hk
theorem zxe {x i : Operand} {t ty d el m : Nat} {te te1 : TE} {ps : String} {af : Array Edge} {p : Option Addr} {ln c : Nat} {kd : IntKind} {iv : Int} {b o q : Nat} {α : Prop} (hp : p = some ⟨b, o, none⟩) (hq : q = o + iv.toNat * m) (hlt : 0 ≤ iv ∧ iv < ln ∧ α) (hh : (opv e x, opv e i, tab.get t, te.kind, tab.get el, te1.size, Nat.blt d n) = (some (.slice p ln c), some (.int kd iv), some te, TK.slice el, some te1, m, true)) (hk : Run Tryz.prog n Q (.ops all l :: k) ((d, .pointer (some ⟨b, q, none⟩)) :: e) w) : Run Tryz.prog n Q (.ops all (⟨some d, .indexAddr t x i, ty, ps, af, none⟩ :: l) :: k) e w := zx hp hq ⟨hlt.1, hlt.2.1⟩ hh hk
theorem zdx {x i : Operand} {t ty d el m : Nat} {te te1 : TE} {ps : String} {af : Array Edge} {p : Option Addr} {ln c : Nat} {kd : IntKind} {iv : Int} {b o q : Nat} (hp : p = some ⟨b, o, none⟩) (hq : q = o + iv.toNat * m) (hlt : 0 ≤ iv ∧ iv < ln) (hh : (opv e x, opv e i, tab.get t, te.kind, tab.get el, te1.size, Nat.blt d n) = (some (.slice p ln c), some (.int kd iv), some te, TK.slice el, some te1, m, true)) (hk : RunD Tryz.prog n Q k all w l ((d, .pointer (some ⟨b, q, none⟩)) :: e)) : RunD Tryz.prog n Q k all w (⟨some d, .indexAddr t x i, ty, ps, af, none⟩ :: l) e := by
 simp only [Prod.mk.injEq] at hh
 exact d_v (fun _ _ => qfA qc hp hq hlt hh.1 hh.2.1 hh.2.2.1 hh.2.2.2.1 hh.2.2.2.2.1 hh.2.2.2.2.2.1) hh.2.2.2.2.2.2 hk
theorem zdxe {x i : Operand} {t ty d el m : Nat} {te te1 : TE} {ps : String} {af : Array Edge} {p : Option Addr} {ln c : Nat} {kd : IntKind} {iv : Int} {b o q : Nat} {α : Prop} (hp : p = some ⟨b, o, none⟩) (hq : q = o + iv.toNat * m) (hlt : 0 ≤ iv ∧ iv < ln ∧ α) (hh : (opv e x, opv e i, tab.get t, te.kind, tab.get el, te1.size, Nat.blt d n) = (some (.slice p ln c), some (.int kd iv), some te, TK.slice el, some te1, m, true)) (hk : RunD Tryz.prog n Q k all w l ((d, .pointer (some ⟨b, q, none⟩)) :: e)) : RunD Tryz.prog n Q k all w (⟨some d, .indexAddr t x i, ty, ps, af, none⟩ :: l) e := zdx hp hq ⟨hlt.1, hlt.2.1⟩ hh hk
theorem zs (i : Nat) {t ty : Nat} {ps : String} {af : Array Edge} {x v : Operand} {te : TE} {b j : Nat} {cs : List Value} {t' : TypeId} {u : Value} (h : SH w0 w L)
  (hh : (L[i]?, opv e x, opv e v, tab.get t, Nat.beq (cellsL u).length te.size, Nat.ble (j + (cellsL u).length) cs.length, ones (cellsL u)) = (some (Ch.box b cs t'), some (.pointer (some ⟨b, j, none⟩)), some u, some te, true, true, true))
  (hk : ∀ w', SH w0 w' (L.set i (Ch.box b (splice cs j (cellsL u)) t')) → Run Tryz.prog n Q (.ops all l :: k) e w') : Run Tryz.prog n Q (.ops all (⟨none, .store t x v, ty, ps, af, none⟩ :: l) :: k) e w := by
 simp only [Prod.mk.injEq] at hh
 exact qrO qc i h hh.1 hh.2.1 hh.2.2.1 hh.2.2.2.1 hh.2.2.2.2.1 hh.2.2.2.2.2.1 hh.2.2.2.2.2.2 hk
theorem zb {b : Bool} (h : ¬ b = true) : b = false := Bool.eq_false_iff.2 h
end
theorem call9 : qn Tryz.prog 9 := ⟨_, Tryz.func9, rfl, by kernel_rfl⟩
theorem call10 : qn Tryz.prog 10 := ⟨_, Tryz.func10, rfl, by kernel_rfl⟩
theorem call12 : qn Tryz.prog 12 := ⟨_, Tryz.func12, rfl, by kernel_rfl⟩
theorem call13 : qn Tryz.prog 13 := ⟨_, Tryz.func13, rfl, by kernel_rfl⟩
theorem call14 : qn Tryz.prog 14 := ⟨_, Tryz.func14, rfl, by kernel_rfl⟩
theorem call16 : qn Tryz.prog 16 := ⟨_, Tryz.func16, rfl, by kernel_rfl⟩
theorem call17 : qn Tryz.prog 17 := ⟨_, Tryz.func17, rfl, by kernel_rfl⟩
theorem call18 : qn Tryz.prog 18 := ⟨_, Tryz.func18, rfl, by kernel_rfl⟩
theorem call19 : qn Tryz.prog 19 := ⟨_, Tryz.func19, rfl, by kernel_rfl⟩
theorem call28 : qn Tryz.prog 28 := ⟨_, Tryz.func28, rfl, by kernel_rfl⟩
theorem call29 : qn Tryz.prog 29 := ⟨_, Tryz.func29, rfl, by kernel_rfl⟩
theorem call37 : qn Tryz.prog 37 := ⟨_, Tryz.func37, rfl, by kernel_rfl⟩
theorem call38 : qn Tryz.prog 38 := ⟨_, Tryz.func38, rfl, by kernel_rfl⟩
theorem call39 : qn Tryz.prog 39 := ⟨_, Tryz.func39, rfl, by kernel_rfl⟩
theorem call40 : qn Tryz.prog 40 := ⟨_, Tryz.func40, rfl, by kernel_rfl⟩
theorem call44 : qn Tryz.prog 44 := ⟨_, Tryz.func44, rfl, by kernel_rfl⟩
theorem call45 : qn Tryz.prog 45 := ⟨_, Tryz.func45, rfl, by kernel_rfl⟩
theorem call46 : qn Tryz.prog 46 := ⟨_, Tryz.func46, rfl, by kernel_rfl⟩
theorem call47 : qn Tryz.prog 47 := ⟨_, Tryz.func47, rfl, by kernel_rfl⟩
theorem call50 : qn Tryz.prog 50 := ⟨_, Tryz.func50, rfl, by kernel_rfl⟩
theorem call51 : qn Tryz.prog 51 := ⟨_, Tryz.func51, rfl, by kernel_rfl⟩
theorem call52 : qn Tryz.prog 52 := ⟨_, Tryz.func52, rfl, by kernel_rfl⟩
theorem call53 : qn Tryz.prog 53 := ⟨_, Tryz.func53, rfl, by kernel_rfl⟩
theorem call54 : qn Tryz.prog 54 := ⟨_, Tryz.func54, rfl, by kernel_rfl⟩
theorem call61 : qn Tryz.prog 61 := ⟨_, Tryz.func61, rfl, by kernel_rfl⟩
theorem call62 : qn Tryz.prog 62 := ⟨_, Tryz.func62, rfl, by kernel_rfl⟩
theorem call63 : qn Tryz.prog 63 := ⟨_, Tryz.func63, rfl, by kernel_rfl⟩
theorem call64 : qn Tryz.prog 64 := ⟨_, Tryz.func64, rfl, by kernel_rfl⟩
theorem call65 : qn Tryz.prog 65 := ⟨_, Tryz.func65, rfl, by kernel_rfl⟩
theorem call66 : qn Tryz.prog 66 := ⟨_, Tryz.func66, rfl, by kernel_rfl⟩
theorem call67 : qn Tryz.prog 67 := ⟨_, Tryz.func67, rfl, by kernel_rfl⟩
theorem call71 : qn Tryz.prog 71 := ⟨_, Tryz.func71, rfl, by kernel_rfl⟩
theorem call72 : qn Tryz.prog 72 := ⟨_, Tryz.func72, rfl, by kernel_rfl⟩
theorem call73 : qn Tryz.prog 73 := ⟨_, Tryz.func73, rfl, by kernel_rfl⟩
theorem call74 : qn Tryz.prog 74 := ⟨_, Tryz.func74, rfl, by kernel_rfl⟩
theorem call75 : qn Tryz.prog 75 := ⟨_, Tryz.func75, rfl, by kernel_rfl⟩
theorem call76 : qn Tryz.prog 76 := ⟨_, Tryz.func76, rfl, by kernel_rfl⟩
theorem call77 : qn Tryz.prog 77 := ⟨_, Tryz.func77, rfl, by kernel_rfl⟩
theorem call78 : qn Tryz.prog 78 := ⟨_, Tryz.func78, rfl, by kernel_rfl⟩
theorem call79 : qn Tryz.prog 79 := ⟨_, Tryz.func79, rfl, by kernel_rfl⟩
theorem call80 : qn Tryz.prog 80 := ⟨_, Tryz.func80, rfl, by kernel_rfl⟩
theorem call81 : qn Tryz.prog 81 := ⟨_, Tryz.func81, rfl, by kernel_rfl⟩
theorem call82 : qn Tryz.prog 82 := ⟨_, Tryz.func82, rfl, by kernel_rfl⟩
theorem call83 : qn Tryz.prog 83 := ⟨_, Tryz.func83, rfl, by kernel_rfl⟩
theorem call84 : qn Tryz.prog 84 := ⟨_, Tryz.func84, rfl, by kernel_rfl⟩
theorem call86 : qn Tryz.prog 86 := ⟨_, Tryz.func86, rfl, by kernel_rfl⟩
theorem call87 : qn Tryz.prog 87 := ⟨_, Tryz.func87, rfl, by kernel_rfl⟩
theorem call88 : qn Tryz.prog 88 := ⟨_, Tryz.func88, rfl, by kernel_rfl⟩
theorem call89 : qn Tryz.prog 89 := ⟨_, Tryz.func89, rfl, by kernel_rfl⟩
theorem call90 : qn Tryz.prog 90 := ⟨_, Tryz.func90, rfl, by kernel_rfl⟩
theorem call91 : qn Tryz.prog 91 := ⟨_, Tryz.func91, rfl, by kernel_rfl⟩
theorem call92 : qn Tryz.prog 92 := ⟨_, Tryz.func92, rfl, by kernel_rfl⟩
theorem call93 : qn Tryz.prog 93 := ⟨_, Tryz.func93, rfl, by kernel_rfl⟩
theorem call94 : qn Tryz.prog 94 := ⟨_, Tryz.func94, rfl, by kernel_rfl⟩
theorem call95 : qn Tryz.prog 95 := ⟨_, Tryz.func95, rfl, by kernel_rfl⟩
theorem call96 : qn Tryz.prog 96 := ⟨_, Tryz.func96, rfl, by kernel_rfl⟩
theorem call97 : qn Tryz.prog 97 := ⟨_, Tryz.func97, rfl, by kernel_rfl⟩
theorem call98 : qn Tryz.prog 98 := ⟨_, Tryz.func98, rfl, by kernel_rfl⟩
theorem call103 : qn Tryz.prog 103 := ⟨_, Tryz.func103, rfl, by kernel_rfl⟩
theorem call104 : qn Tryz.prog 104 := ⟨_, Tryz.func104, rfl, by kernel_rfl⟩
theorem call105 : qn Tryz.prog 105 := ⟨_, Tryz.func105, rfl, by kernel_rfl⟩
theorem call106 : qn Tryz.prog 106 := ⟨_, Tryz.func106, rfl, by kernel_rfl⟩
theorem call107 : qn Tryz.prog 107 := ⟨_, Tryz.func107, rfl, by kernel_rfl⟩
theorem call108 : qn Tryz.prog 108 := ⟨_, Tryz.func108, rfl, by kernel_rfl⟩
theorem call109 : qn Tryz.prog 109 := ⟨_, Tryz.func109, rfl, by kernel_rfl⟩
theorem call110 : qn Tryz.prog 110 := ⟨_, Tryz.func110, rfl, by kernel_rfl⟩
theorem call111 : qn Tryz.prog 111 := ⟨_, Tryz.func111, rfl, by kernel_rfl⟩
theorem call112 : qn Tryz.prog 112 := ⟨_, Tryz.func112, rfl, by kernel_rfl⟩
theorem call113 : qn Tryz.prog 113 := ⟨_, Tryz.func113, rfl, by kernel_rfl⟩
theorem call114 : qn Tryz.prog 114 := ⟨_, Tryz.func114, rfl, by kernel_rfl⟩
theorem call115 : qn Tryz.prog 115 := ⟨_, Tryz.func115, rfl, by kernel_rfl⟩
theorem call121 : qn Tryz.prog 121 := ⟨_, Tryz.func121, rfl, by kernel_rfl⟩
theorem call122 : qn Tryz.prog 122 := ⟨_, Tryz.func122, rfl, by kernel_rfl⟩
theorem call123 : qn Tryz.prog 123 := ⟨_, Tryz.func123, rfl, by kernel_rfl⟩
theorem call124 : qn Tryz.prog 124 := ⟨_, Tryz.func124, rfl, by kernel_rfl⟩
theorem call125 : qn Tryz.prog 125 := ⟨_, Tryz.func125, rfl, by kernel_rfl⟩
theorem call126 : qn Tryz.prog 126 := ⟨_, Tryz.func126, rfl, by kernel_rfl⟩
theorem call127 : qn Tryz.prog 127 := ⟨_, Tryz.func127, rfl, by kernel_rfl⟩
theorem call128 : qn Tryz.prog 128 := ⟨_, Tryz.func128, rfl, by kernel_rfl⟩
theorem call129 : qn Tryz.prog 129 := ⟨_, Tryz.func129, rfl, by kernel_rfl⟩
theorem call130 : qn Tryz.prog 130 := ⟨_, Tryz.func130, rfl, by kernel_rfl⟩
theorem call131 : qn Tryz.prog 131 := ⟨_, Tryz.func131, rfl, by kernel_rfl⟩
theorem call132 : qn Tryz.prog 132 := ⟨_, Tryz.func132, rfl, by kernel_rfl⟩
theorem call136 : qn Tryz.prog 136 := ⟨_, Tryz.func136, rfl, by kernel_rfl⟩
theorem call137 : qn Tryz.prog 137 := ⟨_, Tryz.func137, rfl, by kernel_rfl⟩
theorem call138 : qn Tryz.prog 138 := ⟨_, Tryz.func138, rfl, by kernel_rfl⟩
theorem call139 : qn Tryz.prog 139 := ⟨_, Tryz.func139, rfl, by kernel_rfl⟩
theorem call140 : qn Tryz.prog 140 := ⟨_, Tryz.func140, rfl, by kernel_rfl⟩
theorem call141 : qn Tryz.prog 141 := ⟨_, Tryz.func141, rfl, by kernel_rfl⟩
theorem call142 : qn Tryz.prog 142 := ⟨_, Tryz.func142, rfl, by kernel_rfl⟩
theorem call143 : qn Tryz.prog 143 := ⟨_, Tryz.func143, rfl, by kernel_rfl⟩
theorem call144 : qn Tryz.prog 144 := ⟨_, Tryz.func144, rfl, by kernel_rfl⟩
theorem call145 : qn Tryz.prog 145 := ⟨_, Tryz.func145, rfl, by kernel_rfl⟩
theorem call146 : qn Tryz.prog 146 := ⟨_, Tryz.func146, rfl, by kernel_rfl⟩
theorem call147 : qn Tryz.prog 147 := ⟨_, Tryz.func147, rfl, by kernel_rfl⟩
theorem call148 : qn Tryz.prog 148 := ⟨_, Tryz.func148, rfl, by kernel_rfl⟩
theorem call149 : qn Tryz.prog 149 := ⟨_, Tryz.func149, rfl, by kernel_rfl⟩
theorem call150 : qn Tryz.prog 150 := ⟨_, Tryz.func150, rfl, by kernel_rfl⟩
theorem call151 : qn Tryz.prog 151 := ⟨_, Tryz.func151, rfl, by kernel_rfl⟩
theorem call152 : qn Tryz.prog 152 := ⟨_, Tryz.func152, rfl, by kernel_rfl⟩
theorem call153 : qn Tryz.prog 153 := ⟨_, Tryz.func153, rfl, by kernel_rfl⟩
theorem call154 : qn Tryz.prog 154 := ⟨_, Tryz.func154, rfl, by kernel_rfl⟩
theorem call155 : qn Tryz.prog 155 := ⟨_, Tryz.func155, rfl, by kernel_rfl⟩
theorem call156 : qn Tryz.prog 156 := ⟨_, Tryz.func156, rfl, by kernel_rfl⟩
theorem call157 : qn Tryz.prog 157 := ⟨_, Tryz.func157, rfl, by kernel_rfl⟩
theorem call158 : qn Tryz.prog 158 := ⟨_, Tryz.func158, rfl, by kernel_rfl⟩
theorem call159 : qn Tryz.prog 159 := ⟨_, Tryz.func159, rfl, by kernel_rfl⟩
theorem call160 : qn Tryz.prog 160 := ⟨_, Tryz.func160, rfl, by kernel_rfl⟩
theorem call161 : qn Tryz.prog 161 := ⟨_, Tryz.func161, rfl, by kernel_rfl⟩
theorem call162 : qn Tryz.prog 162 := ⟨_, Tryz.func162, rfl, by kernel_rfl⟩
theorem call163 : qn Tryz.prog 163 := ⟨_, Tryz.func163, rfl, by kernel_rfl⟩
theorem call169 : qn Tryz.prog 169 := ⟨_, Tryz.func169, rfl, by kernel_rfl⟩
theorem call170 : qn Tryz.prog 170 := ⟨_, Tryz.func170, rfl, by kernel_rfl⟩
theorem call171 : qn Tryz.prog 171 := ⟨_, Tryz.func171, rfl, by kernel_rfl⟩
theorem call172 : qn Tryz.prog 172 := ⟨_, Tryz.func172, rfl, by kernel_rfl⟩
theorem call173 : qn Tryz.prog 173 := ⟨_, Tryz.func173, rfl, by kernel_rfl⟩
theorem call174 : qn Tryz.prog 174 := ⟨_, Tryz.func174, rfl, by kernel_rfl⟩
theorem call176 : qn Tryz.prog 176 := ⟨_, Tryz.func176, rfl, by kernel_rfl⟩
theorem call177 : qn Tryz.prog 177 := ⟨_, Tryz.func177, rfl, by kernel_rfl⟩
theorem call178 : qn Tryz.prog 178 := ⟨_, Tryz.func178, rfl, by kernel_rfl⟩
theorem call179 : qn Tryz.prog 179 := ⟨_, Tryz.func179, rfl, by kernel_rfl⟩
theorem call180 : qn Tryz.prog 180 := ⟨_, Tryz.func180, rfl, by kernel_rfl⟩
theorem call181 : qn Tryz.prog 181 := ⟨_, Tryz.func181, rfl, by kernel_rfl⟩
theorem call182 : qn Tryz.prog 182 := ⟨_, Tryz.func182, rfl, by kernel_rfl⟩
theorem call183 : qn Tryz.prog 183 := ⟨_, Tryz.func183, rfl, by kernel_rfl⟩
theorem call184 : qn Tryz.prog 184 := ⟨_, Tryz.func184, rfl, by kernel_rfl⟩
theorem call185 : qn Tryz.prog 185 := ⟨_, Tryz.func185, rfl, by kernel_rfl⟩
theorem call186 : qn Tryz.prog 186 := ⟨_, Tryz.func186, rfl, by kernel_rfl⟩
theorem call187 : qn Tryz.prog 187 := ⟨_, Tryz.func187, rfl, by kernel_rfl⟩
theorem call188 : qn Tryz.prog 188 := ⟨_, Tryz.func188, rfl, by kernel_rfl⟩
theorem call189 : qn Tryz.prog 189 := ⟨_, Tryz.func189, rfl, by kernel_rfl⟩
theorem call190 : qn Tryz.prog 190 := ⟨_, Tryz.func190, rfl, by kernel_rfl⟩
theorem call191 : qn Tryz.prog 191 := ⟨_, Tryz.func191, rfl, by kernel_rfl⟩
theorem call192 : qn Tryz.prog 192 := ⟨_, Tryz.func192, rfl, by kernel_rfl⟩
theorem call196 : qn Tryz.prog 196 := ⟨_, Tryz.func196, rfl, by kernel_rfl⟩
theorem call197 : qn Tryz.prog 197 := ⟨_, Tryz.func197, rfl, by kernel_rfl⟩
theorem call198 : qn Tryz.prog 198 := ⟨_, Tryz.func198, rfl, by kernel_rfl⟩
theorem call199 : qn Tryz.prog 199 := ⟨_, Tryz.func199, rfl, by kernel_rfl⟩
theorem call200 : qn Tryz.prog 200 := ⟨_, Tryz.func200, rfl, by kernel_rfl⟩
theorem call201 : qn Tryz.prog 201 := ⟨_, Tryz.func201, rfl, by kernel_rfl⟩
theorem call202 : qn Tryz.prog 202 := ⟨_, Tryz.func202, rfl, by kernel_rfl⟩
theorem call203 : qn Tryz.prog 203 := ⟨_, Tryz.func203, rfl, by kernel_rfl⟩
theorem call204 : qn Tryz.prog 204 := ⟨_, Tryz.func204, rfl, by kernel_rfl⟩
theorem call205 : qn Tryz.prog 205 := ⟨_, Tryz.func205, rfl, by kernel_rfl⟩
theorem call206 : qn Tryz.prog 206 := ⟨_, Tryz.func206, rfl, by kernel_rfl⟩
theorem call207 : qn Tryz.prog 207 := ⟨_, Tryz.func207, rfl, by kernel_rfl⟩
theorem call208 : qn Tryz.prog 208 := ⟨_, Tryz.func208, rfl, by kernel_rfl⟩
theorem call209 : qn Tryz.prog 209 := ⟨_, Tryz.func209, rfl, by kernel_rfl⟩
theorem call212 : qn Tryz.prog 212 := ⟨_, Tryz.func212, rfl, by kernel_rfl⟩
theorem call213 : qn Tryz.prog 213 := ⟨_, Tryz.func213, rfl, by kernel_rfl⟩
theorem call214 : qn Tryz.prog 214 := ⟨_, Tryz.func214, rfl, by kernel_rfl⟩
theorem call215 : qn Tryz.prog 215 := ⟨_, Tryz.func215, rfl, by kernel_rfl⟩
theorem call216 : qn Tryz.prog 216 := ⟨_, Tryz.func216, rfl, by kernel_rfl⟩
theorem call217 : qn Tryz.prog 217 := ⟨_, Tryz.func217, rfl, by kernel_rfl⟩
theorem call218 : qn Tryz.prog 218 := ⟨_, Tryz.func218, rfl, by kernel_rfl⟩
theorem call219 : qn Tryz.prog 219 := ⟨_, Tryz.func219, rfl, by kernel_rfl⟩
theorem call220 : qn Tryz.prog 220 := ⟨_, Tryz.func220, rfl, by kernel_rfl⟩
theorem call221 : qn Tryz.prog 221 := ⟨_, Tryz.func221, rfl, by kernel_rfl⟩
theorem call222 : qn Tryz.prog 222 := ⟨_, Tryz.func222, rfl, by kernel_rfl⟩
theorem call224 : qn Tryz.prog 224 := ⟨_, Tryz.func224, rfl, by kernel_rfl⟩
theorem call225 : qn Tryz.prog 225 := ⟨_, Tryz.func225, rfl, by kernel_rfl⟩
theorem call226 : qn Tryz.prog 226 := ⟨_, Tryz.func226, rfl, by kernel_rfl⟩
theorem call227 : qn Tryz.prog 227 := ⟨_, Tryz.func227, rfl, by kernel_rfl⟩
theorem call228 : qn Tryz.prog 228 := ⟨_, Tryz.func228, rfl, by kernel_rfl⟩
theorem call229 : qn Tryz.prog 229 := ⟨_, Tryz.func229, rfl, by kernel_rfl⟩
theorem call230 : qn Tryz.prog 230 := ⟨_, Tryz.func230, rfl, by kernel_rfl⟩
theorem call231 : qn Tryz.prog 231 := ⟨_, Tryz.func231, rfl, by kernel_rfl⟩
theorem call232 : qn Tryz.prog 232 := ⟨_, Tryz.func232, rfl, by kernel_rfl⟩
theorem call233 : qn Tryz.prog 233 := ⟨_, Tryz.func233, rfl, by kernel_rfl⟩
theorem call234 : qn Tryz.prog 234 := ⟨_, Tryz.func234, rfl, by kernel_rfl⟩
theorem call243 : qn Tryz.prog 243 := ⟨_, Tryz.func243, rfl, by kernel_rfl⟩
theorem call244 : qn Tryz.prog 244 := ⟨_, Tryz.func244, rfl, by kernel_rfl⟩
theorem call245 : qn Tryz.prog 245 := ⟨_, Tryz.func245, rfl, by kernel_rfl⟩
theorem call246 : qn Tryz.prog 246 := ⟨_, Tryz.func246, rfl, by kernel_rfl⟩
theorem call247 : qn Tryz.prog 247 := ⟨_, Tryz.func247, rfl, by kernel_rfl⟩
theorem call248 : qn Tryz.prog 248 := ⟨_, Tryz.func248, rfl, by kernel_rfl⟩
theorem call254 : qn Tryz.prog 254 := ⟨_, Tryz.func254, rfl, by kernel_rfl⟩
theorem call255 : qn Tryz.prog 255 := ⟨_, Tryz.func255, rfl, by kernel_rfl⟩
theorem call256 : qn Tryz.prog 256 := ⟨_, Tryz.func256, rfl, by kernel_rfl⟩
theorem call257 : qn Tryz.prog 257 := ⟨_, Tryz.func257, rfl, by kernel_rfl⟩
theorem call258 : qn Tryz.prog 258 := ⟨_, Tryz.func258, rfl, by kernel_rfl⟩
theorem call259 : qn Tryz.prog 259 := ⟨_, Tryz.func259, rfl, by kernel_rfl⟩
theorem call260 : qn Tryz.prog 260 := ⟨_, Tryz.func260, rfl, by kernel_rfl⟩
theorem call264 : qn Tryz.prog 264 := ⟨_, Tryz.func264, rfl, by kernel_rfl⟩
theorem call265 : qn Tryz.prog 265 := ⟨_, Tryz.func265, rfl, by kernel_rfl⟩

def qbt (_ : Nat) (a : (List Int)) (left : Int) : Option Int :=
 bif decide ((W64 (left - (a.length : Int))) < 0) then
  some (-1)
 else
  some (W64 (left - (a.length : Int)))

theorem qbn {n : Nat} {w : World} {a : (List Int)} {left : Int} {cs1 : List Value} (ha1 : GoT.R w (old w) a cs1) {r : Int} (hF : qbt n a left = some r) : RetV Tryz.prog 76 [GoT.v (List Int) cs1, .int .i64 left] w r := by
 obtain ⟨p1, k1, rfl, s1⟩ := ha1
 refine qf Tryz.func76 rfl (m := 12) rfl rfl (fun h => ?_)
 rw [qbt] at hF
 refine zSR (zp1 rfl (zNSR (zp5 rfl (qb ?_))))
 refine zSSR (zp2 rfl (qb ?_))
 refine qp rfl hF ?_ ?_ <;> intro hF
 ·exact zSR (zp1 rfl (qb (qar qc h hF ⟨rfl, trivial⟩)))
 exact zKSR (zp2 rfl (qb (qar qc h hF ⟨rfl, trivial⟩)))

def qhD (_ : Nat) (a : qaC) (left : Int) : Option Int :=
 bif decide ((W64 (left - (a.Name.size : Int))) < 0) then
  some (-1)
 else
  some (W64 (left - (a.Name.size : Int)))

theorem qm9 {n : Nat} {w : World} {a : qaC} {left : Int} {cs1 : List Value} (ha1 : GoT.R w (old w) a cs1) {r : Int} (hF : qhD n a left = some r) : RetV Tryz.prog 196 [GoT.v qaC cs1, .int .i64 left] w r := by
 obtain rfl := qbx ha1
 refine qf Tryz.func196 rfl (m := 13) rfl rfl (fun h => ?_)
 rw [qhD] at hF
 refine zSR (qP h rfl rfl ?_)
 intro w1 bb1 h
 refine zp1 rfl (zNSR (zp2 rfl (zl 0 0 h rfl (zp3 rfl (zNS ?_)))))
 refine zSR (zp2 rfl (qb ?_))
 refine qp rfl hF ?_ ?_ <;> intro hF
 ·exact zSR (zp1 rfl (qb (qar qc h hF ⟨rfl, trivial⟩)))
 exact zKSR (zp2 rfl (qb (qar qc h hF ⟨rfl, trivial⟩)))

def qdJ (a : (List qaC)) : Nat → Int → Int → Option (Flow Int (Int × Int))
 | 0, _, _ => none
 | n + 1, i1, i2 =>
  bif decide (i2 < (a.length : Int)) then
   (idx a i2).bind fun y1 =>
   (qhD n y1 i1).bind fun r1 =>
   bif decide (r1 < 0) then
    some (.ret (-1))
   else
    qdJ a n r1 (W64 (i2 + 1))
  else
   some (.nxt (i1, i2))

def qiR (n : Nat) (a : (List qaC)) (left : Int) : Option Int :=
 bif decide ((W64 (left - (a.length : Int))) < 0) then
  some (-1)
 else
  (qdJ a n (W64 (left - (a.length : Int))) 0).bind fun o => match o with
  | .ret r => some r
  | .nxt (i1, _) =>
   some i1

theorem qmi {n : Nat} {w : World} {a : (List qaC)} {left : Int} {cs1 : List Value} (ha1 : GoT.R w (old w) a cs1) {r : Int} (hF : qiR n a left = some r) : RetV Tryz.prog 169 [GoT.v (List qaC) cs1, .int .i64 left] w r := by
 obtain ⟨p1, k1, rfl, s1⟩ := ha1
 refine qf Tryz.func169 rfl (m := 27) rfl rfl (fun h => ?_)
 rw [qiR] at hF
 refine zSR (zp1 rfl (zNSR (zp5 rfl (qb ?_))))
 refine zSSR (zp2 rfl (qb ?_))
 refine qp rfl hF ?_ ?_ <;> intro hF
 ·exact zSR (zp1 rfl (qb (qar qc h hF ⟨rfl, trivial⟩)))
 refine zKSSR (zp1 rfl (qb ?_))
 obtain ⟨o1, hF, hK1⟩ := qd hF
 refine qA (qW [(0, _), (1, _), (5, _)] ⟨rfl, rfl, rfl, trivial⟩ ?_)
 refine qG (fun m e w' => ∃ (i1 : Int) (i2 : Int), qdJ a m i1 i2 = some o1 ∧ e = [(0, .slice p1 a.length k1), (1, .int .i64 i1), (5, .int .i64 i2)] ∧ SH w w' []) n ⟨_, _, hF, rfl, h⟩ ?_
 rintro m1 e1 w1 ⟨i1, i2, hF, rfl, h⟩
 rcases m1 with _ | m1
 ·rw [qdJ] at hF
  cases hF
 rw [qdJ] at hF
 refine zSSR (zp4 rfl (qb ?_))
 refine qp rfl hF ?_ ?_ <;> intro hF
 ·refine zKSBSR (zp2 rfl ?_)
  obtain ⟨y1, hy1, hF⟩ := qd hF
  have he1 := qg hy1
  obtain ⟨b1, o_1, q1, cs2, hp1, hq1, -, hr1, hc3⟩ := s1.at hy1
  obtain rfl := qbx hr1
  refine zxe hp1 hq1 he1 rfl (zc 0 (hc3.below h.below) rfl (zp1 rfl ?_))
  obtain ⟨r1, hr2, hF⟩ := qd hF
  refine qN r1 h call196 (qm9 (qhX y1) hr2) rfl rfl rfl rfl ?_
  intro w2 h
  refine zp1 rfl (zNSR (zp2 rfl (qb ?_)))
  refine qp rfl hF ?_ ?_ <;> intro hF
  ·refine zSR (zp1 rfl (qb ?_))
   obtain rfl := qj hF; replace hF := hK1
   exact qar qc h hF ⟨rfl, trivial⟩
  exact zKER (zp3 rfl (qb (qy m1 [(0, _), (1, _), (5, _)] (Nat.lt_succ_self m1) ⟨rfl, rfl, rfl, trivial⟩ ⟨_, _, hF, rfl, h⟩)))
 refine qF rfl ?_
 obtain rfl := qj hF; replace hF := hK1
 exact zSR (zp2 rfl (qb (qar qc h hF ⟨rfl, trivial⟩)))

def qgg (n : Nat) (a : qJ) (left : Int) : Option Int :=
 (qbt n a.Slews left).bind fun r1 =>
 bif decide (r1 < 0) then
  some (-1)
 else
  (qbt n a.Loads r1).bind fun r2 =>
  bif decide (r2 < 0) then
   some (-1)
  else
   (qbt n a.Values r2).bind fun r3 =>
   bif decide (r3 < 0) then
    some (-1)
   else
    some r3

theorem qlL {n : Nat} {w : World} {a : qJ} {left : Int} {cs1 : List Value} (ha1 : GoT.R w (old w) a cs1) {r : Int} (hF : qgg n a left = some r) : RetV Tryz.prog 224 [GoT.v qJ cs1, .int .i64 left] w r := by
 obtain ⟨p1, k1, p2, k2, p3, k3, rfl, s1, s2, s3⟩ := qbP ha1
 refine qf Tryz.func224 rfl (m := 24) rfl rfl (fun h => ?_)
 rw [qgg] at hF
 refine zSR (qP h rfl rfl ?_)
 intro w1 bb1 h
 refine zp1 rfl (zNSR (zp1 rfl (zl 0 0 h rfl (zp1 rfl ?_))))
 obtain ⟨r1, hr1, hF⟩ := qd hF
 refine qN r1 h call76 (qbn ⟨_, _, rfl, (h.oldS s1)⟩ hr1) rfl rfl rfl rfl ?_
 intro w2 h
 refine zp1 rfl (zNSSR (zp2 rfl (qb ?_)))
 refine qp rfl hF ?_ ?_ <;> intro hF
 ·exact zSR (zp1 rfl (qb (qar qc h hF ⟨rfl, trivial⟩)))
 refine zKSR (zp1 rfl (zl 0 1 h rfl (zp1 rfl ?_)))
 obtain ⟨r2, hr2, hF⟩ := qd hF
 refine qN r2 h call76 (qbn ⟨_, _, rfl, (h.oldS s2)⟩ hr2) rfl rfl rfl rfl ?_
 intro w3 h
 refine zp1 rfl (zNSSR (zp2 rfl (qb ?_)))
 refine qp rfl hF ?_ ?_ <;> intro hF
 ·exact zSR (zp1 rfl (qb (qar qc h hF ⟨rfl, trivial⟩)))
 refine zKSR (zp1 rfl (zl 0 2 h rfl (zp1 rfl ?_)))
 obtain ⟨r3, hr3, hF⟩ := qd hF
 refine qN r3 h call76 (qbn ⟨_, _, rfl, (h.oldS s3)⟩ hr3) rfl rfl rfl rfl ?_
 intro w4 h
 refine zp1 rfl (zNSSR (zp2 rfl (qb ?_)))
 refine qp rfl hF ?_ ?_ <;> intro hF
 ·exact zSR (zp1 rfl (qb (qar qc h hF ⟨rfl, trivial⟩)))
 exact zKSR (zp2 rfl (qb (qar qc h hF ⟨rfl, trivial⟩)))

def qcP (a : (List qJ)) : Nat → Int → Int → Option (Flow Int (Int × Int))
 | 0, _, _ => none
 | n + 1, i1, i2 =>
  bif decide (i2 < (a.length : Int)) then
   (idx a i2).bind fun y1 =>
   (qgg n y1 i1).bind fun r1 =>
   bif decide (r1 < 0) then
    some (.ret (-1))
   else
    qcP a n r1 (W64 (i2 + 1))
  else
   some (.nxt (i1, i2))

def qgD (n : Nat) (a : (List qJ)) (left : Int) : Option Int :=
 bif decide ((W64 (left - (a.length : Int))) < 0) then
  some (-1)
 else
  (qcP a n (W64 (left - (a.length : Int))) 0).bind fun o => match o with
  | .ret r => some r
  | .nxt (i1, _) =>
   some i1

theorem qja {n : Nat} {w : World} {a : (List qJ)} {left : Int} {cs1 : List Value} (ha1 : GoT.R w (old w) a cs1) {r : Int} (hF : qgD n a left = some r) : RetV Tryz.prog 212 [GoT.v (List qJ) cs1, .int .i64 left] w r := by
 obtain ⟨p1, k1, rfl, s1⟩ := ha1
 refine qf Tryz.func212 rfl (m := 27) rfl rfl (fun h => ?_)
 rw [qgD] at hF
 refine zSR (zp1 rfl (zNSR (zp5 rfl (qb ?_))))
 refine zSSR (zp2 rfl (qb ?_))
 refine qp rfl hF ?_ ?_ <;> intro hF
 ·exact zSR (zp1 rfl (qb (qar qc h hF ⟨rfl, trivial⟩)))
 refine zKSSR (zp1 rfl (qb ?_))
 obtain ⟨o1, hF, hK1⟩ := qd hF
 refine qA (qW [(0, _), (1, _), (5, _)] ⟨rfl, rfl, rfl, trivial⟩ ?_)
 refine qG (fun m e w' => ∃ (i1 : Int) (i2 : Int), qcP a m i1 i2 = some o1 ∧ e = [(0, .slice p1 a.length k1), (1, .int .i64 i1), (5, .int .i64 i2)] ∧ SH w w' []) n ⟨_, _, hF, rfl, h⟩ ?_
 rintro m1 e1 w1 ⟨i1, i2, hF, rfl, h⟩
 rcases m1 with _ | m1
 ·rw [qcP] at hF
  cases hF
 rw [qcP] at hF
 refine zSSR (zp4 rfl (qb ?_))
 refine qp rfl hF ?_ ?_ <;> intro hF
 ·refine zKSBSR (zp2 rfl ?_)
  obtain ⟨y1, hy1, hF⟩ := qd hF
  have he1 := qg hy1
  obtain ⟨b1, o_1, q1, cs2, hp1, hq1, -, hr1, hc3⟩ := s1.at hy1
  obtain ⟨p2, k2, p3, k3, p4, k4, rfl, s2, s3, s4⟩ := qbP hr1
  refine zxe hp1 hq1 he1 rfl (zc 0 (hc3.below h.below) rfl (zp1 rfl ?_))
  obtain ⟨r1, hr2, hF⟩ := qd hF
  refine qN r1 h call224 (qlL (qhJ y1 (h.oldS s2) (h.oldS s3) (h.oldS s4)) hr2) rfl rfl rfl rfl ?_
  intro w2 h
  refine zp1 rfl (zNSR (zp2 rfl (qb ?_)))
  refine qp rfl hF ?_ ?_ <;> intro hF
  ·refine zSR (zp1 rfl (qb ?_))
   obtain rfl := qj hF; replace hF := hK1
   exact qar qc h hF ⟨rfl, trivial⟩
  exact zKER (zp3 rfl (qb (qy m1 [(0, _), (1, _), (5, _)] (Nat.lt_succ_self m1) ⟨rfl, rfl, rfl, trivial⟩ ⟨_, _, hF, rfl, h⟩)))
 refine qF rfl ?_
 obtain rfl := qj hF; replace hF := hK1
 exact zSR (zp2 rfl (qb (qar qc h hF ⟨rfl, trivial⟩)))

def qhE (n : Nat) (a : qah) (left : Int) : Option Int :=
 (qgD n a.Delay left).bind fun r1 =>
 bif decide (r1 < 0) then
  some (-1)
 else
  (qgD n a.Slew r1).bind fun r2 =>
  bif decide (r2 < 0) then
   some (-1)
  else
   some r2

theorem qmZ {n : Nat} {w : World} {a : qah} {left : Int} {cs1 : List Value} (ha1 : GoT.R w (old w) a cs1) {r : Int} (hF : qhE n a left = some r) : RetV Tryz.prog 197 [GoT.v qah cs1, .int .i64 left] w r := by
 obtain ⟨p1, k1, p2, k2, rfl, s1, s2⟩ := qaD ha1
 refine qf Tryz.func197 rfl (m := 18) rfl rfl (fun h => ?_)
 rw [qhE] at hF
 refine zSR (qP h rfl rfl ?_)
 intro w1 bb1 h
 refine zp1 rfl (zNSR (zp1 rfl (zl 0 4 h rfl (zp1 rfl ?_))))
 obtain ⟨r1, hr1, hF⟩ := qd hF
 refine qN r1 h call212 (qja ⟨_, _, rfl, (h.oldS s1)⟩ hr1) rfl rfl rfl rfl ?_
 intro w2 h
 refine zp1 rfl (zNSSR (zp2 rfl (qb ?_)))
 refine qp rfl hF ?_ ?_ <;> intro hF
 ·exact zSR (zp1 rfl (qb (qar qc h hF ⟨rfl, trivial⟩)))
 refine zKSR (zp1 rfl (zl 0 5 h rfl (zp1 rfl ?_)))
 obtain ⟨r2, hr2, hF⟩ := qd hF
 refine qN r2 h call212 (qja ⟨_, _, rfl, (h.oldS s2)⟩ hr2) rfl rfl rfl rfl ?_
 intro w3 h
 refine zp1 rfl (zNSSR (zp2 rfl (qb ?_)))
 refine qp rfl hF ?_ ?_ <;> intro hF
 ·exact zSR (zp1 rfl (qb (qar qc h hF ⟨rfl, trivial⟩)))
 exact zKSR (zp2 rfl (qb (qar qc h hF ⟨rfl, trivial⟩)))

def qdC (a : (List qah)) : Nat → Int → Int → Option (Flow Int (Int × Int))
 | 0, _, _ => none
 | n + 1, i1, i2 =>
  bif decide (i2 < (a.length : Int)) then
   (idx a i2).bind fun y1 =>
   (qhE n y1 i1).bind fun r1 =>
   bif decide (r1 < 0) then
    some (.ret (-1))
   else
    qdC a n r1 (W64 (i2 + 1))
  else
   some (.nxt (i1, i2))

def qiQ (n : Nat) (a : (List qah)) (left : Int) : Option Int :=
 bif decide ((W64 (left - (a.length : Int))) < 0) then
  some (-1)
 else
  (qdC a n (W64 (left - (a.length : Int))) 0).bind fun o => match o with
  | .ret r => some r
  | .nxt (i1, _) =>
   some i1

theorem qmd {n : Nat} {w : World} {a : (List qah)} {left : Int} {cs1 : List Value} (ha1 : GoT.R w (old w) a cs1) {r : Int} (hF : qiQ n a left = some r) : RetV Tryz.prog 170 [GoT.v (List qah) cs1, .int .i64 left] w r := by
 obtain ⟨p1, k1, rfl, s1⟩ := ha1
 refine qf Tryz.func170 rfl (m := 27) rfl rfl (fun h => ?_)
 rw [qiQ] at hF
 refine zSR (zp1 rfl (zNSR (zp5 rfl (qb ?_))))
 refine zSSR (zp2 rfl (qb ?_))
 refine qp rfl hF ?_ ?_ <;> intro hF
 ·exact zSR (zp1 rfl (qb (qar qc h hF ⟨rfl, trivial⟩)))
 refine zKSSR (zp1 rfl (qb ?_))
 obtain ⟨o1, hF, hK1⟩ := qd hF
 refine qA (qW [(0, _), (1, _), (5, _)] ⟨rfl, rfl, rfl, trivial⟩ ?_)
 refine qG (fun m e w' => ∃ (i1 : Int) (i2 : Int), qdC a m i1 i2 = some o1 ∧ e = [(0, .slice p1 a.length k1), (1, .int .i64 i1), (5, .int .i64 i2)] ∧ SH w w' []) n ⟨_, _, hF, rfl, h⟩ ?_
 rintro m1 e1 w1 ⟨i1, i2, hF, rfl, h⟩
 rcases m1 with _ | m1
 ·rw [qdC] at hF
  cases hF
 rw [qdC] at hF
 refine zSSR (zp4 rfl (qb ?_))
 refine qp rfl hF ?_ ?_ <;> intro hF
 ·refine zKSBSR (zp2 rfl ?_)
  obtain ⟨y1, hy1, hF⟩ := qd hF
  have he1 := qg hy1
  obtain ⟨b1, o_1, q1, cs2, hp1, hq1, -, hr1, hc3⟩ := s1.at hy1
  obtain ⟨p2, k2, p3, k3, rfl, s2, s3⟩ := qaD hr1
  refine zxe hp1 hq1 he1 rfl (zc 0 (hc3.below h.below) rfl (zp1 rfl ?_))
  obtain ⟨r1, hr2, hF⟩ := qd hF
  refine qN r1 h call197 (qmZ (qf5 y1 (h.oldS s2) (h.oldS s3)) hr2) rfl rfl rfl rfl ?_
  intro w2 h
  refine zp1 rfl (zNSR (zp2 rfl (qb ?_)))
  refine qp rfl hF ?_ ?_ <;> intro hF
  ·refine zSR (zp1 rfl (qb ?_))
   obtain rfl := qj hF; replace hF := hK1
   exact qar qc h hF ⟨rfl, trivial⟩
  exact zKER (zp3 rfl (qb (qy m1 [(0, _), (1, _), (5, _)] (Nat.lt_succ_self m1) ⟨rfl, rfl, rfl, trivial⟩ ⟨_, _, hF, rfl, h⟩)))
 refine qF rfl ?_
 obtain rfl := qj hF; replace hF := hK1
 exact zSR (zp2 rfl (qb (qar qc h hF ⟨rfl, trivial⟩)))

def qgT (n : Nat) (a : qE) (left : Int) : Option Int :=
 bif decide ((W64 (left - (a.Name.size : Int))) < 0) then
  some (-1)
 else
  (qiR n a.Pins (W64 (left - (a.Name.size : Int)))).bind fun r1 =>
  bif decide (r1 < 0) then
   some (-1)
  else
   (qiQ n a.Arcs r1).bind fun r2 =>
   bif decide (r2 < 0) then
    some (-1)
   else
    (qbt n a.Truth r2).bind fun r3 =>
    bif decide (r3 < 0) then
     some (-1)
    else
     some r3

theorem qme {n : Nat} {w : World} {a : qE} {left : Int} {cs1 : List Value} (ha1 : GoT.R w (old w) a cs1) {r : Int} (hF : qgT n a left = some r) : RetV Tryz.prog 121 [GoT.v qE cs1, .int .i64 left] w r := by
 obtain ⟨p1, k1, p2, k2, p3, k3, rfl, s1, s2, s3⟩ := qaa ha1
 refine qf Tryz.func121 rfl (m := 31) rfl rfl (fun h => ?_)
 rw [qgT] at hF
 refine zSR (qP h rfl rfl ?_)
 intro w1 bb1 h
 refine zp1 rfl (zNSR (zp2 rfl (zl 0 0 h rfl (zp3 rfl (zNS ?_)))))
 refine zSR (zp2 rfl (qb ?_))
 refine qp rfl hF ?_ ?_ <;> intro hF
 ·exact zSR (zp1 rfl (qb (qar qc h hF ⟨rfl, trivial⟩)))
 refine zKSR (zp1 rfl (zl 0 2 h rfl (zp1 rfl ?_)))
 obtain ⟨r1, hr1, hF⟩ := qd hF
 refine qN r1 h call169 (qmi ⟨_, _, rfl, (h.oldS s1)⟩ hr1) rfl rfl rfl rfl ?_
 intro w2 h
 refine zp1 rfl (zNSSR (zp2 rfl (qb ?_)))
 refine qp rfl hF ?_ ?_ <;> intro hF
 ·exact zSR (zp1 rfl (qb (qar qc h hF ⟨rfl, trivial⟩)))
 refine zKSR (zp1 rfl (zl 0 3 h rfl (zp1 rfl ?_)))
 obtain ⟨r2, hr2, hF⟩ := qd hF
 refine qN r2 h call170 (qmd ⟨_, _, rfl, (h.oldS s2)⟩ hr2) rfl rfl rfl rfl ?_
 intro w3 h
 refine zp1 rfl (zNSSR (zp2 rfl (qb ?_)))
 refine qp rfl hF ?_ ?_ <;> intro hF
 ·exact zSR (zp1 rfl (qb (qar qc h hF ⟨rfl, trivial⟩)))
 refine zKSR (zp1 rfl (zl 0 4 h rfl (zp1 rfl ?_)))
 obtain ⟨r3, hr3, hF⟩ := qd hF
 refine qN r3 h call76 (qbn ⟨_, _, rfl, (h.oldS s3)⟩ hr3) rfl rfl rfl rfl ?_
 intro w4 h
 refine zp1 rfl (zNSSR (zp2 rfl (qb ?_)))
 refine qp rfl hF ?_ ?_ <;> intro hF
 ·exact zSR (zp1 rfl (qb (qar qc h hF ⟨rfl, trivial⟩)))
 exact zKSR (zp2 rfl (qb (qar qc h hF ⟨rfl, trivial⟩)))

def qdb (a : (List qE)) : Nat → Int → Int → Option (Flow Int (Int × Int))
 | 0, _, _ => none
 | n + 1, i1, i2 =>
  bif decide (i2 < (a.length : Int)) then
   (idx a i2).bind fun y1 =>
   (qgT n y1 i1).bind fun r1 =>
   bif decide (r1 < 0) then
    some (.ret (-1))
   else
    qdb a n r1 (W64 (i2 + 1))
  else
   some (.nxt (i1, i2))

def qii (n : Nat) (a : (List qE)) (left : Int) : Option Int :=
 bif decide ((W64 (left - (a.length : Int))) < 0) then
  some (-1)
 else
  (qdb a n (W64 (left - (a.length : Int))) 0).bind fun o => match o with
  | .ret r => some r
  | .nxt (i1, _) =>
   some i1

theorem ql5 {n : Nat} {w : World} {a : (List qE)} {left : Int} {cs1 : List Value} (ha1 : GoT.R w (old w) a cs1) {r : Int} (hF : qii n a left = some r) : RetV Tryz.prog 71 [GoT.v (List qE) cs1, .int .i64 left] w r := by
 obtain ⟨p1, k1, rfl, s1⟩ := ha1
 refine qf Tryz.func71 rfl (m := 27) rfl rfl (fun h => ?_)
 rw [qii] at hF
 refine zSR (zp1 rfl (zNSR (zp5 rfl (qb ?_))))
 refine zSSR (zp2 rfl (qb ?_))
 refine qp rfl hF ?_ ?_ <;> intro hF
 ·exact zSR (zp1 rfl (qb (qar qc h hF ⟨rfl, trivial⟩)))
 refine zKSSR (zp1 rfl (qb ?_))
 obtain ⟨o1, hF, hK1⟩ := qd hF
 refine qA (qW [(0, _), (1, _), (5, _)] ⟨rfl, rfl, rfl, trivial⟩ ?_)
 refine qG (fun m e w' => ∃ (i1 : Int) (i2 : Int), qdb a m i1 i2 = some o1 ∧ e = [(0, .slice p1 a.length k1), (1, .int .i64 i1), (5, .int .i64 i2)] ∧ SH w w' []) n ⟨_, _, hF, rfl, h⟩ ?_
 rintro m1 e1 w1 ⟨i1, i2, hF, rfl, h⟩
 rcases m1 with _ | m1
 ·rw [qdb] at hF
  cases hF
 rw [qdb] at hF
 refine zSSR (zp4 rfl (qb ?_))
 refine qp rfl hF ?_ ?_ <;> intro hF
 ·refine zKSBSR (zp2 rfl ?_)
  obtain ⟨y1, hy1, hF⟩ := qd hF
  have he1 := qg hy1
  obtain ⟨b1, o_1, q1, cs2, hp1, hq1, -, hr1, hc3⟩ := s1.at hy1
  obtain ⟨p2, k2, p3, k3, p4, k4, rfl, s2, s3, s4⟩ := qaa hr1
  refine zxe hp1 hq1 he1 rfl (zc 0 (hc3.below h.below) rfl (zp1 rfl ?_))
  obtain ⟨r1, hr2, hF⟩ := qd hF
  refine qN r1 h call121 (qme (qgW y1 (h.oldS s2) (h.oldS s3) (h.oldS s4)) hr2) rfl rfl rfl rfl ?_
  intro w2 h
  refine zp1 rfl (zNSR (zp2 rfl (qb ?_)))
  refine qp rfl hF ?_ ?_ <;> intro hF
  ·refine zSR (zp1 rfl (qb ?_))
   obtain rfl := qj hF; replace hF := hK1
   exact qar qc h hF ⟨rfl, trivial⟩
  exact zKER (zp3 rfl (qb (qy m1 [(0, _), (1, _), (5, _)] (Nat.lt_succ_self m1) ⟨rfl, rfl, rfl, trivial⟩ ⟨_, _, hF, rfl, h⟩)))
 refine qF rfl ?_
 obtain rfl := qj hF; replace hF := hK1
 exact zSR (zp2 rfl (qb (qar qc h hF ⟨rfl, trivial⟩)))

def qfW (n : Nat) (a : qw) (left : Int) : Option Int :=
 (qii n a.Cells left).bind fun r1 =>
 bif decide (r1 < 0) then
  some (-1)
 else
  some r1

theorem qk5 {n : Nat} {w : World} {a : qw} {left : Int} {cs1 : List Value} (ha1 : GoT.R w (old w) a cs1) {r : Int} (hF : qfW n a left = some r) : RetV Tryz.prog 37 [GoT.v qw cs1, .int .i64 left] w r := by
 obtain ⟨p1, k1, rfl, s1⟩ := qbB ha1
 refine qf Tryz.func37 rfl (m := 12) rfl rfl (fun h => ?_)
 rw [qfW] at hF
 refine zSR (qP h rfl rfl ?_)
 intro w1 bb1 h
 refine zp1 rfl (zNSR (zp1 rfl (zl 0 0 h rfl (zp1 rfl ?_))))
 obtain ⟨r1, hr1, hF⟩ := qd hF
 refine qN r1 h call71 (ql5 ⟨_, _, rfl, (h.oldS s1)⟩ hr1) rfl rfl rfl rfl ?_
 intro w2 h
 refine zp1 rfl (zNSSR (zp2 rfl (qb ?_)))
 refine qp rfl hF ?_ ?_ <;> intro hF
 ·exact zSR (zp1 rfl (qb (qar qc h hF ⟨rfl, trivial⟩)))
 exact zKSR (zp2 rfl (qb (qar qc h hF ⟨rfl, trivial⟩)))

def qeE (n : Nat) (a : qr) (left : Int) : Option Int :=
 bif decide ((W64 (left - (a.Name.size : Int))) < 0) then
  some (-1)
 else
  (qbt n a.Nets (W64 (left - (a.Name.size : Int)))).bind fun r1 =>
  bif decide (r1 < 0) then
   some (-1)
  else
   some r1

theorem qkL {n : Nat} {w : World} {a : qr} {left : Int} {cs1 : List Value} (ha1 : GoT.R w (old w) a cs1) {r : Int} (hF : qeE n a left = some r) : RetV Tryz.prog 122 [GoT.v qr cs1, .int .i64 left] w r := by
 obtain ⟨p1, k1, rfl, s1⟩ := qab ha1
 refine qf Tryz.func122 rfl (m := 19) rfl rfl (fun h => ?_)
 rw [qeE] at hF
 refine zSR (qP h rfl rfl ?_)
 intro w1 bb1 h
 refine zp1 rfl (zNSR (zp2 rfl (zl 0 0 h rfl (zp3 rfl (zNS ?_)))))
 refine zSR (zp2 rfl (qb ?_))
 refine qp rfl hF ?_ ?_ <;> intro hF
 ·exact zSR (zp1 rfl (qb (qar qc h hF ⟨rfl, trivial⟩)))
 refine zKSR (zp1 rfl (zl 0 2 h rfl (zp1 rfl ?_)))
 obtain ⟨r1, hr1, hF⟩ := qd hF
 refine qN r1 h call76 (qbn ⟨_, _, rfl, (h.oldS s1)⟩ hr1) rfl rfl rfl rfl ?_
 intro w2 h
 refine zp1 rfl (zNSSR (zp2 rfl (qb ?_)))
 refine qp rfl hF ?_ ?_ <;> intro hF
 ·exact zSR (zp1 rfl (qb (qar qc h hF ⟨rfl, trivial⟩)))
 exact zKSR (zp2 rfl (qb (qar qc h hF ⟨rfl, trivial⟩)))

def qbR (a : (List qr)) : Nat → Int → Int → Option (Flow Int (Int × Int))
 | 0, _, _ => none
 | n + 1, i1, i2 =>
  bif decide (i2 < (a.length : Int)) then
   (idx a i2).bind fun y1 =>
   (qeE n y1 i1).bind fun r1 =>
   bif decide (r1 < 0) then
    some (.ret (-1))
   else
    qbR a n r1 (W64 (i2 + 1))
  else
   some (.nxt (i1, i2))

def qgc (n : Nat) (a : (List qr)) (left : Int) : Option Int :=
 bif decide ((W64 (left - (a.length : Int))) < 0) then
  some (-1)
 else
  (qbR a n (W64 (left - (a.length : Int))) 0).bind fun o => match o with
  | .ret r => some r
  | .nxt (i1, _) =>
   some i1

theorem qkm {n : Nat} {w : World} {a : (List qr)} {left : Int} {cs1 : List Value} (ha1 : GoT.R w (old w) a cs1) {r : Int} (hF : qgc n a left = some r) : RetV Tryz.prog 72 [GoT.v (List qr) cs1, .int .i64 left] w r := by
 obtain ⟨p1, k1, rfl, s1⟩ := ha1
 refine qf Tryz.func72 rfl (m := 27) rfl rfl (fun h => ?_)
 rw [qgc] at hF
 refine zSR (zp1 rfl (zNSR (zp5 rfl (qb ?_))))
 refine zSSR (zp2 rfl (qb ?_))
 refine qp rfl hF ?_ ?_ <;> intro hF
 ·exact zSR (zp1 rfl (qb (qar qc h hF ⟨rfl, trivial⟩)))
 refine zKSSR (zp1 rfl (qb ?_))
 obtain ⟨o1, hF, hK1⟩ := qd hF
 refine qA (qW [(0, _), (1, _), (5, _)] ⟨rfl, rfl, rfl, trivial⟩ ?_)
 refine qG (fun m e w' => ∃ (i1 : Int) (i2 : Int), qbR a m i1 i2 = some o1 ∧ e = [(0, .slice p1 a.length k1), (1, .int .i64 i1), (5, .int .i64 i2)] ∧ SH w w' []) n ⟨_, _, hF, rfl, h⟩ ?_
 rintro m1 e1 w1 ⟨i1, i2, hF, rfl, h⟩
 rcases m1 with _ | m1
 ·rw [qbR] at hF
  cases hF
 rw [qbR] at hF
 refine zSSR (zp4 rfl (qb ?_))
 refine qp rfl hF ?_ ?_ <;> intro hF
 ·refine zKSBSR (zp2 rfl ?_)
  obtain ⟨y1, hy1, hF⟩ := qd hF
  have he1 := qg hy1
  obtain ⟨b1, o_1, q1, cs2, hp1, hq1, -, hr1, hc3⟩ := s1.at hy1
  obtain ⟨p2, k2, rfl, s2⟩ := qab hr1
  refine zxe hp1 hq1 he1 rfl (zc 0 (hc3.below h.below) rfl (zp1 rfl ?_))
  obtain ⟨r1, hr2, hF⟩ := qd hF
  refine qN r1 h call122 (qkL (qfI y1 (h.oldS s2)) hr2) rfl rfl rfl rfl ?_
  intro w2 h
  refine zp1 rfl (zNSR (zp2 rfl (qb ?_)))
  refine qp rfl hF ?_ ?_ <;> intro hF
  ·refine zSR (zp1 rfl (qb ?_))
   obtain rfl := qj hF; replace hF := hK1
   exact qar qc h hF ⟨rfl, trivial⟩
  exact zKER (zp3 rfl (qb (qy m1 [(0, _), (1, _), (5, _)] (Nat.lt_succ_self m1) ⟨rfl, rfl, rfl, trivial⟩ ⟨_, _, hF, rfl, h⟩)))
 refine qF rfl ?_
 obtain rfl := qj hF; replace hF := hK1
 exact zSR (zp2 rfl (qb (qar qc h hF ⟨rfl, trivial⟩)))

def qcs (a : (List ByteArray)) : Nat → Int → Int → Option (Flow Int (Int × Int))
 | 0, _, _ => none
 | n + 1, i1, i2 =>
  bif decide (i2 < (a.length : Int)) then
   (idx a i2).bind fun y1 =>
   bif decide ((W64 (i1 - (y1.size : Int))) < 0) then
    some (.ret (-1))
   else
    qcs a n (W64 (i1 - (y1.size : Int))) (W64 (i2 + 1))
  else
   some (.nxt (i1, i2))

def qhq (n : Nat) (a : (List ByteArray)) (left : Int) : Option Int :=
 bif decide ((W64 (left - (a.length : Int))) < 0) then
  some (-1)
 else
  (qcs a n (W64 (left - (a.length : Int))) 0).bind fun o => match o with
  | .ret r => some r
  | .nxt (i1, _) =>
   some i1

theorem qkM {n : Nat} {w : World} {a : (List ByteArray)} {left : Int} {cs1 : List Value} (ha1 : GoT.R w (old w) a cs1) {r : Int} (hF : qhq n a left = some r) : RetV Tryz.prog 73 [GoT.v (List ByteArray) cs1, .int .i64 left] w r := by
 obtain ⟨p1, k1, rfl, s1⟩ := ha1
 refine qf Tryz.func73 rfl (m := 28) rfl rfl (fun h => ?_)
 rw [qhq] at hF
 refine zSR (zp1 rfl (zNSR (zp5 rfl (qb ?_))))
 refine zSSR (zp2 rfl (qb ?_))
 refine qp rfl hF ?_ ?_ <;> intro hF
 ·exact zSR (zp1 rfl (qb (qar qc h hF ⟨rfl, trivial⟩)))
 refine zKSSR (zp1 rfl (qb ?_))
 obtain ⟨o1, hF, hK1⟩ := qd hF
 refine qA (qW [(0, _), (1, _), (5, _)] ⟨rfl, rfl, rfl, trivial⟩ ?_)
 refine qG (fun m e w' => ∃ (i1 : Int) (i2 : Int), qcs a m i1 i2 = some o1 ∧ e = [(0, .slice p1 a.length k1), (1, .int .i64 i1), (5, .int .i64 i2)] ∧ SH w w' []) n ⟨_, _, hF, rfl, h⟩ ?_
 rintro m1 e1 w1 ⟨i1, i2, hF, rfl, h⟩
 rcases m1 with _ | m1
 ·rw [qcs] at hF
  cases hF
 rw [qcs] at hF
 refine zSSR (zp4 rfl (qb ?_))
 refine qp rfl hF ?_ ?_ <;> intro hF
 ·refine zKSBSR (zp3 rfl ?_)
  obtain ⟨y1, hy1, hF⟩ := qd hF
  have he1 := qg hy1
  obtain ⟨b1, o_1, q1, cs2, hp1, hq1, -, hr1, hc3⟩ := s1.at hy1
  obtain rfl := hr1
  refine zxe hp1 hq1 he1 rfl (zc 0 (hc3.below h.below) rfl (zp3 rfl (zNSR (zp2 rfl (qb ?_)))))
  refine qp rfl hF ?_ ?_ <;> intro hF
  ·refine zSR (zp1 rfl (qb ?_))
   obtain rfl := qj hF; replace hF := hK1
   exact qar qc h hF ⟨rfl, trivial⟩
  exact zKER (zp3 rfl (qb (qy m1 [(0, _), (1, _), (5, _)] (Nat.lt_succ_self m1) ⟨rfl, rfl, rfl, trivial⟩ ⟨_, _, hF, rfl, h⟩)))
 refine qF rfl ?_
 obtain rfl := qj hF; replace hF := hK1
 exact zSR (zp2 rfl (qb (qar qc h hF ⟨rfl, trivial⟩)))

def qg0 (_ : Nat) (a : qaw) (left : Int) : Option Int :=
 bif decide ((W64 (left - (a.Name.size : Int))) < 0) then
  some (-1)
 else
  some (W64 (left - (a.Name.size : Int)))

theorem qmf {n : Nat} {w : World} {a : qaw} {left : Int} {cs1 : List Value} (ha1 : GoT.R w (old w) a cs1) {r : Int} (hF : qg0 n a left = some r) : RetV Tryz.prog 123 [GoT.v qaw cs1, .int .i64 left] w r := by
 obtain rfl := qbz ha1
 refine qf Tryz.func123 rfl (m := 13) rfl rfl (fun h => ?_)
 rw [qg0] at hF
 refine zSR (qP h rfl rfl ?_)
 intro w1 bb1 h
 refine zp1 rfl (zNSR (zp2 rfl (zl 0 0 h rfl (zp3 rfl (zNS ?_)))))
 refine zSR (zp2 rfl (qb ?_))
 refine qp rfl hF ?_ ?_ <;> intro hF
 ·exact zSR (zp1 rfl (qb (qar qc h hF ⟨rfl, trivial⟩)))
 exact zKSR (zp2 rfl (qb (qar qc h hF ⟨rfl, trivial⟩)))

def qdh (a : (List qaw)) : Nat → Int → Int → Option (Flow Int (Int × Int))
 | 0, _, _ => none
 | n + 1, i1, i2 =>
  bif decide (i2 < (a.length : Int)) then
   (idx a i2).bind fun y1 =>
   (qg0 n y1 i1).bind fun r1 =>
   bif decide (r1 < 0) then
    some (.ret (-1))
   else
    qdh a n r1 (W64 (i2 + 1))
  else
   some (.nxt (i1, i2))

def qil (n : Nat) (a : (List qaw)) (left : Int) : Option Int :=
 bif decide ((W64 (left - (a.length : Int))) < 0) then
  some (-1)
 else
  (qdh a n (W64 (left - (a.length : Int))) 0).bind fun o => match o with
  | .ret r => some r
  | .nxt (i1, _) =>
   some i1

theorem qlZ {n : Nat} {w : World} {a : (List qaw)} {left : Int} {cs1 : List Value} (ha1 : GoT.R w (old w) a cs1) {r : Int} (hF : qil n a left = some r) : RetV Tryz.prog 74 [GoT.v (List qaw) cs1, .int .i64 left] w r := by
 obtain ⟨p1, k1, rfl, s1⟩ := ha1
 refine qf Tryz.func74 rfl (m := 27) rfl rfl (fun h => ?_)
 rw [qil] at hF
 refine zSR (zp1 rfl (zNSR (zp5 rfl (qb ?_))))
 refine zSSR (zp2 rfl (qb ?_))
 refine qp rfl hF ?_ ?_ <;> intro hF
 ·exact zSR (zp1 rfl (qb (qar qc h hF ⟨rfl, trivial⟩)))
 refine zKSSR (zp1 rfl (qb ?_))
 obtain ⟨o1, hF, hK1⟩ := qd hF
 refine qA (qW [(0, _), (1, _), (5, _)] ⟨rfl, rfl, rfl, trivial⟩ ?_)
 refine qG (fun m e w' => ∃ (i1 : Int) (i2 : Int), qdh a m i1 i2 = some o1 ∧ e = [(0, .slice p1 a.length k1), (1, .int .i64 i1), (5, .int .i64 i2)] ∧ SH w w' []) n ⟨_, _, hF, rfl, h⟩ ?_
 rintro m1 e1 w1 ⟨i1, i2, hF, rfl, h⟩
 rcases m1 with _ | m1
 ·rw [qdh] at hF
  cases hF
 rw [qdh] at hF
 refine zSSR (zp4 rfl (qb ?_))
 refine qp rfl hF ?_ ?_ <;> intro hF
 ·refine zKSBSR (zp2 rfl ?_)
  obtain ⟨y1, hy1, hF⟩ := qd hF
  have he1 := qg hy1
  obtain ⟨b1, o_1, q1, cs2, hp1, hq1, -, hr1, hc3⟩ := s1.at hy1
  obtain rfl := qbz hr1
  refine zxe hp1 hq1 he1 rfl (zc 0 (hc3.below h.below) rfl (zp1 rfl ?_))
  obtain ⟨r1, hr2, hF⟩ := qd hF
  refine qN r1 h call123 (qmf (qhF y1) hr2) rfl rfl rfl rfl ?_
  intro w2 h
  refine zp1 rfl (zNSR (zp2 rfl (qb ?_)))
  refine qp rfl hF ?_ ?_ <;> intro hF
  ·refine zSR (zp1 rfl (qb ?_))
   obtain rfl := qj hF; replace hF := hK1
   exact qar qc h hF ⟨rfl, trivial⟩
  exact zKER (zp3 rfl (qb (qy m1 [(0, _), (1, _), (5, _)] (Nat.lt_succ_self m1) ⟨rfl, rfl, rfl, trivial⟩ ⟨_, _, hF, rfl, h⟩)))
 refine qF rfl ?_
 obtain rfl := qj hF; replace hF := hK1
 exact zSR (zp2 rfl (qb (qar qc h hF ⟨rfl, trivial⟩)))

def qgs (n : Nat) (a : ql) (left : Int) : Option Int :=
 (qgc n a.Instances left).bind fun r1 =>
 bif decide (r1 < 0) then
  some (-1)
 else
  (qhq n a.Nets r1).bind fun r2 =>
  bif decide (r2 < 0) then
   some (-1)
  else
   (qil n a.Ports r2).bind fun r3 =>
   bif decide (r3 < 0) then
    some (-1)
   else
    some r3

theorem qlp {n : Nat} {w : World} {a : ql} {left : Int} {cs1 : List Value} (ha1 : GoT.R w (old w) a cs1) {r : Int} (hF : qgs n a left = some r) : RetV Tryz.prog 38 [GoT.v ql cs1, .int .i64 left] w r := by
 obtain ⟨p1, k1, p2, k2, p3, k3, rfl, s1, s2, s3⟩ := qaz ha1
 refine qf Tryz.func38 rfl (m := 24) rfl rfl (fun h => ?_)
 rw [qgs] at hF
 refine zSR (qP h rfl rfl ?_)
 intro w1 bb1 h
 refine zp1 rfl (zNSR (zp1 rfl (zl 0 0 h rfl (zp1 rfl ?_))))
 obtain ⟨r1, hr1, hF⟩ := qd hF
 refine qN r1 h call72 (qkm ⟨_, _, rfl, (h.oldS s1)⟩ hr1) rfl rfl rfl rfl ?_
 intro w2 h
 refine zp1 rfl (zNSSR (zp2 rfl (qb ?_)))
 refine qp rfl hF ?_ ?_ <;> intro hF
 ·exact zSR (zp1 rfl (qb (qar qc h hF ⟨rfl, trivial⟩)))
 refine zKSR (zp1 rfl (zl 0 1 h rfl (zp1 rfl ?_)))
 obtain ⟨r2, hr2, hF⟩ := qd hF
 refine qN r2 h call73 (qkM ⟨_, _, rfl, (h.oldS s2)⟩ hr2) rfl rfl rfl rfl ?_
 intro w3 h
 refine zp1 rfl (zNSSR (zp2 rfl (qb ?_)))
 refine qp rfl hF ?_ ?_ <;> intro hF
 ·exact zSR (zp1 rfl (qb (qar qc h hF ⟨rfl, trivial⟩)))
 refine zKSR (zp1 rfl (zl 0 2 h rfl (zp1 rfl ?_)))
 obtain ⟨r3, hr3, hF⟩ := qd hF
 refine qN r3 h call74 (qlZ ⟨_, _, rfl, (h.oldS s3)⟩ hr3) rfl rfl rfl rfl ?_
 intro w4 h
 refine zp1 rfl (zNSSR (zp2 rfl (qb ?_)))
 refine qp rfl hF ?_ ?_ <;> intro hF
 ·exact zSR (zp1 rfl (qb (qar qc h hF ⟨rfl, trivial⟩)))
 exact zKSR (zp2 rfl (qb (qar qc h hF ⟨rfl, trivial⟩)))

def qgU (n : Nat) (a : qaj) (left : Int) : Option Int :=
 (qbt n a.Parent left).bind fun r1 =>
 bif decide (r1 < 0) then
  some (-1)
 else
  (qbt n a.Res r1).bind fun r2 =>
  bif decide (r2 < 0) then
   some (-1)
  else
   (qbt n a.Cap r2).bind fun r3 =>
   bif decide (r3 < 0) then
    some (-1)
   else
    (qbt n a.Sink r3).bind fun r4 =>
    bif decide (r4 < 0) then
     some (-1)
    else
     some r4

theorem qmH {n : Nat} {w : World} {a : qaj} {left : Int} {cs1 : List Value} (ha1 : GoT.R w (old w) a cs1) {r : Int} (hF : qgU n a left = some r) : RetV Tryz.prog 75 [GoT.v qaj cs1, .int .i64 left] w r := by
 obtain ⟨p1, k1, p2, k2, p3, k3, p4, k4, rfl, s1, s2, s3, s4⟩ := qbU ha1
 refine qf Tryz.func75 rfl (m := 30) rfl rfl (fun h => ?_)
 rw [qgU] at hF
 refine zSR (qP h rfl rfl ?_)
 intro w1 bb1 h
 refine zp1 rfl (zNSR (zp1 rfl (zl 0 0 h rfl (zp1 rfl ?_))))
 obtain ⟨r1, hr1, hF⟩ := qd hF
 refine qN r1 h call76 (qbn ⟨_, _, rfl, (h.oldS s1)⟩ hr1) rfl rfl rfl rfl ?_
 intro w2 h
 refine zp1 rfl (zNSSR (zp2 rfl (qb ?_)))
 refine qp rfl hF ?_ ?_ <;> intro hF
 ·exact zSR (zp1 rfl (qb (qar qc h hF ⟨rfl, trivial⟩)))
 refine zKSR (zp1 rfl (zl 0 1 h rfl (zp1 rfl ?_)))
 obtain ⟨r2, hr2, hF⟩ := qd hF
 refine qN r2 h call76 (qbn ⟨_, _, rfl, (h.oldS s2)⟩ hr2) rfl rfl rfl rfl ?_
 intro w3 h
 refine zp1 rfl (zNSSR (zp2 rfl (qb ?_)))
 refine qp rfl hF ?_ ?_ <;> intro hF
 ·exact zSR (zp1 rfl (qb (qar qc h hF ⟨rfl, trivial⟩)))
 refine zKSR (zp1 rfl (zl 0 2 h rfl (zp1 rfl ?_)))
 obtain ⟨r3, hr3, hF⟩ := qd hF
 refine qN r3 h call76 (qbn ⟨_, _, rfl, (h.oldS s3)⟩ hr3) rfl rfl rfl rfl ?_
 intro w4 h
 refine zp1 rfl (zNSSR (zp2 rfl (qb ?_)))
 refine qp rfl hF ?_ ?_ <;> intro hF
 ·exact zSR (zp1 rfl (qb (qar qc h hF ⟨rfl, trivial⟩)))
 refine zKSR (zp1 rfl (zl 0 3 h rfl (zp1 rfl ?_)))
 obtain ⟨r4, hr4, hF⟩ := qd hF
 refine qN r4 h call76 (qbn ⟨_, _, rfl, (h.oldS s4)⟩ hr4) rfl rfl rfl rfl ?_
 intro w5 h
 refine zp1 rfl (zNSSR (zp2 rfl (qb ?_)))
 refine qp rfl hF ?_ ?_ <;> intro hF
 ·exact zSR (zp1 rfl (qb (qar qc h hF ⟨rfl, trivial⟩)))
 exact zKSR (zp2 rfl (qb (qar qc h hF ⟨rfl, trivial⟩)))

def qdg (a : (List qaj)) : Nat → Int → Int → Option (Flow Int (Int × Int))
 | 0, _, _ => none
 | n + 1, i1, i2 =>
  bif decide (i2 < (a.length : Int)) then
   (idx a i2).bind fun y1 =>
   (qgU n y1 i1).bind fun r1 =>
   bif decide (r1 < 0) then
    some (.ret (-1))
   else
    qdg a n r1 (W64 (i2 + 1))
  else
   some (.nxt (i1, i2))

def qih (n : Nat) (a : (List qaj)) (left : Int) : Option Int :=
 bif decide ((W64 (left - (a.length : Int))) < 0) then
  some (-1)
 else
  (qdg a n (W64 (left - (a.length : Int))) 0).bind fun o => match o with
  | .ret r => some r
  | .nxt (i1, _) =>
   some i1

theorem qlK {n : Nat} {w : World} {a : (List qaj)} {left : Int} {cs1 : List Value} (ha1 : GoT.R w (old w) a cs1) {r : Int} (hF : qih n a left = some r) : RetV Tryz.prog 39 [GoT.v (List qaj) cs1, .int .i64 left] w r := by
 obtain ⟨p1, k1, rfl, s1⟩ := ha1
 refine qf Tryz.func39 rfl (m := 27) rfl rfl (fun h => ?_)
 rw [qih] at hF
 refine zSR (zp1 rfl (zNSR (zp5 rfl (qb ?_))))
 refine zSSR (zp2 rfl (qb ?_))
 refine qp rfl hF ?_ ?_ <;> intro hF
 ·exact zSR (zp1 rfl (qb (qar qc h hF ⟨rfl, trivial⟩)))
 refine zKSSR (zp1 rfl (qb ?_))
 obtain ⟨o1, hF, hK1⟩ := qd hF
 refine qA (qW [(0, _), (1, _), (5, _)] ⟨rfl, rfl, rfl, trivial⟩ ?_)
 refine qG (fun m e w' => ∃ (i1 : Int) (i2 : Int), qdg a m i1 i2 = some o1 ∧ e = [(0, .slice p1 a.length k1), (1, .int .i64 i1), (5, .int .i64 i2)] ∧ SH w w' []) n ⟨_, _, hF, rfl, h⟩ ?_
 rintro m1 e1 w1 ⟨i1, i2, hF, rfl, h⟩
 rcases m1 with _ | m1
 ·rw [qdg] at hF
  cases hF
 rw [qdg] at hF
 refine zSSR (zp4 rfl (qb ?_))
 refine qp rfl hF ?_ ?_ <;> intro hF
 ·refine zKSBSR (zp2 rfl ?_)
  obtain ⟨y1, hy1, hF⟩ := qd hF
  have he1 := qg hy1
  obtain ⟨b1, o_1, q1, cs2, hp1, hq1, -, hr1, hc3⟩ := s1.at hy1
  obtain ⟨p2, k2, p3, k3, p4, k4, p5, k5, rfl, s2, s3, s4, s5⟩ := qbU hr1
  refine zxe hp1 hq1 he1 rfl (zc 0 (hc3.below h.below) rfl (zp1 rfl ?_))
  obtain ⟨r1, hr2, hF⟩ := qd hF
  refine qN r1 h call75 (qmH (qip y1 (h.oldS s2) (h.oldS s3) (h.oldS s4) (h.oldS s5)) hr2) rfl rfl rfl rfl ?_
  intro w2 h
  refine zp1 rfl (zNSR (zp2 rfl (qb ?_)))
  refine qp rfl hF ?_ ?_ <;> intro hF
  ·refine zSR (zp1 rfl (qb ?_))
   obtain rfl := qj hF; replace hF := hK1
   exact qar qc h hF ⟨rfl, trivial⟩
  exact zKER (zp3 rfl (qb (qy m1 [(0, _), (1, _), (5, _)] (Nat.lt_succ_self m1) ⟨rfl, rfl, rfl, trivial⟩ ⟨_, _, hF, rfl, h⟩)))
 refine qF rfl ?_
 obtain rfl := qj hF; replace hF := hK1
 exact zSR (zp2 rfl (qb (qar qc h hF ⟨rfl, trivial⟩)))

def qhz (n : Nat) (a : qz) (left : Int) : Option Int :=
 (qfW n (⟨a.Library.Cells⟩ : qw) left).bind fun r1 =>
 bif decide (r1 < 0) then
  some (-1)
 else
  (qgs n (⟨a.Design.Instances, a.Design.Nets, a.Design.Ports⟩ : ql) r1).bind fun r2 =>
  bif decide (r2 < 0) then
   some (-1)
  else
   (qih n a.Wires r2).bind fun r3 =>
   bif decide (r3 < 0) then
    some (-1)
   else
    some r3

theorem qlH {n : Nat} {w : World} {a : qz} {left : Int} {cs1 : List Value} (ha1 : GoT.R w (old w) a cs1) {r : Int} (hF : qhz n a left = some r) : RetV Tryz.prog 9 [GoT.v qz cs1, .int .i64 left] w r := by
 obtain ⟨p1, k1, p2, k2, p3, k3, p4, k4, p5, k5, rfl, s1, s2, s3, s4, s5⟩ := qat ha1
 refine qf Tryz.func9 rfl (m := 24) rfl rfl (fun h => ?_)
 rw [qhz] at hF
 refine zSR (qP h rfl rfl ?_)
 intro w1 bb1 h
 refine zp1 rfl (zNSR (zp1 rfl (zl 0 0 h rfl (zp1 rfl ?_))))
 obtain ⟨r1, hr1, hF⟩ := qd hF
 refine qN r1 h call37 (qk5 (qdx (⟨a.Library.Cells⟩ : qw) (h.oldS s1)) hr1) rfl rfl rfl rfl ?_
 intro w2 h
 refine zp1 rfl (zNSSR (zp2 rfl (qb ?_)))
 refine qp rfl hF ?_ ?_ <;> intro hF
 ·exact zSR (zp1 rfl (qb (qar qc h hF ⟨rfl, trivial⟩)))
 refine zKSR (zp1 rfl (zl 0 1 h rfl (zp1 rfl ?_)))
 obtain ⟨r2, hr2, hF⟩ := qd hF
 refine qN r2 h call38 (qlp (qbf (⟨a.Design.Instances, a.Design.Nets, a.Design.Ports⟩ : ql) (h.oldS s2) (h.oldS s3) (h.oldS s4)) hr2) rfl rfl rfl rfl ?_
 intro w3 h
 refine zp1 rfl (zNSSR (zp2 rfl (qb ?_)))
 refine qp rfl hF ?_ ?_ <;> intro hF
 ·exact zSR (zp1 rfl (qb (qar qc h hF ⟨rfl, trivial⟩)))
 refine zKSR (zp1 rfl (zl 0 4 h rfl (zp1 rfl ?_)))
 obtain ⟨r3, hr3, hF⟩ := qd hF
 refine qN r3 h call39 (qlK ⟨_, _, rfl, (h.oldS s5)⟩ hr3) rfl rfl rfl rfl ?_
 intro w4 h
 refine zp1 rfl (zNSSR (zp2 rfl (qb ?_)))
 refine qp rfl hF ?_ ?_ <;> intro hF
 ·exact zSR (zp1 rfl (qb (qar qc h hF ⟨rfl, trivial⟩)))
 exact zKSR (zp2 rfl (qb (qar qc h hF ⟨rfl, trivial⟩)))

def qds (a : (List Int)) : Nat → (List Int) → Int → Option ((List Int) × Int)
 | 0, _, _ => none
 | n + 1, x2, i1 =>
  bif decide (i1 < (a.length : Int)) then
   (idx a i1).bind fun y1 =>
   (idx x2 i1).bind fun _ =>
   qds a n (setS x2 i1 y1) (W64 (i1 + 1))
  else
   some (x2, i1)

def qaM (n : Nat) (a : (List Int)) : Option (List Int) :=
 (mkS (a.length : Int) (0 : Int)).bind fun x1 =>
 (qds a n x1 0).bind fun o => match o with
 | (x2, _) =>
  some x2

theorem qaK {n : Nat} {w : World} {a : (List Int)} {cs1 : List Value} (ha1 : GoT.R w (old w) a cs1) {r : (List Int)} (hF : qaM n a = some r) : RetV Tryz.prog 14 [GoT.v (List Int) cs1] w r := by
 obtain ⟨p1, k1, rfl, s1⟩ := ha1
 refine qf Tryz.func14 rfl (m := 22) rfl rfl (fun h => ?_)
 rw [qaM] at hF
 refine zSR (zp1 rfl (zNSR (zp2 rfl ?_)))
 obtain ⟨x1, hx1, hF⟩ := qd hF
 obtain ⟨g1, g2, hx1⟩ := qdH hx1
 refine qeJ qc Int h rfl rfl rfl rfl rfl rfl rfl rfl rfl g1 g2 hx1 rfl ?_
 intro w1 S1 p2 h
 refine zp1 rfl (zNSSR (zp1 rfl (qb ?_)))
 obtain ⟨o1, hF, hK1⟩ := qd hF
 refine qA (qW [(0, _), (3, _), (4, _)] ⟨rfl, rfl, rfl, trivial⟩ ?_)
 refine qG (fun m e w' => ∃ (x2 : (List Int)) (i1 : Int), qds a m x2 i1 = some o1 ∧ e = [(0, .slice p1 a.length k1), (3, .slice p2 x1.length x1.length), (4, .int .i64 i1)] ∧ SH w w' [Ch.own S1 (x2 : List Int) [.slice p2 x1.length x1.length]]) n ⟨_, _, hF, rfl, h⟩ ?_
 rintro m1 e1 w2 ⟨x2, i1, hF, rfl, h⟩
 rcases m1 with _ | m1
 ·rw [qds] at hF
  cases hF
 rw [qds] at hF
 refine zSSR (zp4 rfl (qb ?_))
 refine qp rfl hF ?_ ?_ <;> intro hF
 ·refine zKSBR (zp4 rfl ?_)
  obtain ⟨y1, hy1, hF⟩ := qd hF
  have he1 := qg hy1
  obtain ⟨b1, o_1, q1, cs2, hp1, hq1, -, hr1, hc2⟩ := s1.at hy1
  obtain rfl := hr1
  refine zxe hp1 hq1 he1 rfl (zc 0 (hc2.below h.below) rfl ?_)
  obtain ⟨y2, hy2, hF⟩ := qd hF
  have he2 := qg hy2
  obtain ⟨b2, o_2, q2, cs3, hp2, hq2, -, hr2, hc3⟩ := (h.sl 0 rfl).1.at hy2
  obtain rfl := hr2
  refine zx hp2 hq2 ⟨he2.1, qa8 he2.2.1 (h.sl 0 rfl).2⟩ rfl (qfQ qc 0 0 y1 h rfl hy2 hp2 hq2 rfl hc3 rfl rfl rfl rfl rfl rfl rfl ?_)
  intro w3 h
  exact zNER (zp3 rfl (qb (qy m1 [(0, _), (3, _), (4, _)] (Nat.lt_succ_self m1) ⟨rfl, rfl, rfl, trivial⟩ ⟨_, _, hF, rfl, h⟩)))
 refine qF rfl ?_
 obtain rfl := qj hF; replace hF := hK1
 refine zSR (zp2 rfl (qb ?_))
 obtain rfl := qj hF
 exact qad qc (ρ := (List Int)) [GoT.v (List Int) [.slice p2 x1.length x1.length]] h ⟨rfl, trivial⟩ (PV.done h (qai (qaB 0 h rfl)))

def qhH (_ : Nat) (a : qaC) : Option qaC :=
 some (⟨a.Name, a.Dir, a.Cap, a.Clock⟩ : qaC)

theorem qm1 {n : Nat} {w : World} {a : qaC} {cs1 : List Value} (ha1 : GoT.R w (old w) a cs1) {r : qaC} (hF : qhH n a = some r) : RetV Tryz.prog 198 [GoT.v qaC cs1] w r := by
 obtain rfl := qbx ha1
 refine qf Tryz.func198 rfl (m := 17) rfl rfl (fun h => ?_)
 rw [qhH] at hF
 refine zSR (qP h rfl rfl ?_)
 intro w1 bb1 h
 refine qT qc h rfl rfl rfl ?_
 intro w2 bb2 h
 refine zNSR (qT qc h rfl rfl rfl ?_)
 intro w3 bb3 h
 refine zNSR (zp1 rfl (zl 2 0 h rfl (zp1 rfl (zs 0 h rfl ?_))))
 intro w4 h
 refine zNSR (zp1 rfl (zl 2 1 h rfl (zp1 rfl (zs 0 h rfl ?_))))
 intro w5 h
 replace h : SH _ _ [Ch.box bb3 [.string a.Name, .int .i64 a.Dir, .int .i64 0, .bool false] 238, Ch.box bb2 [.string ByteArray.empty, .int .i64 0, .int .i64 0, .bool false] 238, Ch.box bb1 [.string a.Name, .int .i64 a.Dir, .int .i64 a.Cap, .bool a.Clock] 257] := h
 refine zNSR (zp1 rfl (zl 2 2 h rfl (zp1 rfl (zs 0 h rfl ?_))))
 intro w6 h
 refine zNSR (zp1 rfl (zl 2 3 h rfl (zp1 rfl (zs 0 h rfl ?_))))
 intro w7 h
 replace h : SH _ _ [Ch.box bb3 [.string a.Name, .int .i64 a.Dir, .int .i64 a.Cap, .bool a.Clock] 238, Ch.box bb2 [.string ByteArray.empty, .int .i64 0, .int .i64 0, .bool false] 238, Ch.box bb1 [.string a.Name, .int .i64 a.Dir, .int .i64 a.Cap, .bool a.Clock] 257] := h
 refine zNSR (zl 0 0 h rfl (zs 1 h rfl ?_))
 intro w8 h
 refine qb ?_
 obtain rfl := qj hF
 exact qad qc (ρ := qaC) [GoT.v qaC [.string a.Name, .int .i64 a.Dir, .int .i64 a.Cap, .bool a.Clock]] h ⟨⟨_, _, _, rfl, rfl, h.box 1 rfl, rfl⟩, trivial⟩ (PV.done h (qai (qas (S := fun _ => False) (qhX (⟨a.Name, a.Dir, a.Cap, a.Clock⟩ : qaC)))))

def qem (a : (List qaC)) : Nat → (List qaC) → Int → Option ((List qaC) × Int)
 | 0, _, _ => none
 | n + 1, x2, i1 =>
  bif decide (i1 < (a.length : Int)) then
   (idx a i1).bind fun y1 =>
   (qhH n y1).bind fun r1 =>
   (idx x2 i1).bind fun _ =>
   qem a n (setS x2 i1 r1) (W64 (i1 + 1))
  else
   some (x2, i1)

def qhZ (n : Nat) (a : (List qaC)) : Option (List qaC) :=
 (mkS (a.length : Int) ((⟨ByteArray.empty, 0, 0, false⟩ : qaC) : qaC)).bind fun x1 =>
 (qem a n x1 0).bind fun o => match o with
 | (x2, _) =>
  some x2

theorem qmr {n : Nat} {w : World} {a : (List qaC)} {cs1 : List Value} (ha1 : GoT.R w (old w) a cs1) {r : (List qaC)} (hF : qhZ n a = some r) : RetV Tryz.prog 171 [GoT.v (List qaC) cs1] w r := by
 obtain ⟨p1, k1, rfl, s1⟩ := ha1
 refine qf Tryz.func171 rfl (m := 23) rfl rfl (fun h => ?_)
 rw [qhZ] at hF
 refine zSR (zp1 rfl (zNSR (zp2 rfl ?_)))
 obtain ⟨x1, hx1, hF⟩ := qd hF
 obtain ⟨g1, g2, hx1⟩ := qdH hx1
 refine qeJ qc qaC h rfl rfl rfl rfl rfl rfl rfl rfl rfl g1 g2 hx1 rfl ?_
 intro w1 S1 p2 h
 refine zp1 rfl (zNSSR (zp1 rfl (qb ?_)))
 obtain ⟨o1, hF, hK1⟩ := qd hF
 refine qA (qW [(0, _), (3, _), (4, _)] ⟨rfl, rfl, rfl, trivial⟩ ?_)
 refine qG (fun m e w' => ∃ (x2 : (List qaC)) (i1 : Int), qem a m x2 i1 = some o1 ∧ e = [(0, .slice p1 a.length k1), (3, .slice p2 x1.length x1.length), (4, .int .i64 i1)] ∧ SH w w' [Ch.own S1 (x2 : List qaC) [.slice p2 x1.length x1.length]]) n ⟨_, _, hF, rfl, h⟩ ?_
 rintro m1 e1 w2 ⟨x2, i1, hF, rfl, h⟩
 rcases m1 with _ | m1
 ·rw [qem] at hF
  cases hF
 rw [qem] at hF
 refine zSSR (zp4 rfl (qb ?_))
 refine qp rfl hF ?_ ?_ <;> intro hF
 ·refine zKSBR (zp4 rfl ?_)
  obtain ⟨y1, hy1, hF⟩ := qd hF
  have he1 := qg hy1
  obtain ⟨b1, o_1, q1, cs2, hp1, hq1, -, hr1, hc2⟩ := s1.at hy1
  obtain rfl := qbx hr1
  refine zxe hp1 hq1 he1 rfl (zc 0 (hc2.below h.below) rfl ?_)
  obtain ⟨r1, hr2, hF⟩ := qd hF
  refine qfq r1 h call198 (qm1 (qhX y1) hr2) rfl rfl rfl rfl ?_
  intro w3 S2 cs3 h
  obtain rfl := qbx (h.own 0 rfl)
  obtain ⟨y2, hy2, hF⟩ := qd hF
  have he2 := qg hy2
  obtain ⟨b2, o_2, q2, cs4, hp2, hq2, -, hr3, hc3⟩ := (h.sl 1 rfl).1.at hy2
  obtain rfl := qbx hr3
  refine zx hp2 hq2 ⟨he2.1, qa8 he2.2.1 (h.sl 1 rfl).2⟩ rfl (qfQ qc 1 0 r1 h rfl hy2 hp2 hq2 (qhX y2) hc3 rfl rfl rfl (qhX r1) rfl rfl rfl ?_)
  intro w4 h
  refine zNER (zp3 rfl (qb ?_))
  replace h := h.pick [1] rfl
  exact qy m1 [(0, _), (3, _), (4, _)] (Nat.lt_succ_self m1) ⟨rfl, rfl, rfl, trivial⟩ ⟨_, _, hF, rfl, h⟩
 refine qF rfl ?_
 obtain rfl := qj hF; replace hF := hK1
 refine zSR (zp2 rfl (qb ?_))
 obtain rfl := qj hF
 exact qad qc (ρ := (List qaC)) [GoT.v (List qaC) [.slice p2 x1.length x1.length]] h ⟨rfl, trivial⟩ (PV.done h (qai (qaB 0 h rfl)))

def qgf (n : Nat) (a : qJ) : Option qJ :=
 (qaM n a.Slews).bind fun r1 =>
 (qaM n a.Loads).bind fun r2 =>
 (qaM n a.Values).bind fun r3 =>
 some (⟨r1, r2, r3⟩ : qJ)

theorem qlV {n : Nat} {w : World} {a : qJ} {cs1 : List Value} (ha1 : GoT.R w (old w) a cs1) {r : qJ} (hF : qgf n a = some r) : RetV Tryz.prog 225 [GoT.v qJ cs1] w r := by
 obtain ⟨p1, k1, p2, k2, p3, k3, rfl, s1, s2, s3⟩ := qbP ha1
 refine qf Tryz.func225 rfl (m := 17) rfl rfl (fun h => ?_)
 rw [qgf] at hF
 refine zSR (qP h rfl rfl ?_)
 intro w1 bb1 h
 refine qT qc h rfl rfl rfl ?_
 intro w2 bb2 h
 refine zNSR (qT qc h rfl rfl rfl ?_)
 intro w3 bb3 h
 refine zNSR (zp1 rfl (zl 2 0 h rfl ?_))
 obtain ⟨r1, hr1, hF⟩ := qd hF
 refine qap r1 h call14 (qaK ⟨_, _, rfl, (h.oldS s1)⟩ hr1) rfl rfl rfl rfl ?_
 intro w4 S1 p4 k4 h
 refine zp1 rfl (zs 1 h rfl ?_)
 intro w5 h
 refine zNSR (zp1 rfl (zl 3 1 h rfl ?_))
 obtain ⟨r2, hr2, hF⟩ := qd hF
 refine qap r2 h call14 (qaK ⟨_, _, rfl, (h.oldS s2)⟩ hr2) rfl rfl rfl rfl ?_
 intro w6 S2 p5 k5 h
 refine zp1 rfl (zs 2 h rfl ?_)
 intro w7 h
 replace h : SH _ _ [Ch.own S2 (r2 : List Int) [.slice p5 r2.length k5], Ch.own S1 (r1 : List Int) [.slice p4 r1.length k4], Ch.box bb3 [.slice p4 r1.length k4, .slice p5 r2.length k5, .slice none 0 0] 267, Ch.box bb2 [.slice none 0 0, .slice none 0 0, .slice none 0 0] 267, Ch.box bb1 [.slice p1 a.Slews.length k1, .slice p2 a.Loads.length k2, .slice p3 a.Values.length k3] 283] := h
 refine zNSR (zp1 rfl (zl 4 2 h rfl ?_))
 obtain ⟨r3, hr3, hF⟩ := qd hF
 refine qap r3 h call14 (qaK ⟨_, _, rfl, (h.oldS s3)⟩ hr3) rfl rfl rfl rfl ?_
 intro w8 S3 p6 k6 h
 refine zp1 rfl (zs 3 h rfl ?_)
 intro w9 h
 refine zNSR (zl 3 0 h rfl (zs 4 h rfl ?_))
 intro w10 h
 replace h : SH _ _ [Ch.own S3 (r3 : List Int) [.slice p6 r3.length k6], Ch.own S2 (r2 : List Int) [.slice p5 r2.length k5], Ch.own S1 (r1 : List Int) [.slice p4 r1.length k4], Ch.box bb3 [.slice p4 r1.length k4, .slice p5 r2.length k5, .slice p6 r3.length k6] 267, Ch.box bb2 [.slice p4 r1.length k4, .slice p5 r2.length k5, .slice p6 r3.length k6] 267, Ch.box bb1 [.slice p1 a.Slews.length k1, .slice p2 a.Loads.length k2, .slice p3 a.Values.length k3] 283] := h
 refine qb ?_
 obtain rfl := qj hF
 exact qad qc (ρ := qJ) [GoT.v qJ [.slice p4 r1.length k4, .slice p5 r2.length k5, .slice p6 r3.length k6]] h ⟨⟨_, _, _, rfl, rfl, h.box 4 rfl, rfl⟩, trivial⟩ (PV.done h (qai (qpQ (⟨r1, r2, r3⟩ : qJ) h (qaB 2 h rfl) (qaB 1 h rfl) (qaB 0 h rfl) (by rfl) (by rfl))))

def qdo (a : (List qJ)) : Nat → (List qJ) → Int → Option ((List qJ) × Int)
 | 0, _, _ => none
 | n + 1, x2, i1 =>
  bif decide (i1 < (a.length : Int)) then
   (idx a i1).bind fun y1 =>
   (qgf n y1).bind fun r1 =>
   (idx x2 i1).bind fun _ =>
   qdo a n (setS x2 i1 r1) (W64 (i1 + 1))
  else
   some (x2, i1)

def qfJ (n : Nat) (a : (List qJ)) : Option (List qJ) :=
 (mkS (a.length : Int) ((⟨[], [], []⟩ : qJ) : qJ)).bind fun x1 =>
 (qdo a n x1 0).bind fun o => match o with
 | (x2, _) =>
  some x2

theorem qi5 {n : Nat} {w : World} {a : (List qJ)} {cs1 : List Value} (ha1 : GoT.R w (old w) a cs1) {r : (List qJ)} (hF : qfJ n a = some r) : RetV Tryz.prog 213 [GoT.v (List qJ) cs1] w r := by
 obtain ⟨p1, k1, rfl, s1⟩ := ha1
 refine qf Tryz.func213 rfl (m := 23) rfl rfl (fun h => ?_)
 rw [qfJ] at hF
 refine zSR (zp1 rfl (zNSR (zp2 rfl ?_)))
 obtain ⟨x1, hx1, hF⟩ := qd hF
 obtain ⟨g1, g2, hx1⟩ := qdH hx1
 refine qeJ qc qJ h rfl rfl rfl rfl rfl rfl rfl rfl rfl g1 g2 hx1 rfl ?_
 intro w1 S1 p2 h
 refine zp1 rfl (zNSSR (zp1 rfl (qb ?_)))
 obtain ⟨o1, hF, hK1⟩ := qd hF
 refine qA (qW [(0, _), (3, _), (4, _)] ⟨rfl, rfl, rfl, trivial⟩ ?_)
 refine qG (fun m e w' => ∃ (S2 : Nat → Prop) (x2 : (List qJ)) (i1 : Int), qdo a m x2 i1 = some o1 ∧ e = [(0, .slice p1 a.length k1), (3, .slice p2 x1.length x1.length), (4, .int .i64 i1)] ∧ SH w w' [Ch.own S2 (x2 : List qJ) [.slice p2 x1.length x1.length]]) n ⟨_, _, _, hF, rfl, h⟩ ?_
 rintro m1 e1 w2 ⟨S2, x2, i1, hF, rfl, h⟩
 rcases m1 with _ | m1
 ·rw [qdo] at hF
  cases hF
 rw [qdo] at hF
 refine zSSR (zp4 rfl (qb ?_))
 refine qp rfl hF ?_ ?_ <;> intro hF
 ·refine zKSBR (zp4 rfl ?_)
  obtain ⟨y1, hy1, hF⟩ := qd hF
  have he1 := qg hy1
  obtain ⟨b1, o_1, q1, cs2, hp1, hq1, -, hr1, hc2⟩ := s1.at hy1
  obtain ⟨p3, k2, p4, k3, p5, k4, rfl, s2, s3, s4⟩ := qbP hr1
  refine zxe hp1 hq1 he1 rfl (zc 0 (hc2.below h.below) rfl ?_)
  obtain ⟨r1, hr2, hF⟩ := qd hF
  refine qfq r1 h call225 (qlV (qhJ y1 (h.oldS s2) (h.oldS s3) (h.oldS s4)) hr2) rfl rfl rfl rfl ?_
  intro w3 S3 cs3 h
  obtain ⟨p6, k5, p7, k6, p8, k7, rfl, -, -, -⟩ := qbP (h.own 0 rfl)
  obtain ⟨y2, hy2, hF⟩ := qd hF
  have he2 := qg hy2
  replace h := h.lrn0 1 rfl
  obtain ⟨b2, o_2, q2, cs4, hp2, hq2, -, hr3, hc3⟩ := (qif (h.lrnO 1 rfl)).1.at hy2
  have hr4 := hr3
  obtain ⟨p9, k8, p10, k9, p11, k10, rfl, s8, s9, s10⟩ := qbP hr3
  replace h := h.lrnAdd 1 rfl hr4
  refine zx hp2 hq2 ⟨he2.1, qa8 he2.2.1 (qif (h.lrnO 1 rfl)).2⟩ rfl ?_
  replace h := h.unlrn 1 rfl
  refine qi7 qc r1 h hy2 hp2 hq2 rfl rfl rfl rfl rfl ?_
  intro w4 S4 h
  exact zNER (zp3 rfl (qb (qy m1 [(0, _), (3, _), (4, _)] (Nat.lt_succ_self m1) ⟨rfl, rfl, rfl, trivial⟩ ⟨_, _, _, hF, rfl, h⟩)))
 refine qF rfl ?_
 obtain rfl := qj hF; replace hF := hK1
 refine zSR (zp2 rfl (qb ?_))
 obtain rfl := qj hF
 exact qad qc (ρ := (List qJ)) [GoT.v (List qJ) [.slice p2 x1.length x1.length]] h ⟨rfl, trivial⟩ (PV.done h (qai (qaB 0 h rfl)))

def qhL (n : Nat) (a : qah) : Option qah :=
 (qfJ n a.Delay).bind fun r1 =>
 (qfJ n a.Slew).bind fun r2 =>
 some (⟨a.Kind, a.From, a.To, a.Sense, r1, r2⟩ : qah)

theorem qm7 {n : Nat} {w : World} {a : qah} {cs1 : List Value} (ha1 : GoT.R w (old w) a cs1) {r : qah} (hF : qhL n a = some r) : RetV Tryz.prog 199 [GoT.v qah cs1] w r := by
 obtain ⟨p1, k1, p2, k2, rfl, s1, s2⟩ := qaD ha1
 refine qf Tryz.func199 rfl (m := 25) rfl rfl (fun h => ?_)
 rw [qhL] at hF
 refine zSR (qP h rfl rfl ?_)
 intro w1 bb1 h
 refine qT qc h rfl rfl rfl ?_
 intro w2 bb2 h
 refine zNSR (qT qc h rfl rfl rfl ?_)
 intro w3 bb3 h
 refine zNSR (zp1 rfl (zl 2 0 h rfl (zp1 rfl (zs 0 h rfl ?_))))
 intro w4 h
 refine zNSR (zp1 rfl (zl 2 1 h rfl (zp1 rfl (zs 0 h rfl ?_))))
 intro w5 h
 replace h : SH _ _ [Ch.box bb3 [.int .i64 a.Kind, .int .i64 a.From, .int .i64 0, .int .i64 0, .slice none 0 0, .slice none 0 0] 211, Ch.box bb2 [.int .i64 0, .int .i64 0, .int .i64 0, .int .i64 0, .slice none 0 0, .slice none 0 0] 211, Ch.box bb1 [.int .i64 a.Kind, .int .i64 a.From, .int .i64 a.To, .int .i64 a.Sense, .slice p1 a.Delay.length k1, .slice p2 a.Slew.length k2] 261] := h
 refine zNSR (zp1 rfl (zl 2 2 h rfl (zp1 rfl (zs 0 h rfl ?_))))
 intro w6 h
 refine zNSR (zp1 rfl (zl 2 3 h rfl (zp1 rfl (zs 0 h rfl ?_))))
 intro w7 h
 replace h : SH _ _ [Ch.box bb3 [.int .i64 a.Kind, .int .i64 a.From, .int .i64 a.To, .int .i64 a.Sense, .slice none 0 0, .slice none 0 0] 211, Ch.box bb2 [.int .i64 0, .int .i64 0, .int .i64 0, .int .i64 0, .slice none 0 0, .slice none 0 0] 211, Ch.box bb1 [.int .i64 a.Kind, .int .i64 a.From, .int .i64 a.To, .int .i64 a.Sense, .slice p1 a.Delay.length k1, .slice p2 a.Slew.length k2] 261] := h
 refine zNSR (zp1 rfl (zl 2 4 h rfl ?_))
 obtain ⟨r1, hr1, hF⟩ := qd hF
 refine qap r1 h call213 (qi5 ⟨_, _, rfl, (h.oldS s1)⟩ hr1) rfl rfl rfl rfl ?_
 intro w8 S1 p3 k3 h
 refine zp1 rfl (zs 1 h rfl ?_)
 intro w9 h
 refine zNSR (zp1 rfl (zl 3 5 h rfl ?_))
 obtain ⟨r2, hr2, hF⟩ := qd hF
 refine qap r2 h call213 (qi5 ⟨_, _, rfl, (h.oldS s2)⟩ hr2) rfl rfl rfl rfl ?_
 intro w10 S2 p4 k4 h
 refine zp1 rfl (zs 2 h rfl ?_)
 intro w11 h
 replace h : SH _ _ [Ch.own S2 (r2 : List qJ) [.slice p4 r2.length k4], Ch.own S1 (r1 : List qJ) [.slice p3 r1.length k3], Ch.box bb3 [.int .i64 a.Kind, .int .i64 a.From, .int .i64 a.To, .int .i64 a.Sense, .slice p3 r1.length k3, .slice p4 r2.length k4] 211, Ch.box bb2 [.int .i64 0, .int .i64 0, .int .i64 0, .int .i64 0, .slice none 0 0, .slice none 0 0] 211, Ch.box bb1 [.int .i64 a.Kind, .int .i64 a.From, .int .i64 a.To, .int .i64 a.Sense, .slice p1 a.Delay.length k1, .slice p2 a.Slew.length k2] 261] := h
 refine zNSR (zl 2 0 h rfl (zs 3 h rfl ?_))
 intro w12 h
 refine qb ?_
 obtain rfl := qj hF
 exact qad qc (ρ := qah) [GoT.v qah [.int .i64 a.Kind, .int .i64 a.From, .int .i64 a.To, .int .i64 a.Sense, .slice p3 r1.length k3, .slice p4 r2.length k4]] h ⟨⟨_, _, _, rfl, rfl, h.box 3 rfl, rfl⟩, trivial⟩ (PV.done h (qai (qrC (⟨a.Kind, a.From, a.To, a.Sense, r1, r2⟩ : qah) h (qas (S := fun _ => False) rfl) (qas (S := fun _ => False) rfl) (qas (S := fun _ => False) rfl) (qas (S := fun _ => False) rfl) (qaB 1 h rfl) (qaB 0 h rfl) (by rfl) (by rfl) (by rfl) (by rfl) (by rfl))))

def qej (a : (List qah)) : Nat → (List qah) → Int → Option ((List qah) × Int)
 | 0, _, _ => none
 | n + 1, x2, i1 =>
  bif decide (i1 < (a.length : Int)) then
   (idx a i1).bind fun y1 =>
   (qhL n y1).bind fun r1 =>
   (idx x2 i1).bind fun _ =>
   qej a n (setS x2 i1 r1) (W64 (i1 + 1))
  else
   some (x2, i1)

def qhW (n : Nat) (a : (List qah)) : Option (List qah) :=
 (mkS (a.length : Int) ((⟨0, 0, 0, 0, [], []⟩ : qah) : qah)).bind fun x1 =>
 (qej a n x1 0).bind fun o => match o with
 | (x2, _) =>
  some x2

theorem qmx {n : Nat} {w : World} {a : (List qah)} {cs1 : List Value} (ha1 : GoT.R w (old w) a cs1) {r : (List qah)} (hF : qhW n a = some r) : RetV Tryz.prog 172 [GoT.v (List qah) cs1] w r := by
 obtain ⟨p1, k1, rfl, s1⟩ := ha1
 refine qf Tryz.func172 rfl (m := 23) rfl rfl (fun h => ?_)
 rw [qhW] at hF
 refine zSR (zp1 rfl (zNSR (zp2 rfl ?_)))
 obtain ⟨x1, hx1, hF⟩ := qd hF
 obtain ⟨g1, g2, hx1⟩ := qdH hx1
 refine qeJ qc qah h rfl rfl rfl rfl rfl rfl rfl rfl rfl g1 g2 hx1 rfl ?_
 intro w1 S1 p2 h
 refine zp1 rfl (zNSSR (zp1 rfl (qb ?_)))
 obtain ⟨o1, hF, hK1⟩ := qd hF
 refine qA (qW [(0, _), (3, _), (4, _)] ⟨rfl, rfl, rfl, trivial⟩ ?_)
 refine qG (fun m e w' => ∃ (S2 : Nat → Prop) (x2 : (List qah)) (i1 : Int), qej a m x2 i1 = some o1 ∧ e = [(0, .slice p1 a.length k1), (3, .slice p2 x1.length x1.length), (4, .int .i64 i1)] ∧ SH w w' [Ch.own S2 (x2 : List qah) [.slice p2 x1.length x1.length]]) n ⟨_, _, _, hF, rfl, h⟩ ?_
 rintro m1 e1 w2 ⟨S2, x2, i1, hF, rfl, h⟩
 rcases m1 with _ | m1
 ·rw [qej] at hF
  cases hF
 rw [qej] at hF
 refine zSSR (zp4 rfl (qb ?_))
 refine qp rfl hF ?_ ?_ <;> intro hF
 ·refine zKSBR (zp4 rfl ?_)
  obtain ⟨y1, hy1, hF⟩ := qd hF
  have he1 := qg hy1
  obtain ⟨b1, o_1, q1, cs2, hp1, hq1, -, hr1, hc2⟩ := s1.at hy1
  obtain ⟨p3, k2, p4, k3, rfl, s2, s3⟩ := qaD hr1
  refine zxe hp1 hq1 he1 rfl (zc 0 (hc2.below h.below) rfl ?_)
  obtain ⟨r1, hr2, hF⟩ := qd hF
  refine qfq r1 h call199 (qm7 (qf5 y1 (h.oldS s2) (h.oldS s3)) hr2) rfl rfl rfl rfl ?_
  intro w3 S3 cs3 h
  obtain ⟨p5, k4, p6, k5, rfl, -, -⟩ := qaD (h.own 0 rfl)
  obtain ⟨y2, hy2, hF⟩ := qd hF
  have he2 := qg hy2
  replace h := h.lrn0 1 rfl
  obtain ⟨b2, o_2, q2, cs4, hp2, hq2, -, hr3, hc3⟩ := (qif (h.lrnO 1 rfl)).1.at hy2
  have hr4 := hr3
  obtain ⟨p7, k6, p8, k7, rfl, s6, s7⟩ := qaD hr3
  replace h := h.lrnAdd 1 rfl hr4
  refine zx hp2 hq2 ⟨he2.1, qa8 he2.2.1 (qif (h.lrnO 1 rfl)).2⟩ rfl ?_
  replace h := h.unlrn 1 rfl
  refine qi7 qc r1 h hy2 hp2 hq2 rfl rfl rfl rfl rfl ?_
  intro w4 S4 h
  exact zNER (zp3 rfl (qb (qy m1 [(0, _), (3, _), (4, _)] (Nat.lt_succ_self m1) ⟨rfl, rfl, rfl, trivial⟩ ⟨_, _, _, hF, rfl, h⟩)))
 refine qF rfl ?_
 obtain rfl := qj hF; replace hF := hK1
 refine zSR (zp2 rfl (qb ?_))
 obtain rfl := qj hF
 exact qad qc (ρ := (List qah)) [GoT.v (List qah) [.slice p2 x1.length x1.length]] h ⟨rfl, trivial⟩ (PV.done h (qai (qaB 0 h rfl)))

def qgO (n : Nat) (a : qE) : Option qE :=
 (qhZ n a.Pins).bind fun r1 =>
 (qhW n a.Arcs).bind fun r2 =>
 (qaM n a.Truth).bind fun r3 =>
 some (⟨a.Name, a.Kind, r1, r2, r3, a.Leak, a.Energy⟩ : qE)

theorem qmA {n : Nat} {w : World} {a : qE} {cs1 : List Value} (ha1 : GoT.R w (old w) a cs1) {r : qE} (hF : qgO n a = some r) : RetV Tryz.prog 125 [GoT.v qE cs1] w r := by
 obtain ⟨p1, k1, p2, k2, p3, k3, rfl, s1, s2, s3⟩ := qaa ha1
 refine qf Tryz.func125 rfl (m := 29) rfl rfl (fun h => ?_)
 rw [qgO] at hF
 refine zSR (qP h rfl rfl ?_)
 intro w1 bb1 h
 refine qT qc h rfl rfl rfl ?_
 intro w2 bb2 h
 refine zNSR (qT qc h rfl rfl rfl ?_)
 intro w3 bb3 h
 refine zNSR (zp1 rfl (zl 2 0 h rfl (zp1 rfl (zs 0 h rfl ?_))))
 intro w4 h
 refine zNSR (zp1 rfl (zl 2 1 h rfl (zp1 rfl (zs 0 h rfl ?_))))
 intro w5 h
 replace h : SH _ _ [Ch.box bb3 [.string a.Name, .int .i64 a.Kind, .slice none 0 0, .slice none 0 0, .slice none 0 0, .int .i64 0, .int .i64 0] 183, Ch.box bb2 [.string ByteArray.empty, .int .i64 0, .slice none 0 0, .slice none 0 0, .slice none 0 0, .int .i64 0, .int .i64 0] 183, Ch.box bb1 [.string a.Name, .int .i64 a.Kind, .slice p1 a.Pins.length k1, .slice p2 a.Arcs.length k2, .slice p3 a.Truth.length k3, .int .i64 a.Leak, .int .i64 a.Energy] 171] := h
 refine zNSR (zp1 rfl (zl 2 2 h rfl ?_))
 obtain ⟨r1, hr1, hF⟩ := qd hF
 refine qap r1 h call171 (qmr ⟨_, _, rfl, (h.oldS s1)⟩ hr1) rfl rfl rfl rfl ?_
 intro w6 S1 p4 k4 h
 refine zp1 rfl (zs 1 h rfl ?_)
 intro w7 h
 refine zNSR (zp1 rfl (zl 3 3 h rfl ?_))
 obtain ⟨r2, hr2, hF⟩ := qd hF
 refine qap r2 h call172 (qmx ⟨_, _, rfl, (h.oldS s2)⟩ hr2) rfl rfl rfl rfl ?_
 intro w8 S2 p5 k5 h
 refine zp1 rfl (zs 2 h rfl ?_)
 intro w9 h
 replace h : SH _ _ [Ch.own S2 (r2 : List qah) [.slice p5 r2.length k5], Ch.own S1 (r1 : List qaC) [.slice p4 r1.length k4], Ch.box bb3 [.string a.Name, .int .i64 a.Kind, .slice p4 r1.length k4, .slice p5 r2.length k5, .slice none 0 0, .int .i64 0, .int .i64 0] 183, Ch.box bb2 [.string ByteArray.empty, .int .i64 0, .slice none 0 0, .slice none 0 0, .slice none 0 0, .int .i64 0, .int .i64 0] 183, Ch.box bb1 [.string a.Name, .int .i64 a.Kind, .slice p1 a.Pins.length k1, .slice p2 a.Arcs.length k2, .slice p3 a.Truth.length k3, .int .i64 a.Leak, .int .i64 a.Energy] 171] := h
 refine zNSR (zp1 rfl (zl 4 4 h rfl ?_))
 obtain ⟨r3, hr3, hF⟩ := qd hF
 refine qap r3 h call14 (qaK ⟨_, _, rfl, (h.oldS s3)⟩ hr3) rfl rfl rfl rfl ?_
 intro w10 S3 p6 k6 h
 refine zp1 rfl (zs 3 h rfl ?_)
 intro w11 h
 refine zNSR (zp1 rfl (zl 5 5 h rfl (zp1 rfl (zs 3 h rfl ?_))))
 intro w12 h
 replace h : SH _ _ [Ch.own S3 (r3 : List Int) [.slice p6 r3.length k6], Ch.own S2 (r2 : List qah) [.slice p5 r2.length k5], Ch.own S1 (r1 : List qaC) [.slice p4 r1.length k4], Ch.box bb3 [.string a.Name, .int .i64 a.Kind, .slice p4 r1.length k4, .slice p5 r2.length k5, .slice p6 r3.length k6, .int .i64 a.Leak, .int .i64 0] 183, Ch.box bb2 [.string ByteArray.empty, .int .i64 0, .slice none 0 0, .slice none 0 0, .slice none 0 0, .int .i64 0, .int .i64 0] 183, Ch.box bb1 [.string a.Name, .int .i64 a.Kind, .slice p1 a.Pins.length k1, .slice p2 a.Arcs.length k2, .slice p3 a.Truth.length k3, .int .i64 a.Leak, .int .i64 a.Energy] 171] := h
 refine zNSR (zp1 rfl (zl 5 6 h rfl (zp1 rfl (zs 3 h rfl ?_))))
 intro w13 h
 refine zNSR (zl 3 0 h rfl (zs 4 h rfl ?_))
 intro w14 h
 replace h : SH _ _ [Ch.own S3 (r3 : List Int) [.slice p6 r3.length k6], Ch.own S2 (r2 : List qah) [.slice p5 r2.length k5], Ch.own S1 (r1 : List qaC) [.slice p4 r1.length k4], Ch.box bb3 [.string a.Name, .int .i64 a.Kind, .slice p4 r1.length k4, .slice p5 r2.length k5, .slice p6 r3.length k6, .int .i64 a.Leak, .int .i64 a.Energy] 183, Ch.box bb2 [.string a.Name, .int .i64 a.Kind, .slice p4 r1.length k4, .slice p5 r2.length k5, .slice p6 r3.length k6, .int .i64 a.Leak, .int .i64 a.Energy] 183, Ch.box bb1 [.string a.Name, .int .i64 a.Kind, .slice p1 a.Pins.length k1, .slice p2 a.Arcs.length k2, .slice p3 a.Truth.length k3, .int .i64 a.Leak, .int .i64 a.Energy] 171] := h
 refine qb ?_
 obtain rfl := qj hF
 exact qad qc (ρ := qE) [GoT.v qE [.string a.Name, .int .i64 a.Kind, .slice p4 r1.length k4, .slice p5 r2.length k5, .slice p6 r3.length k6, .int .i64 a.Leak, .int .i64 a.Energy]] h ⟨⟨_, _, _, rfl, rfl, h.box 4 rfl, rfl⟩, trivial⟩ (PV.done h (qai (qqP (⟨a.Name, a.Kind, r1, r2, r3, a.Leak, a.Energy⟩ : qE) h (qas (S := fun _ => False) rfl) (qas (S := fun _ => False) rfl) (qaB 2 h rfl) (qaB 1 h rfl) (qaB 0 h rfl) (qas (S := fun _ => False) rfl) (qas (S := fun _ => False) rfl) (by rfl) (by rfl) (by rfl) (by rfl) (by rfl) (by rfl))))

def qdZ (a : (List qE)) : Nat → (List qE) → Int → Option ((List qE) × Int)
 | 0, _, _ => none
 | n + 1, x2, i1 =>
  bif decide (i1 < (a.length : Int)) then
   (idx a i1).bind fun y1 =>
   (qgO n y1).bind fun r1 =>
   (idx x2 i1).bind fun _ =>
   qdZ a n (setS x2 i1 r1) (W64 (i1 + 1))
  else
   some (x2, i1)

def qhl (n : Nat) (a : (List qE)) : Option (List qE) :=
 (mkS (a.length : Int) ((⟨ByteArray.empty, 0, [], [], [], 0, 0⟩ : qE) : qE)).bind fun x1 =>
 (qdZ a n x1 0).bind fun o => match o with
 | (x2, _) =>
  some x2

theorem qlQ {n : Nat} {w : World} {a : (List qE)} {cs1 : List Value} (ha1 : GoT.R w (old w) a cs1) {r : (List qE)} (hF : qhl n a = some r) : RetV Tryz.prog 80 [GoT.v (List qE) cs1] w r := by
 obtain ⟨p1, k1, rfl, s1⟩ := ha1
 refine qf Tryz.func80 rfl (m := 23) rfl rfl (fun h => ?_)
 rw [qhl] at hF
 refine zSR (zp1 rfl (zNSR (zp2 rfl ?_)))
 obtain ⟨x1, hx1, hF⟩ := qd hF
 obtain ⟨g1, g2, hx1⟩ := qdH hx1
 refine qeJ qc qE h rfl rfl rfl rfl rfl rfl rfl rfl rfl g1 g2 hx1 rfl ?_
 intro w1 S1 p2 h
 refine zp1 rfl (zNSSR (zp1 rfl (qb ?_)))
 obtain ⟨o1, hF, hK1⟩ := qd hF
 refine qA (qW [(0, _), (3, _), (4, _)] ⟨rfl, rfl, rfl, trivial⟩ ?_)
 refine qG (fun m e w' => ∃ (S2 : Nat → Prop) (x2 : (List qE)) (i1 : Int), qdZ a m x2 i1 = some o1 ∧ e = [(0, .slice p1 a.length k1), (3, .slice p2 x1.length x1.length), (4, .int .i64 i1)] ∧ SH w w' [Ch.own S2 (x2 : List qE) [.slice p2 x1.length x1.length]]) n ⟨_, _, _, hF, rfl, h⟩ ?_
 rintro m1 e1 w2 ⟨S2, x2, i1, hF, rfl, h⟩
 rcases m1 with _ | m1
 ·rw [qdZ] at hF
  cases hF
 rw [qdZ] at hF
 refine zSSR (zp4 rfl (qb ?_))
 refine qp rfl hF ?_ ?_ <;> intro hF
 ·refine zKSBR (zp4 rfl ?_)
  obtain ⟨y1, hy1, hF⟩ := qd hF
  have he1 := qg hy1
  obtain ⟨b1, o_1, q1, cs2, hp1, hq1, -, hr1, hc2⟩ := s1.at hy1
  obtain ⟨p3, k2, p4, k3, p5, k4, rfl, s2, s3, s4⟩ := qaa hr1
  refine zxe hp1 hq1 he1 rfl (zc 0 (hc2.below h.below) rfl ?_)
  obtain ⟨r1, hr2, hF⟩ := qd hF
  refine qfq r1 h call125 (qmA (qgW y1 (h.oldS s2) (h.oldS s3) (h.oldS s4)) hr2) rfl rfl rfl rfl ?_
  intro w3 S3 cs3 h
  obtain ⟨p6, k5, p7, k6, p8, k7, rfl, -, -, -⟩ := qaa (h.own 0 rfl)
  obtain ⟨y2, hy2, hF⟩ := qd hF
  have he2 := qg hy2
  replace h := h.lrn0 1 rfl
  obtain ⟨b2, o_2, q2, cs4, hp2, hq2, -, hr3, hc3⟩ := (qif (h.lrnO 1 rfl)).1.at hy2
  have hr4 := hr3
  obtain ⟨p9, k8, p10, k9, p11, k10, rfl, s8, s9, s10⟩ := qaa hr3
  replace h := h.lrnAdd 1 rfl hr4
  refine zx hp2 hq2 ⟨he2.1, qa8 he2.2.1 (qif (h.lrnO 1 rfl)).2⟩ rfl ?_
  replace h := h.unlrn 1 rfl
  refine qi7 qc r1 h hy2 hp2 hq2 rfl rfl rfl rfl rfl ?_
  intro w4 S4 h
  exact zNER (zp3 rfl (qb (qy m1 [(0, _), (3, _), (4, _)] (Nat.lt_succ_self m1) ⟨rfl, rfl, rfl, trivial⟩ ⟨_, _, _, hF, rfl, h⟩)))
 refine qF rfl ?_
 obtain rfl := qj hF; replace hF := hK1
 refine zSR (zp2 rfl (qb ?_))
 obtain rfl := qj hF
 exact qad qc (ρ := (List qE)) [GoT.v (List qE) [.slice p2 x1.length x1.length]] h ⟨rfl, trivial⟩ (PV.done h (qai (qaB 0 h rfl)))

def qfZ (n : Nat) (a : qw) : Option qw :=
 (qhl n a.Cells).bind fun r1 =>
 some (⟨r1⟩ : qw)

theorem qk3 {n : Nat} {w : World} {a : qw} {cs1 : List Value} (ha1 : GoT.R w (old w) a cs1) {r : qw} (hF : qfZ n a = some r) : RetV Tryz.prog 44 [GoT.v qw cs1] w r := by
 obtain ⟨p1, k1, rfl, s1⟩ := qbB ha1
 refine qf Tryz.func44 rfl (m := 9) rfl rfl (fun h => ?_)
 rw [qfZ] at hF
 refine zSR (qP h rfl rfl ?_)
 intro w1 bb1 h
 refine qT qc h rfl rfl rfl ?_
 intro w2 bb2 h
 refine zNSR (qT qc h rfl rfl rfl ?_)
 intro w3 bb3 h
 refine zNSR (zp1 rfl (zl 2 0 h rfl ?_))
 obtain ⟨r1, hr1, hF⟩ := qd hF
 refine qap r1 h call80 (qlQ ⟨_, _, rfl, (h.oldS s1)⟩ hr1) rfl rfl rfl rfl ?_
 intro w4 S1 p2 k2 h
 refine zp1 rfl (zs 1 h rfl ?_)
 intro w5 h
 refine zNSR (zl 1 0 h rfl (zs 2 h rfl ?_))
 intro w6 h
 replace h : SH _ _ [Ch.own S1 (r1 : List qE) [.slice p2 r1.length k2], Ch.box bb3 [.slice p2 r1.length k2] 43, Ch.box bb2 [.slice p2 r1.length k2] 43, Ch.box bb1 [.slice p1 a.Cells.length k1] 24] := h
 refine qb ?_
 obtain rfl := qj hF
 exact qad qc (ρ := qw) [GoT.v qw [.slice p2 r1.length k2]] h ⟨⟨_, _, _, rfl, rfl, h.box 2 rfl, rfl⟩, trivial⟩ (PV.done h (qai (qoe (⟨r1⟩ : qw) h (qaB 0 h rfl))))

def qeG (n : Nat) (a : qr) : Option qr :=
 (qaM n a.Nets).bind fun r1 =>
 some (⟨a.Name, a.Cell, r1⟩ : qr)

theorem qky {n : Nat} {w : World} {a : qr} {cs1 : List Value} (ha1 : GoT.R w (old w) a cs1) {r : qr} (hF : qeG n a = some r) : RetV Tryz.prog 126 [GoT.v qr cs1] w r := by
 obtain ⟨p1, k1, rfl, s1⟩ := qab ha1
 refine qf Tryz.func126 rfl (m := 15) rfl rfl (fun h => ?_)
 rw [qeG] at hF
 refine zSR (qP h rfl rfl ?_)
 intro w1 bb1 h
 refine qT qc h rfl rfl rfl ?_
 intro w2 bb2 h
 refine zNSR (qT qc h rfl rfl rfl ?_)
 intro w3 bb3 h
 refine zNSR (zp1 rfl (zl 2 0 h rfl (zp1 rfl (zs 0 h rfl ?_))))
 intro w4 h
 refine zNSR (zp1 rfl (zl 2 1 h rfl (zp1 rfl (zs 0 h rfl ?_))))
 intro w5 h
 replace h : SH _ _ [Ch.box bb3 [.string a.Name, .int .i64 a.Cell, .slice none 0 0] 185, Ch.box bb2 [.string ByteArray.empty, .int .i64 0, .slice none 0 0] 185, Ch.box bb1 [.string a.Name, .int .i64 a.Cell, .slice p1 a.Nets.length k1] 174] := h
 refine zNSR (zp1 rfl (zl 2 2 h rfl ?_))
 obtain ⟨r1, hr1, hF⟩ := qd hF
 refine qap r1 h call14 (qaK ⟨_, _, rfl, (h.oldS s1)⟩ hr1) rfl rfl rfl rfl ?_
 intro w6 S1 p2 k2 h
 refine zp1 rfl (zs 1 h rfl ?_)
 intro w7 h
 refine zNSR (zl 1 0 h rfl (zs 2 h rfl ?_))
 intro w8 h
 replace h : SH _ _ [Ch.own S1 (r1 : List Int) [.slice p2 r1.length k2], Ch.box bb3 [.string a.Name, .int .i64 a.Cell, .slice p2 r1.length k2] 185, Ch.box bb2 [.string a.Name, .int .i64 a.Cell, .slice p2 r1.length k2] 185, Ch.box bb1 [.string a.Name, .int .i64 a.Cell, .slice p1 a.Nets.length k1] 174] := h
 refine qb ?_
 obtain rfl := qj hF
 exact qad qc (ρ := qr) [GoT.v qr [.string a.Name, .int .i64 a.Cell, .slice p2 r1.length k2]] h ⟨⟨_, _, _, rfl, rfl, h.box 2 rfl, rfl⟩, trivial⟩ (PV.done h (qai (qnT (⟨a.Name, a.Cell, r1⟩ : qr) h (qas (S := fun _ => False) rfl) (qas (S := fun _ => False) rfl) (qaB 0 h rfl) (by rfl) (by rfl))))

def qco (a : (List qr)) : Nat → (List qr) → Int → Option ((List qr) × Int)
 | 0, _, _ => none
 | n + 1, x2, i1 =>
  bif decide (i1 < (a.length : Int)) then
   (idx a i1).bind fun y1 =>
   (qeG n y1).bind fun r1 =>
   (idx x2 i1).bind fun _ =>
   qco a n (setS x2 i1 r1) (W64 (i1 + 1))
  else
   some (x2, i1)

def qfd (n : Nat) (a : (List qr)) : Option (List qr) :=
 (mkS (a.length : Int) ((⟨ByteArray.empty, 0, []⟩ : qr) : qr)).bind fun x1 =>
 (qco a n x1 0).bind fun o => match o with
 | (x2, _) =>
  some x2

theorem qkn {n : Nat} {w : World} {a : (List qr)} {cs1 : List Value} (ha1 : GoT.R w (old w) a cs1) {r : (List qr)} (hF : qfd n a = some r) : RetV Tryz.prog 81 [GoT.v (List qr) cs1] w r := by
 obtain ⟨p1, k1, rfl, s1⟩ := ha1
 refine qf Tryz.func81 rfl (m := 23) rfl rfl (fun h => ?_)
 rw [qfd] at hF
 refine zSR (zp1 rfl (zNSR (zp2 rfl ?_)))
 obtain ⟨x1, hx1, hF⟩ := qd hF
 obtain ⟨g1, g2, hx1⟩ := qdH hx1
 refine qeJ qc qr h rfl rfl rfl rfl rfl rfl rfl rfl rfl g1 g2 hx1 rfl ?_
 intro w1 S1 p2 h
 refine zp1 rfl (zNSSR (zp1 rfl (qb ?_)))
 obtain ⟨o1, hF, hK1⟩ := qd hF
 refine qA (qW [(0, _), (3, _), (4, _)] ⟨rfl, rfl, rfl, trivial⟩ ?_)
 refine qG (fun m e w' => ∃ (S2 : Nat → Prop) (x2 : (List qr)) (i1 : Int), qco a m x2 i1 = some o1 ∧ e = [(0, .slice p1 a.length k1), (3, .slice p2 x1.length x1.length), (4, .int .i64 i1)] ∧ SH w w' [Ch.own S2 (x2 : List qr) [.slice p2 x1.length x1.length]]) n ⟨_, _, _, hF, rfl, h⟩ ?_
 rintro m1 e1 w2 ⟨S2, x2, i1, hF, rfl, h⟩
 rcases m1 with _ | m1
 ·rw [qco] at hF
  cases hF
 rw [qco] at hF
 refine zSSR (zp4 rfl (qb ?_))
 refine qp rfl hF ?_ ?_ <;> intro hF
 ·refine zKSBR (zp4 rfl ?_)
  obtain ⟨y1, hy1, hF⟩ := qd hF
  have he1 := qg hy1
  obtain ⟨b1, o_1, q1, cs2, hp1, hq1, -, hr1, hc2⟩ := s1.at hy1
  obtain ⟨p3, k2, rfl, s2⟩ := qab hr1
  refine zxe hp1 hq1 he1 rfl (zc 0 (hc2.below h.below) rfl ?_)
  obtain ⟨r1, hr2, hF⟩ := qd hF
  refine qfq r1 h call126 (qky (qfI y1 (h.oldS s2)) hr2) rfl rfl rfl rfl ?_
  intro w3 S3 cs3 h
  obtain ⟨p4, k3, rfl, -⟩ := qab (h.own 0 rfl)
  obtain ⟨y2, hy2, hF⟩ := qd hF
  have he2 := qg hy2
  replace h := h.lrn0 1 rfl
  obtain ⟨b2, o_2, q2, cs4, hp2, hq2, -, hr3, hc3⟩ := (qif (h.lrnO 1 rfl)).1.at hy2
  have hr4 := hr3
  obtain ⟨p5, k4, rfl, s4⟩ := qab hr3
  replace h := h.lrnAdd 1 rfl hr4
  refine zx hp2 hq2 ⟨he2.1, qa8 he2.2.1 (qif (h.lrnO 1 rfl)).2⟩ rfl ?_
  replace h := h.unlrn 1 rfl
  refine qi7 qc r1 h hy2 hp2 hq2 rfl rfl rfl rfl rfl ?_
  intro w4 S4 h
  exact zNER (zp3 rfl (qb (qy m1 [(0, _), (3, _), (4, _)] (Nat.lt_succ_self m1) ⟨rfl, rfl, rfl, trivial⟩ ⟨_, _, _, hF, rfl, h⟩)))
 refine qF rfl ?_
 obtain rfl := qj hF; replace hF := hK1
 refine zSR (zp2 rfl (qb ?_))
 obtain rfl := qj hF
 exact qad qc (ρ := (List qr)) [GoT.v (List qr) [.slice p2 x1.length x1.length]] h ⟨rfl, trivial⟩ (PV.done h (qai (qaB 0 h rfl)))

def qc1 (a : (List ByteArray)) : Nat → (List ByteArray) → Int → Option ((List ByteArray) × Int)
 | 0, _, _ => none
 | n + 1, x2, i1 =>
  bif decide (i1 < (a.length : Int)) then
   (idx a i1).bind fun y1 =>
   (idx x2 i1).bind fun _ =>
   qc1 a n (setS x2 i1 y1) (W64 (i1 + 1))
  else
   some (x2, i1)

def qfV (n : Nat) (a : (List ByteArray)) : Option (List ByteArray) :=
 (mkS (a.length : Int) (ByteArray.empty : ByteArray)).bind fun x1 =>
 (qc1 a n x1 0).bind fun o => match o with
 | (x2, _) =>
  some x2

theorem qkP {n : Nat} {w : World} {a : (List ByteArray)} {cs1 : List Value} (ha1 : GoT.R w (old w) a cs1) {r : (List ByteArray)} (hF : qfV n a = some r) : RetV Tryz.prog 82 [GoT.v (List ByteArray) cs1] w r := by
 obtain ⟨p1, k1, rfl, s1⟩ := ha1
 refine qf Tryz.func82 rfl (m := 22) rfl rfl (fun h => ?_)
 rw [qfV] at hF
 refine zSR (zp1 rfl (zNSR (zp2 rfl ?_)))
 obtain ⟨x1, hx1, hF⟩ := qd hF
 obtain ⟨g1, g2, hx1⟩ := qdH hx1
 refine qeJ qc ByteArray h rfl rfl rfl rfl rfl rfl rfl rfl rfl g1 g2 hx1 rfl ?_
 intro w1 S1 p2 h
 refine zp1 rfl (zNSSR (zp1 rfl (qb ?_)))
 obtain ⟨o1, hF, hK1⟩ := qd hF
 refine qA (qW [(0, _), (3, _), (4, _)] ⟨rfl, rfl, rfl, trivial⟩ ?_)
 refine qG (fun m e w' => ∃ (x2 : (List ByteArray)) (i1 : Int), qc1 a m x2 i1 = some o1 ∧ e = [(0, .slice p1 a.length k1), (3, .slice p2 x1.length x1.length), (4, .int .i64 i1)] ∧ SH w w' [Ch.own S1 (x2 : List ByteArray) [.slice p2 x1.length x1.length]]) n ⟨_, _, hF, rfl, h⟩ ?_
 rintro m1 e1 w2 ⟨x2, i1, hF, rfl, h⟩
 rcases m1 with _ | m1
 ·rw [qc1] at hF
  cases hF
 rw [qc1] at hF
 refine zSSR (zp4 rfl (qb ?_))
 refine qp rfl hF ?_ ?_ <;> intro hF
 ·refine zKSBR (zp4 rfl ?_)
  obtain ⟨y1, hy1, hF⟩ := qd hF
  have he1 := qg hy1
  obtain ⟨b1, o_1, q1, cs2, hp1, hq1, -, hr1, hc2⟩ := s1.at hy1
  obtain rfl := hr1
  refine zxe hp1 hq1 he1 rfl (zc 0 (hc2.below h.below) rfl ?_)
  obtain ⟨y2, hy2, hF⟩ := qd hF
  have he2 := qg hy2
  obtain ⟨b2, o_2, q2, cs3, hp2, hq2, -, hr2, hc3⟩ := (h.sl 0 rfl).1.at hy2
  obtain rfl := hr2
  refine zx hp2 hq2 ⟨he2.1, qa8 he2.2.1 (h.sl 0 rfl).2⟩ rfl (qfQ qc 0 0 y1 h rfl hy2 hp2 hq2 rfl hc3 rfl rfl rfl rfl rfl rfl rfl ?_)
  intro w3 h
  exact zNER (zp3 rfl (qb (qy m1 [(0, _), (3, _), (4, _)] (Nat.lt_succ_self m1) ⟨rfl, rfl, rfl, trivial⟩ ⟨_, _, hF, rfl, h⟩)))
 refine qF rfl ?_
 obtain rfl := qj hF; replace hF := hK1
 refine zSR (zp2 rfl (qb ?_))
 obtain rfl := qj hF
 exact qad qc (ρ := (List ByteArray)) [GoT.v (List ByteArray) [.slice p2 x1.length x1.length]] h ⟨rfl, trivial⟩ (PV.done h (qai (qaB 0 h rfl)))

def qgY (_ : Nat) (a : qaw) : Option qaw :=
 some (⟨a.Name, a.Dir, a.Net⟩ : qaw)

theorem qmu {n : Nat} {w : World} {a : qaw} {cs1 : List Value} (ha1 : GoT.R w (old w) a cs1) {r : qaw} (hF : qgY n a = some r) : RetV Tryz.prog 127 [GoT.v qaw cs1] w r := by
 obtain rfl := qbz ha1
 refine qf Tryz.func127 rfl (m := 14) rfl rfl (fun h => ?_)
 rw [qgY] at hF
 refine zSR (qP h rfl rfl ?_)
 intro w1 bb1 h
 refine qT qc h rfl rfl rfl ?_
 intro w2 bb2 h
 refine zNSR (qT qc h rfl rfl rfl ?_)
 intro w3 bb3 h
 refine zNSR (zp1 rfl (zl 2 0 h rfl (zp1 rfl (zs 0 h rfl ?_))))
 intro w4 h
 refine zNSR (zp1 rfl (zl 2 1 h rfl (zp1 rfl (zs 0 h rfl ?_))))
 intro w5 h
 replace h : SH _ _ [Ch.box bb3 [.string a.Name, .int .i64 a.Dir, .int .i64 0] 187, Ch.box bb2 [.string ByteArray.empty, .int .i64 0, .int .i64 0] 187, Ch.box bb1 [.string a.Name, .int .i64 a.Dir, .int .i64 a.Net] 177] := h
 refine zNSR (zp1 rfl (zl 2 2 h rfl (zp1 rfl (zs 0 h rfl ?_))))
 intro w6 h
 refine zNSR (zl 0 0 h rfl (zs 1 h rfl ?_))
 intro w7 h
 replace h : SH _ _ [Ch.box bb3 [.string a.Name, .int .i64 a.Dir, .int .i64 a.Net] 187, Ch.box bb2 [.string a.Name, .int .i64 a.Dir, .int .i64 a.Net] 187, Ch.box bb1 [.string a.Name, .int .i64 a.Dir, .int .i64 a.Net] 177] := h
 refine qb ?_
 obtain rfl := qj hF
 exact qad qc (ρ := qaw) [GoT.v qaw [.string a.Name, .int .i64 a.Dir, .int .i64 a.Net]] h ⟨⟨_, _, _, rfl, rfl, h.box 1 rfl, rfl⟩, trivial⟩ (PV.done h (qai (qas (S := fun _ => False) (qhF (⟨a.Name, a.Dir, a.Net⟩ : qaw)))))

def qdX (a : (List qaw)) : Nat → (List qaw) → Int → Option ((List qaw) × Int)
 | 0, _, _ => none
 | n + 1, x2, i1 =>
  bif decide (i1 < (a.length : Int)) then
   (idx a i1).bind fun y1 =>
   (qgY n y1).bind fun r1 =>
   (idx x2 i1).bind fun _ =>
   qdX a n (setS x2 i1 r1) (W64 (i1 + 1))
  else
   some (x2, i1)

def qha (n : Nat) (a : (List qaw)) : Option (List qaw) :=
 (mkS (a.length : Int) ((⟨ByteArray.empty, 0, 0⟩ : qaw) : qaw)).bind fun x1 =>
 (qdX a n x1 0).bind fun o => match o with
 | (x2, _) =>
  some x2

theorem qlR {n : Nat} {w : World} {a : (List qaw)} {cs1 : List Value} (ha1 : GoT.R w (old w) a cs1) {r : (List qaw)} (hF : qha n a = some r) : RetV Tryz.prog 83 [GoT.v (List qaw) cs1] w r := by
 obtain ⟨p1, k1, rfl, s1⟩ := ha1
 refine qf Tryz.func83 rfl (m := 23) rfl rfl (fun h => ?_)
 rw [qha] at hF
 refine zSR (zp1 rfl (zNSR (zp2 rfl ?_)))
 obtain ⟨x1, hx1, hF⟩ := qd hF
 obtain ⟨g1, g2, hx1⟩ := qdH hx1
 refine qeJ qc qaw h rfl rfl rfl rfl rfl rfl rfl rfl rfl g1 g2 hx1 rfl ?_
 intro w1 S1 p2 h
 refine zp1 rfl (zNSSR (zp1 rfl (qb ?_)))
 obtain ⟨o1, hF, hK1⟩ := qd hF
 refine qA (qW [(0, _), (3, _), (4, _)] ⟨rfl, rfl, rfl, trivial⟩ ?_)
 refine qG (fun m e w' => ∃ (x2 : (List qaw)) (i1 : Int), qdX a m x2 i1 = some o1 ∧ e = [(0, .slice p1 a.length k1), (3, .slice p2 x1.length x1.length), (4, .int .i64 i1)] ∧ SH w w' [Ch.own S1 (x2 : List qaw) [.slice p2 x1.length x1.length]]) n ⟨_, _, hF, rfl, h⟩ ?_
 rintro m1 e1 w2 ⟨x2, i1, hF, rfl, h⟩
 rcases m1 with _ | m1
 ·rw [qdX] at hF
  cases hF
 rw [qdX] at hF
 refine zSSR (zp4 rfl (qb ?_))
 refine qp rfl hF ?_ ?_ <;> intro hF
 ·refine zKSBR (zp4 rfl ?_)
  obtain ⟨y1, hy1, hF⟩ := qd hF
  have he1 := qg hy1
  obtain ⟨b1, o_1, q1, cs2, hp1, hq1, -, hr1, hc2⟩ := s1.at hy1
  obtain rfl := qbz hr1
  refine zxe hp1 hq1 he1 rfl (zc 0 (hc2.below h.below) rfl ?_)
  obtain ⟨r1, hr2, hF⟩ := qd hF
  refine qfq r1 h call127 (qmu (qhF y1) hr2) rfl rfl rfl rfl ?_
  intro w3 S2 cs3 h
  obtain rfl := qbz (h.own 0 rfl)
  obtain ⟨y2, hy2, hF⟩ := qd hF
  have he2 := qg hy2
  obtain ⟨b2, o_2, q2, cs4, hp2, hq2, -, hr3, hc3⟩ := (h.sl 1 rfl).1.at hy2
  obtain rfl := qbz hr3
  refine zx hp2 hq2 ⟨he2.1, qa8 he2.2.1 (h.sl 1 rfl).2⟩ rfl (qfQ qc 1 0 r1 h rfl hy2 hp2 hq2 (qhF y2) hc3 rfl rfl rfl (qhF r1) rfl rfl rfl ?_)
  intro w4 h
  refine zNER (zp3 rfl (qb ?_))
  replace h := h.pick [1] rfl
  exact qy m1 [(0, _), (3, _), (4, _)] (Nat.lt_succ_self m1) ⟨rfl, rfl, rfl, trivial⟩ ⟨_, _, hF, rfl, h⟩
 refine qF rfl ?_
 obtain rfl := qj hF; replace hF := hK1
 refine zSR (zp2 rfl (qb ?_))
 obtain rfl := qj hF
 exact qad qc (ρ := (List qaw)) [GoT.v (List qaw) [.slice p2 x1.length x1.length]] h ⟨rfl, trivial⟩ (PV.done h (qai (qaB 0 h rfl)))

def qgv (n : Nat) (a : ql) : Option ql :=
 (qfd n a.Instances).bind fun r1 =>
 (qfV n a.Nets).bind fun r2 =>
 (qha n a.Ports).bind fun r3 =>
 some (⟨r1, r2, r3⟩ : ql)

theorem qlf {n : Nat} {w : World} {a : ql} {cs1 : List Value} (ha1 : GoT.R w (old w) a cs1) {r : ql} (hF : qgv n a = some r) : RetV Tryz.prog 45 [GoT.v ql cs1] w r := by
 obtain ⟨p1, k1, p2, k2, p3, k3, rfl, s1, s2, s3⟩ := qaz ha1
 refine qf Tryz.func45 rfl (m := 17) rfl rfl (fun h => ?_)
 rw [qgv] at hF
 refine zSR (qP h rfl rfl ?_)
 intro w1 bb1 h
 refine qT qc h rfl rfl rfl ?_
 intro w2 bb2 h
 refine zNSR (qT qc h rfl rfl rfl ?_)
 intro w3 bb3 h
 refine zNSR (zp1 rfl (zl 2 0 h rfl ?_))
 obtain ⟨r1, hr1, hF⟩ := qd hF
 refine qap r1 h call81 (qkn ⟨_, _, rfl, (h.oldS s1)⟩ hr1) rfl rfl rfl rfl ?_
 intro w4 S1 p4 k4 h
 refine zp1 rfl (zs 1 h rfl ?_)
 intro w5 h
 refine zNSR (zp1 rfl (zl 3 1 h rfl ?_))
 obtain ⟨r2, hr2, hF⟩ := qd hF
 refine qap r2 h call82 (qkP ⟨_, _, rfl, (h.oldS s2)⟩ hr2) rfl rfl rfl rfl ?_
 intro w6 S2 p5 k5 h
 refine zp1 rfl (zs 2 h rfl ?_)
 intro w7 h
 replace h : SH _ _ [Ch.own S2 (r2 : List ByteArray) [.slice p5 r2.length k5], Ch.own S1 (r1 : List qr) [.slice p4 r1.length k4], Ch.box bb3 [.slice p4 r1.length k4, .slice p5 r2.length k5, .slice none 0 0] 47, Ch.box bb2 [.slice none 0 0, .slice none 0 0, .slice none 0 0] 47, Ch.box bb1 [.slice p1 a.Instances.length k1, .slice p2 a.Nets.length k2, .slice p3 a.Ports.length k3] 29] := h
 refine zNSR (zp1 rfl (zl 4 2 h rfl ?_))
 obtain ⟨r3, hr3, hF⟩ := qd hF
 refine qap r3 h call83 (qlR ⟨_, _, rfl, (h.oldS s3)⟩ hr3) rfl rfl rfl rfl ?_
 intro w8 S3 p6 k6 h
 refine zp1 rfl (zs 3 h rfl ?_)
 intro w9 h
 refine zNSR (zl 3 0 h rfl (zs 4 h rfl ?_))
 intro w10 h
 replace h : SH _ _ [Ch.own S3 (r3 : List qaw) [.slice p6 r3.length k6], Ch.own S2 (r2 : List ByteArray) [.slice p5 r2.length k5], Ch.own S1 (r1 : List qr) [.slice p4 r1.length k4], Ch.box bb3 [.slice p4 r1.length k4, .slice p5 r2.length k5, .slice p6 r3.length k6] 47, Ch.box bb2 [.slice p4 r1.length k4, .slice p5 r2.length k5, .slice p6 r3.length k6] 47, Ch.box bb1 [.slice p1 a.Instances.length k1, .slice p2 a.Nets.length k2, .slice p3 a.Ports.length k3] 29] := h
 refine qb ?_
 obtain rfl := qj hF
 exact qad qc (ρ := ql) [GoT.v ql [.slice p4 r1.length k4, .slice p5 r2.length k5, .slice p6 r3.length k6]] h ⟨⟨_, _, _, rfl, rfl, h.box 4 rfl, rfl⟩, trivial⟩ (PV.done h (qai (qpb (⟨r1, r2, r3⟩ : ql) h (qaB 2 h rfl) (qaB 1 h rfl) (qaB 0 h rfl) (by rfl) (by rfl))))

def qgP (n : Nat) (a : qaj) : Option qaj :=
 (qaM n a.Parent).bind fun r1 =>
 (qaM n a.Res).bind fun r2 =>
 (qaM n a.Cap).bind fun r3 =>
 (qaM n a.Sink).bind fun r4 =>
 some (⟨r1, r2, r3, r4⟩ : qaj)

theorem qmB {n : Nat} {w : World} {a : qaj} {cs1 : List Value} (ha1 : GoT.R w (old w) a cs1) {r : qaj} (hF : qgP n a = some r) : RetV Tryz.prog 84 [GoT.v qaj cs1] w r := by
 obtain ⟨p1, k1, p2, k2, p3, k3, p4, k4, rfl, s1, s2, s3, s4⟩ := qbU ha1
 refine qf Tryz.func84 rfl (m := 21) rfl rfl (fun h => ?_)
 rw [qgP] at hF
 refine zSR (qP h rfl rfl ?_)
 intro w1 bb1 h
 refine qT qc h rfl rfl rfl ?_
 intro w2 bb2 h
 refine zNSR (qT qc h rfl rfl rfl ?_)
 intro w3 bb3 h
 refine zNSR (zp1 rfl (zl 2 0 h rfl ?_))
 obtain ⟨r1, hr1, hF⟩ := qd hF
 refine qap r1 h call14 (qaK ⟨_, _, rfl, (h.oldS s1)⟩ hr1) rfl rfl rfl rfl ?_
 intro w4 S1 p5 k5 h
 refine zp1 rfl (zs 1 h rfl ?_)
 intro w5 h
 refine zNSR (zp1 rfl (zl 3 1 h rfl ?_))
 obtain ⟨r2, hr2, hF⟩ := qd hF
 refine qap r2 h call14 (qaK ⟨_, _, rfl, (h.oldS s2)⟩ hr2) rfl rfl rfl rfl ?_
 intro w6 S2 p6 k6 h
 refine zp1 rfl (zs 2 h rfl ?_)
 intro w7 h
 replace h : SH _ _ [Ch.own S2 (r2 : List Int) [.slice p6 r2.length k6], Ch.own S1 (r1 : List Int) [.slice p5 r1.length k5], Ch.box bb3 [.slice p5 r1.length k5, .slice p6 r2.length k6, .slice none 0 0, .slice none 0 0] 130, Ch.box bb2 [.slice none 0 0, .slice none 0 0, .slice none 0 0, .slice none 0 0] 130, Ch.box bb1 [.slice p1 a.Parent.length k1, .slice p2 a.Res.length k2, .slice p3 a.Cap.length k3, .slice p4 a.Sink.length k4] 122] := h
 refine zNSR (zp1 rfl (zl 4 2 h rfl ?_))
 obtain ⟨r3, hr3, hF⟩ := qd hF
 refine qap r3 h call14 (qaK ⟨_, _, rfl, (h.oldS s3)⟩ hr3) rfl rfl rfl rfl ?_
 intro w8 S3 p7 k7 h
 refine zp1 rfl (zs 3 h rfl ?_)
 intro w9 h
 refine zNSR (zp1 rfl (zl 5 3 h rfl ?_))
 obtain ⟨r4, hr4, hF⟩ := qd hF
 refine qap r4 h call14 (qaK ⟨_, _, rfl, (h.oldS s4)⟩ hr4) rfl rfl rfl rfl ?_
 intro w10 S4 p8 k8 h
 refine zp1 rfl (zs 4 h rfl ?_)
 intro w11 h
 replace h : SH _ _ [Ch.own S4 (r4 : List Int) [.slice p8 r4.length k8], Ch.own S3 (r3 : List Int) [.slice p7 r3.length k7], Ch.own S2 (r2 : List Int) [.slice p6 r2.length k6], Ch.own S1 (r1 : List Int) [.slice p5 r1.length k5], Ch.box bb3 [.slice p5 r1.length k5, .slice p6 r2.length k6, .slice p7 r3.length k7, .slice p8 r4.length k8] 130, Ch.box bb2 [.slice none 0 0, .slice none 0 0, .slice none 0 0, .slice none 0 0] 130, Ch.box bb1 [.slice p1 a.Parent.length k1, .slice p2 a.Res.length k2, .slice p3 a.Cap.length k3, .slice p4 a.Sink.length k4] 122] := h
 refine zNSR (zl 4 0 h rfl (zs 5 h rfl ?_))
 intro w12 h
 refine qb ?_
 obtain rfl := qj hF
 exact qad qc (ρ := qaj) [GoT.v qaj [.slice p5 r1.length k5, .slice p6 r2.length k6, .slice p7 r3.length k7, .slice p8 r4.length k8]] h ⟨⟨_, _, _, rfl, rfl, h.box 5 rfl, rfl⟩, trivial⟩ (PV.done h (qai (qqB (⟨r1, r2, r3, r4⟩ : qaj) h (qaB 3 h rfl) (qaB 2 h rfl) (qaB 1 h rfl) (qaB 0 h rfl) (by rfl) (by rfl) (by rfl))))

def qdY (a : (List qaj)) : Nat → (List qaj) → Int → Option ((List qaj) × Int)
 | 0, _, _ => none
 | n + 1, x2, i1 =>
  bif decide (i1 < (a.length : Int)) then
   (idx a i1).bind fun y1 =>
   (qgP n y1).bind fun r1 =>
   (idx x2 i1).bind fun _ =>
   qdY a n (setS x2 i1 r1) (W64 (i1 + 1))
  else
   some (x2, i1)

def qhf (n : Nat) (a : (List qaj)) : Option (List qaj) :=
 (mkS (a.length : Int) ((⟨[], [], [], []⟩ : qaj) : qaj)).bind fun x1 =>
 (qdY a n x1 0).bind fun o => match o with
 | (x2, _) =>
  some x2

theorem qlM {n : Nat} {w : World} {a : (List qaj)} {cs1 : List Value} (ha1 : GoT.R w (old w) a cs1) {r : (List qaj)} (hF : qhf n a = some r) : RetV Tryz.prog 46 [GoT.v (List qaj) cs1] w r := by
 obtain ⟨p1, k1, rfl, s1⟩ := ha1
 refine qf Tryz.func46 rfl (m := 23) rfl rfl (fun h => ?_)
 rw [qhf] at hF
 refine zSR (zp1 rfl (zNSR (zp2 rfl ?_)))
 obtain ⟨x1, hx1, hF⟩ := qd hF
 obtain ⟨g1, g2, hx1⟩ := qdH hx1
 refine qeJ qc qaj h rfl rfl rfl rfl rfl rfl rfl rfl rfl g1 g2 hx1 rfl ?_
 intro w1 S1 p2 h
 refine zp1 rfl (zNSSR (zp1 rfl (qb ?_)))
 obtain ⟨o1, hF, hK1⟩ := qd hF
 refine qA (qW [(0, _), (3, _), (4, _)] ⟨rfl, rfl, rfl, trivial⟩ ?_)
 refine qG (fun m e w' => ∃ (S2 : Nat → Prop) (x2 : (List qaj)) (i1 : Int), qdY a m x2 i1 = some o1 ∧ e = [(0, .slice p1 a.length k1), (3, .slice p2 x1.length x1.length), (4, .int .i64 i1)] ∧ SH w w' [Ch.own S2 (x2 : List qaj) [.slice p2 x1.length x1.length]]) n ⟨_, _, _, hF, rfl, h⟩ ?_
 rintro m1 e1 w2 ⟨S2, x2, i1, hF, rfl, h⟩
 rcases m1 with _ | m1
 ·rw [qdY] at hF
  cases hF
 rw [qdY] at hF
 refine zSSR (zp4 rfl (qb ?_))
 refine qp rfl hF ?_ ?_ <;> intro hF
 ·refine zKSBR (zp4 rfl ?_)
  obtain ⟨y1, hy1, hF⟩ := qd hF
  have he1 := qg hy1
  obtain ⟨b1, o_1, q1, cs2, hp1, hq1, -, hr1, hc2⟩ := s1.at hy1
  obtain ⟨p3, k2, p4, k3, p5, k4, p6, k5, rfl, s2, s3, s4, s5⟩ := qbU hr1
  refine zxe hp1 hq1 he1 rfl (zc 0 (hc2.below h.below) rfl ?_)
  obtain ⟨r1, hr2, hF⟩ := qd hF
  refine qfq r1 h call84 (qmB (qip y1 (h.oldS s2) (h.oldS s3) (h.oldS s4) (h.oldS s5)) hr2) rfl rfl rfl rfl ?_
  intro w3 S3 cs3 h
  obtain ⟨p7, k6, p8, k7, p9, k8, p10, k9, rfl, -, -, -, -⟩ := qbU (h.own 0 rfl)
  obtain ⟨y2, hy2, hF⟩ := qd hF
  have he2 := qg hy2
  replace h := h.lrn0 1 rfl
  obtain ⟨b2, o_2, q2, cs4, hp2, hq2, -, hr3, hc3⟩ := (qif (h.lrnO 1 rfl)).1.at hy2
  have hr4 := hr3
  obtain ⟨p11, k10, p12, k11, p13, k12, p14, k13, rfl, s10, s11, s12, s13⟩ := qbU hr3
  replace h := h.lrnAdd 1 rfl hr4
  refine zx hp2 hq2 ⟨he2.1, qa8 he2.2.1 (qif (h.lrnO 1 rfl)).2⟩ rfl ?_
  replace h := h.unlrn 1 rfl
  refine qi7 qc r1 h hy2 hp2 hq2 rfl rfl rfl rfl rfl ?_
  intro w4 S4 h
  exact zNER (zp3 rfl (qb (qy m1 [(0, _), (3, _), (4, _)] (Nat.lt_succ_self m1) ⟨rfl, rfl, rfl, trivial⟩ ⟨_, _, _, hF, rfl, h⟩)))
 refine qF rfl ?_
 obtain rfl := qj hF; replace hF := hK1
 refine zSR (zp2 rfl (qb ?_))
 obtain rfl := qj hF
 exact qad qc (ρ := (List qaj)) [GoT.v (List qaj) [.slice p2 x1.length x1.length]] h ⟨rfl, trivial⟩ (PV.done h (qai (qaB 0 h rfl)))

def qfx (n : Nat) (a : qz) : Option qz :=
 (qfZ n (⟨a.Library.Cells⟩ : qw)).bind fun r1 =>
 (qgv n (⟨a.Design.Instances, a.Design.Nets, a.Design.Ports⟩ : ql)).bind fun r2 =>
 (qhf n a.Wires).bind fun r3 =>
 some (⟨r1, r2, r3⟩ : qz)

theorem qib {n : Nat} {w : World} {a : qz} {cs1 : List Value} (ha1 : GoT.R w (old w) a cs1) {r : qz} (hF : qfx n a = some r) : RetV Tryz.prog 12 [GoT.v qz cs1] w r := by
 obtain ⟨p1, k1, p2, k2, p3, k3, p4, k4, p5, k5, rfl, s1, s2, s3, s4, s5⟩ := qat ha1
 refine qf Tryz.func12 rfl (m := 17) rfl rfl (fun h => ?_)
 rw [qfx] at hF
 refine zSR (qP h rfl rfl ?_)
 intro w1 bb1 h
 refine qT qc h rfl rfl rfl ?_
 intro w2 bb2 h
 refine zNSR (qT qc h rfl rfl rfl ?_)
 intro w3 bb3 h
 refine zNSR (zp1 rfl (zl 2 0 h rfl ?_))
 obtain ⟨r1, hr1, hF⟩ := qd hF
 refine qfq r1 h call44 (qk3 (qdx (⟨a.Library.Cells⟩ : qw) (h.oldS s1)) hr1) rfl rfl rfl rfl ?_
 intro w4 S1 cs2 h
 obtain ⟨p6, k6, rfl, -⟩ := qbB (h.own 0 rfl)
 refine zp1 rfl (zs 1 h rfl ?_)
 intro w5 h
 refine zNSR (zp1 rfl (zl 3 1 h rfl ?_))
 obtain ⟨r2, hr2, hF⟩ := qd hF
 refine qfq r2 h call45 (qlf (qbf (⟨a.Design.Instances, a.Design.Nets, a.Design.Ports⟩ : ql) (h.oldS s2) (h.oldS s3) (h.oldS s4)) hr2) rfl rfl rfl rfl ?_
 intro w6 S2 cs3 h
 obtain ⟨p7, k7, p8, k8, p9, k9, rfl, -, -, -⟩ := qaz (h.own 0 rfl)
 refine zp1 rfl (zs 2 h rfl ?_)
 intro w7 h
 replace h : SH _ _ [Ch.own S2 (r2 : ql) [.slice p7 r2.Instances.length k7, .slice p8 r2.Nets.length k8, .slice p9 r2.Ports.length k9], Ch.own S1 (r1 : qw) [.slice p6 r1.Cells.length k6], Ch.box bb3 [.slice p6 r1.Cells.length k6, .slice p7 r2.Instances.length k7, .slice p8 r2.Nets.length k8, .slice p9 r2.Ports.length k9, .slice none 0 0] 50, Ch.box bb2 [.slice none 0 0, .slice none 0 0, .slice none 0 0, .slice none 0 0, .slice none 0 0] 50, Ch.box bb1 [.slice p1 a.Library.Cells.length k1, .slice p2 a.Design.Instances.length k2, .slice p3 a.Design.Nets.length k3, .slice p4 a.Design.Ports.length k4, .slice p5 a.Wires.length k5] 32] := h
 refine zNSR (zp1 rfl (zl 4 4 h rfl ?_))
 obtain ⟨r3, hr3, hF⟩ := qd hF
 refine qap r3 h call46 (qlM ⟨_, _, rfl, (h.oldS s5)⟩ hr3) rfl rfl rfl rfl ?_
 intro w8 S3 p10 k10 h
 refine zp1 rfl (zs 3 h rfl ?_)
 intro w9 h
 refine zNSR (zl 3 0 h rfl (zs 4 h rfl ?_))
 intro w10 h
 replace h : SH _ _ [Ch.own S3 (r3 : List qaj) [.slice p10 r3.length k10], Ch.own S2 (r2 : ql) [.slice p7 r2.Instances.length k7, .slice p8 r2.Nets.length k8, .slice p9 r2.Ports.length k9], Ch.own S1 (r1 : qw) [.slice p6 r1.Cells.length k6], Ch.box bb3 [.slice p6 r1.Cells.length k6, .slice p7 r2.Instances.length k7, .slice p8 r2.Nets.length k8, .slice p9 r2.Ports.length k9, .slice p10 r3.length k10] 50, Ch.box bb2 [.slice p6 r1.Cells.length k6, .slice p7 r2.Instances.length k7, .slice p8 r2.Nets.length k8, .slice p9 r2.Ports.length k9, .slice p10 r3.length k10] 50, Ch.box bb1 [.slice p1 a.Library.Cells.length k1, .slice p2 a.Design.Instances.length k2, .slice p3 a.Design.Nets.length k3, .slice p4 a.Design.Ports.length k4, .slice p5 a.Wires.length k5] 32] := h
 refine qb ?_
 obtain rfl := qj hF
 exact qad qc (ρ := qz) [GoT.v qz [.slice p6 r1.Cells.length k6, .slice p7 r2.Instances.length k7, .slice p8 r2.Nets.length k8, .slice p9 r2.Ports.length k9, .slice p10 r3.length k10]] h ⟨⟨_, _, _, rfl, rfl, h.box 4 rfl, rfl⟩, trivial⟩ (PV.done h (qai (qp5 (⟨r1, r2, r3⟩ : qz) h (qaB 2 h rfl) (qaB 1 h rfl) (qaB 0 h rfl) (by rfl) (by rfl))))

end Go.Fw
