/- By a program of mine (gen.py): for each function a plain function and the proof that the code computes it. -/
import Derived.Test.YthcphhbmdpepkaaGreatDoorFw26
import Derived.Test.YthcphhbmdpepkaaGreatDoorChecked
import Derived.Test.YthcphhbmdpepkaaGreatDoorS1

namespace Go.Fw
open Go Go.Proofs
open Go.RowKit (Below)
set_option maxRecDepth 100000
structure TPin where
  Name : ByteArray
  Dir : Int
  Cap : Int
  Clock : Bool
instance gt_TPin : GoT TPin := isoT (pairT instStr (pairT instInt (pairT instInt instBool))) (fun x => (x.Name, x.Dir, x.Cap, x.Clock)) ⟨ByteArray.empty, 0, 0, false⟩ rfl true (fun h => by cases h)
instance fl_TPin : Flat TPin := flat_iso (pairT instStr (pairT instInt (pairT instInt instBool))) (fun x : TPin => (x.Name, x.Dir, x.Cap, x.Clock)) ⟨ByteArray.empty, 0, 0, false⟩ rfl true (fun h => by cases h) (flat_pair _ _ (inferInstanceAs (Flat ByteArray)) (flat_pair _ _ (inferInstanceAs (Flat Int)) (flat_pair _ _ (inferInstanceAs (Flat Int)) (inferInstanceAs (Flat Bool)))))
theorem open_TPin {w : World} {S : Nat → Prop} {x : TPin} {cs : List Value} (h : GoT.R w S x cs) : cs = [.string x.Name, .int .i64 x.Dir, .int .i64 x.Cap, .bool x.Clock] := by
  obtain ⟨_, _, rfl, rfl, ⟨_, _, rfl, rfl, ⟨_, _, rfl, rfl, rfl⟩⟩⟩ := h
  exact rfl
theorem mkR_TPin {w : World} {S : Nat → Prop} (x : TPin) : GoT.R w S x [.string x.Name, .int .i64 x.Dir, .int .i64 x.Cap, .bool x.Clock] := ⟨[.string x.Name], [.int .i64 x.Dir, .int .i64 x.Cap, .bool x.Clock], rfl, rfl, ⟨[.int .i64 x.Dir], [.int .i64 x.Cap, .bool x.Clock], rfl, rfl, ⟨[.int .i64 x.Cap], [.bool x.Clock], rfl, rfl, rfl⟩⟩⟩
structure TTable where
  Slews : (List Int)
  Loads : (List Int)
  Values : (List Int)
instance gt_TTable : GoT TTable := isoT (pairT (@instList Int instInt) (pairT (@instList Int instInt) (@instList Int instInt))) (fun x => (x.Slews, x.Loads, x.Values)) ⟨[], [], []⟩ rfl true (fun h => by cases h)
theorem open_TTable {w : World} {S : Nat → Prop} {x : TTable} {cs : List Value} (h : GoT.R w S x cs) : ∃ p0 k0 p1 k1 p2 k2, cs = [.slice p0 (x.Slews).length k0, .slice p1 (x.Loads).length k1, .slice p2 (x.Values).length k2] ∧ SlR w S x.Slews p0 k0 ∧ SlR w S x.Loads p1 k1 ∧ SlR w S x.Values p2 k2 := by
  obtain ⟨_, _, rfl, ⟨p0, k0, rfl, s0⟩, ⟨_, _, rfl, ⟨p1, k1, rfl, s1⟩, ⟨p2, k2, rfl, s2⟩⟩⟩ := h
  exact ⟨p0, k0, p1, k1, p2, k2, rfl, s0, s1, s2⟩
theorem mkR_TTable {w : World} {S : Nat → Prop} (x : TTable) {p0 : Option Addr} {k0 : Nat} {p1 : Option Addr} {k1 : Nat} {p2 : Option Addr} {k2 : Nat} (s0 : SlR w S x.Slews p0 k0) (s1 : SlR w S x.Loads p1 k1) (s2 : SlR w S x.Values p2 k2) : GoT.R w S x [.slice p0 (x.Slews).length k0, .slice p1 (x.Loads).length k1, .slice p2 (x.Values).length k2] := ⟨[.slice p0 (x.Slews).length k0], [.slice p1 (x.Loads).length k1, .slice p2 (x.Values).length k2], rfl, ⟨p0, k0, rfl, s0⟩, ⟨[.slice p1 (x.Loads).length k1], [.slice p2 (x.Values).length k2], rfl, ⟨p1, k1, rfl, s1⟩, ⟨p2, k2, rfl, s2⟩⟩⟩
theorem po_TTable {w0 w : World} {L : List Ch} (x : TTable) {I0 I1 I2 : List Nat} {c0 c1 c2 : List Value} (h : SH w0 w L) (h0 : PO w L I0 x.Slews c0) (h1 : PO w L I1 x.Loads c1) (h2 : PO w L I2 x.Values c2) (b0 : apartB I0 (I1 ++ I2) = true) (b1 : apartB I1 I2 = true) : PO w L (I0 ++ (I1 ++ I2)) x (c0 ++ (c1 ++ c2)) :=
  (po_pair h h0 (po_pair h h1 h2 b1) b0)

structure TArc where
  Kind : Int
  From : Int
  To : Int
  Sense : Int
  Delay : (List TTable)
  Slew : (List TTable)
instance gt_TArc : GoT TArc := isoT (pairT instInt (pairT instInt (pairT instInt (pairT instInt (pairT (@instList TTable gt_TTable) (@instList TTable gt_TTable)))))) (fun x => (x.Kind, x.From, x.To, x.Sense, x.Delay, x.Slew)) ⟨0, 0, 0, 0, [], []⟩ rfl true (fun h => by cases h)
theorem open_TArc {w : World} {S : Nat → Prop} {x : TArc} {cs : List Value} (h : GoT.R w S x cs) : ∃ p0 k0 p1 k1, cs = [.int .i64 x.Kind, .int .i64 x.From, .int .i64 x.To, .int .i64 x.Sense, .slice p0 (x.Delay).length k0, .slice p1 (x.Slew).length k1] ∧ SlR w S x.Delay p0 k0 ∧ SlR w S x.Slew p1 k1 := by
  obtain ⟨_, _, rfl, rfl, ⟨_, _, rfl, rfl, ⟨_, _, rfl, rfl, ⟨_, _, rfl, rfl, ⟨_, _, rfl, ⟨p0, k0, rfl, s0⟩, ⟨p1, k1, rfl, s1⟩⟩⟩⟩⟩⟩ := h
  exact ⟨p0, k0, p1, k1, rfl, s0, s1⟩
theorem mkR_TArc {w : World} {S : Nat → Prop} (x : TArc) {p0 : Option Addr} {k0 : Nat} {p1 : Option Addr} {k1 : Nat} (s0 : SlR w S x.Delay p0 k0) (s1 : SlR w S x.Slew p1 k1) : GoT.R w S x [.int .i64 x.Kind, .int .i64 x.From, .int .i64 x.To, .int .i64 x.Sense, .slice p0 (x.Delay).length k0, .slice p1 (x.Slew).length k1] := ⟨[.int .i64 x.Kind], [.int .i64 x.From, .int .i64 x.To, .int .i64 x.Sense, .slice p0 (x.Delay).length k0, .slice p1 (x.Slew).length k1], rfl, rfl, ⟨[.int .i64 x.From], [.int .i64 x.To, .int .i64 x.Sense, .slice p0 (x.Delay).length k0, .slice p1 (x.Slew).length k1], rfl, rfl, ⟨[.int .i64 x.To], [.int .i64 x.Sense, .slice p0 (x.Delay).length k0, .slice p1 (x.Slew).length k1], rfl, rfl, ⟨[.int .i64 x.Sense], [.slice p0 (x.Delay).length k0, .slice p1 (x.Slew).length k1], rfl, rfl, ⟨[.slice p0 (x.Delay).length k0], [.slice p1 (x.Slew).length k1], rfl, ⟨p0, k0, rfl, s0⟩, ⟨p1, k1, rfl, s1⟩⟩⟩⟩⟩⟩
theorem po_TArc {w0 w : World} {L : List Ch} (x : TArc) {I0 I1 I2 I3 I4 I5 : List Nat} {c0 c1 c2 c3 c4 c5 : List Value} (h : SH w0 w L) (h0 : PO w L I0 x.Kind c0) (h1 : PO w L I1 x.From c1) (h2 : PO w L I2 x.To c2) (h3 : PO w L I3 x.Sense c3) (h4 : PO w L I4 x.Delay c4) (h5 : PO w L I5 x.Slew c5) (b0 : apartB I0 (I1 ++ (I2 ++ (I3 ++ (I4 ++ I5)))) = true) (b1 : apartB I1 (I2 ++ (I3 ++ (I4 ++ I5))) = true) (b2 : apartB I2 (I3 ++ (I4 ++ I5)) = true) (b3 : apartB I3 (I4 ++ I5) = true) (b4 : apartB I4 I5 = true) : PO w L (I0 ++ (I1 ++ (I2 ++ (I3 ++ (I4 ++ I5))))) x (c0 ++ (c1 ++ (c2 ++ (c3 ++ (c4 ++ c5))))) :=
  (po_pair h h0 (po_pair h h1 (po_pair h h2 (po_pair h h3 (po_pair h h4 h5 b4) b3) b2) b1) b0)

structure TCell where
  Name : ByteArray
  Kind : Int
  Pins : (List TPin)
  Arcs : (List TArc)
  Truth : (List Int)
  Leak : Int
  Energy : Int
instance gt_TCell : GoT TCell := isoT (pairT instStr (pairT instInt (pairT (@instList TPin gt_TPin) (pairT (@instList TArc gt_TArc) (pairT (@instList Int instInt) (pairT instInt instInt)))))) (fun x => (x.Name, x.Kind, x.Pins, x.Arcs, x.Truth, x.Leak, x.Energy)) ⟨ByteArray.empty, 0, [], [], [], 0, 0⟩ rfl true (fun h => by cases h)
theorem open_TCell {w : World} {S : Nat → Prop} {x : TCell} {cs : List Value} (h : GoT.R w S x cs) : ∃ p0 k0 p1 k1 p2 k2, cs = [.string x.Name, .int .i64 x.Kind, .slice p0 (x.Pins).length k0, .slice p1 (x.Arcs).length k1, .slice p2 (x.Truth).length k2, .int .i64 x.Leak, .int .i64 x.Energy] ∧ SlR w S x.Pins p0 k0 ∧ SlR w S x.Arcs p1 k1 ∧ SlR w S x.Truth p2 k2 := by
  obtain ⟨_, _, rfl, rfl, ⟨_, _, rfl, rfl, ⟨_, _, rfl, ⟨p0, k0, rfl, s0⟩, ⟨_, _, rfl, ⟨p1, k1, rfl, s1⟩, ⟨_, _, rfl, ⟨p2, k2, rfl, s2⟩, ⟨_, _, rfl, rfl, rfl⟩⟩⟩⟩⟩⟩ := h
  exact ⟨p0, k0, p1, k1, p2, k2, rfl, s0, s1, s2⟩
theorem mkR_TCell {w : World} {S : Nat → Prop} (x : TCell) {p0 : Option Addr} {k0 : Nat} {p1 : Option Addr} {k1 : Nat} {p2 : Option Addr} {k2 : Nat} (s0 : SlR w S x.Pins p0 k0) (s1 : SlR w S x.Arcs p1 k1) (s2 : SlR w S x.Truth p2 k2) : GoT.R w S x [.string x.Name, .int .i64 x.Kind, .slice p0 (x.Pins).length k0, .slice p1 (x.Arcs).length k1, .slice p2 (x.Truth).length k2, .int .i64 x.Leak, .int .i64 x.Energy] := ⟨[.string x.Name], [.int .i64 x.Kind, .slice p0 (x.Pins).length k0, .slice p1 (x.Arcs).length k1, .slice p2 (x.Truth).length k2, .int .i64 x.Leak, .int .i64 x.Energy], rfl, rfl, ⟨[.int .i64 x.Kind], [.slice p0 (x.Pins).length k0, .slice p1 (x.Arcs).length k1, .slice p2 (x.Truth).length k2, .int .i64 x.Leak, .int .i64 x.Energy], rfl, rfl, ⟨[.slice p0 (x.Pins).length k0], [.slice p1 (x.Arcs).length k1, .slice p2 (x.Truth).length k2, .int .i64 x.Leak, .int .i64 x.Energy], rfl, ⟨p0, k0, rfl, s0⟩, ⟨[.slice p1 (x.Arcs).length k1], [.slice p2 (x.Truth).length k2, .int .i64 x.Leak, .int .i64 x.Energy], rfl, ⟨p1, k1, rfl, s1⟩, ⟨[.slice p2 (x.Truth).length k2], [.int .i64 x.Leak, .int .i64 x.Energy], rfl, ⟨p2, k2, rfl, s2⟩, ⟨[.int .i64 x.Leak], [.int .i64 x.Energy], rfl, rfl, rfl⟩⟩⟩⟩⟩⟩
theorem po_TCell {w0 w : World} {L : List Ch} (x : TCell) {I0 I1 I2 I3 I4 I5 I6 : List Nat} {c0 c1 c2 c3 c4 c5 c6 : List Value} (h : SH w0 w L) (h0 : PO w L I0 x.Name c0) (h1 : PO w L I1 x.Kind c1) (h2 : PO w L I2 x.Pins c2) (h3 : PO w L I3 x.Arcs c3) (h4 : PO w L I4 x.Truth c4) (h5 : PO w L I5 x.Leak c5) (h6 : PO w L I6 x.Energy c6) (b0 : apartB I0 (I1 ++ (I2 ++ (I3 ++ (I4 ++ (I5 ++ I6))))) = true) (b1 : apartB I1 (I2 ++ (I3 ++ (I4 ++ (I5 ++ I6)))) = true) (b2 : apartB I2 (I3 ++ (I4 ++ (I5 ++ I6))) = true) (b3 : apartB I3 (I4 ++ (I5 ++ I6)) = true) (b4 : apartB I4 (I5 ++ I6) = true) (b5 : apartB I5 I6 = true) : PO w L (I0 ++ (I1 ++ (I2 ++ (I3 ++ (I4 ++ (I5 ++ I6)))))) x (c0 ++ (c1 ++ (c2 ++ (c3 ++ (c4 ++ (c5 ++ c6)))))) :=
  (po_pair h h0 (po_pair h h1 (po_pair h h2 (po_pair h h3 (po_pair h h4 (po_pair h h5 h6 b5) b4) b3) b2) b1) b0)

structure TLibrary where
  Cells : (List TCell)
instance gt_TLibrary : GoT TLibrary := isoT (@instList TCell gt_TCell) (fun x => x.Cells) ⟨[]⟩ rfl true (fun h => by cases h)
theorem open_TLibrary {w : World} {S : Nat → Prop} {x : TLibrary} {cs : List Value} (h : GoT.R w S x cs) : ∃ p0 k0, cs = [.slice p0 (x.Cells).length k0] ∧ SlR w S x.Cells p0 k0 := by
  obtain ⟨p0, k0, rfl, s0⟩ := h
  exact ⟨p0, k0, rfl, s0⟩
theorem mkR_TLibrary {w : World} {S : Nat → Prop} (x : TLibrary) {p0 : Option Addr} {k0 : Nat} (s0 : SlR w S x.Cells p0 k0) : GoT.R w S x [.slice p0 (x.Cells).length k0] := ⟨p0, k0, rfl, s0⟩
theorem po_TLibrary {w0 w : World} {L : List Ch} (x : TLibrary) {I0 : List Nat} {c0 : List Value} (h : SH w0 w L) (h0 : PO w L I0 x.Cells c0) : PO w L I0 x c0 :=
  h0

structure TInstance where
  Name : ByteArray
  Cell : Int
  Nets : (List Int)
instance gt_TInstance : GoT TInstance := isoT (pairT instStr (pairT instInt (@instList Int instInt))) (fun x => (x.Name, x.Cell, x.Nets)) ⟨ByteArray.empty, 0, []⟩ rfl true (fun h => by cases h)
theorem open_TInstance {w : World} {S : Nat → Prop} {x : TInstance} {cs : List Value} (h : GoT.R w S x cs) : ∃ p0 k0, cs = [.string x.Name, .int .i64 x.Cell, .slice p0 (x.Nets).length k0] ∧ SlR w S x.Nets p0 k0 := by
  obtain ⟨_, _, rfl, rfl, ⟨_, _, rfl, rfl, ⟨p0, k0, rfl, s0⟩⟩⟩ := h
  exact ⟨p0, k0, rfl, s0⟩
theorem mkR_TInstance {w : World} {S : Nat → Prop} (x : TInstance) {p0 : Option Addr} {k0 : Nat} (s0 : SlR w S x.Nets p0 k0) : GoT.R w S x [.string x.Name, .int .i64 x.Cell, .slice p0 (x.Nets).length k0] := ⟨[.string x.Name], [.int .i64 x.Cell, .slice p0 (x.Nets).length k0], rfl, rfl, ⟨[.int .i64 x.Cell], [.slice p0 (x.Nets).length k0], rfl, rfl, ⟨p0, k0, rfl, s0⟩⟩⟩
theorem po_TInstance {w0 w : World} {L : List Ch} (x : TInstance) {I0 I1 I2 : List Nat} {c0 c1 c2 : List Value} (h : SH w0 w L) (h0 : PO w L I0 x.Name c0) (h1 : PO w L I1 x.Cell c1) (h2 : PO w L I2 x.Nets c2) (b0 : apartB I0 (I1 ++ I2) = true) (b1 : apartB I1 I2 = true) : PO w L (I0 ++ (I1 ++ I2)) x (c0 ++ (c1 ++ c2)) :=
  (po_pair h h0 (po_pair h h1 h2 b1) b0)

structure TPort where
  Name : ByteArray
  Dir : Int
  Net : Int
instance gt_TPort : GoT TPort := isoT (pairT instStr (pairT instInt instInt)) (fun x => (x.Name, x.Dir, x.Net)) ⟨ByteArray.empty, 0, 0⟩ rfl true (fun h => by cases h)
instance fl_TPort : Flat TPort := flat_iso (pairT instStr (pairT instInt instInt)) (fun x : TPort => (x.Name, x.Dir, x.Net)) ⟨ByteArray.empty, 0, 0⟩ rfl true (fun h => by cases h) (flat_pair _ _ (inferInstanceAs (Flat ByteArray)) (flat_pair _ _ (inferInstanceAs (Flat Int)) (inferInstanceAs (Flat Int))))
theorem open_TPort {w : World} {S : Nat → Prop} {x : TPort} {cs : List Value} (h : GoT.R w S x cs) : cs = [.string x.Name, .int .i64 x.Dir, .int .i64 x.Net] := by
  obtain ⟨_, _, rfl, rfl, ⟨_, _, rfl, rfl, rfl⟩⟩ := h
  exact rfl
theorem mkR_TPort {w : World} {S : Nat → Prop} (x : TPort) : GoT.R w S x [.string x.Name, .int .i64 x.Dir, .int .i64 x.Net] := ⟨[.string x.Name], [.int .i64 x.Dir, .int .i64 x.Net], rfl, rfl, ⟨[.int .i64 x.Dir], [.int .i64 x.Net], rfl, rfl, rfl⟩⟩
structure TDesign where
  Instances : (List TInstance)
  Nets : (List ByteArray)
  Ports : (List TPort)
instance gt_TDesign : GoT TDesign := isoT (pairT (@instList TInstance gt_TInstance) (pairT (@instList ByteArray instStr) (@instList TPort gt_TPort))) (fun x => (x.Instances, x.Nets, x.Ports)) ⟨[], [], []⟩ rfl true (fun h => by cases h)
theorem open_TDesign {w : World} {S : Nat → Prop} {x : TDesign} {cs : List Value} (h : GoT.R w S x cs) : ∃ p0 k0 p1 k1 p2 k2, cs = [.slice p0 (x.Instances).length k0, .slice p1 (x.Nets).length k1, .slice p2 (x.Ports).length k2] ∧ SlR w S x.Instances p0 k0 ∧ SlR w S x.Nets p1 k1 ∧ SlR w S x.Ports p2 k2 := by
  obtain ⟨_, _, rfl, ⟨p0, k0, rfl, s0⟩, ⟨_, _, rfl, ⟨p1, k1, rfl, s1⟩, ⟨p2, k2, rfl, s2⟩⟩⟩ := h
  exact ⟨p0, k0, p1, k1, p2, k2, rfl, s0, s1, s2⟩
theorem mkR_TDesign {w : World} {S : Nat → Prop} (x : TDesign) {p0 : Option Addr} {k0 : Nat} {p1 : Option Addr} {k1 : Nat} {p2 : Option Addr} {k2 : Nat} (s0 : SlR w S x.Instances p0 k0) (s1 : SlR w S x.Nets p1 k1) (s2 : SlR w S x.Ports p2 k2) : GoT.R w S x [.slice p0 (x.Instances).length k0, .slice p1 (x.Nets).length k1, .slice p2 (x.Ports).length k2] := ⟨[.slice p0 (x.Instances).length k0], [.slice p1 (x.Nets).length k1, .slice p2 (x.Ports).length k2], rfl, ⟨p0, k0, rfl, s0⟩, ⟨[.slice p1 (x.Nets).length k1], [.slice p2 (x.Ports).length k2], rfl, ⟨p1, k1, rfl, s1⟩, ⟨p2, k2, rfl, s2⟩⟩⟩
theorem po_TDesign {w0 w : World} {L : List Ch} (x : TDesign) {I0 I1 I2 : List Nat} {c0 c1 c2 : List Value} (h : SH w0 w L) (h0 : PO w L I0 x.Instances c0) (h1 : PO w L I1 x.Nets c1) (h2 : PO w L I2 x.Ports c2) (b0 : apartB I0 (I1 ++ I2) = true) (b1 : apartB I1 I2 = true) : PO w L (I0 ++ (I1 ++ I2)) x (c0 ++ (c1 ++ c2)) :=
  (po_pair h h0 (po_pair h h1 h2 b1) b0)

structure TWire where
  Parent : (List Int)
  Res : (List Int)
  Cap : (List Int)
  Sink : (List Int)
instance gt_TWire : GoT TWire := isoT (pairT (@instList Int instInt) (pairT (@instList Int instInt) (pairT (@instList Int instInt) (@instList Int instInt)))) (fun x => (x.Parent, x.Res, x.Cap, x.Sink)) ⟨[], [], [], []⟩ rfl true (fun h => by cases h)
theorem open_TWire {w : World} {S : Nat → Prop} {x : TWire} {cs : List Value} (h : GoT.R w S x cs) : ∃ p0 k0 p1 k1 p2 k2 p3 k3, cs = [.slice p0 (x.Parent).length k0, .slice p1 (x.Res).length k1, .slice p2 (x.Cap).length k2, .slice p3 (x.Sink).length k3] ∧ SlR w S x.Parent p0 k0 ∧ SlR w S x.Res p1 k1 ∧ SlR w S x.Cap p2 k2 ∧ SlR w S x.Sink p3 k3 := by
  obtain ⟨_, _, rfl, ⟨p0, k0, rfl, s0⟩, ⟨_, _, rfl, ⟨p1, k1, rfl, s1⟩, ⟨_, _, rfl, ⟨p2, k2, rfl, s2⟩, ⟨p3, k3, rfl, s3⟩⟩⟩⟩ := h
  exact ⟨p0, k0, p1, k1, p2, k2, p3, k3, rfl, s0, s1, s2, s3⟩
theorem mkR_TWire {w : World} {S : Nat → Prop} (x : TWire) {p0 : Option Addr} {k0 : Nat} {p1 : Option Addr} {k1 : Nat} {p2 : Option Addr} {k2 : Nat} {p3 : Option Addr} {k3 : Nat} (s0 : SlR w S x.Parent p0 k0) (s1 : SlR w S x.Res p1 k1) (s2 : SlR w S x.Cap p2 k2) (s3 : SlR w S x.Sink p3 k3) : GoT.R w S x [.slice p0 (x.Parent).length k0, .slice p1 (x.Res).length k1, .slice p2 (x.Cap).length k2, .slice p3 (x.Sink).length k3] := ⟨[.slice p0 (x.Parent).length k0], [.slice p1 (x.Res).length k1, .slice p2 (x.Cap).length k2, .slice p3 (x.Sink).length k3], rfl, ⟨p0, k0, rfl, s0⟩, ⟨[.slice p1 (x.Res).length k1], [.slice p2 (x.Cap).length k2, .slice p3 (x.Sink).length k3], rfl, ⟨p1, k1, rfl, s1⟩, ⟨[.slice p2 (x.Cap).length k2], [.slice p3 (x.Sink).length k3], rfl, ⟨p2, k2, rfl, s2⟩, ⟨p3, k3, rfl, s3⟩⟩⟩⟩
theorem po_TWire {w0 w : World} {L : List Ch} (x : TWire) {I0 I1 I2 I3 : List Nat} {c0 c1 c2 c3 : List Value} (h : SH w0 w L) (h0 : PO w L I0 x.Parent c0) (h1 : PO w L I1 x.Res c1) (h2 : PO w L I2 x.Cap c2) (h3 : PO w L I3 x.Sink c3) (b0 : apartB I0 (I1 ++ (I2 ++ I3)) = true) (b1 : apartB I1 (I2 ++ I3) = true) (b2 : apartB I2 I3 = true) : PO w L (I0 ++ (I1 ++ (I2 ++ I3))) x (c0 ++ (c1 ++ (c2 ++ c3))) :=
  (po_pair h h0 (po_pair h h1 (po_pair h h2 h3 b2) b1) b0)

structure TBlock where
  Library : TLibrary
  Design : TDesign
  Wires : (List TWire)
instance gt_TBlock : GoT TBlock := isoT (pairT gt_TLibrary (pairT gt_TDesign (@instList TWire gt_TWire))) (fun x => (x.Library, x.Design, x.Wires)) ⟨(⟨[]⟩ : TLibrary), (⟨[], [], []⟩ : TDesign), []⟩ rfl true (fun h => by cases h)
theorem open_TBlock {w : World} {S : Nat → Prop} {x : TBlock} {cs : List Value} (h : GoT.R w S x cs) : ∃ p0 k0 p1 k1 p2 k2 p3 k3 p4 k4, cs = [.slice p0 (x.Library.Cells).length k0, .slice p1 (x.Design.Instances).length k1, .slice p2 (x.Design.Nets).length k2, .slice p3 (x.Design.Ports).length k3, .slice p4 (x.Wires).length k4] ∧ SlR w S x.Library.Cells p0 k0 ∧ SlR w S x.Design.Instances p1 k1 ∧ SlR w S x.Design.Nets p2 k2 ∧ SlR w S x.Design.Ports p3 k3 ∧ SlR w S x.Wires p4 k4 := by
  obtain ⟨_, _, rfl, ⟨p0, k0, rfl, s0⟩, ⟨_, _, rfl, ⟨_, _, rfl, ⟨p1, k1, rfl, s1⟩, ⟨_, _, rfl, ⟨p2, k2, rfl, s2⟩, ⟨p3, k3, rfl, s3⟩⟩⟩, ⟨p4, k4, rfl, s4⟩⟩⟩ := h
  exact ⟨p0, k0, p1, k1, p2, k2, p3, k3, p4, k4, rfl, s0, s1, s2, s3, s4⟩
theorem po_TBlock {w0 w : World} {L : List Ch} (x : TBlock) {I0 I1 I2 : List Nat} {c0 c1 c2 : List Value} (h : SH w0 w L) (h0 : PO w L I0 x.Library c0) (h1 : PO w L I1 x.Design c1) (h2 : PO w L I2 x.Wires c2) (b0 : apartB I0 (I1 ++ I2) = true) (b1 : apartB I1 I2 = true) : PO w L (I0 ++ (I1 ++ I2)) x (c0 ++ (c1 ++ c2)) :=
  (po_pair h h0 (po_pair h h1 h2 b1) b0)

structure TException where
  Kind : Int
  Value : Int
  From : (List Int)
  Through : (List Int)
  To : (List Int)
instance gt_TException : GoT TException := isoT (pairT instInt (pairT instInt (pairT (@instList Int instInt) (pairT (@instList Int instInt) (@instList Int instInt))))) (fun x => (x.Kind, x.Value, x.From, x.Through, x.To)) ⟨0, 0, [], [], []⟩ rfl true (fun h => by cases h)
theorem open_TException {w : World} {S : Nat → Prop} {x : TException} {cs : List Value} (h : GoT.R w S x cs) : ∃ p0 k0 p1 k1 p2 k2, cs = [.int .i64 x.Kind, .int .i64 x.Value, .slice p0 (x.From).length k0, .slice p1 (x.Through).length k1, .slice p2 (x.To).length k2] ∧ SlR w S x.From p0 k0 ∧ SlR w S x.Through p1 k1 ∧ SlR w S x.To p2 k2 := by
  obtain ⟨_, _, rfl, rfl, ⟨_, _, rfl, rfl, ⟨_, _, rfl, ⟨p0, k0, rfl, s0⟩, ⟨_, _, rfl, ⟨p1, k1, rfl, s1⟩, ⟨p2, k2, rfl, s2⟩⟩⟩⟩⟩ := h
  exact ⟨p0, k0, p1, k1, p2, k2, rfl, s0, s1, s2⟩
theorem po_TException {w0 w : World} {L : List Ch} (x : TException) {I0 I1 I2 I3 I4 : List Nat} {c0 c1 c2 c3 c4 : List Value} (h : SH w0 w L) (h0 : PO w L I0 x.Kind c0) (h1 : PO w L I1 x.Value c1) (h2 : PO w L I2 x.From c2) (h3 : PO w L I3 x.Through c3) (h4 : PO w L I4 x.To c4) (b0 : apartB I0 (I1 ++ (I2 ++ (I3 ++ I4))) = true) (b1 : apartB I1 (I2 ++ (I3 ++ I4)) = true) (b2 : apartB I2 (I3 ++ I4) = true) (b3 : apartB I3 I4 = true) : PO w L (I0 ++ (I1 ++ (I2 ++ (I3 ++ I4)))) x (c0 ++ (c1 ++ (c2 ++ (c3 ++ c4)))) :=
  (po_pair h h0 (po_pair h h1 (po_pair h h2 (po_pair h h3 h4 b3) b2) b1) b0)

structure Tplace where
  instance_ : Int
  pin : Int
  net : Int
  drives : Bool
instance gt_Tplace : GoT Tplace := isoT (pairT instInt (pairT instInt (pairT instInt instBool))) (fun x => (x.instance_, x.pin, x.net, x.drives)) ⟨0, 0, 0, false⟩ rfl true (fun h => by cases h)
instance fl_Tplace : Flat Tplace := flat_iso (pairT instInt (pairT instInt (pairT instInt instBool))) (fun x : Tplace => (x.instance_, x.pin, x.net, x.drives)) ⟨0, 0, 0, false⟩ rfl true (fun h => by cases h) (flat_pair _ _ (inferInstanceAs (Flat Int)) (flat_pair _ _ (inferInstanceAs (Flat Int)) (flat_pair _ _ (inferInstanceAs (Flat Int)) (inferInstanceAs (Flat Bool)))))
theorem open_Tplace {w : World} {S : Nat → Prop} {x : Tplace} {cs : List Value} (h : GoT.R w S x cs) : cs = [.int .i64 x.instance_, .int .i64 x.pin, .int .i64 x.net, .bool x.drives] := by
  obtain ⟨_, _, rfl, rfl, ⟨_, _, rfl, rfl, ⟨_, _, rfl, rfl, rfl⟩⟩⟩ := h
  exact rfl
theorem mkR_Tplace {w : World} {S : Nat → Prop} (x : Tplace) : GoT.R w S x [.int .i64 x.instance_, .int .i64 x.pin, .int .i64 x.net, .bool x.drives] := ⟨[.int .i64 x.instance_], [.int .i64 x.pin, .int .i64 x.net, .bool x.drives], rfl, rfl, ⟨[.int .i64 x.pin], [.int .i64 x.net, .bool x.drives], rfl, rfl, ⟨[.int .i64 x.net], [.bool x.drives], rfl, rfl, rfl⟩⟩⟩
structure TLink where
  From : Int
  To : Int
  Kind : Int
  Index : Int
instance gt_TLink : GoT TLink := isoT (pairT instInt (pairT instInt (pairT instInt instInt))) (fun x => (x.From, x.To, x.Kind, x.Index)) ⟨0, 0, 0, 0⟩ rfl true (fun h => by cases h)
instance fl_TLink : Flat TLink := flat_iso (pairT instInt (pairT instInt (pairT instInt instInt))) (fun x : TLink => (x.From, x.To, x.Kind, x.Index)) ⟨0, 0, 0, 0⟩ rfl true (fun h => by cases h) (flat_pair _ _ (inferInstanceAs (Flat Int)) (flat_pair _ _ (inferInstanceAs (Flat Int)) (flat_pair _ _ (inferInstanceAs (Flat Int)) (inferInstanceAs (Flat Int)))))
theorem mkR_TLink {w : World} {S : Nat → Prop} (x : TLink) : GoT.R w S x [.int .i64 x.From, .int .i64 x.To, .int .i64 x.Kind, .int .i64 x.Index] := ⟨[.int .i64 x.From], [.int .i64 x.To, .int .i64 x.Kind, .int .i64 x.Index], rfl, rfl, ⟨[.int .i64 x.To], [.int .i64 x.Kind, .int .i64 x.Index], rfl, rfl, ⟨[.int .i64 x.Kind], [.int .i64 x.Index], rfl, rfl, rfl⟩⟩⟩
structure Tview where
  Block : TBlock
  places : (List Tplace)
  links : (List TLink)
  loads : (List Int)
  delays : (List (List Int))
  extras : (List Int)
instance gt_Tview : GoT Tview := isoT (pairT gt_TBlock (pairT (@instList Tplace gt_Tplace) (pairT (@instList TLink gt_TLink) (pairT (@instList Int instInt) (pairT (@instList (List Int) (@instList Int instInt)) (@instList Int instInt)))))) (fun x => (x.Block, x.places, x.links, x.loads, x.delays, x.extras)) ⟨(⟨(⟨[]⟩ : TLibrary), (⟨[], [], []⟩ : TDesign), []⟩ : TBlock), [], [], [], [], []⟩ rfl true (fun h => by cases h)
theorem open_Tview {w : World} {S : Nat → Prop} {x : Tview} {cs : List Value} (h : GoT.R w S x cs) : ∃ p0 k0 p1 k1 p2 k2 p3 k3 p4 k4 p5 k5 p6 k6 p7 k7 p8 k8 p9 k9, cs = [.slice p0 (x.Block.Library.Cells).length k0, .slice p1 (x.Block.Design.Instances).length k1, .slice p2 (x.Block.Design.Nets).length k2, .slice p3 (x.Block.Design.Ports).length k3, .slice p4 (x.Block.Wires).length k4, .slice p5 (x.places).length k5, .slice p6 (x.links).length k6, .slice p7 (x.loads).length k7, .slice p8 (x.delays).length k8, .slice p9 (x.extras).length k9] ∧ SlR w S x.Block.Library.Cells p0 k0 ∧ SlR w S x.Block.Design.Instances p1 k1 ∧ SlR w S x.Block.Design.Nets p2 k2 ∧ SlR w S x.Block.Design.Ports p3 k3 ∧ SlR w S x.Block.Wires p4 k4 ∧ SlR w S x.places p5 k5 ∧ SlR w S x.links p6 k6 ∧ SlR w S x.loads p7 k7 ∧ SlR w S x.delays p8 k8 ∧ SlR w S x.extras p9 k9 := by
  obtain ⟨_, _, rfl, ⟨_, _, rfl, ⟨p0, k0, rfl, s0⟩, ⟨_, _, rfl, ⟨_, _, rfl, ⟨p1, k1, rfl, s1⟩, ⟨_, _, rfl, ⟨p2, k2, rfl, s2⟩, ⟨p3, k3, rfl, s3⟩⟩⟩, ⟨p4, k4, rfl, s4⟩⟩⟩, ⟨_, _, rfl, ⟨p5, k5, rfl, s5⟩, ⟨_, _, rfl, ⟨p6, k6, rfl, s6⟩, ⟨_, _, rfl, ⟨p7, k7, rfl, s7⟩, ⟨_, _, rfl, ⟨p8, k8, rfl, s8⟩, ⟨p9, k9, rfl, s9⟩⟩⟩⟩⟩⟩ := h
  exact ⟨p0, k0, p1, k1, p2, k2, p3, k3, p4, k4, p5, k5, p6, k6, p7, k7, p8, k8, p9, k9, rfl, s0, s1, s2, s3, s4, s5, s6, s7, s8, s9⟩
structure Tl05Place where
  instance_ : Int
  pin : Int
  net : Int
  drives : Bool
instance gt_Tl05Place : GoT Tl05Place := isoT (pairT instInt (pairT instInt (pairT instInt instBool))) (fun x => (x.instance_, x.pin, x.net, x.drives)) ⟨0, 0, 0, false⟩ rfl true (fun h => by cases h)
instance fl_Tl05Place : Flat Tl05Place := flat_iso (pairT instInt (pairT instInt (pairT instInt instBool))) (fun x : Tl05Place => (x.instance_, x.pin, x.net, x.drives)) ⟨0, 0, 0, false⟩ rfl true (fun h => by cases h) (flat_pair _ _ (inferInstanceAs (Flat Int)) (flat_pair _ _ (inferInstanceAs (Flat Int)) (flat_pair _ _ (inferInstanceAs (Flat Int)) (inferInstanceAs (Flat Bool)))))
theorem open_Tl05Place {w : World} {S : Nat → Prop} {x : Tl05Place} {cs : List Value} (h : GoT.R w S x cs) : cs = [.int .i64 x.instance_, .int .i64 x.pin, .int .i64 x.net, .bool x.drives] := by
  obtain ⟨_, _, rfl, rfl, ⟨_, _, rfl, rfl, ⟨_, _, rfl, rfl, rfl⟩⟩⟩ := h
  exact rfl
theorem mkR_Tl05Place {w : World} {S : Nat → Prop} (x : Tl05Place) : GoT.R w S x [.int .i64 x.instance_, .int .i64 x.pin, .int .i64 x.net, .bool x.drives] := ⟨[.int .i64 x.instance_], [.int .i64 x.pin, .int .i64 x.net, .bool x.drives], rfl, rfl, ⟨[.int .i64 x.pin], [.int .i64 x.net, .bool x.drives], rfl, rfl, ⟨[.int .i64 x.net], [.bool x.drives], rfl, rfl, rfl⟩⟩⟩
structure TA2_Int where
  e0 : Int
  e1 : Int
instance gt_TA2_Int : GoT TA2_Int := isoT (pairT instInt instInt) (fun x => (x.e0, x.e1)) ⟨0, 0⟩ rfl true (fun h => by cases h)
instance fl_TA2_Int : Flat TA2_Int := flat_iso (pairT instInt instInt) (fun x : TA2_Int => (x.e0, x.e1)) ⟨0, 0⟩ rfl true (fun h => by cases h) (flat_pair _ _ (inferInstanceAs (Flat Int)) (inferInstanceAs (Flat Int)))
theorem open_TA2_Int {w : World} {S : Nat → Prop} {x : TA2_Int} {cs : List Value} (h : GoT.R w S x cs) : cs = [.int .i64 x.e0, .int .i64 x.e1] := by
  obtain ⟨_, _, rfl, rfl, rfl⟩ := h
  exact rfl
theorem mkR_TA2_Int {w : World} {S : Nat → Prop} (x : TA2_Int) : GoT.R w S x [.int .i64 x.e0, .int .i64 x.e1] := ⟨[.int .i64 x.e0], [.int .i64 x.e1], rfl, rfl, rfl⟩
structure TSpan where
  Early : Int
  Late : Int
instance gt_TSpan : GoT TSpan := isoT (pairT instInt instInt) (fun x => (x.Early, x.Late)) ⟨0, 0⟩ rfl true (fun h => by cases h)
instance fl_TSpan : Flat TSpan := flat_iso (pairT instInt instInt) (fun x : TSpan => (x.Early, x.Late)) ⟨0, 0⟩ rfl true (fun h => by cases h) (flat_pair _ _ (inferInstanceAs (Flat Int)) (inferInstanceAs (Flat Int)))
theorem open_TSpan {w : World} {S : Nat → Prop} {x : TSpan} {cs : List Value} (h : GoT.R w S x cs) : cs = [.int .i64 x.Early, .int .i64 x.Late] := by
  obtain ⟨_, _, rfl, rfl, rfl⟩ := h
  exact rfl
theorem mkR_TSpan {w : World} {S : Nat → Prop} (x : TSpan) : GoT.R w S x [.int .i64 x.Early, .int .i64 x.Late] := ⟨[.int .i64 x.Early], [.int .i64 x.Late], rfl, rfl, rfl⟩
def tab : Tab := [
  (2, ⟨.int .i64, 1, 8, some (.int .i64 0), []⟩),
  (3, ⟨.int .i64, 1, 8, some (.int .i64 0), []⟩),
  (4, ⟨.bool, 1, 1, some (.bool false), []⟩),
  (5, ⟨.int .u8, 1, 1, some (.int .u8 0), []⟩),
  (9, ⟨.str, 1, 16, some (.string ByteArray.empty), []⟩),
  (22, ⟨.slice 176, 1, 24, some (.slice none 0 0), []⟩),
  (24, ⟨.struct, 1, 24, some (.agg #[.slice none 0 0]), [(0, 1, some false)]⟩),
  (25, ⟨.slice 178, 1, 24, some (.slice none 0 0), []⟩),
  (26, ⟨.slice 9, 1, 24, some (.slice none 0 0), []⟩),
  (27, ⟨.slice 180, 1, 24, some (.slice none 0 0), []⟩),
  (29, ⟨.struct, 3, 72, some (.agg #[.slice none 0 0, .slice none 0 0, .slice none 0 0]), [(0, 1, some false), (1, 1, some false), (2, 1, some false)]⟩),
  (30, ⟨.slice 114, 1, 24, some (.slice none 0 0), []⟩),
  (32, ⟨.struct, 5, 120, some (.agg #[.slice none 0 0, .slice none 0 0, .slice none 0 0, .slice none 0 0, .slice none 0 0]), [(0, 1, some true), (1, 3, some true), (4, 1, some false)]⟩),
  (33, ⟨.slice 2, 1, 24, some (.slice none 0 0), []⟩),
  (35, ⟨.struct, 5, 88, some (.agg #[.int .i64 0, .int .i64 0, .slice none 0 0, .slice none 0 0, .slice none 0 0]), [(0, 1, some false), (1, 1, some false), (2, 1, some false), (3, 1, some false), (4, 1, some false)]⟩),
  (39, ⟨.slice 155, 1, 24, some (.slice none 0 0), []⟩),
  (41, ⟨.struct, 1, 24, some (.agg #[.slice none 0 0]), [(0, 1, some false)]⟩),
  (42, ⟨.slice 126, 1, 24, some (.slice none 0 0), []⟩),
  (43, ⟨.slice 148, 1, 24, some (.slice none 0 0), []⟩),
  (45, ⟨.struct, 3, 72, some (.agg #[.slice none 0 0, .slice none 0 0, .slice none 0 0]), [(0, 1, some false), (1, 1, some false), (2, 1, some false)]⟩),
  (46, ⟨.slice 117, 1, 24, some (.slice none 0 0), []⟩),
  (48, ⟨.struct, 5, 120, some (.agg #[.slice none 0 0, .slice none 0 0, .slice none 0 0, .slice none 0 0, .slice none 0 0]), [(0, 1, some true), (1, 3, some true), (4, 1, some false)]⟩),
  (50, ⟨.struct, 5, 88, some (.agg #[.int .i64 0, .int .i64 0, .slice none 0 0, .slice none 0 0, .slice none 0 0]), [(0, 1, some false), (1, 1, some false), (2, 1, some false), (3, 1, some false), (4, 1, some false)]⟩),
  (90, ⟨.slice 97, 1, 24, some (.slice none 0 0), []⟩),
  (91, ⟨.slice 130, 1, 24, some (.slice none 0 0), []⟩),
  (92, ⟨.slice 33, 1, 24, some (.slice none 0 0), []⟩),
  (94, ⟨.struct, 10, 240, some (.agg #[.slice none 0 0, .slice none 0 0, .slice none 0 0, .slice none 0 0, .slice none 0 0, .slice none 0 0, .slice none 0 0, .slice none 0 0, .slice none 0 0, .slice none 0 0]), [(0, 5, some true), (5, 1, some false), (6, 1, some false), (7, 1, some false), (8, 1, some false), (9, 1, some false)]⟩),
  (97, ⟨.struct, 4, 32, some (.agg #[.int .i64 0, .int .i64 0, .int .i64 0, .bool false]), [(0, 1, some false), (1, 1, some false), (2, 1, some false), (3, 1, some false)]⟩),
  (107, ⟨.slice 50, 1, 24, some (.slice none 0 0), []⟩),
  (114, ⟨.struct, 4, 96, some (.agg #[.slice none 0 0, .slice none 0 0, .slice none 0 0, .slice none 0 0]), [(0, 1, some false), (1, 1, some false), (2, 1, some false), (3, 1, some false)]⟩),
  (117, ⟨.struct, 4, 96, some (.agg #[.slice none 0 0, .slice none 0 0, .slice none 0 0, .slice none 0 0]), [(0, 1, some false), (1, 1, some false), (2, 1, some false), (3, 1, some false)]⟩),
  (126, ⟨.struct, 3, 48, some (.agg #[.string ByteArray.empty, .int .i64 0, .slice none 0 0]), [(0, 1, some false), (1, 1, some false), (2, 1, some false)]⟩),
  (130, ⟨.struct, 4, 32, some (.agg #[.int .i64 0, .int .i64 0, .int .i64 0, .int .i64 0]), [(0, 1, some false), (1, 1, some false), (2, 1, some false), (3, 1, some false)]⟩),
  (138, ⟨.slice 3, 1, 24, some (.slice none 0 0), []⟩),
  (141, ⟨.slice 144, 1, 24, some (.slice none 0 0), []⟩),
  (144, ⟨.struct, 4, 32, some (.agg #[.int .i64 0, .int .i64 0, .int .i64 0, .bool false]), [(0, 1, some false), (1, 1, some false), (2, 1, some false), (3, 1, some false)]⟩),
  (148, ⟨.struct, 3, 32, some (.agg #[.string ByteArray.empty, .int .i64 0, .int .i64 0]), [(0, 1, some false), (1, 1, some false), (2, 1, some false)]⟩),
  (152, ⟨.slice 199, 1, 24, some (.slice none 0 0), []⟩),
  (153, ⟨.slice 159, 1, 24, some (.slice none 0 0), []⟩),
  (155, ⟨.struct, 7, 112, some (.agg #[.string ByteArray.empty, .int .i64 0, .slice none 0 0, .slice none 0 0, .slice none 0 0, .int .i64 0, .int .i64 0]), [(0, 1, some false), (1, 1, some false), (2, 1, some false), (3, 1, some false), (4, 1, some false), (5, 1, some false), (6, 1, some false)]⟩),
  (157, ⟨.slice 238, 1, 24, some (.slice none 0 0), []⟩),
  (159, ⟨.struct, 6, 80, some (.agg #[.int .i64 0, .int .i64 0, .int .i64 0, .int .i64 0, .slice none 0 0, .slice none 0 0]), [(0, 1, some false), (1, 1, some false), (2, 1, some false), (3, 1, some false), (4, 1, some false), (5, 1, some false)]⟩),
  (173, ⟨.slice 221, 1, 24, some (.slice none 0 0), []⟩),
  (174, ⟨.slice 225, 1, 24, some (.slice none 0 0), []⟩),
  (176, ⟨.struct, 7, 112, some (.agg #[.string ByteArray.empty, .int .i64 0, .slice none 0 0, .slice none 0 0, .slice none 0 0, .int .i64 0, .int .i64 0]), [(0, 1, some false), (1, 1, some false), (2, 1, some false), (3, 1, some false), (4, 1, some false), (5, 1, some false), (6, 1, some false)]⟩),
  (178, ⟨.struct, 3, 48, some (.agg #[.string ByteArray.empty, .int .i64 0, .slice none 0 0]), [(0, 1, some false), (1, 1, some false), (2, 1, some false)]⟩),
  (180, ⟨.struct, 3, 32, some (.agg #[.string ByteArray.empty, .int .i64 0, .int .i64 0]), [(0, 1, some false), (1, 1, some false), (2, 1, some false)]⟩),
  (190, ⟨.slice 192, 1, 24, some (.slice none 0 0), []⟩),
  (192, ⟨.arr 2 2, 2, 16, some (.agg #[.int .i64 0, .int .i64 0]), []⟩),
  (199, ⟨.struct, 4, 40, some (.agg #[.string ByteArray.empty, .int .i64 0, .int .i64 0, .bool false]), [(0, 1, some false), (1, 1, some false), (2, 1, some false), (3, 1, some false)]⟩),
  (218, ⟨.slice 5, 1, 24, some (.slice none 0 0), []⟩),
  (221, ⟨.struct, 4, 40, some (.agg #[.string ByteArray.empty, .int .i64 0, .int .i64 0, .bool false]), [(0, 1, some false), (1, 1, some false), (2, 1, some false), (3, 1, some false)]⟩),
  (223, ⟨.slice 247, 1, 24, some (.slice none 0 0), []⟩),
  (225, ⟨.struct, 6, 80, some (.agg #[.int .i64 0, .int .i64 0, .int .i64 0, .int .i64 0, .slice none 0 0, .slice none 0 0]), [(0, 1, some false), (1, 1, some false), (2, 1, some false), (3, 1, some false), (4, 1, some false), (5, 1, some false)]⟩),
  (230, ⟨.int .u64, 1, 8, some (.int .u64 0), []⟩),
  (238, ⟨.struct, 3, 72, some (.agg #[.slice none 0 0, .slice none 0 0, .slice none 0 0]), [(0, 1, some false), (1, 1, some false), (2, 1, some false)]⟩),
  (247, ⟨.struct, 3, 72, some (.agg #[.slice none 0 0, .slice none 0 0, .slice none 0 0]), [(0, 1, some false), (1, 1, some false), (2, 1, some false)]⟩),
  (249, ⟨.struct, 2, 16, some (.agg #[.int .i64 0, .int .i64 0]), [(0, 1, some false), (1, 1, some false)]⟩)]
theorem tabOk : TabOk Tryz.prog tab := TabOk.mk (by kernel_rfl)
theorem rp {n : Nat} {Q : Exit → Act → World → Prop} {k : List It} {e : Env} {w : World} {all : Array Oper} {l : List Oper} {op : Op} {d t : Nat} {ps : String} {af : Array Edge} {v : Value}
    (h : pev tab e op = some v) (hn : Nat.blt d n = true) (hk : Run Tryz.prog n Q (.ops all l :: k) ((d, v) :: e) w) : Run Tryz.prog n Q (.ops all (⟨some d, op, t, ps, af, none⟩ :: l) :: k) e w := r_p tabOk h hn hk
theorem dp {n : Nat} {Q : Exit → Act → World → Prop} {k : List It} {e : Env} {w : World} {all : Array Oper} {l : List Oper} {op : Op} {d t : Nat} {ps : String} {af : Array Edge} {v : Value}
    (h : pev tab e op = some v) (hn : Nat.blt d n = true) (hk : RunD Tryz.prog n Q k all w l ((d, v) :: e)) : RunD Tryz.prog n Q k all w (⟨some d, op, t, ps, af, none⟩ :: l) e := d_p tabOk h hn hk
theorem call8 : CallOk Tryz.prog 8 := ⟨_, Tryz.func8, rfl, by kernel_rfl⟩
theorem call9 : CallOk Tryz.prog 9 := ⟨_, Tryz.func9, rfl, by kernel_rfl⟩
theorem call10 : CallOk Tryz.prog 10 := ⟨_, Tryz.func10, rfl, by kernel_rfl⟩
theorem call11 : CallOk Tryz.prog 11 := ⟨_, Tryz.func11, rfl, by kernel_rfl⟩
theorem call12 : CallOk Tryz.prog 12 := ⟨_, Tryz.func12, rfl, by kernel_rfl⟩
theorem call13 : CallOk Tryz.prog 13 := ⟨_, Tryz.func13, rfl, by kernel_rfl⟩
theorem call14 : CallOk Tryz.prog 14 := ⟨_, Tryz.func14, rfl, by kernel_rfl⟩
theorem call15 : CallOk Tryz.prog 15 := ⟨_, Tryz.func15, rfl, by kernel_rfl⟩
theorem call22 : CallOk Tryz.prog 22 := ⟨_, Tryz.func22, rfl, by kernel_rfl⟩
theorem call27 : CallOk Tryz.prog 27 := ⟨_, Tryz.func27, rfl, by kernel_rfl⟩
theorem call29 : CallOk Tryz.prog 29 := ⟨_, Tryz.func29, rfl, by kernel_rfl⟩
theorem call30 : CallOk Tryz.prog 30 := ⟨_, Tryz.func30, rfl, by kernel_rfl⟩
theorem call31 : CallOk Tryz.prog 31 := ⟨_, Tryz.func31, rfl, by kernel_rfl⟩
theorem call32 : CallOk Tryz.prog 32 := ⟨_, Tryz.func32, rfl, by kernel_rfl⟩
theorem call33 : CallOk Tryz.prog 33 := ⟨_, Tryz.func33, rfl, by kernel_rfl⟩
theorem call34 : CallOk Tryz.prog 34 := ⟨_, Tryz.func34, rfl, by kernel_rfl⟩
theorem call35 : CallOk Tryz.prog 35 := ⟨_, Tryz.func35, rfl, by kernel_rfl⟩
theorem call36 : CallOk Tryz.prog 36 := ⟨_, Tryz.func36, rfl, by kernel_rfl⟩
theorem call37 : CallOk Tryz.prog 37 := ⟨_, Tryz.func37, rfl, by kernel_rfl⟩
theorem call38 : CallOk Tryz.prog 38 := ⟨_, Tryz.func38, rfl, by kernel_rfl⟩
theorem call39 : CallOk Tryz.prog 39 := ⟨_, Tryz.func39, rfl, by kernel_rfl⟩
theorem call40 : CallOk Tryz.prog 40 := ⟨_, Tryz.func40, rfl, by kernel_rfl⟩
theorem call41 : CallOk Tryz.prog 41 := ⟨_, Tryz.func41, rfl, by kernel_rfl⟩
theorem call42 : CallOk Tryz.prog 42 := ⟨_, Tryz.func42, rfl, by kernel_rfl⟩
theorem call43 : CallOk Tryz.prog 43 := ⟨_, Tryz.func43, rfl, by kernel_rfl⟩
theorem call44 : CallOk Tryz.prog 44 := ⟨_, Tryz.func44, rfl, by kernel_rfl⟩
theorem call48 : CallOk Tryz.prog 48 := ⟨_, Tryz.func48, rfl, by kernel_rfl⟩
theorem call62 : CallOk Tryz.prog 62 := ⟨_, Tryz.func62, rfl, by kernel_rfl⟩
theorem call63 : CallOk Tryz.prog 63 := ⟨_, Tryz.func63, rfl, by kernel_rfl⟩
theorem call64 : CallOk Tryz.prog 64 := ⟨_, Tryz.func64, rfl, by kernel_rfl⟩
theorem call65 : CallOk Tryz.prog 65 := ⟨_, Tryz.func65, rfl, by kernel_rfl⟩
theorem call66 : CallOk Tryz.prog 66 := ⟨_, Tryz.func66, rfl, by kernel_rfl⟩
theorem call67 : CallOk Tryz.prog 67 := ⟨_, Tryz.func67, rfl, by kernel_rfl⟩
theorem call68 : CallOk Tryz.prog 68 := ⟨_, Tryz.func68, rfl, by kernel_rfl⟩
theorem call69 : CallOk Tryz.prog 69 := ⟨_, Tryz.func69, rfl, by kernel_rfl⟩
theorem call70 : CallOk Tryz.prog 70 := ⟨_, Tryz.func70, rfl, by kernel_rfl⟩
theorem call71 : CallOk Tryz.prog 71 := ⟨_, Tryz.func71, rfl, by kernel_rfl⟩
theorem call72 : CallOk Tryz.prog 72 := ⟨_, Tryz.func72, rfl, by kernel_rfl⟩
theorem call73 : CallOk Tryz.prog 73 := ⟨_, Tryz.func73, rfl, by kernel_rfl⟩
theorem call74 : CallOk Tryz.prog 74 := ⟨_, Tryz.func74, rfl, by kernel_rfl⟩
theorem call75 : CallOk Tryz.prog 75 := ⟨_, Tryz.func75, rfl, by kernel_rfl⟩
theorem call76 : CallOk Tryz.prog 76 := ⟨_, Tryz.func76, rfl, by kernel_rfl⟩
theorem call77 : CallOk Tryz.prog 77 := ⟨_, Tryz.func77, rfl, by kernel_rfl⟩
theorem call78 : CallOk Tryz.prog 78 := ⟨_, Tryz.func78, rfl, by kernel_rfl⟩
theorem call79 : CallOk Tryz.prog 79 := ⟨_, Tryz.func79, rfl, by kernel_rfl⟩
theorem call80 : CallOk Tryz.prog 80 := ⟨_, Tryz.func80, rfl, by kernel_rfl⟩
theorem call81 : CallOk Tryz.prog 81 := ⟨_, Tryz.func81, rfl, by kernel_rfl⟩
theorem call82 : CallOk Tryz.prog 82 := ⟨_, Tryz.func82, rfl, by kernel_rfl⟩
theorem call83 : CallOk Tryz.prog 83 := ⟨_, Tryz.func83, rfl, by kernel_rfl⟩
theorem call84 : CallOk Tryz.prog 84 := ⟨_, Tryz.func84, rfl, by kernel_rfl⟩
theorem call85 : CallOk Tryz.prog 85 := ⟨_, Tryz.func85, rfl, by kernel_rfl⟩
theorem call86 : CallOk Tryz.prog 86 := ⟨_, Tryz.func86, rfl, by kernel_rfl⟩
theorem call87 : CallOk Tryz.prog 87 := ⟨_, Tryz.func87, rfl, by kernel_rfl⟩
theorem call88 : CallOk Tryz.prog 88 := ⟨_, Tryz.func88, rfl, by kernel_rfl⟩
theorem call89 : CallOk Tryz.prog 89 := ⟨_, Tryz.func89, rfl, by kernel_rfl⟩
theorem call90 : CallOk Tryz.prog 90 := ⟨_, Tryz.func90, rfl, by kernel_rfl⟩
theorem call93 : CallOk Tryz.prog 93 := ⟨_, Tryz.func93, rfl, by kernel_rfl⟩
theorem call100 : CallOk Tryz.prog 100 := ⟨_, Tryz.func100, rfl, by kernel_rfl⟩
theorem call103 : CallOk Tryz.prog 103 := ⟨_, Tryz.func103, rfl, by kernel_rfl⟩
theorem call106 : CallOk Tryz.prog 106 := ⟨_, Tryz.func106, rfl, by kernel_rfl⟩
theorem call115 : CallOk Tryz.prog 115 := ⟨_, Tryz.func115, rfl, by kernel_rfl⟩
theorem call116 : CallOk Tryz.prog 116 := ⟨_, Tryz.func116, rfl, by kernel_rfl⟩
theorem call117 : CallOk Tryz.prog 117 := ⟨_, Tryz.func117, rfl, by kernel_rfl⟩
theorem call118 : CallOk Tryz.prog 118 := ⟨_, Tryz.func118, rfl, by kernel_rfl⟩
theorem call119 : CallOk Tryz.prog 119 := ⟨_, Tryz.func119, rfl, by kernel_rfl⟩
theorem call120 : CallOk Tryz.prog 120 := ⟨_, Tryz.func120, rfl, by kernel_rfl⟩
theorem call121 : CallOk Tryz.prog 121 := ⟨_, Tryz.func121, rfl, by kernel_rfl⟩
theorem call122 : CallOk Tryz.prog 122 := ⟨_, Tryz.func122, rfl, by kernel_rfl⟩
theorem call123 : CallOk Tryz.prog 123 := ⟨_, Tryz.func123, rfl, by kernel_rfl⟩
theorem call124 : CallOk Tryz.prog 124 := ⟨_, Tryz.func124, rfl, by kernel_rfl⟩
theorem call125 : CallOk Tryz.prog 125 := ⟨_, Tryz.func125, rfl, by kernel_rfl⟩
theorem call126 : CallOk Tryz.prog 126 := ⟨_, Tryz.func126, rfl, by kernel_rfl⟩
theorem call127 : CallOk Tryz.prog 127 := ⟨_, Tryz.func127, rfl, by kernel_rfl⟩
theorem call128 : CallOk Tryz.prog 128 := ⟨_, Tryz.func128, rfl, by kernel_rfl⟩
theorem call129 : CallOk Tryz.prog 129 := ⟨_, Tryz.func129, rfl, by kernel_rfl⟩
theorem call130 : CallOk Tryz.prog 130 := ⟨_, Tryz.func130, rfl, by kernel_rfl⟩
theorem call131 : CallOk Tryz.prog 131 := ⟨_, Tryz.func131, rfl, by kernel_rfl⟩
theorem call132 : CallOk Tryz.prog 132 := ⟨_, Tryz.func132, rfl, by kernel_rfl⟩
theorem call133 : CallOk Tryz.prog 133 := ⟨_, Tryz.func133, rfl, by kernel_rfl⟩
theorem call134 : CallOk Tryz.prog 134 := ⟨_, Tryz.func134, rfl, by kernel_rfl⟩
theorem call135 : CallOk Tryz.prog 135 := ⟨_, Tryz.func135, rfl, by kernel_rfl⟩
theorem call136 : CallOk Tryz.prog 136 := ⟨_, Tryz.func136, rfl, by kernel_rfl⟩
theorem call137 : CallOk Tryz.prog 137 := ⟨_, Tryz.func137, rfl, by kernel_rfl⟩
theorem call138 : CallOk Tryz.prog 138 := ⟨_, Tryz.func138, rfl, by kernel_rfl⟩
theorem call139 : CallOk Tryz.prog 139 := ⟨_, Tryz.func139, rfl, by kernel_rfl⟩
theorem call140 : CallOk Tryz.prog 140 := ⟨_, Tryz.func140, rfl, by kernel_rfl⟩
theorem call141 : CallOk Tryz.prog 141 := ⟨_, Tryz.func141, rfl, by kernel_rfl⟩
theorem call142 : CallOk Tryz.prog 142 := ⟨_, Tryz.func142, rfl, by kernel_rfl⟩
theorem call147 : CallOk Tryz.prog 147 := ⟨_, Tryz.func147, rfl, by kernel_rfl⟩
theorem call148 : CallOk Tryz.prog 148 := ⟨_, Tryz.func148, rfl, by kernel_rfl⟩
theorem call149 : CallOk Tryz.prog 149 := ⟨_, Tryz.func149, rfl, by kernel_rfl⟩
theorem call150 : CallOk Tryz.prog 150 := ⟨_, Tryz.func150, rfl, by kernel_rfl⟩
theorem call151 : CallOk Tryz.prog 151 := ⟨_, Tryz.func151, rfl, by kernel_rfl⟩
theorem call152 : CallOk Tryz.prog 152 := ⟨_, Tryz.func152, rfl, by kernel_rfl⟩
theorem call153 : CallOk Tryz.prog 153 := ⟨_, Tryz.func153, rfl, by kernel_rfl⟩
theorem call154 : CallOk Tryz.prog 154 := ⟨_, Tryz.func154, rfl, by kernel_rfl⟩
theorem call155 : CallOk Tryz.prog 155 := ⟨_, Tryz.func155, rfl, by kernel_rfl⟩
theorem call156 : CallOk Tryz.prog 156 := ⟨_, Tryz.func156, rfl, by kernel_rfl⟩
theorem call157 : CallOk Tryz.prog 157 := ⟨_, Tryz.func157, rfl, by kernel_rfl⟩
theorem call158 : CallOk Tryz.prog 158 := ⟨_, Tryz.func158, rfl, by kernel_rfl⟩
theorem call159 : CallOk Tryz.prog 159 := ⟨_, Tryz.func159, rfl, by kernel_rfl⟩
theorem call160 : CallOk Tryz.prog 160 := ⟨_, Tryz.func160, rfl, by kernel_rfl⟩
theorem call161 : CallOk Tryz.prog 161 := ⟨_, Tryz.func161, rfl, by kernel_rfl⟩
theorem call163 : CallOk Tryz.prog 163 := ⟨_, Tryz.func163, rfl, by kernel_rfl⟩
theorem call164 : CallOk Tryz.prog 164 := ⟨_, Tryz.func164, rfl, by kernel_rfl⟩
theorem call165 : CallOk Tryz.prog 165 := ⟨_, Tryz.func165, rfl, by kernel_rfl⟩
theorem call166 : CallOk Tryz.prog 166 := ⟨_, Tryz.func166, rfl, by kernel_rfl⟩
theorem call167 : CallOk Tryz.prog 167 := ⟨_, Tryz.func167, rfl, by kernel_rfl⟩
theorem call168 : CallOk Tryz.prog 168 := ⟨_, Tryz.func168, rfl, by kernel_rfl⟩
theorem call169 : CallOk Tryz.prog 169 := ⟨_, Tryz.func169, rfl, by kernel_rfl⟩
theorem call170 : CallOk Tryz.prog 170 := ⟨_, Tryz.func170, rfl, by kernel_rfl⟩
theorem call171 : CallOk Tryz.prog 171 := ⟨_, Tryz.func171, rfl, by kernel_rfl⟩
theorem call172 : CallOk Tryz.prog 172 := ⟨_, Tryz.func172, rfl, by kernel_rfl⟩
theorem call173 : CallOk Tryz.prog 173 := ⟨_, Tryz.func173, rfl, by kernel_rfl⟩
theorem call174 : CallOk Tryz.prog 174 := ⟨_, Tryz.func174, rfl, by kernel_rfl⟩
theorem call175 : CallOk Tryz.prog 175 := ⟨_, Tryz.func175, rfl, by kernel_rfl⟩
theorem call176 : CallOk Tryz.prog 176 := ⟨_, Tryz.func176, rfl, by kernel_rfl⟩
theorem call177 : CallOk Tryz.prog 177 := ⟨_, Tryz.func177, rfl, by kernel_rfl⟩
theorem call178 : CallOk Tryz.prog 178 := ⟨_, Tryz.func178, rfl, by kernel_rfl⟩
theorem call179 : CallOk Tryz.prog 179 := ⟨_, Tryz.func179, rfl, by kernel_rfl⟩
theorem call180 : CallOk Tryz.prog 180 := ⟨_, Tryz.func180, rfl, by kernel_rfl⟩
theorem call181 : CallOk Tryz.prog 181 := ⟨_, Tryz.func181, rfl, by kernel_rfl⟩
theorem call182 : CallOk Tryz.prog 182 := ⟨_, Tryz.func182, rfl, by kernel_rfl⟩
theorem call183 : CallOk Tryz.prog 183 := ⟨_, Tryz.func183, rfl, by kernel_rfl⟩
theorem call184 : CallOk Tryz.prog 184 := ⟨_, Tryz.func184, rfl, by kernel_rfl⟩
theorem call185 : CallOk Tryz.prog 185 := ⟨_, Tryz.func185, rfl, by kernel_rfl⟩
theorem call186 : CallOk Tryz.prog 186 := ⟨_, Tryz.func186, rfl, by kernel_rfl⟩
theorem call187 : CallOk Tryz.prog 187 := ⟨_, Tryz.func187, rfl, by kernel_rfl⟩
theorem call188 : CallOk Tryz.prog 188 := ⟨_, Tryz.func188, rfl, by kernel_rfl⟩
theorem call189 : CallOk Tryz.prog 189 := ⟨_, Tryz.func189, rfl, by kernel_rfl⟩
theorem call198 : CallOk Tryz.prog 198 := ⟨_, Tryz.func198, rfl, by kernel_rfl⟩
theorem call199 : CallOk Tryz.prog 199 := ⟨_, Tryz.func199, rfl, by kernel_rfl⟩
theorem call200 : CallOk Tryz.prog 200 := ⟨_, Tryz.func200, rfl, by kernel_rfl⟩
theorem call201 : CallOk Tryz.prog 201 := ⟨_, Tryz.func201, rfl, by kernel_rfl⟩
theorem call202 : CallOk Tryz.prog 202 := ⟨_, Tryz.func202, rfl, by kernel_rfl⟩
theorem call203 : CallOk Tryz.prog 203 := ⟨_, Tryz.func203, rfl, by kernel_rfl⟩
theorem call204 : CallOk Tryz.prog 204 := ⟨_, Tryz.func204, rfl, by kernel_rfl⟩
theorem call210 : CallOk Tryz.prog 210 := ⟨_, Tryz.func210, rfl, by kernel_rfl⟩
theorem call211 : CallOk Tryz.prog 211 := ⟨_, Tryz.func211, rfl, by kernel_rfl⟩
theorem call212 : CallOk Tryz.prog 212 := ⟨_, Tryz.func212, rfl, by kernel_rfl⟩
theorem call213 : CallOk Tryz.prog 213 := ⟨_, Tryz.func213, rfl, by kernel_rfl⟩
theorem call214 : CallOk Tryz.prog 214 := ⟨_, Tryz.func214, rfl, by kernel_rfl⟩
theorem call215 : CallOk Tryz.prog 215 := ⟨_, Tryz.func215, rfl, by kernel_rfl⟩
theorem call216 : CallOk Tryz.prog 216 := ⟨_, Tryz.func216, rfl, by kernel_rfl⟩
theorem call220 : CallOk Tryz.prog 220 := ⟨_, Tryz.func220, rfl, by kernel_rfl⟩
theorem call221 : CallOk Tryz.prog 221 := ⟨_, Tryz.func221, rfl, by kernel_rfl⟩

def laws_szInt64S (_ : Nat) (a : (List Int)) (left : Int) : Option Int :=
  bif decide ((W64 (left - (a.length : Int))) < 0) then
    some (-1)
  else
    some (W64 (left - (a.length : Int)))

theorem laws_szInt64S_ok {n : Nat} {w : World} {a : (List Int)} {left : Int} {cs1 : List Value} (ha1 : GoT.R w (old w) a cs1) {r : Int} (hF : laws_szInt64S n a left = some r) : RetV Tryz.prog 32 [GoT.v (List Int) cs1, .int .i64 left] w r := by
  obtain ⟨p1, k1, rfl, s1⟩ := ha1
  refine retV_of_run Tryz.func32 rfl (m := 12) rfl rfl (fun h => ?_)
  rw [laws_szInt64S] at hF
  refine r_seq (r_region (rp rfl rfl (r_nil (r_seq (r_region (rp rfl rfl (rp rfl rfl (rp rfl rfl (rp rfl rfl (rp rfl rfl (r_nil ?_)))))))))))
  refine r_seq (r_seq (r_region (rp rfl rfl (rp rfl rfl (r_nil ?_)))))
  refine r_if rfl hF (fun hF => ?_) (fun hF => ?_)
  · exact r_seq (r_region (rp rfl rfl (r_nil (r_rI tabOk h hF ⟨rfl, trivial⟩))))
  exact r_skip (r_seq (r_region (rp rfl rfl (rp rfl rfl (r_nil (r_rI tabOk h hF ⟨rfl, trivial⟩))))))

def laws_szPin (_ : Nat) (a : TPin) (left : Int) : Option Int :=
  bif decide ((W64 (left - (a.Name.size : Int))) < 0) then
    some (-1)
  else
    some (W64 (left - (a.Name.size : Int)))

theorem laws_szPin_ok {n : Nat} {w : World} {a : TPin} {left : Int} {cs1 : List Value} (ha1 : GoT.R w (old w) a cs1) {r : Int} (hF : laws_szPin n a left = some r) : RetV Tryz.prog 163 [GoT.v TPin cs1, .int .i64 left] w r := by
  obtain rfl := open_TPin ha1
  refine retV_of_run Tryz.func163 rfl (m := 13) rfl rfl (fun h => ?_)
  rw [laws_szPin] at hF
  refine r_seq (r_region (r_box h rfl rfl ?_))
  intro w1 bb1 h
  refine rp rfl rfl (r_nil (r_seq (r_region (rp rfl rfl (rp rfl rfl (r_v (v_ld tabOk (h.box 0 rfl) (j := 0) rfl rfl rfl) rfl (rp rfl rfl (rp rfl rfl (rp rfl rfl (r_nil (r_seq ?_)))))))))))
  refine r_seq (r_region (rp rfl rfl (rp rfl rfl (r_nil ?_))))
  refine r_if rfl hF (fun hF => ?_) (fun hF => ?_)
  · exact r_seq (r_region (rp rfl rfl (r_nil (r_rI tabOk h hF ⟨rfl, trivial⟩))))
  exact r_skip (r_seq (r_region (rp rfl rfl (rp rfl rfl (r_nil (r_rI tabOk h hF ⟨rfl, trivial⟩))))))

def laws_szPinS_L1 (a : (List TPin)) : Nat → Int → Int → Option (Flow Int (Int × Int))
  | 0, _, _ => none
  | n + 1, i1, i2 =>
    bif decide (i2 < (a.length : Int)) then
      (idx a i2).bind fun y1 =>
      (laws_szPin n y1 i1).bind fun r1 =>
      bif decide (r1 < 0) then
        some (.ret (-1))
      else
        laws_szPinS_L1 a n r1 (W64 (i2 + 1))
    else
      some (.nxt (i1, i2))

def laws_szPinS (n : Nat) (a : (List TPin)) (left : Int) : Option Int :=
  bif decide ((W64 (left - (a.length : Int))) < 0) then
    some (-1)
  else
    (laws_szPinS_L1 a n (W64 (left - (a.length : Int))) 0).bind fun o => match o with
    | .ret r => some r
    | .nxt (i1, _) =>
      some i1

theorem laws_szPinS_ok {n : Nat} {w : World} {a : (List TPin)} {left : Int} {cs1 : List Value} (ha1 : GoT.R w (old w) a cs1) {r : Int} (hF : laws_szPinS n a left = some r) : RetV Tryz.prog 147 [GoT.v (List TPin) cs1, .int .i64 left] w r := by
  obtain ⟨p1, k1, rfl, s1⟩ := ha1
  refine retV_of_run Tryz.func147 rfl (m := 27) rfl rfl (fun h => ?_)
  rw [laws_szPinS] at hF
  refine r_seq (r_region (rp rfl rfl (r_nil (r_seq (r_region (rp rfl rfl (rp rfl rfl (rp rfl rfl (rp rfl rfl (rp rfl rfl (r_nil ?_)))))))))))
  refine r_seq (r_seq (r_region (rp rfl rfl (rp rfl rfl (r_nil ?_)))))
  refine r_if rfl hF (fun hF => ?_) (fun hF => ?_)
  · exact r_seq (r_region (rp rfl rfl (r_nil (r_rI tabOk h hF ⟨rfl, trivial⟩))))
  refine r_skip (r_seq (r_seq (r_region (rp rfl rfl (r_nil ?_)))))
  obtain ⟨o1, hF, hK1⟩ := bindS hF
  refine r_block (r_sub [(0, _), (1, _), (5, _)] ⟨rfl, rfl, rfl, trivial⟩ ?_)
  refine r_loop (fun m e w' => ∃ (i1 : Int) (i2 : Int), laws_szPinS_L1 a m i1 i2 = some o1 ∧ e = [(0, .slice p1 a.length k1), (1, .int .i64 i1), (5, .int .i64 i2)] ∧ SH w w' []) n ⟨_, _, hF, rfl, h⟩ ?_
  rintro m1 e1 w1 ⟨i1, i2, hF, rfl, h⟩
  rcases m1 with _ | m1
  · rw [laws_szPinS_L1] at hF
    cases hF
  rw [laws_szPinS_L1] at hF
  refine r_seq (r_seq (r_region (rp rfl rfl (rp rfl rfl (rp rfl rfl (rp rfl rfl (r_nil ?_)))))))
  refine r_if rfl hF (fun hF => ?_) (fun hF => ?_)
  · refine r_skip (r_seq (r_block (r_seq (r_region (rp rfl rfl (rp rfl rfl ?_))))))
    obtain ⟨y1, hy1, hF⟩ := bindS hF
    have he1 := idx_some hy1
    obtain ⟨b1, o_1, q1, cs2, hp1, hq1, -, hr1, hc3⟩ := s1.at hy1
    obtain rfl := open_TPin hr1
    refine r_v (v_ix tabOk hp1 hq1 ⟨he1.1, he1.2.1⟩ rfl rfl rfl rfl rfl rfl) rfl (r_v (v_ld tabOk (hc3.below h.below) (j := 0) rfl rfl rfl) rfl (rp rfl rfl ?_))
    obtain ⟨r1, hr2, hF⟩ := bindS hF
    refine r_callI r1 h call163 (laws_szPin_ok (mkR_TPin y1) hr2) rfl rfl rfl rfl ?_
    intro w2 h
    refine rp rfl rfl (r_nil (r_seq (r_region (rp rfl rfl (rp rfl rfl (r_nil ?_))))))
    refine r_if rfl hF (fun hF => ?_) (fun hF => ?_)
    · refine r_seq (r_region (rp rfl rfl (r_nil ?_)))
      obtain rfl := someI hF; replace hF := hK1
      exact r_rI tabOk h hF ⟨rfl, trivial⟩
    exact r_skip (r_blk (r_region (rp rfl rfl (rp rfl rfl (rp rfl rfl (r_nil (r_back m1 [(0, _), (1, _), (5, _)] (Nat.lt_succ_self m1) ⟨rfl, rfl, rfl, trivial⟩ ⟨_, _, hF, rfl, h⟩)))))))
  refine r_exit rfl ?_
  obtain rfl := someI hF; replace hF := hK1
  exact r_seq (r_region (rp rfl rfl (rp rfl rfl (r_nil (r_rI tabOk h hF ⟨rfl, trivial⟩)))))

def laws_szTable (n : Nat) (a : TTable) (left : Int) : Option Int :=
  (laws_szInt64S n a.Slews left).bind fun r1 =>
  bif decide (r1 < 0) then
    some (-1)
  else
    (laws_szInt64S n a.Loads r1).bind fun r2 =>
    bif decide (r2 < 0) then
      some (-1)
    else
      (laws_szInt64S n a.Values r2).bind fun r3 =>
      bif decide (r3 < 0) then
        some (-1)
      else
        some r3

theorem laws_szTable_ok {n : Nat} {w : World} {a : TTable} {left : Int} {cs1 : List Value} (ha1 : GoT.R w (old w) a cs1) {r : Int} (hF : laws_szTable n a left = some r) : RetV Tryz.prog 187 [GoT.v TTable cs1, .int .i64 left] w r := by
  obtain ⟨p1, k1, p2, k2, p3, k3, rfl, s1, s2, s3⟩ := open_TTable ha1
  refine retV_of_run Tryz.func187 rfl (m := 24) rfl rfl (fun h => ?_)
  rw [laws_szTable] at hF
  refine r_seq (r_region (r_box h rfl rfl ?_))
  intro w1 bb1 h
  refine rp rfl rfl (r_nil (r_seq (r_region (rp rfl rfl (r_v (v_ld tabOk (h.box 0 rfl) (j := 0) rfl rfl rfl) rfl (rp rfl rfl ?_))))))
  obtain ⟨r1, hr1, hF⟩ := bindS hF
  refine r_callI r1 h call32 (laws_szInt64S_ok ⟨_, _, rfl, (h.oldS s1)⟩ hr1) rfl rfl rfl rfl ?_
  intro w2 h
  refine rp rfl rfl (r_nil (r_seq (r_seq (r_region (rp rfl rfl (rp rfl rfl (r_nil ?_)))))))
  refine r_if rfl hF (fun hF => ?_) (fun hF => ?_)
  · exact r_seq (r_region (rp rfl rfl (r_nil (r_rI tabOk h hF ⟨rfl, trivial⟩))))
  refine r_skip (r_seq (r_region (rp rfl rfl (r_v (v_ld tabOk (h.box 0 rfl) (j := 1) rfl rfl rfl) rfl (rp rfl rfl ?_)))))
  obtain ⟨r2, hr2, hF⟩ := bindS hF
  refine r_callI r2 h call32 (laws_szInt64S_ok ⟨_, _, rfl, (h.oldS s2)⟩ hr2) rfl rfl rfl rfl ?_
  intro w3 h
  refine rp rfl rfl (r_nil (r_seq (r_seq (r_region (rp rfl rfl (rp rfl rfl (r_nil ?_)))))))
  refine r_if rfl hF (fun hF => ?_) (fun hF => ?_)
  · exact r_seq (r_region (rp rfl rfl (r_nil (r_rI tabOk h hF ⟨rfl, trivial⟩))))
  refine r_skip (r_seq (r_region (rp rfl rfl (r_v (v_ld tabOk (h.box 0 rfl) (j := 2) rfl rfl rfl) rfl (rp rfl rfl ?_)))))
  obtain ⟨r3, hr3, hF⟩ := bindS hF
  refine r_callI r3 h call32 (laws_szInt64S_ok ⟨_, _, rfl, (h.oldS s3)⟩ hr3) rfl rfl rfl rfl ?_
  intro w4 h
  refine rp rfl rfl (r_nil (r_seq (r_seq (r_region (rp rfl rfl (rp rfl rfl (r_nil ?_)))))))
  refine r_if rfl hF (fun hF => ?_) (fun hF => ?_)
  · exact r_seq (r_region (rp rfl rfl (r_nil (r_rI tabOk h hF ⟨rfl, trivial⟩))))
  exact r_skip (r_seq (r_region (rp rfl rfl (rp rfl rfl (r_nil (r_rI tabOk h hF ⟨rfl, trivial⟩))))))

def laws_szTableS_L1 (a : (List TTable)) : Nat → Int → Int → Option (Flow Int (Int × Int))
  | 0, _, _ => none
  | n + 1, i1, i2 =>
    bif decide (i2 < (a.length : Int)) then
      (idx a i2).bind fun y1 =>
      (laws_szTable n y1 i1).bind fun r1 =>
      bif decide (r1 < 0) then
        some (.ret (-1))
      else
        laws_szTableS_L1 a n r1 (W64 (i2 + 1))
    else
      some (.nxt (i1, i2))

def laws_szTableS (n : Nat) (a : (List TTable)) (left : Int) : Option Int :=
  bif decide ((W64 (left - (a.length : Int))) < 0) then
    some (-1)
  else
    (laws_szTableS_L1 a n (W64 (left - (a.length : Int))) 0).bind fun o => match o with
    | .ret r => some r
    | .nxt (i1, _) =>
      some i1

theorem laws_szTableS_ok {n : Nat} {w : World} {a : (List TTable)} {left : Int} {cs1 : List Value} (ha1 : GoT.R w (old w) a cs1) {r : Int} (hF : laws_szTableS n a left = some r) : RetV Tryz.prog 177 [GoT.v (List TTable) cs1, .int .i64 left] w r := by
  obtain ⟨p1, k1, rfl, s1⟩ := ha1
  refine retV_of_run Tryz.func177 rfl (m := 27) rfl rfl (fun h => ?_)
  rw [laws_szTableS] at hF
  refine r_seq (r_region (rp rfl rfl (r_nil (r_seq (r_region (rp rfl rfl (rp rfl rfl (rp rfl rfl (rp rfl rfl (rp rfl rfl (r_nil ?_)))))))))))
  refine r_seq (r_seq (r_region (rp rfl rfl (rp rfl rfl (r_nil ?_)))))
  refine r_if rfl hF (fun hF => ?_) (fun hF => ?_)
  · exact r_seq (r_region (rp rfl rfl (r_nil (r_rI tabOk h hF ⟨rfl, trivial⟩))))
  refine r_skip (r_seq (r_seq (r_region (rp rfl rfl (r_nil ?_)))))
  obtain ⟨o1, hF, hK1⟩ := bindS hF
  refine r_block (r_sub [(0, _), (1, _), (5, _)] ⟨rfl, rfl, rfl, trivial⟩ ?_)
  refine r_loop (fun m e w' => ∃ (i1 : Int) (i2 : Int), laws_szTableS_L1 a m i1 i2 = some o1 ∧ e = [(0, .slice p1 a.length k1), (1, .int .i64 i1), (5, .int .i64 i2)] ∧ SH w w' []) n ⟨_, _, hF, rfl, h⟩ ?_
  rintro m1 e1 w1 ⟨i1, i2, hF, rfl, h⟩
  rcases m1 with _ | m1
  · rw [laws_szTableS_L1] at hF
    cases hF
  rw [laws_szTableS_L1] at hF
  refine r_seq (r_seq (r_region (rp rfl rfl (rp rfl rfl (rp rfl rfl (rp rfl rfl (r_nil ?_)))))))
  refine r_if rfl hF (fun hF => ?_) (fun hF => ?_)
  · refine r_skip (r_seq (r_block (r_seq (r_region (rp rfl rfl (rp rfl rfl ?_))))))
    obtain ⟨y1, hy1, hF⟩ := bindS hF
    have he1 := idx_some hy1
    obtain ⟨b1, o_1, q1, cs2, hp1, hq1, -, hr1, hc3⟩ := s1.at hy1
    obtain ⟨p2, k2, p3, k3, p4, k4, rfl, s2, s3, s4⟩ := open_TTable hr1
    refine r_v (v_ix tabOk hp1 hq1 ⟨he1.1, he1.2.1⟩ rfl rfl rfl rfl rfl rfl) rfl (r_v (v_ld tabOk (hc3.below h.below) (j := 0) rfl rfl rfl) rfl (rp rfl rfl ?_))
    obtain ⟨r1, hr2, hF⟩ := bindS hF
    refine r_callI r1 h call187 (laws_szTable_ok (mkR_TTable y1 (h.oldS s2) (h.oldS s3) (h.oldS s4)) hr2) rfl rfl rfl rfl ?_
    intro w2 h
    refine rp rfl rfl (r_nil (r_seq (r_region (rp rfl rfl (rp rfl rfl (r_nil ?_))))))
    refine r_if rfl hF (fun hF => ?_) (fun hF => ?_)
    · refine r_seq (r_region (rp rfl rfl (r_nil ?_)))
      obtain rfl := someI hF; replace hF := hK1
      exact r_rI tabOk h hF ⟨rfl, trivial⟩
    exact r_skip (r_blk (r_region (rp rfl rfl (rp rfl rfl (rp rfl rfl (r_nil (r_back m1 [(0, _), (1, _), (5, _)] (Nat.lt_succ_self m1) ⟨rfl, rfl, rfl, trivial⟩ ⟨_, _, hF, rfl, h⟩)))))))
  refine r_exit rfl ?_
  obtain rfl := someI hF; replace hF := hK1
  exact r_seq (r_region (rp rfl rfl (rp rfl rfl (r_nil (r_rI tabOk h hF ⟨rfl, trivial⟩)))))

def laws_szArc (n : Nat) (a : TArc) (left : Int) : Option Int :=
  (laws_szTableS n a.Delay left).bind fun r1 =>
  bif decide (r1 < 0) then
    some (-1)
  else
    (laws_szTableS n a.Slew r1).bind fun r2 =>
    bif decide (r2 < 0) then
      some (-1)
    else
      some r2

theorem laws_szArc_ok {n : Nat} {w : World} {a : TArc} {left : Int} {cs1 : List Value} (ha1 : GoT.R w (old w) a cs1) {r : Int} (hF : laws_szArc n a left = some r) : RetV Tryz.prog 164 [GoT.v TArc cs1, .int .i64 left] w r := by
  obtain ⟨p1, k1, p2, k2, rfl, s1, s2⟩ := open_TArc ha1
  refine retV_of_run Tryz.func164 rfl (m := 18) rfl rfl (fun h => ?_)
  rw [laws_szArc] at hF
  refine r_seq (r_region (r_box h rfl rfl ?_))
  intro w1 bb1 h
  refine rp rfl rfl (r_nil (r_seq (r_region (rp rfl rfl (r_v (v_ld tabOk (h.box 0 rfl) (j := 4) rfl rfl rfl) rfl (rp rfl rfl ?_))))))
  obtain ⟨r1, hr1, hF⟩ := bindS hF
  refine r_callI r1 h call177 (laws_szTableS_ok ⟨_, _, rfl, (h.oldS s1)⟩ hr1) rfl rfl rfl rfl ?_
  intro w2 h
  refine rp rfl rfl (r_nil (r_seq (r_seq (r_region (rp rfl rfl (rp rfl rfl (r_nil ?_)))))))
  refine r_if rfl hF (fun hF => ?_) (fun hF => ?_)
  · exact r_seq (r_region (rp rfl rfl (r_nil (r_rI tabOk h hF ⟨rfl, trivial⟩))))
  refine r_skip (r_seq (r_region (rp rfl rfl (r_v (v_ld tabOk (h.box 0 rfl) (j := 5) rfl rfl rfl) rfl (rp rfl rfl ?_)))))
  obtain ⟨r2, hr2, hF⟩ := bindS hF
  refine r_callI r2 h call177 (laws_szTableS_ok ⟨_, _, rfl, (h.oldS s2)⟩ hr2) rfl rfl rfl rfl ?_
  intro w3 h
  refine rp rfl rfl (r_nil (r_seq (r_seq (r_region (rp rfl rfl (rp rfl rfl (r_nil ?_)))))))
  refine r_if rfl hF (fun hF => ?_) (fun hF => ?_)
  · exact r_seq (r_region (rp rfl rfl (r_nil (r_rI tabOk h hF ⟨rfl, trivial⟩))))
  exact r_skip (r_seq (r_region (rp rfl rfl (rp rfl rfl (r_nil (r_rI tabOk h hF ⟨rfl, trivial⟩))))))

def laws_szArcS_L1 (a : (List TArc)) : Nat → Int → Int → Option (Flow Int (Int × Int))
  | 0, _, _ => none
  | n + 1, i1, i2 =>
    bif decide (i2 < (a.length : Int)) then
      (idx a i2).bind fun y1 =>
      (laws_szArc n y1 i1).bind fun r1 =>
      bif decide (r1 < 0) then
        some (.ret (-1))
      else
        laws_szArcS_L1 a n r1 (W64 (i2 + 1))
    else
      some (.nxt (i1, i2))

def laws_szArcS (n : Nat) (a : (List TArc)) (left : Int) : Option Int :=
  bif decide ((W64 (left - (a.length : Int))) < 0) then
    some (-1)
  else
    (laws_szArcS_L1 a n (W64 (left - (a.length : Int))) 0).bind fun o => match o with
    | .ret r => some r
    | .nxt (i1, _) =>
      some i1

theorem laws_szArcS_ok {n : Nat} {w : World} {a : (List TArc)} {left : Int} {cs1 : List Value} (ha1 : GoT.R w (old w) a cs1) {r : Int} (hF : laws_szArcS n a left = some r) : RetV Tryz.prog 148 [GoT.v (List TArc) cs1, .int .i64 left] w r := by
  obtain ⟨p1, k1, rfl, s1⟩ := ha1
  refine retV_of_run Tryz.func148 rfl (m := 27) rfl rfl (fun h => ?_)
  rw [laws_szArcS] at hF
  refine r_seq (r_region (rp rfl rfl (r_nil (r_seq (r_region (rp rfl rfl (rp rfl rfl (rp rfl rfl (rp rfl rfl (rp rfl rfl (r_nil ?_)))))))))))
  refine r_seq (r_seq (r_region (rp rfl rfl (rp rfl rfl (r_nil ?_)))))
  refine r_if rfl hF (fun hF => ?_) (fun hF => ?_)
  · exact r_seq (r_region (rp rfl rfl (r_nil (r_rI tabOk h hF ⟨rfl, trivial⟩))))
  refine r_skip (r_seq (r_seq (r_region (rp rfl rfl (r_nil ?_)))))
  obtain ⟨o1, hF, hK1⟩ := bindS hF
  refine r_block (r_sub [(0, _), (1, _), (5, _)] ⟨rfl, rfl, rfl, trivial⟩ ?_)
  refine r_loop (fun m e w' => ∃ (i1 : Int) (i2 : Int), laws_szArcS_L1 a m i1 i2 = some o1 ∧ e = [(0, .slice p1 a.length k1), (1, .int .i64 i1), (5, .int .i64 i2)] ∧ SH w w' []) n ⟨_, _, hF, rfl, h⟩ ?_
  rintro m1 e1 w1 ⟨i1, i2, hF, rfl, h⟩
  rcases m1 with _ | m1
  · rw [laws_szArcS_L1] at hF
    cases hF
  rw [laws_szArcS_L1] at hF
  refine r_seq (r_seq (r_region (rp rfl rfl (rp rfl rfl (rp rfl rfl (rp rfl rfl (r_nil ?_)))))))
  refine r_if rfl hF (fun hF => ?_) (fun hF => ?_)
  · refine r_skip (r_seq (r_block (r_seq (r_region (rp rfl rfl (rp rfl rfl ?_))))))
    obtain ⟨y1, hy1, hF⟩ := bindS hF
    have he1 := idx_some hy1
    obtain ⟨b1, o_1, q1, cs2, hp1, hq1, -, hr1, hc3⟩ := s1.at hy1
    obtain ⟨p2, k2, p3, k3, rfl, s2, s3⟩ := open_TArc hr1
    refine r_v (v_ix tabOk hp1 hq1 ⟨he1.1, he1.2.1⟩ rfl rfl rfl rfl rfl rfl) rfl (r_v (v_ld tabOk (hc3.below h.below) (j := 0) rfl rfl rfl) rfl (rp rfl rfl ?_))
    obtain ⟨r1, hr2, hF⟩ := bindS hF
    refine r_callI r1 h call164 (laws_szArc_ok (mkR_TArc y1 (h.oldS s2) (h.oldS s3)) hr2) rfl rfl rfl rfl ?_
    intro w2 h
    refine rp rfl rfl (r_nil (r_seq (r_region (rp rfl rfl (rp rfl rfl (r_nil ?_))))))
    refine r_if rfl hF (fun hF => ?_) (fun hF => ?_)
    · refine r_seq (r_region (rp rfl rfl (r_nil ?_)))
      obtain rfl := someI hF; replace hF := hK1
      exact r_rI tabOk h hF ⟨rfl, trivial⟩
    exact r_skip (r_blk (r_region (rp rfl rfl (rp rfl rfl (rp rfl rfl (r_nil (r_back m1 [(0, _), (1, _), (5, _)] (Nat.lt_succ_self m1) ⟨rfl, rfl, rfl, trivial⟩ ⟨_, _, hF, rfl, h⟩)))))))
  refine r_exit rfl ?_
  obtain rfl := someI hF; replace hF := hK1
  exact r_seq (r_region (rp rfl rfl (rp rfl rfl (r_nil (r_rI tabOk h hF ⟨rfl, trivial⟩)))))

def laws_szCell (n : Nat) (a : TCell) (left : Int) : Option Int :=
  bif decide ((W64 (left - (a.Name.size : Int))) < 0) then
    some (-1)
  else
    (laws_szPinS n a.Pins (W64 (left - (a.Name.size : Int)))).bind fun r1 =>
    bif decide (r1 < 0) then
      some (-1)
    else
      (laws_szArcS n a.Arcs r1).bind fun r2 =>
      bif decide (r2 < 0) then
        some (-1)
      else
        (laws_szInt64S n a.Truth r2).bind fun r3 =>
        bif decide (r3 < 0) then
          some (-1)
        else
          some r3

theorem laws_szCell_ok {n : Nat} {w : World} {a : TCell} {left : Int} {cs1 : List Value} (ha1 : GoT.R w (old w) a cs1) {r : Int} (hF : laws_szCell n a left = some r) : RetV Tryz.prog 115 [GoT.v TCell cs1, .int .i64 left] w r := by
  obtain ⟨p1, k1, p2, k2, p3, k3, rfl, s1, s2, s3⟩ := open_TCell ha1
  refine retV_of_run Tryz.func115 rfl (m := 31) rfl rfl (fun h => ?_)
  rw [laws_szCell] at hF
  refine r_seq (r_region (r_box h rfl rfl ?_))
  intro w1 bb1 h
  refine rp rfl rfl (r_nil (r_seq (r_region (rp rfl rfl (rp rfl rfl (r_v (v_ld tabOk (h.box 0 rfl) (j := 0) rfl rfl rfl) rfl (rp rfl rfl (rp rfl rfl (rp rfl rfl (r_nil (r_seq ?_)))))))))))
  refine r_seq (r_region (rp rfl rfl (rp rfl rfl (r_nil ?_))))
  refine r_if rfl hF (fun hF => ?_) (fun hF => ?_)
  · exact r_seq (r_region (rp rfl rfl (r_nil (r_rI tabOk h hF ⟨rfl, trivial⟩))))
  refine r_skip (r_seq (r_region (rp rfl rfl (r_v (v_ld tabOk (h.box 0 rfl) (j := 2) rfl rfl rfl) rfl (rp rfl rfl ?_)))))
  obtain ⟨r1, hr1, hF⟩ := bindS hF
  refine r_callI r1 h call147 (laws_szPinS_ok ⟨_, _, rfl, (h.oldS s1)⟩ hr1) rfl rfl rfl rfl ?_
  intro w2 h
  refine rp rfl rfl (r_nil (r_seq (r_seq (r_region (rp rfl rfl (rp rfl rfl (r_nil ?_)))))))
  refine r_if rfl hF (fun hF => ?_) (fun hF => ?_)
  · exact r_seq (r_region (rp rfl rfl (r_nil (r_rI tabOk h hF ⟨rfl, trivial⟩))))
  refine r_skip (r_seq (r_region (rp rfl rfl (r_v (v_ld tabOk (h.box 0 rfl) (j := 3) rfl rfl rfl) rfl (rp rfl rfl ?_)))))
  obtain ⟨r2, hr2, hF⟩ := bindS hF
  refine r_callI r2 h call148 (laws_szArcS_ok ⟨_, _, rfl, (h.oldS s2)⟩ hr2) rfl rfl rfl rfl ?_
  intro w3 h
  refine rp rfl rfl (r_nil (r_seq (r_seq (r_region (rp rfl rfl (rp rfl rfl (r_nil ?_)))))))
  refine r_if rfl hF (fun hF => ?_) (fun hF => ?_)
  · exact r_seq (r_region (rp rfl rfl (r_nil (r_rI tabOk h hF ⟨rfl, trivial⟩))))
  refine r_skip (r_seq (r_region (rp rfl rfl (r_v (v_ld tabOk (h.box 0 rfl) (j := 4) rfl rfl rfl) rfl (rp rfl rfl ?_)))))
  obtain ⟨r3, hr3, hF⟩ := bindS hF
  refine r_callI r3 h call32 (laws_szInt64S_ok ⟨_, _, rfl, (h.oldS s3)⟩ hr3) rfl rfl rfl rfl ?_
  intro w4 h
  refine rp rfl rfl (r_nil (r_seq (r_seq (r_region (rp rfl rfl (rp rfl rfl (r_nil ?_)))))))
  refine r_if rfl hF (fun hF => ?_) (fun hF => ?_)
  · exact r_seq (r_region (rp rfl rfl (r_nil (r_rI tabOk h hF ⟨rfl, trivial⟩))))
  exact r_skip (r_seq (r_region (rp rfl rfl (rp rfl rfl (r_nil (r_rI tabOk h hF ⟨rfl, trivial⟩))))))

def laws_szCellS_L1 (a : (List TCell)) : Nat → Int → Int → Option (Flow Int (Int × Int))
  | 0, _, _ => none
  | n + 1, i1, i2 =>
    bif decide (i2 < (a.length : Int)) then
      (idx a i2).bind fun y1 =>
      (laws_szCell n y1 i1).bind fun r1 =>
      bif decide (r1 < 0) then
        some (.ret (-1))
      else
        laws_szCellS_L1 a n r1 (W64 (i2 + 1))
    else
      some (.nxt (i1, i2))

def laws_szCellS (n : Nat) (a : (List TCell)) (left : Int) : Option Int :=
  bif decide ((W64 (left - (a.length : Int))) < 0) then
    some (-1)
  else
    (laws_szCellS_L1 a n (W64 (left - (a.length : Int))) 0).bind fun o => match o with
    | .ret r => some r
    | .nxt (i1, _) =>
      some i1

theorem laws_szCellS_ok {n : Nat} {w : World} {a : (List TCell)} {left : Int} {cs1 : List Value} (ha1 : GoT.R w (old w) a cs1) {r : Int} (hF : laws_szCellS n a left = some r) : RetV Tryz.prog 62 [GoT.v (List TCell) cs1, .int .i64 left] w r := by
  obtain ⟨p1, k1, rfl, s1⟩ := ha1
  refine retV_of_run Tryz.func62 rfl (m := 27) rfl rfl (fun h => ?_)
  rw [laws_szCellS] at hF
  refine r_seq (r_region (rp rfl rfl (r_nil (r_seq (r_region (rp rfl rfl (rp rfl rfl (rp rfl rfl (rp rfl rfl (rp rfl rfl (r_nil ?_)))))))))))
  refine r_seq (r_seq (r_region (rp rfl rfl (rp rfl rfl (r_nil ?_)))))
  refine r_if rfl hF (fun hF => ?_) (fun hF => ?_)
  · exact r_seq (r_region (rp rfl rfl (r_nil (r_rI tabOk h hF ⟨rfl, trivial⟩))))
  refine r_skip (r_seq (r_seq (r_region (rp rfl rfl (r_nil ?_)))))
  obtain ⟨o1, hF, hK1⟩ := bindS hF
  refine r_block (r_sub [(0, _), (1, _), (5, _)] ⟨rfl, rfl, rfl, trivial⟩ ?_)
  refine r_loop (fun m e w' => ∃ (i1 : Int) (i2 : Int), laws_szCellS_L1 a m i1 i2 = some o1 ∧ e = [(0, .slice p1 a.length k1), (1, .int .i64 i1), (5, .int .i64 i2)] ∧ SH w w' []) n ⟨_, _, hF, rfl, h⟩ ?_
  rintro m1 e1 w1 ⟨i1, i2, hF, rfl, h⟩
  rcases m1 with _ | m1
  · rw [laws_szCellS_L1] at hF
    cases hF
  rw [laws_szCellS_L1] at hF
  refine r_seq (r_seq (r_region (rp rfl rfl (rp rfl rfl (rp rfl rfl (rp rfl rfl (r_nil ?_)))))))
  refine r_if rfl hF (fun hF => ?_) (fun hF => ?_)
  · refine r_skip (r_seq (r_block (r_seq (r_region (rp rfl rfl (rp rfl rfl ?_))))))
    obtain ⟨y1, hy1, hF⟩ := bindS hF
    have he1 := idx_some hy1
    obtain ⟨b1, o_1, q1, cs2, hp1, hq1, -, hr1, hc3⟩ := s1.at hy1
    obtain ⟨p2, k2, p3, k3, p4, k4, rfl, s2, s3, s4⟩ := open_TCell hr1
    refine r_v (v_ix tabOk hp1 hq1 ⟨he1.1, he1.2.1⟩ rfl rfl rfl rfl rfl rfl) rfl (r_v (v_ld tabOk (hc3.below h.below) (j := 0) rfl rfl rfl) rfl (rp rfl rfl ?_))
    obtain ⟨r1, hr2, hF⟩ := bindS hF
    refine r_callI r1 h call115 (laws_szCell_ok (mkR_TCell y1 (h.oldS s2) (h.oldS s3) (h.oldS s4)) hr2) rfl rfl rfl rfl ?_
    intro w2 h
    refine rp rfl rfl (r_nil (r_seq (r_region (rp rfl rfl (rp rfl rfl (r_nil ?_))))))
    refine r_if rfl hF (fun hF => ?_) (fun hF => ?_)
    · refine r_seq (r_region (rp rfl rfl (r_nil ?_)))
      obtain rfl := someI hF; replace hF := hK1
      exact r_rI tabOk h hF ⟨rfl, trivial⟩
    exact r_skip (r_blk (r_region (rp rfl rfl (rp rfl rfl (rp rfl rfl (r_nil (r_back m1 [(0, _), (1, _), (5, _)] (Nat.lt_succ_self m1) ⟨rfl, rfl, rfl, trivial⟩ ⟨_, _, hF, rfl, h⟩)))))))
  refine r_exit rfl ?_
  obtain rfl := someI hF; replace hF := hK1
  exact r_seq (r_region (rp rfl rfl (rp rfl rfl (r_nil (r_rI tabOk h hF ⟨rfl, trivial⟩)))))

def laws_szLibrary (n : Nat) (a : TLibrary) (left : Int) : Option Int :=
  (laws_szCellS n a.Cells left).bind fun r1 =>
  bif decide (r1 < 0) then
    some (-1)
  else
    some r1

theorem laws_szLibrary_ok {n : Nat} {w : World} {a : TLibrary} {left : Int} {cs1 : List Value} (ha1 : GoT.R w (old w) a cs1) {r : Int} (hF : laws_szLibrary n a left = some r) : RetV Tryz.prog 29 [GoT.v TLibrary cs1, .int .i64 left] w r := by
  obtain ⟨p1, k1, rfl, s1⟩ := open_TLibrary ha1
  refine retV_of_run Tryz.func29 rfl (m := 12) rfl rfl (fun h => ?_)
  rw [laws_szLibrary] at hF
  refine r_seq (r_region (r_box h rfl rfl ?_))
  intro w1 bb1 h
  refine rp rfl rfl (r_nil (r_seq (r_region (rp rfl rfl (r_v (v_ld tabOk (h.box 0 rfl) (j := 0) rfl rfl rfl) rfl (rp rfl rfl ?_))))))
  obtain ⟨r1, hr1, hF⟩ := bindS hF
  refine r_callI r1 h call62 (laws_szCellS_ok ⟨_, _, rfl, (h.oldS s1)⟩ hr1) rfl rfl rfl rfl ?_
  intro w2 h
  refine rp rfl rfl (r_nil (r_seq (r_seq (r_region (rp rfl rfl (rp rfl rfl (r_nil ?_)))))))
  refine r_if rfl hF (fun hF => ?_) (fun hF => ?_)
  · exact r_seq (r_region (rp rfl rfl (r_nil (r_rI tabOk h hF ⟨rfl, trivial⟩))))
  exact r_skip (r_seq (r_region (rp rfl rfl (rp rfl rfl (r_nil (r_rI tabOk h hF ⟨rfl, trivial⟩))))))

def laws_szInstance (n : Nat) (a : TInstance) (left : Int) : Option Int :=
  bif decide ((W64 (left - (a.Name.size : Int))) < 0) then
    some (-1)
  else
    (laws_szInt64S n a.Nets (W64 (left - (a.Name.size : Int)))).bind fun r1 =>
    bif decide (r1 < 0) then
      some (-1)
    else
      some r1

theorem laws_szInstance_ok {n : Nat} {w : World} {a : TInstance} {left : Int} {cs1 : List Value} (ha1 : GoT.R w (old w) a cs1) {r : Int} (hF : laws_szInstance n a left = some r) : RetV Tryz.prog 116 [GoT.v TInstance cs1, .int .i64 left] w r := by
  obtain ⟨p1, k1, rfl, s1⟩ := open_TInstance ha1
  refine retV_of_run Tryz.func116 rfl (m := 19) rfl rfl (fun h => ?_)
  rw [laws_szInstance] at hF
  refine r_seq (r_region (r_box h rfl rfl ?_))
  intro w1 bb1 h
  refine rp rfl rfl (r_nil (r_seq (r_region (rp rfl rfl (rp rfl rfl (r_v (v_ld tabOk (h.box 0 rfl) (j := 0) rfl rfl rfl) rfl (rp rfl rfl (rp rfl rfl (rp rfl rfl (r_nil (r_seq ?_)))))))))))
  refine r_seq (r_region (rp rfl rfl (rp rfl rfl (r_nil ?_))))
  refine r_if rfl hF (fun hF => ?_) (fun hF => ?_)
  · exact r_seq (r_region (rp rfl rfl (r_nil (r_rI tabOk h hF ⟨rfl, trivial⟩))))
  refine r_skip (r_seq (r_region (rp rfl rfl (r_v (v_ld tabOk (h.box 0 rfl) (j := 2) rfl rfl rfl) rfl (rp rfl rfl ?_)))))
  obtain ⟨r1, hr1, hF⟩ := bindS hF
  refine r_callI r1 h call32 (laws_szInt64S_ok ⟨_, _, rfl, (h.oldS s1)⟩ hr1) rfl rfl rfl rfl ?_
  intro w2 h
  refine rp rfl rfl (r_nil (r_seq (r_seq (r_region (rp rfl rfl (rp rfl rfl (r_nil ?_)))))))
  refine r_if rfl hF (fun hF => ?_) (fun hF => ?_)
  · exact r_seq (r_region (rp rfl rfl (r_nil (r_rI tabOk h hF ⟨rfl, trivial⟩))))
  exact r_skip (r_seq (r_region (rp rfl rfl (rp rfl rfl (r_nil (r_rI tabOk h hF ⟨rfl, trivial⟩))))))

def laws_szInstanceS_L1 (a : (List TInstance)) : Nat → Int → Int → Option (Flow Int (Int × Int))
  | 0, _, _ => none
  | n + 1, i1, i2 =>
    bif decide (i2 < (a.length : Int)) then
      (idx a i2).bind fun y1 =>
      (laws_szInstance n y1 i1).bind fun r1 =>
      bif decide (r1 < 0) then
        some (.ret (-1))
      else
        laws_szInstanceS_L1 a n r1 (W64 (i2 + 1))
    else
      some (.nxt (i1, i2))

def laws_szInstanceS (n : Nat) (a : (List TInstance)) (left : Int) : Option Int :=
  bif decide ((W64 (left - (a.length : Int))) < 0) then
    some (-1)
  else
    (laws_szInstanceS_L1 a n (W64 (left - (a.length : Int))) 0).bind fun o => match o with
    | .ret r => some r
    | .nxt (i1, _) =>
      some i1

theorem laws_szInstanceS_ok {n : Nat} {w : World} {a : (List TInstance)} {left : Int} {cs1 : List Value} (ha1 : GoT.R w (old w) a cs1) {r : Int} (hF : laws_szInstanceS n a left = some r) : RetV Tryz.prog 63 [GoT.v (List TInstance) cs1, .int .i64 left] w r := by
  obtain ⟨p1, k1, rfl, s1⟩ := ha1
  refine retV_of_run Tryz.func63 rfl (m := 27) rfl rfl (fun h => ?_)
  rw [laws_szInstanceS] at hF
  refine r_seq (r_region (rp rfl rfl (r_nil (r_seq (r_region (rp rfl rfl (rp rfl rfl (rp rfl rfl (rp rfl rfl (rp rfl rfl (r_nil ?_)))))))))))
  refine r_seq (r_seq (r_region (rp rfl rfl (rp rfl rfl (r_nil ?_)))))
  refine r_if rfl hF (fun hF => ?_) (fun hF => ?_)
  · exact r_seq (r_region (rp rfl rfl (r_nil (r_rI tabOk h hF ⟨rfl, trivial⟩))))
  refine r_skip (r_seq (r_seq (r_region (rp rfl rfl (r_nil ?_)))))
  obtain ⟨o1, hF, hK1⟩ := bindS hF
  refine r_block (r_sub [(0, _), (1, _), (5, _)] ⟨rfl, rfl, rfl, trivial⟩ ?_)
  refine r_loop (fun m e w' => ∃ (i1 : Int) (i2 : Int), laws_szInstanceS_L1 a m i1 i2 = some o1 ∧ e = [(0, .slice p1 a.length k1), (1, .int .i64 i1), (5, .int .i64 i2)] ∧ SH w w' []) n ⟨_, _, hF, rfl, h⟩ ?_
  rintro m1 e1 w1 ⟨i1, i2, hF, rfl, h⟩
  rcases m1 with _ | m1
  · rw [laws_szInstanceS_L1] at hF
    cases hF
  rw [laws_szInstanceS_L1] at hF
  refine r_seq (r_seq (r_region (rp rfl rfl (rp rfl rfl (rp rfl rfl (rp rfl rfl (r_nil ?_)))))))
  refine r_if rfl hF (fun hF => ?_) (fun hF => ?_)
  · refine r_skip (r_seq (r_block (r_seq (r_region (rp rfl rfl (rp rfl rfl ?_))))))
    obtain ⟨y1, hy1, hF⟩ := bindS hF
    have he1 := idx_some hy1
    obtain ⟨b1, o_1, q1, cs2, hp1, hq1, -, hr1, hc3⟩ := s1.at hy1
    obtain ⟨p2, k2, rfl, s2⟩ := open_TInstance hr1
    refine r_v (v_ix tabOk hp1 hq1 ⟨he1.1, he1.2.1⟩ rfl rfl rfl rfl rfl rfl) rfl (r_v (v_ld tabOk (hc3.below h.below) (j := 0) rfl rfl rfl) rfl (rp rfl rfl ?_))
    obtain ⟨r1, hr2, hF⟩ := bindS hF
    refine r_callI r1 h call116 (laws_szInstance_ok (mkR_TInstance y1 (h.oldS s2)) hr2) rfl rfl rfl rfl ?_
    intro w2 h
    refine rp rfl rfl (r_nil (r_seq (r_region (rp rfl rfl (rp rfl rfl (r_nil ?_))))))
    refine r_if rfl hF (fun hF => ?_) (fun hF => ?_)
    · refine r_seq (r_region (rp rfl rfl (r_nil ?_)))
      obtain rfl := someI hF; replace hF := hK1
      exact r_rI tabOk h hF ⟨rfl, trivial⟩
    exact r_skip (r_blk (r_region (rp rfl rfl (rp rfl rfl (rp rfl rfl (r_nil (r_back m1 [(0, _), (1, _), (5, _)] (Nat.lt_succ_self m1) ⟨rfl, rfl, rfl, trivial⟩ ⟨_, _, hF, rfl, h⟩)))))))
  refine r_exit rfl ?_
  obtain rfl := someI hF; replace hF := hK1
  exact r_seq (r_region (rp rfl rfl (rp rfl rfl (r_nil (r_rI tabOk h hF ⟨rfl, trivial⟩)))))

def laws_szStringS_L1 (a : (List ByteArray)) : Nat → Int → Int → Option (Flow Int (Int × Int))
  | 0, _, _ => none
  | n + 1, i1, i2 =>
    bif decide (i2 < (a.length : Int)) then
      (idx a i2).bind fun y1 =>
      bif decide ((W64 (i1 - (y1.size : Int))) < 0) then
        some (.ret (-1))
      else
        laws_szStringS_L1 a n (W64 (i1 - (y1.size : Int))) (W64 (i2 + 1))
    else
      some (.nxt (i1, i2))

def laws_szStringS (n : Nat) (a : (List ByteArray)) (left : Int) : Option Int :=
  bif decide ((W64 (left - (a.length : Int))) < 0) then
    some (-1)
  else
    (laws_szStringS_L1 a n (W64 (left - (a.length : Int))) 0).bind fun o => match o with
    | .ret r => some r
    | .nxt (i1, _) =>
      some i1

theorem laws_szStringS_ok {n : Nat} {w : World} {a : (List ByteArray)} {left : Int} {cs1 : List Value} (ha1 : GoT.R w (old w) a cs1) {r : Int} (hF : laws_szStringS n a left = some r) : RetV Tryz.prog 64 [GoT.v (List ByteArray) cs1, .int .i64 left] w r := by
  obtain ⟨p1, k1, rfl, s1⟩ := ha1
  refine retV_of_run Tryz.func64 rfl (m := 28) rfl rfl (fun h => ?_)
  rw [laws_szStringS] at hF
  refine r_seq (r_region (rp rfl rfl (r_nil (r_seq (r_region (rp rfl rfl (rp rfl rfl (rp rfl rfl (rp rfl rfl (rp rfl rfl (r_nil ?_)))))))))))
  refine r_seq (r_seq (r_region (rp rfl rfl (rp rfl rfl (r_nil ?_)))))
  refine r_if rfl hF (fun hF => ?_) (fun hF => ?_)
  · exact r_seq (r_region (rp rfl rfl (r_nil (r_rI tabOk h hF ⟨rfl, trivial⟩))))
  refine r_skip (r_seq (r_seq (r_region (rp rfl rfl (r_nil ?_)))))
  obtain ⟨o1, hF, hK1⟩ := bindS hF
  refine r_block (r_sub [(0, _), (1, _), (5, _)] ⟨rfl, rfl, rfl, trivial⟩ ?_)
  refine r_loop (fun m e w' => ∃ (i1 : Int) (i2 : Int), laws_szStringS_L1 a m i1 i2 = some o1 ∧ e = [(0, .slice p1 a.length k1), (1, .int .i64 i1), (5, .int .i64 i2)] ∧ SH w w' []) n ⟨_, _, hF, rfl, h⟩ ?_
  rintro m1 e1 w1 ⟨i1, i2, hF, rfl, h⟩
  rcases m1 with _ | m1
  · rw [laws_szStringS_L1] at hF
    cases hF
  rw [laws_szStringS_L1] at hF
  refine r_seq (r_seq (r_region (rp rfl rfl (rp rfl rfl (rp rfl rfl (rp rfl rfl (r_nil ?_)))))))
  refine r_if rfl hF (fun hF => ?_) (fun hF => ?_)
  · refine r_skip (r_seq (r_block (r_seq (r_region (rp rfl rfl (rp rfl rfl (rp rfl rfl ?_)))))))
    obtain ⟨y1, hy1, hF⟩ := bindS hF
    have he1 := idx_some hy1
    obtain ⟨b1, o_1, q1, cs2, hp1, hq1, -, hr1, hc3⟩ := s1.at hy1
    obtain rfl := hr1
    refine r_v (v_ix tabOk hp1 hq1 ⟨he1.1, he1.2.1⟩ rfl rfl rfl rfl rfl rfl) rfl (r_v (v_ld tabOk (hc3.below h.below) (j := 0) rfl rfl rfl) rfl (rp rfl rfl (rp rfl rfl (rp rfl rfl (r_nil (r_seq (r_region (rp rfl rfl (rp rfl rfl (r_nil ?_))))))))))
    refine r_if rfl hF (fun hF => ?_) (fun hF => ?_)
    · refine r_seq (r_region (rp rfl rfl (r_nil ?_)))
      obtain rfl := someI hF; replace hF := hK1
      exact r_rI tabOk h hF ⟨rfl, trivial⟩
    exact r_skip (r_blk (r_region (rp rfl rfl (rp rfl rfl (rp rfl rfl (r_nil (r_back m1 [(0, _), (1, _), (5, _)] (Nat.lt_succ_self m1) ⟨rfl, rfl, rfl, trivial⟩ ⟨_, _, hF, rfl, h⟩)))))))
  refine r_exit rfl ?_
  obtain rfl := someI hF; replace hF := hK1
  exact r_seq (r_region (rp rfl rfl (rp rfl rfl (r_nil (r_rI tabOk h hF ⟨rfl, trivial⟩)))))

def laws_szPort (_ : Nat) (a : TPort) (left : Int) : Option Int :=
  bif decide ((W64 (left - (a.Name.size : Int))) < 0) then
    some (-1)
  else
    some (W64 (left - (a.Name.size : Int)))

theorem laws_szPort_ok {n : Nat} {w : World} {a : TPort} {left : Int} {cs1 : List Value} (ha1 : GoT.R w (old w) a cs1) {r : Int} (hF : laws_szPort n a left = some r) : RetV Tryz.prog 117 [GoT.v TPort cs1, .int .i64 left] w r := by
  obtain rfl := open_TPort ha1
  refine retV_of_run Tryz.func117 rfl (m := 13) rfl rfl (fun h => ?_)
  rw [laws_szPort] at hF
  refine r_seq (r_region (r_box h rfl rfl ?_))
  intro w1 bb1 h
  refine rp rfl rfl (r_nil (r_seq (r_region (rp rfl rfl (rp rfl rfl (r_v (v_ld tabOk (h.box 0 rfl) (j := 0) rfl rfl rfl) rfl (rp rfl rfl (rp rfl rfl (rp rfl rfl (r_nil (r_seq ?_)))))))))))
  refine r_seq (r_region (rp rfl rfl (rp rfl rfl (r_nil ?_))))
  refine r_if rfl hF (fun hF => ?_) (fun hF => ?_)
  · exact r_seq (r_region (rp rfl rfl (r_nil (r_rI tabOk h hF ⟨rfl, trivial⟩))))
  exact r_skip (r_seq (r_region (rp rfl rfl (rp rfl rfl (r_nil (r_rI tabOk h hF ⟨rfl, trivial⟩))))))

def laws_szPortS_L1 (a : (List TPort)) : Nat → Int → Int → Option (Flow Int (Int × Int))
  | 0, _, _ => none
  | n + 1, i1, i2 =>
    bif decide (i2 < (a.length : Int)) then
      (idx a i2).bind fun y1 =>
      (laws_szPort n y1 i1).bind fun r1 =>
      bif decide (r1 < 0) then
        some (.ret (-1))
      else
        laws_szPortS_L1 a n r1 (W64 (i2 + 1))
    else
      some (.nxt (i1, i2))

def laws_szPortS (n : Nat) (a : (List TPort)) (left : Int) : Option Int :=
  bif decide ((W64 (left - (a.length : Int))) < 0) then
    some (-1)
  else
    (laws_szPortS_L1 a n (W64 (left - (a.length : Int))) 0).bind fun o => match o with
    | .ret r => some r
    | .nxt (i1, _) =>
      some i1

theorem laws_szPortS_ok {n : Nat} {w : World} {a : (List TPort)} {left : Int} {cs1 : List Value} (ha1 : GoT.R w (old w) a cs1) {r : Int} (hF : laws_szPortS n a left = some r) : RetV Tryz.prog 65 [GoT.v (List TPort) cs1, .int .i64 left] w r := by
  obtain ⟨p1, k1, rfl, s1⟩ := ha1
  refine retV_of_run Tryz.func65 rfl (m := 27) rfl rfl (fun h => ?_)
  rw [laws_szPortS] at hF
  refine r_seq (r_region (rp rfl rfl (r_nil (r_seq (r_region (rp rfl rfl (rp rfl rfl (rp rfl rfl (rp rfl rfl (rp rfl rfl (r_nil ?_)))))))))))
  refine r_seq (r_seq (r_region (rp rfl rfl (rp rfl rfl (r_nil ?_)))))
  refine r_if rfl hF (fun hF => ?_) (fun hF => ?_)
  · exact r_seq (r_region (rp rfl rfl (r_nil (r_rI tabOk h hF ⟨rfl, trivial⟩))))
  refine r_skip (r_seq (r_seq (r_region (rp rfl rfl (r_nil ?_)))))
  obtain ⟨o1, hF, hK1⟩ := bindS hF
  refine r_block (r_sub [(0, _), (1, _), (5, _)] ⟨rfl, rfl, rfl, trivial⟩ ?_)
  refine r_loop (fun m e w' => ∃ (i1 : Int) (i2 : Int), laws_szPortS_L1 a m i1 i2 = some o1 ∧ e = [(0, .slice p1 a.length k1), (1, .int .i64 i1), (5, .int .i64 i2)] ∧ SH w w' []) n ⟨_, _, hF, rfl, h⟩ ?_
  rintro m1 e1 w1 ⟨i1, i2, hF, rfl, h⟩
  rcases m1 with _ | m1
  · rw [laws_szPortS_L1] at hF
    cases hF
  rw [laws_szPortS_L1] at hF
  refine r_seq (r_seq (r_region (rp rfl rfl (rp rfl rfl (rp rfl rfl (rp rfl rfl (r_nil ?_)))))))
  refine r_if rfl hF (fun hF => ?_) (fun hF => ?_)
  · refine r_skip (r_seq (r_block (r_seq (r_region (rp rfl rfl (rp rfl rfl ?_))))))
    obtain ⟨y1, hy1, hF⟩ := bindS hF
    have he1 := idx_some hy1
    obtain ⟨b1, o_1, q1, cs2, hp1, hq1, -, hr1, hc3⟩ := s1.at hy1
    obtain rfl := open_TPort hr1
    refine r_v (v_ix tabOk hp1 hq1 ⟨he1.1, he1.2.1⟩ rfl rfl rfl rfl rfl rfl) rfl (r_v (v_ld tabOk (hc3.below h.below) (j := 0) rfl rfl rfl) rfl (rp rfl rfl ?_))
    obtain ⟨r1, hr2, hF⟩ := bindS hF
    refine r_callI r1 h call117 (laws_szPort_ok (mkR_TPort y1) hr2) rfl rfl rfl rfl ?_
    intro w2 h
    refine rp rfl rfl (r_nil (r_seq (r_region (rp rfl rfl (rp rfl rfl (r_nil ?_))))))
    refine r_if rfl hF (fun hF => ?_) (fun hF => ?_)
    · refine r_seq (r_region (rp rfl rfl (r_nil ?_)))
      obtain rfl := someI hF; replace hF := hK1
      exact r_rI tabOk h hF ⟨rfl, trivial⟩
    exact r_skip (r_blk (r_region (rp rfl rfl (rp rfl rfl (rp rfl rfl (r_nil (r_back m1 [(0, _), (1, _), (5, _)] (Nat.lt_succ_self m1) ⟨rfl, rfl, rfl, trivial⟩ ⟨_, _, hF, rfl, h⟩)))))))
  refine r_exit rfl ?_
  obtain rfl := someI hF; replace hF := hK1
  exact r_seq (r_region (rp rfl rfl (rp rfl rfl (r_nil (r_rI tabOk h hF ⟨rfl, trivial⟩)))))

def laws_szDesign (n : Nat) (a : TDesign) (left : Int) : Option Int :=
  (laws_szInstanceS n a.Instances left).bind fun r1 =>
  bif decide (r1 < 0) then
    some (-1)
  else
    (laws_szStringS n a.Nets r1).bind fun r2 =>
    bif decide (r2 < 0) then
      some (-1)
    else
      (laws_szPortS n a.Ports r2).bind fun r3 =>
      bif decide (r3 < 0) then
        some (-1)
      else
        some r3

theorem laws_szDesign_ok {n : Nat} {w : World} {a : TDesign} {left : Int} {cs1 : List Value} (ha1 : GoT.R w (old w) a cs1) {r : Int} (hF : laws_szDesign n a left = some r) : RetV Tryz.prog 30 [GoT.v TDesign cs1, .int .i64 left] w r := by
  obtain ⟨p1, k1, p2, k2, p3, k3, rfl, s1, s2, s3⟩ := open_TDesign ha1
  refine retV_of_run Tryz.func30 rfl (m := 24) rfl rfl (fun h => ?_)
  rw [laws_szDesign] at hF
  refine r_seq (r_region (r_box h rfl rfl ?_))
  intro w1 bb1 h
  refine rp rfl rfl (r_nil (r_seq (r_region (rp rfl rfl (r_v (v_ld tabOk (h.box 0 rfl) (j := 0) rfl rfl rfl) rfl (rp rfl rfl ?_))))))
  obtain ⟨r1, hr1, hF⟩ := bindS hF
  refine r_callI r1 h call63 (laws_szInstanceS_ok ⟨_, _, rfl, (h.oldS s1)⟩ hr1) rfl rfl rfl rfl ?_
  intro w2 h
  refine rp rfl rfl (r_nil (r_seq (r_seq (r_region (rp rfl rfl (rp rfl rfl (r_nil ?_)))))))
  refine r_if rfl hF (fun hF => ?_) (fun hF => ?_)
  · exact r_seq (r_region (rp rfl rfl (r_nil (r_rI tabOk h hF ⟨rfl, trivial⟩))))
  refine r_skip (r_seq (r_region (rp rfl rfl (r_v (v_ld tabOk (h.box 0 rfl) (j := 1) rfl rfl rfl) rfl (rp rfl rfl ?_)))))
  obtain ⟨r2, hr2, hF⟩ := bindS hF
  refine r_callI r2 h call64 (laws_szStringS_ok ⟨_, _, rfl, (h.oldS s2)⟩ hr2) rfl rfl rfl rfl ?_
  intro w3 h
  refine rp rfl rfl (r_nil (r_seq (r_seq (r_region (rp rfl rfl (rp rfl rfl (r_nil ?_)))))))
  refine r_if rfl hF (fun hF => ?_) (fun hF => ?_)
  · exact r_seq (r_region (rp rfl rfl (r_nil (r_rI tabOk h hF ⟨rfl, trivial⟩))))
  refine r_skip (r_seq (r_region (rp rfl rfl (r_v (v_ld tabOk (h.box 0 rfl) (j := 2) rfl rfl rfl) rfl (rp rfl rfl ?_)))))
  obtain ⟨r3, hr3, hF⟩ := bindS hF
  refine r_callI r3 h call65 (laws_szPortS_ok ⟨_, _, rfl, (h.oldS s3)⟩ hr3) rfl rfl rfl rfl ?_
  intro w4 h
  refine rp rfl rfl (r_nil (r_seq (r_seq (r_region (rp rfl rfl (rp rfl rfl (r_nil ?_)))))))
  refine r_if rfl hF (fun hF => ?_) (fun hF => ?_)
  · exact r_seq (r_region (rp rfl rfl (r_nil (r_rI tabOk h hF ⟨rfl, trivial⟩))))
  exact r_skip (r_seq (r_region (rp rfl rfl (rp rfl rfl (r_nil (r_rI tabOk h hF ⟨rfl, trivial⟩))))))

def laws_szWire (n : Nat) (a : TWire) (left : Int) : Option Int :=
  (laws_szInt64S n a.Parent left).bind fun r1 =>
  bif decide (r1 < 0) then
    some (-1)
  else
    (laws_szInt64S n a.Res r1).bind fun r2 =>
    bif decide (r2 < 0) then
      some (-1)
    else
      (laws_szInt64S n a.Cap r2).bind fun r3 =>
      bif decide (r3 < 0) then
        some (-1)
      else
        (laws_szInt64S n a.Sink r3).bind fun r4 =>
        bif decide (r4 < 0) then
          some (-1)
        else
          some r4

theorem laws_szWire_ok {n : Nat} {w : World} {a : TWire} {left : Int} {cs1 : List Value} (ha1 : GoT.R w (old w) a cs1) {r : Int} (hF : laws_szWire n a left = some r) : RetV Tryz.prog 66 [GoT.v TWire cs1, .int .i64 left] w r := by
  obtain ⟨p1, k1, p2, k2, p3, k3, p4, k4, rfl, s1, s2, s3, s4⟩ := open_TWire ha1
  refine retV_of_run Tryz.func66 rfl (m := 30) rfl rfl (fun h => ?_)
  rw [laws_szWire] at hF
  refine r_seq (r_region (r_box h rfl rfl ?_))
  intro w1 bb1 h
  refine rp rfl rfl (r_nil (r_seq (r_region (rp rfl rfl (r_v (v_ld tabOk (h.box 0 rfl) (j := 0) rfl rfl rfl) rfl (rp rfl rfl ?_))))))
  obtain ⟨r1, hr1, hF⟩ := bindS hF
  refine r_callI r1 h call32 (laws_szInt64S_ok ⟨_, _, rfl, (h.oldS s1)⟩ hr1) rfl rfl rfl rfl ?_
  intro w2 h
  refine rp rfl rfl (r_nil (r_seq (r_seq (r_region (rp rfl rfl (rp rfl rfl (r_nil ?_)))))))
  refine r_if rfl hF (fun hF => ?_) (fun hF => ?_)
  · exact r_seq (r_region (rp rfl rfl (r_nil (r_rI tabOk h hF ⟨rfl, trivial⟩))))
  refine r_skip (r_seq (r_region (rp rfl rfl (r_v (v_ld tabOk (h.box 0 rfl) (j := 1) rfl rfl rfl) rfl (rp rfl rfl ?_)))))
  obtain ⟨r2, hr2, hF⟩ := bindS hF
  refine r_callI r2 h call32 (laws_szInt64S_ok ⟨_, _, rfl, (h.oldS s2)⟩ hr2) rfl rfl rfl rfl ?_
  intro w3 h
  refine rp rfl rfl (r_nil (r_seq (r_seq (r_region (rp rfl rfl (rp rfl rfl (r_nil ?_)))))))
  refine r_if rfl hF (fun hF => ?_) (fun hF => ?_)
  · exact r_seq (r_region (rp rfl rfl (r_nil (r_rI tabOk h hF ⟨rfl, trivial⟩))))
  refine r_skip (r_seq (r_region (rp rfl rfl (r_v (v_ld tabOk (h.box 0 rfl) (j := 2) rfl rfl rfl) rfl (rp rfl rfl ?_)))))
  obtain ⟨r3, hr3, hF⟩ := bindS hF
  refine r_callI r3 h call32 (laws_szInt64S_ok ⟨_, _, rfl, (h.oldS s3)⟩ hr3) rfl rfl rfl rfl ?_
  intro w4 h
  refine rp rfl rfl (r_nil (r_seq (r_seq (r_region (rp rfl rfl (rp rfl rfl (r_nil ?_)))))))
  refine r_if rfl hF (fun hF => ?_) (fun hF => ?_)
  · exact r_seq (r_region (rp rfl rfl (r_nil (r_rI tabOk h hF ⟨rfl, trivial⟩))))
  refine r_skip (r_seq (r_region (rp rfl rfl (r_v (v_ld tabOk (h.box 0 rfl) (j := 3) rfl rfl rfl) rfl (rp rfl rfl ?_)))))
  obtain ⟨r4, hr4, hF⟩ := bindS hF
  refine r_callI r4 h call32 (laws_szInt64S_ok ⟨_, _, rfl, (h.oldS s4)⟩ hr4) rfl rfl rfl rfl ?_
  intro w5 h
  refine rp rfl rfl (r_nil (r_seq (r_seq (r_region (rp rfl rfl (rp rfl rfl (r_nil ?_)))))))
  refine r_if rfl hF (fun hF => ?_) (fun hF => ?_)
  · exact r_seq (r_region (rp rfl rfl (r_nil (r_rI tabOk h hF ⟨rfl, trivial⟩))))
  exact r_skip (r_seq (r_region (rp rfl rfl (rp rfl rfl (r_nil (r_rI tabOk h hF ⟨rfl, trivial⟩))))))

def laws_szWireS_L1 (a : (List TWire)) : Nat → Int → Int → Option (Flow Int (Int × Int))
  | 0, _, _ => none
  | n + 1, i1, i2 =>
    bif decide (i2 < (a.length : Int)) then
      (idx a i2).bind fun y1 =>
      (laws_szWire n y1 i1).bind fun r1 =>
      bif decide (r1 < 0) then
        some (.ret (-1))
      else
        laws_szWireS_L1 a n r1 (W64 (i2 + 1))
    else
      some (.nxt (i1, i2))

def laws_szWireS (n : Nat) (a : (List TWire)) (left : Int) : Option Int :=
  bif decide ((W64 (left - (a.length : Int))) < 0) then
    some (-1)
  else
    (laws_szWireS_L1 a n (W64 (left - (a.length : Int))) 0).bind fun o => match o with
    | .ret r => some r
    | .nxt (i1, _) =>
      some i1

theorem laws_szWireS_ok {n : Nat} {w : World} {a : (List TWire)} {left : Int} {cs1 : List Value} (ha1 : GoT.R w (old w) a cs1) {r : Int} (hF : laws_szWireS n a left = some r) : RetV Tryz.prog 31 [GoT.v (List TWire) cs1, .int .i64 left] w r := by
  obtain ⟨p1, k1, rfl, s1⟩ := ha1
  refine retV_of_run Tryz.func31 rfl (m := 27) rfl rfl (fun h => ?_)
  rw [laws_szWireS] at hF
  refine r_seq (r_region (rp rfl rfl (r_nil (r_seq (r_region (rp rfl rfl (rp rfl rfl (rp rfl rfl (rp rfl rfl (rp rfl rfl (r_nil ?_)))))))))))
  refine r_seq (r_seq (r_region (rp rfl rfl (rp rfl rfl (r_nil ?_)))))
  refine r_if rfl hF (fun hF => ?_) (fun hF => ?_)
  · exact r_seq (r_region (rp rfl rfl (r_nil (r_rI tabOk h hF ⟨rfl, trivial⟩))))
  refine r_skip (r_seq (r_seq (r_region (rp rfl rfl (r_nil ?_)))))
  obtain ⟨o1, hF, hK1⟩ := bindS hF
  refine r_block (r_sub [(0, _), (1, _), (5, _)] ⟨rfl, rfl, rfl, trivial⟩ ?_)
  refine r_loop (fun m e w' => ∃ (i1 : Int) (i2 : Int), laws_szWireS_L1 a m i1 i2 = some o1 ∧ e = [(0, .slice p1 a.length k1), (1, .int .i64 i1), (5, .int .i64 i2)] ∧ SH w w' []) n ⟨_, _, hF, rfl, h⟩ ?_
  rintro m1 e1 w1 ⟨i1, i2, hF, rfl, h⟩
  rcases m1 with _ | m1
  · rw [laws_szWireS_L1] at hF
    cases hF
  rw [laws_szWireS_L1] at hF
  refine r_seq (r_seq (r_region (rp rfl rfl (rp rfl rfl (rp rfl rfl (rp rfl rfl (r_nil ?_)))))))
  refine r_if rfl hF (fun hF => ?_) (fun hF => ?_)
  · refine r_skip (r_seq (r_block (r_seq (r_region (rp rfl rfl (rp rfl rfl ?_))))))
    obtain ⟨y1, hy1, hF⟩ := bindS hF
    have he1 := idx_some hy1
    obtain ⟨b1, o_1, q1, cs2, hp1, hq1, -, hr1, hc3⟩ := s1.at hy1
    obtain ⟨p2, k2, p3, k3, p4, k4, p5, k5, rfl, s2, s3, s4, s5⟩ := open_TWire hr1
    refine r_v (v_ix tabOk hp1 hq1 ⟨he1.1, he1.2.1⟩ rfl rfl rfl rfl rfl rfl) rfl (r_v (v_ld tabOk (hc3.below h.below) (j := 0) rfl rfl rfl) rfl (rp rfl rfl ?_))
    obtain ⟨r1, hr2, hF⟩ := bindS hF
    refine r_callI r1 h call66 (laws_szWire_ok (mkR_TWire y1 (h.oldS s2) (h.oldS s3) (h.oldS s4) (h.oldS s5)) hr2) rfl rfl rfl rfl ?_
    intro w2 h
    refine rp rfl rfl (r_nil (r_seq (r_region (rp rfl rfl (rp rfl rfl (r_nil ?_))))))
    refine r_if rfl hF (fun hF => ?_) (fun hF => ?_)
    · refine r_seq (r_region (rp rfl rfl (r_nil ?_)))
      obtain rfl := someI hF; replace hF := hK1
      exact r_rI tabOk h hF ⟨rfl, trivial⟩
    exact r_skip (r_blk (r_region (rp rfl rfl (rp rfl rfl (rp rfl rfl (r_nil (r_back m1 [(0, _), (1, _), (5, _)] (Nat.lt_succ_self m1) ⟨rfl, rfl, rfl, trivial⟩ ⟨_, _, hF, rfl, h⟩)))))))
  refine r_exit rfl ?_
  obtain rfl := someI hF; replace hF := hK1
  exact r_seq (r_region (rp rfl rfl (rp rfl rfl (r_nil (r_rI tabOk h hF ⟨rfl, trivial⟩)))))

def laws_szBlock (n : Nat) (a : TBlock) (left : Int) : Option Int :=
  (laws_szLibrary n (⟨a.Library.Cells⟩ : TLibrary) left).bind fun r1 =>
  bif decide (r1 < 0) then
    some (-1)
  else
    (laws_szDesign n (⟨a.Design.Instances, a.Design.Nets, a.Design.Ports⟩ : TDesign) r1).bind fun r2 =>
    bif decide (r2 < 0) then
      some (-1)
    else
      (laws_szWireS n a.Wires r2).bind fun r3 =>
      bif decide (r3 < 0) then
        some (-1)
      else
        some r3

theorem laws_szBlock_ok {n : Nat} {w : World} {a : TBlock} {left : Int} {cs1 : List Value} (ha1 : GoT.R w (old w) a cs1) {r : Int} (hF : laws_szBlock n a left = some r) : RetV Tryz.prog 8 [GoT.v TBlock cs1, .int .i64 left] w r := by
  obtain ⟨p1, k1, p2, k2, p3, k3, p4, k4, p5, k5, rfl, s1, s2, s3, s4, s5⟩ := open_TBlock ha1
  refine retV_of_run Tryz.func8 rfl (m := 24) rfl rfl (fun h => ?_)
  rw [laws_szBlock] at hF
  refine r_seq (r_region (r_box h rfl rfl ?_))
  intro w1 bb1 h
  refine rp rfl rfl (r_nil (r_seq (r_region (rp rfl rfl (r_v (v_ld tabOk (h.box 0 rfl) (j := 0) rfl rfl rfl) rfl (rp rfl rfl ?_))))))
  obtain ⟨r1, hr1, hF⟩ := bindS hF
  refine r_callI r1 h call29 (laws_szLibrary_ok (mkR_TLibrary (⟨a.Library.Cells⟩ : TLibrary) (h.oldS s1)) hr1) rfl rfl rfl rfl ?_
  intro w2 h
  refine rp rfl rfl (r_nil (r_seq (r_seq (r_region (rp rfl rfl (rp rfl rfl (r_nil ?_)))))))
  refine r_if rfl hF (fun hF => ?_) (fun hF => ?_)
  · exact r_seq (r_region (rp rfl rfl (r_nil (r_rI tabOk h hF ⟨rfl, trivial⟩))))
  refine r_skip (r_seq (r_region (rp rfl rfl (r_v (v_ld tabOk (h.box 0 rfl) (j := 1) rfl rfl rfl) rfl (rp rfl rfl ?_)))))
  obtain ⟨r2, hr2, hF⟩ := bindS hF
  refine r_callI r2 h call30 (laws_szDesign_ok (mkR_TDesign (⟨a.Design.Instances, a.Design.Nets, a.Design.Ports⟩ : TDesign) (h.oldS s2) (h.oldS s3) (h.oldS s4)) hr2) rfl rfl rfl rfl ?_
  intro w3 h
  refine rp rfl rfl (r_nil (r_seq (r_seq (r_region (rp rfl rfl (rp rfl rfl (r_nil ?_)))))))
  refine r_if rfl hF (fun hF => ?_) (fun hF => ?_)
  · exact r_seq (r_region (rp rfl rfl (r_nil (r_rI tabOk h hF ⟨rfl, trivial⟩))))
  refine r_skip (r_seq (r_region (rp rfl rfl (r_v (v_ld tabOk (h.box 0 rfl) (j := 4) rfl rfl rfl) rfl (rp rfl rfl ?_)))))
  obtain ⟨r3, hr3, hF⟩ := bindS hF
  refine r_callI r3 h call31 (laws_szWireS_ok ⟨_, _, rfl, (h.oldS s5)⟩ hr3) rfl rfl rfl rfl ?_
  intro w4 h
  refine rp rfl rfl (r_nil (r_seq (r_seq (r_region (rp rfl rfl (rp rfl rfl (r_nil ?_)))))))
  refine r_if rfl hF (fun hF => ?_) (fun hF => ?_)
  · exact r_seq (r_region (rp rfl rfl (r_nil (r_rI tabOk h hF ⟨rfl, trivial⟩))))
  exact r_skip (r_seq (r_region (rp rfl rfl (rp rfl rfl (r_nil (r_rI tabOk h hF ⟨rfl, trivial⟩))))))

def laws_toInt64S_L1 (a : (List Int)) : Nat → (List Int) → Int → Option ((List Int) × Int)
  | 0, _, _ => none
  | n + 1, x2, i1 =>
    bif decide (i1 < (a.length : Int)) then
      (idx a i1).bind fun y1 =>
      (idx x2 i1).bind fun _ =>
      laws_toInt64S_L1 a n (setS x2 i1 y1) (W64 (i1 + 1))
    else
      some (x2, i1)

def laws_toInt64S (n : Nat) (a : (List Int)) : Option (List Int) :=
  (mkS (a.length : Int) (0 : Int)).bind fun x1 =>
  (laws_toInt64S_L1 a n x1 0).bind fun o => match o with
  | (x2, _) =>
    some x2

theorem laws_toInt64S_ok {n : Nat} {w : World} {a : (List Int)} {cs1 : List Value} (ha1 : GoT.R w (old w) a cs1) {r : (List Int)} (hF : laws_toInt64S n a = some r) : RetV Tryz.prog 27 [GoT.v (List Int) cs1] w r := by
  obtain ⟨p1, k1, rfl, s1⟩ := ha1
  refine retV_of_run Tryz.func27 rfl (m := 22) rfl rfl (fun h => ?_)
  rw [laws_toInt64S] at hF
  refine r_seq (r_region (rp rfl rfl (r_nil (r_seq (r_region (rp rfl rfl (rp rfl rfl ?_)))))))
  obtain ⟨x1, hx1, hF⟩ := bindS hF
  obtain ⟨g1, g2, hx1⟩ := mkS_some hx1
  refine r_makeE tabOk Int h rfl rfl rfl rfl rfl rfl rfl rfl rfl g1 g2 hx1 rfl ?_
  intro w1 S1 p2 h
  refine rp rfl rfl (r_nil (r_seq (r_seq (r_region (rp rfl rfl (r_nil ?_))))))
  obtain ⟨o1, hF, hK1⟩ := bindS hF
  refine r_block (r_sub [(0, _), (3, _), (4, _)] ⟨rfl, rfl, rfl, trivial⟩ ?_)
  refine r_loop (fun m e w' => ∃ (x2 : (List Int)) (i1 : Int), laws_toInt64S_L1 a m x2 i1 = some o1 ∧ e = [(0, .slice p1 a.length k1), (3, .slice p2 x1.length x1.length), (4, .int .i64 i1)] ∧ SH w w' [Ch.own S1 (x2 : List Int) [.slice p2 x1.length x1.length]]) n ⟨_, _, hF, rfl, h⟩ ?_
  rintro m1 e1 w2 ⟨x2, i1, hF, rfl, h⟩
  rcases m1 with _ | m1
  · rw [laws_toInt64S_L1] at hF
    cases hF
  rw [laws_toInt64S_L1] at hF
  refine r_seq (r_seq (r_region (rp rfl rfl (rp rfl rfl (rp rfl rfl (rp rfl rfl (r_nil ?_)))))))
  refine r_if rfl hF (fun hF => ?_) (fun hF => ?_)
  · refine r_skip (r_seq (r_block (r_region (rp rfl rfl (rp rfl rfl (rp rfl rfl (rp rfl rfl ?_)))))))
    obtain ⟨y1, hy1, hF⟩ := bindS hF
    have he1 := idx_some hy1
    obtain ⟨b1, o_1, q1, cs2, hp1, hq1, -, hr1, hc2⟩ := s1.at hy1
    obtain rfl := hr1
    refine r_v (v_ix tabOk hp1 hq1 ⟨he1.1, he1.2.1⟩ rfl rfl rfl rfl rfl rfl) rfl (r_v (v_ld tabOk (hc2.below h.below) (j := 0) rfl rfl rfl) rfl ?_)
    obtain ⟨y2, hy2, hF⟩ := bindS hF
    have he2 := idx_some hy2
    obtain ⟨b2, o_2, q2, cs3, hp2, hq2, -, hr2, hc3⟩ := (h.sl 0 rfl).1.at hy2
    obtain rfl := hr2
    refine r_v (v_ix tabOk hp2 hq2 ⟨he2.1, lt_ln he2.2.1 (h.sl 0 rfl).2⟩ rfl rfl rfl rfl rfl rfl) rfl (r_stown tabOk 0 0 y1 h rfl hy2 hp2 hq2 rfl hc3 rfl rfl rfl rfl rfl rfl rfl ?_)
    intro w3 h
    exact r_nil (r_blk (r_region (rp rfl rfl (rp rfl rfl (rp rfl rfl (r_nil (r_back m1 [(0, _), (3, _), (4, _)] (Nat.lt_succ_self m1) ⟨rfl, rfl, rfl, trivial⟩ ⟨_, _, hF, rfl, h⟩)))))))
  refine r_exit rfl ?_
  obtain rfl := someI hF; replace hF := hK1
  refine r_seq (r_region (rp rfl rfl (rp rfl rfl (r_nil ?_))))
  obtain rfl := someI hF
  exact r_retV tabOk (ρ := (List Int)) [GoT.v (List Int) [.slice p2 x1.length x1.length]] h ⟨rfl, trivial⟩ (PV.done h (pv_one (po_own 0 h rfl)))

def laws_toPin (_ : Nat) (a : TPin) : Option TPin :=
  some (⟨a.Name, a.Dir, a.Cap, a.Clock⟩ : TPin)

theorem laws_toPin_ok {n : Nat} {w : World} {a : TPin} {cs1 : List Value} (ha1 : GoT.R w (old w) a cs1) {r : TPin} (hF : laws_toPin n a = some r) : RetV Tryz.prog 168 [GoT.v TPin cs1] w r := by
  obtain rfl := open_TPin ha1
  refine retV_of_run Tryz.func168 rfl (m := 17) rfl rfl (fun h => ?_)
  rw [laws_toPin] at hF
  refine r_seq (r_region (r_box h rfl rfl ?_))
  intro w1 bb1 h
  refine r_alloc tabOk h rfl rfl rfl ?_
  intro w2 bb2 h
  refine r_nil (r_seq (r_region (r_alloc tabOk h rfl rfl rfl ?_)))
  intro w3 bb3 h
  refine r_nil (r_seq (r_region (rp rfl rfl (r_v (v_ld tabOk (h.box 2 rfl) (j := 0) rfl rfl rfl) rfl (rp rfl rfl (r_stbox tabOk 0 h rfl rfl rfl rfl rfl rfl rfl ?_))))))
  intro w4 h
  refine r_nil (r_seq (r_region (rp rfl rfl (r_v (v_ld tabOk (h.box 2 rfl) (j := 1) rfl rfl rfl) rfl (rp rfl rfl (r_stbox tabOk 0 h rfl rfl rfl rfl rfl rfl rfl ?_))))))
  intro w5 h
  replace h : SH _ _ [Ch.box bb3 [.string a.Name, .int .i64 a.Dir, .int .i64 0, .bool false] 199, Ch.box bb2 [.string ByteArray.empty, .int .i64 0, .int .i64 0, .bool false] 199, Ch.box bb1 [.string a.Name, .int .i64 a.Dir, .int .i64 a.Cap, .bool a.Clock] 221] := h
  refine r_nil (r_seq (r_region (rp rfl rfl (r_v (v_ld tabOk (h.box 2 rfl) (j := 2) rfl rfl rfl) rfl (rp rfl rfl (r_stbox tabOk 0 h rfl rfl rfl rfl rfl rfl rfl ?_))))))
  intro w6 h
  refine r_nil (r_seq (r_region (rp rfl rfl (r_v (v_ld tabOk (h.box 2 rfl) (j := 3) rfl rfl rfl) rfl (rp rfl rfl (r_stbox tabOk 0 h rfl rfl rfl rfl rfl rfl rfl ?_))))))
  intro w7 h
  replace h : SH _ _ [Ch.box bb3 [.string a.Name, .int .i64 a.Dir, .int .i64 a.Cap, .bool a.Clock] 199, Ch.box bb2 [.string ByteArray.empty, .int .i64 0, .int .i64 0, .bool false] 199, Ch.box bb1 [.string a.Name, .int .i64 a.Dir, .int .i64 a.Cap, .bool a.Clock] 221] := h
  refine r_nil (r_seq (r_region (r_v (v_ld tabOk (h.box 0 rfl) (j := 0) rfl rfl rfl) rfl (r_stbox tabOk 1 h rfl rfl rfl rfl rfl rfl rfl ?_))))
  intro w8 h
  refine r_nil ?_
  obtain rfl := someI hF
  exact r_retV tabOk (ρ := TPin) [GoT.v TPin [.string a.Name, .int .i64 a.Dir, .int .i64 a.Cap, .bool a.Clock]] h ⟨⟨_, _, _, rfl, rfl, h.box 1 rfl, rfl⟩, trivial⟩ (PV.done h (pv_one (po_flat (S := fun _ => False) (mkR_TPin (⟨a.Name, a.Dir, a.Cap, a.Clock⟩ : TPin)))))

def laws_toPinS_L1 (a : (List TPin)) : Nat → (List TPin) → Int → Option ((List TPin) × Int)
  | 0, _, _ => none
  | n + 1, x2, i1 =>
    bif decide (i1 < (a.length : Int)) then
      (idx a i1).bind fun y1 =>
      (laws_toPin n y1).bind fun r1 =>
      (idx x2 i1).bind fun _ =>
      laws_toPinS_L1 a n (setS x2 i1 r1) (W64 (i1 + 1))
    else
      some (x2, i1)

def laws_toPinS (n : Nat) (a : (List TPin)) : Option (List TPin) :=
  (mkS (a.length : Int) ((⟨ByteArray.empty, 0, 0, false⟩ : TPin) : TPin)).bind fun x1 =>
  (laws_toPinS_L1 a n x1 0).bind fun o => match o with
  | (x2, _) =>
    some x2

theorem laws_toPinS_ok {n : Nat} {w : World} {a : (List TPin)} {cs1 : List Value} (ha1 : GoT.R w (old w) a cs1) {r : (List TPin)} (hF : laws_toPinS n a = some r) : RetV Tryz.prog 151 [GoT.v (List TPin) cs1] w r := by
  obtain ⟨p1, k1, rfl, s1⟩ := ha1
  refine retV_of_run Tryz.func151 rfl (m := 23) rfl rfl (fun h => ?_)
  rw [laws_toPinS] at hF
  refine r_seq (r_region (rp rfl rfl (r_nil (r_seq (r_region (rp rfl rfl (rp rfl rfl ?_)))))))
  obtain ⟨x1, hx1, hF⟩ := bindS hF
  obtain ⟨g1, g2, hx1⟩ := mkS_some hx1
  refine r_makeE tabOk TPin h rfl rfl rfl rfl rfl rfl rfl rfl rfl g1 g2 hx1 rfl ?_
  intro w1 S1 p2 h
  refine rp rfl rfl (r_nil (r_seq (r_seq (r_region (rp rfl rfl (r_nil ?_))))))
  obtain ⟨o1, hF, hK1⟩ := bindS hF
  refine r_block (r_sub [(0, _), (3, _), (4, _)] ⟨rfl, rfl, rfl, trivial⟩ ?_)
  refine r_loop (fun m e w' => ∃ (x2 : (List TPin)) (i1 : Int), laws_toPinS_L1 a m x2 i1 = some o1 ∧ e = [(0, .slice p1 a.length k1), (3, .slice p2 x1.length x1.length), (4, .int .i64 i1)] ∧ SH w w' [Ch.own S1 (x2 : List TPin) [.slice p2 x1.length x1.length]]) n ⟨_, _, hF, rfl, h⟩ ?_
  rintro m1 e1 w2 ⟨x2, i1, hF, rfl, h⟩
  rcases m1 with _ | m1
  · rw [laws_toPinS_L1] at hF
    cases hF
  rw [laws_toPinS_L1] at hF
  refine r_seq (r_seq (r_region (rp rfl rfl (rp rfl rfl (rp rfl rfl (rp rfl rfl (r_nil ?_)))))))
  refine r_if rfl hF (fun hF => ?_) (fun hF => ?_)
  · refine r_skip (r_seq (r_block (r_region (rp rfl rfl (rp rfl rfl (rp rfl rfl (rp rfl rfl ?_)))))))
    obtain ⟨y1, hy1, hF⟩ := bindS hF
    have he1 := idx_some hy1
    obtain ⟨b1, o_1, q1, cs2, hp1, hq1, -, hr1, hc2⟩ := s1.at hy1
    obtain rfl := open_TPin hr1
    refine r_v (v_ix tabOk hp1 hq1 ⟨he1.1, he1.2.1⟩ rfl rfl rfl rfl rfl rfl) rfl (r_v (v_ld tabOk (hc2.below h.below) (j := 0) rfl rfl rfl) rfl ?_)
    obtain ⟨r1, hr2, hF⟩ := bindS hF
    refine r_callO r1 h call168 (laws_toPin_ok (mkR_TPin y1) hr2) rfl rfl rfl rfl ?_
    intro w3 S2 cs3 h
    obtain rfl := open_TPin (h.own 0 rfl)
    obtain ⟨y2, hy2, hF⟩ := bindS hF
    have he2 := idx_some hy2
    obtain ⟨b2, o_2, q2, cs4, hp2, hq2, -, hr3, hc3⟩ := (h.sl 1 rfl).1.at hy2
    obtain rfl := open_TPin hr3
    refine r_v (v_ix tabOk hp2 hq2 ⟨he2.1, lt_ln he2.2.1 (h.sl 1 rfl).2⟩ rfl rfl rfl rfl rfl rfl) rfl (r_stown tabOk 1 0 r1 h rfl hy2 hp2 hq2 (mkR_TPin y2) hc3 rfl rfl rfl (mkR_TPin r1) rfl rfl rfl ?_)
    intro w4 h
    refine r_nil (r_blk (r_region (rp rfl rfl (rp rfl rfl (rp rfl rfl (r_nil ?_))))))
    replace h := h.pick [1] rfl
    exact r_back m1 [(0, _), (3, _), (4, _)] (Nat.lt_succ_self m1) ⟨rfl, rfl, rfl, trivial⟩ ⟨_, _, hF, rfl, h⟩
  refine r_exit rfl ?_
  obtain rfl := someI hF; replace hF := hK1
  refine r_seq (r_region (rp rfl rfl (rp rfl rfl (r_nil ?_))))
  obtain rfl := someI hF
  exact r_retV tabOk (ρ := (List TPin)) [GoT.v (List TPin) [.slice p2 x1.length x1.length]] h ⟨rfl, trivial⟩ (PV.done h (pv_one (po_own 0 h rfl)))

def laws_toTable (n : Nat) (a : TTable) : Option TTable :=
  (laws_toInt64S n a.Slews).bind fun r1 =>
  (laws_toInt64S n a.Loads).bind fun r2 =>
  (laws_toInt64S n a.Values).bind fun r3 =>
  some (⟨r1, r2, r3⟩ : TTable)

theorem laws_toTable_ok {n : Nat} {w : World} {a : TTable} {cs1 : List Value} (ha1 : GoT.R w (old w) a cs1) {r : TTable} (hF : laws_toTable n a = some r) : RetV Tryz.prog 189 [GoT.v TTable cs1] w r := by
  obtain ⟨p1, k1, p2, k2, p3, k3, rfl, s1, s2, s3⟩ := open_TTable ha1
  refine retV_of_run Tryz.func189 rfl (m := 17) rfl rfl (fun h => ?_)
  rw [laws_toTable] at hF
  refine r_seq (r_region (r_box h rfl rfl ?_))
  intro w1 bb1 h
  refine r_alloc tabOk h rfl rfl rfl ?_
  intro w2 bb2 h
  refine r_nil (r_seq (r_region (r_alloc tabOk h rfl rfl rfl ?_)))
  intro w3 bb3 h
  refine r_nil (r_seq (r_region (rp rfl rfl (r_v (v_ld tabOk (h.box 2 rfl) (j := 0) rfl rfl rfl) rfl ?_))))
  obtain ⟨r1, hr1, hF⟩ := bindS hF
  refine r_callL r1 h call27 (laws_toInt64S_ok ⟨_, _, rfl, (h.oldS s1)⟩ hr1) rfl rfl rfl rfl ?_
  intro w4 S1 p4 k4 h
  refine rp rfl rfl (r_stbox tabOk 1 h rfl rfl rfl rfl rfl rfl rfl ?_)
  intro w5 h
  refine r_nil (r_seq (r_region (rp rfl rfl (r_v (v_ld tabOk (h.box 3 rfl) (j := 1) rfl rfl rfl) rfl ?_))))
  obtain ⟨r2, hr2, hF⟩ := bindS hF
  refine r_callL r2 h call27 (laws_toInt64S_ok ⟨_, _, rfl, (h.oldS s2)⟩ hr2) rfl rfl rfl rfl ?_
  intro w6 S2 p5 k5 h
  refine rp rfl rfl (r_stbox tabOk 2 h rfl rfl rfl rfl rfl rfl rfl ?_)
  intro w7 h
  replace h : SH _ _ [Ch.own S2 (r2 : List Int) [.slice p5 r2.length k5], Ch.own S1 (r1 : List Int) [.slice p4 r1.length k4], Ch.box bb3 [.slice p4 r1.length k4, .slice p5 r2.length k5, .slice none 0 0] 238, Ch.box bb2 [.slice none 0 0, .slice none 0 0, .slice none 0 0] 238, Ch.box bb1 [.slice p1 a.Slews.length k1, .slice p2 a.Loads.length k2, .slice p3 a.Values.length k3] 247] := h
  refine r_nil (r_seq (r_region (rp rfl rfl (r_v (v_ld tabOk (h.box 4 rfl) (j := 2) rfl rfl rfl) rfl ?_))))
  obtain ⟨r3, hr3, hF⟩ := bindS hF
  refine r_callL r3 h call27 (laws_toInt64S_ok ⟨_, _, rfl, (h.oldS s3)⟩ hr3) rfl rfl rfl rfl ?_
  intro w8 S3 p6 k6 h
  refine rp rfl rfl (r_stbox tabOk 3 h rfl rfl rfl rfl rfl rfl rfl ?_)
  intro w9 h
  refine r_nil (r_seq (r_region (r_v (v_ld tabOk (h.box 3 rfl) (j := 0) rfl rfl rfl) rfl (r_stbox tabOk 4 h rfl rfl rfl rfl rfl rfl rfl ?_))))
  intro w10 h
  replace h : SH _ _ [Ch.own S3 (r3 : List Int) [.slice p6 r3.length k6], Ch.own S2 (r2 : List Int) [.slice p5 r2.length k5], Ch.own S1 (r1 : List Int) [.slice p4 r1.length k4], Ch.box bb3 [.slice p4 r1.length k4, .slice p5 r2.length k5, .slice p6 r3.length k6] 238, Ch.box bb2 [.slice p4 r1.length k4, .slice p5 r2.length k5, .slice p6 r3.length k6] 238, Ch.box bb1 [.slice p1 a.Slews.length k1, .slice p2 a.Loads.length k2, .slice p3 a.Values.length k3] 247] := h
  refine r_nil ?_
  obtain rfl := someI hF
  exact r_retV tabOk (ρ := TTable) [GoT.v TTable [.slice p4 r1.length k4, .slice p5 r2.length k5, .slice p6 r3.length k6]] h ⟨⟨_, _, _, rfl, rfl, h.box 4 rfl, rfl⟩, trivial⟩ (PV.done h (pv_one (po_TTable (⟨r1, r2, r3⟩ : TTable) h (po_own 2 h rfl) (po_own 1 h rfl) (po_own 0 h rfl) (by rfl) (by rfl))))

def laws_toTableS_L1 (a : (List TTable)) : Nat → (List TTable) → Int → Option ((List TTable) × Int)
  | 0, _, _ => none
  | n + 1, x2, i1 =>
    bif decide (i1 < (a.length : Int)) then
      (idx a i1).bind fun y1 =>
      (laws_toTable n y1).bind fun r1 =>
      (idx x2 i1).bind fun _ =>
      laws_toTableS_L1 a n (setS x2 i1 r1) (W64 (i1 + 1))
    else
      some (x2, i1)

def laws_toTableS (n : Nat) (a : (List TTable)) : Option (List TTable) :=
  (mkS (a.length : Int) ((⟨[], [], []⟩ : TTable) : TTable)).bind fun x1 =>
  (laws_toTableS_L1 a n x1 0).bind fun o => match o with
  | (x2, _) =>
    some x2

theorem laws_toTableS_ok {n : Nat} {w : World} {a : (List TTable)} {cs1 : List Value} (ha1 : GoT.R w (old w) a cs1) {r : (List TTable)} (hF : laws_toTableS n a = some r) : RetV Tryz.prog 179 [GoT.v (List TTable) cs1] w r := by
  obtain ⟨p1, k1, rfl, s1⟩ := ha1
  refine retV_of_run Tryz.func179 rfl (m := 23) rfl rfl (fun h => ?_)
  rw [laws_toTableS] at hF
  refine r_seq (r_region (rp rfl rfl (r_nil (r_seq (r_region (rp rfl rfl (rp rfl rfl ?_)))))))
  obtain ⟨x1, hx1, hF⟩ := bindS hF
  obtain ⟨g1, g2, hx1⟩ := mkS_some hx1
  refine r_makeE tabOk TTable h rfl rfl rfl rfl rfl rfl rfl rfl rfl g1 g2 hx1 rfl ?_
  intro w1 S1 p2 h
  refine rp rfl rfl (r_nil (r_seq (r_seq (r_region (rp rfl rfl (r_nil ?_))))))
  obtain ⟨o1, hF, hK1⟩ := bindS hF
  refine r_block (r_sub [(0, _), (3, _), (4, _)] ⟨rfl, rfl, rfl, trivial⟩ ?_)
  refine r_loop (fun m e w' => ∃ (S2 : Nat → Prop) (x2 : (List TTable)) (i1 : Int), laws_toTableS_L1 a m x2 i1 = some o1 ∧ e = [(0, .slice p1 a.length k1), (3, .slice p2 x1.length x1.length), (4, .int .i64 i1)] ∧ SH w w' [Ch.own S2 (x2 : List TTable) [.slice p2 x1.length x1.length]]) n ⟨_, _, _, hF, rfl, h⟩ ?_
  rintro m1 e1 w2 ⟨S2, x2, i1, hF, rfl, h⟩
  rcases m1 with _ | m1
  · rw [laws_toTableS_L1] at hF
    cases hF
  rw [laws_toTableS_L1] at hF
  refine r_seq (r_seq (r_region (rp rfl rfl (rp rfl rfl (rp rfl rfl (rp rfl rfl (r_nil ?_)))))))
  refine r_if rfl hF (fun hF => ?_) (fun hF => ?_)
  · refine r_skip (r_seq (r_block (r_region (rp rfl rfl (rp rfl rfl (rp rfl rfl (rp rfl rfl ?_)))))))
    obtain ⟨y1, hy1, hF⟩ := bindS hF
    have he1 := idx_some hy1
    obtain ⟨b1, o_1, q1, cs2, hp1, hq1, -, hr1, hc2⟩ := s1.at hy1
    obtain ⟨p3, k2, p4, k3, p5, k4, rfl, s2, s3, s4⟩ := open_TTable hr1
    refine r_v (v_ix tabOk hp1 hq1 ⟨he1.1, he1.2.1⟩ rfl rfl rfl rfl rfl rfl) rfl (r_v (v_ld tabOk (hc2.below h.below) (j := 0) rfl rfl rfl) rfl ?_)
    obtain ⟨r1, hr2, hF⟩ := bindS hF
    refine r_callO r1 h call189 (laws_toTable_ok (mkR_TTable y1 (h.oldS s2) (h.oldS s3) (h.oldS s4)) hr2) rfl rfl rfl rfl ?_
    intro w3 S3 cs3 h
    obtain ⟨p6, k5, p7, k6, p8, k7, rfl, -, -, -⟩ := open_TTable (h.own 0 rfl)
    obtain ⟨y2, hy2, hF⟩ := bindS hF
    have he2 := idx_some hy2
    replace h := h.lrn0 1 rfl
    obtain ⟨b2, o_2, q2, cs4, hp2, hq2, -, hr3, hc3⟩ := (sl_of (h.lrnO 1 rfl)).1.at hy2
    have hr4 := hr3
    obtain ⟨p9, k8, p10, k9, p11, k10, rfl, s8, s9, s10⟩ := open_TTable hr3
    replace h := h.lrnAdd 1 rfl hr4
    refine r_v (v_ix tabOk hp2 hq2 ⟨he2.1, lt_ln he2.2.1 (sl_of (h.lrnO 1 rfl)).2⟩ rfl rfl rfl rfl rfl rfl) rfl ?_
    replace h := h.unlrn 1 rfl
    refine r_stownN tabOk r1 h hy2 hp2 hq2 rfl rfl rfl rfl rfl ?_
    intro w4 S4 h
    exact r_nil (r_blk (r_region (rp rfl rfl (rp rfl rfl (rp rfl rfl (r_nil (r_back m1 [(0, _), (3, _), (4, _)] (Nat.lt_succ_self m1) ⟨rfl, rfl, rfl, trivial⟩ ⟨_, _, _, hF, rfl, h⟩)))))))
  refine r_exit rfl ?_
  obtain rfl := someI hF; replace hF := hK1
  refine r_seq (r_region (rp rfl rfl (rp rfl rfl (r_nil ?_))))
  obtain rfl := someI hF
  exact r_retV tabOk (ρ := (List TTable)) [GoT.v (List TTable) [.slice p2 x1.length x1.length]] h ⟨rfl, trivial⟩ (PV.done h (pv_one (po_own 0 h rfl)))

def laws_toArc (n : Nat) (a : TArc) : Option TArc :=
  (laws_toTableS n a.Delay).bind fun r1 =>
  (laws_toTableS n a.Slew).bind fun r2 =>
  some (⟨a.Kind, a.From, a.To, a.Sense, r1, r2⟩ : TArc)

theorem laws_toArc_ok {n : Nat} {w : World} {a : TArc} {cs1 : List Value} (ha1 : GoT.R w (old w) a cs1) {r : TArc} (hF : laws_toArc n a = some r) : RetV Tryz.prog 169 [GoT.v TArc cs1] w r := by
  obtain ⟨p1, k1, p2, k2, rfl, s1, s2⟩ := open_TArc ha1
  refine retV_of_run Tryz.func169 rfl (m := 25) rfl rfl (fun h => ?_)
  rw [laws_toArc] at hF
  refine r_seq (r_region (r_box h rfl rfl ?_))
  intro w1 bb1 h
  refine r_alloc tabOk h rfl rfl rfl ?_
  intro w2 bb2 h
  refine r_nil (r_seq (r_region (r_alloc tabOk h rfl rfl rfl ?_)))
  intro w3 bb3 h
  refine r_nil (r_seq (r_region (rp rfl rfl (r_v (v_ld tabOk (h.box 2 rfl) (j := 0) rfl rfl rfl) rfl (rp rfl rfl (r_stbox tabOk 0 h rfl rfl rfl rfl rfl rfl rfl ?_))))))
  intro w4 h
  refine r_nil (r_seq (r_region (rp rfl rfl (r_v (v_ld tabOk (h.box 2 rfl) (j := 1) rfl rfl rfl) rfl (rp rfl rfl (r_stbox tabOk 0 h rfl rfl rfl rfl rfl rfl rfl ?_))))))
  intro w5 h
  replace h : SH _ _ [Ch.box bb3 [.int .i64 a.Kind, .int .i64 a.From, .int .i64 0, .int .i64 0, .slice none 0 0, .slice none 0 0] 159, Ch.box bb2 [.int .i64 0, .int .i64 0, .int .i64 0, .int .i64 0, .slice none 0 0, .slice none 0 0] 159, Ch.box bb1 [.int .i64 a.Kind, .int .i64 a.From, .int .i64 a.To, .int .i64 a.Sense, .slice p1 a.Delay.length k1, .slice p2 a.Slew.length k2] 225] := h
  refine r_nil (r_seq (r_region (rp rfl rfl (r_v (v_ld tabOk (h.box 2 rfl) (j := 2) rfl rfl rfl) rfl (rp rfl rfl (r_stbox tabOk 0 h rfl rfl rfl rfl rfl rfl rfl ?_))))))
  intro w6 h
  refine r_nil (r_seq (r_region (rp rfl rfl (r_v (v_ld tabOk (h.box 2 rfl) (j := 3) rfl rfl rfl) rfl (rp rfl rfl (r_stbox tabOk 0 h rfl rfl rfl rfl rfl rfl rfl ?_))))))
  intro w7 h
  replace h : SH _ _ [Ch.box bb3 [.int .i64 a.Kind, .int .i64 a.From, .int .i64 a.To, .int .i64 a.Sense, .slice none 0 0, .slice none 0 0] 159, Ch.box bb2 [.int .i64 0, .int .i64 0, .int .i64 0, .int .i64 0, .slice none 0 0, .slice none 0 0] 159, Ch.box bb1 [.int .i64 a.Kind, .int .i64 a.From, .int .i64 a.To, .int .i64 a.Sense, .slice p1 a.Delay.length k1, .slice p2 a.Slew.length k2] 225] := h
  refine r_nil (r_seq (r_region (rp rfl rfl (r_v (v_ld tabOk (h.box 2 rfl) (j := 4) rfl rfl rfl) rfl ?_))))
  obtain ⟨r1, hr1, hF⟩ := bindS hF
  refine r_callL r1 h call179 (laws_toTableS_ok ⟨_, _, rfl, (h.oldS s1)⟩ hr1) rfl rfl rfl rfl ?_
  intro w8 S1 p3 k3 h
  refine rp rfl rfl (r_stbox tabOk 1 h rfl rfl rfl rfl rfl rfl rfl ?_)
  intro w9 h
  refine r_nil (r_seq (r_region (rp rfl rfl (r_v (v_ld tabOk (h.box 3 rfl) (j := 5) rfl rfl rfl) rfl ?_))))
  obtain ⟨r2, hr2, hF⟩ := bindS hF
  refine r_callL r2 h call179 (laws_toTableS_ok ⟨_, _, rfl, (h.oldS s2)⟩ hr2) rfl rfl rfl rfl ?_
  intro w10 S2 p4 k4 h
  refine rp rfl rfl (r_stbox tabOk 2 h rfl rfl rfl rfl rfl rfl rfl ?_)
  intro w11 h
  replace h : SH _ _ [Ch.own S2 (r2 : List TTable) [.slice p4 r2.length k4], Ch.own S1 (r1 : List TTable) [.slice p3 r1.length k3], Ch.box bb3 [.int .i64 a.Kind, .int .i64 a.From, .int .i64 a.To, .int .i64 a.Sense, .slice p3 r1.length k3, .slice p4 r2.length k4] 159, Ch.box bb2 [.int .i64 0, .int .i64 0, .int .i64 0, .int .i64 0, .slice none 0 0, .slice none 0 0] 159, Ch.box bb1 [.int .i64 a.Kind, .int .i64 a.From, .int .i64 a.To, .int .i64 a.Sense, .slice p1 a.Delay.length k1, .slice p2 a.Slew.length k2] 225] := h
  refine r_nil (r_seq (r_region (r_v (v_ld tabOk (h.box 2 rfl) (j := 0) rfl rfl rfl) rfl (r_stbox tabOk 3 h rfl rfl rfl rfl rfl rfl rfl ?_))))
  intro w12 h
  refine r_nil ?_
  obtain rfl := someI hF
  exact r_retV tabOk (ρ := TArc) [GoT.v TArc [.int .i64 a.Kind, .int .i64 a.From, .int .i64 a.To, .int .i64 a.Sense, .slice p3 r1.length k3, .slice p4 r2.length k4]] h ⟨⟨_, _, _, rfl, rfl, h.box 3 rfl, rfl⟩, trivial⟩ (PV.done h (pv_one (po_TArc (⟨a.Kind, a.From, a.To, a.Sense, r1, r2⟩ : TArc) h (po_flat (S := fun _ => False) rfl) (po_flat (S := fun _ => False) rfl) (po_flat (S := fun _ => False) rfl) (po_flat (S := fun _ => False) rfl) (po_own 1 h rfl) (po_own 0 h rfl) (by rfl) (by rfl) (by rfl) (by rfl) (by rfl))))

def laws_toArcS_L1 (a : (List TArc)) : Nat → (List TArc) → Int → Option ((List TArc) × Int)
  | 0, _, _ => none
  | n + 1, x2, i1 =>
    bif decide (i1 < (a.length : Int)) then
      (idx a i1).bind fun y1 =>
      (laws_toArc n y1).bind fun r1 =>
      (idx x2 i1).bind fun _ =>
      laws_toArcS_L1 a n (setS x2 i1 r1) (W64 (i1 + 1))
    else
      some (x2, i1)

def laws_toArcS (n : Nat) (a : (List TArc)) : Option (List TArc) :=
  (mkS (a.length : Int) ((⟨0, 0, 0, 0, [], []⟩ : TArc) : TArc)).bind fun x1 =>
  (laws_toArcS_L1 a n x1 0).bind fun o => match o with
  | (x2, _) =>
    some x2

theorem laws_toArcS_ok {n : Nat} {w : World} {a : (List TArc)} {cs1 : List Value} (ha1 : GoT.R w (old w) a cs1) {r : (List TArc)} (hF : laws_toArcS n a = some r) : RetV Tryz.prog 152 [GoT.v (List TArc) cs1] w r := by
  obtain ⟨p1, k1, rfl, s1⟩ := ha1
  refine retV_of_run Tryz.func152 rfl (m := 23) rfl rfl (fun h => ?_)
  rw [laws_toArcS] at hF
  refine r_seq (r_region (rp rfl rfl (r_nil (r_seq (r_region (rp rfl rfl (rp rfl rfl ?_)))))))
  obtain ⟨x1, hx1, hF⟩ := bindS hF
  obtain ⟨g1, g2, hx1⟩ := mkS_some hx1
  refine r_makeE tabOk TArc h rfl rfl rfl rfl rfl rfl rfl rfl rfl g1 g2 hx1 rfl ?_
  intro w1 S1 p2 h
  refine rp rfl rfl (r_nil (r_seq (r_seq (r_region (rp rfl rfl (r_nil ?_))))))
  obtain ⟨o1, hF, hK1⟩ := bindS hF
  refine r_block (r_sub [(0, _), (3, _), (4, _)] ⟨rfl, rfl, rfl, trivial⟩ ?_)
  refine r_loop (fun m e w' => ∃ (S2 : Nat → Prop) (x2 : (List TArc)) (i1 : Int), laws_toArcS_L1 a m x2 i1 = some o1 ∧ e = [(0, .slice p1 a.length k1), (3, .slice p2 x1.length x1.length), (4, .int .i64 i1)] ∧ SH w w' [Ch.own S2 (x2 : List TArc) [.slice p2 x1.length x1.length]]) n ⟨_, _, _, hF, rfl, h⟩ ?_
  rintro m1 e1 w2 ⟨S2, x2, i1, hF, rfl, h⟩
  rcases m1 with _ | m1
  · rw [laws_toArcS_L1] at hF
    cases hF
  rw [laws_toArcS_L1] at hF
  refine r_seq (r_seq (r_region (rp rfl rfl (rp rfl rfl (rp rfl rfl (rp rfl rfl (r_nil ?_)))))))
  refine r_if rfl hF (fun hF => ?_) (fun hF => ?_)
  · refine r_skip (r_seq (r_block (r_region (rp rfl rfl (rp rfl rfl (rp rfl rfl (rp rfl rfl ?_)))))))
    obtain ⟨y1, hy1, hF⟩ := bindS hF
    have he1 := idx_some hy1
    obtain ⟨b1, o_1, q1, cs2, hp1, hq1, -, hr1, hc2⟩ := s1.at hy1
    obtain ⟨p3, k2, p4, k3, rfl, s2, s3⟩ := open_TArc hr1
    refine r_v (v_ix tabOk hp1 hq1 ⟨he1.1, he1.2.1⟩ rfl rfl rfl rfl rfl rfl) rfl (r_v (v_ld tabOk (hc2.below h.below) (j := 0) rfl rfl rfl) rfl ?_)
    obtain ⟨r1, hr2, hF⟩ := bindS hF
    refine r_callO r1 h call169 (laws_toArc_ok (mkR_TArc y1 (h.oldS s2) (h.oldS s3)) hr2) rfl rfl rfl rfl ?_
    intro w3 S3 cs3 h
    obtain ⟨p5, k4, p6, k5, rfl, -, -⟩ := open_TArc (h.own 0 rfl)
    obtain ⟨y2, hy2, hF⟩ := bindS hF
    have he2 := idx_some hy2
    replace h := h.lrn0 1 rfl
    obtain ⟨b2, o_2, q2, cs4, hp2, hq2, -, hr3, hc3⟩ := (sl_of (h.lrnO 1 rfl)).1.at hy2
    have hr4 := hr3
    obtain ⟨p7, k6, p8, k7, rfl, s6, s7⟩ := open_TArc hr3
    replace h := h.lrnAdd 1 rfl hr4
    refine r_v (v_ix tabOk hp2 hq2 ⟨he2.1, lt_ln he2.2.1 (sl_of (h.lrnO 1 rfl)).2⟩ rfl rfl rfl rfl rfl rfl) rfl ?_
    replace h := h.unlrn 1 rfl
    refine r_stownN tabOk r1 h hy2 hp2 hq2 rfl rfl rfl rfl rfl ?_
    intro w4 S4 h
    exact r_nil (r_blk (r_region (rp rfl rfl (rp rfl rfl (rp rfl rfl (r_nil (r_back m1 [(0, _), (3, _), (4, _)] (Nat.lt_succ_self m1) ⟨rfl, rfl, rfl, trivial⟩ ⟨_, _, _, hF, rfl, h⟩)))))))
  refine r_exit rfl ?_
  obtain rfl := someI hF; replace hF := hK1
  refine r_seq (r_region (rp rfl rfl (rp rfl rfl (r_nil ?_))))
  obtain rfl := someI hF
  exact r_retV tabOk (ρ := (List TArc)) [GoT.v (List TArc) [.slice p2 x1.length x1.length]] h ⟨rfl, trivial⟩ (PV.done h (pv_one (po_own 0 h rfl)))

def laws_toCell (n : Nat) (a : TCell) : Option TCell :=
  (laws_toPinS n a.Pins).bind fun r1 =>
  (laws_toArcS n a.Arcs).bind fun r2 =>
  (laws_toInt64S n a.Truth).bind fun r3 =>
  some (⟨a.Name, a.Kind, r1, r2, r3, a.Leak, a.Energy⟩ : TCell)

theorem laws_toCell_ok {n : Nat} {w : World} {a : TCell} {cs1 : List Value} (ha1 : GoT.R w (old w) a cs1) {r : TCell} (hF : laws_toCell n a = some r) : RetV Tryz.prog 121 [GoT.v TCell cs1] w r := by
  obtain ⟨p1, k1, p2, k2, p3, k3, rfl, s1, s2, s3⟩ := open_TCell ha1
  refine retV_of_run Tryz.func121 rfl (m := 29) rfl rfl (fun h => ?_)
  rw [laws_toCell] at hF
  refine r_seq (r_region (r_box h rfl rfl ?_))
  intro w1 bb1 h
  refine r_alloc tabOk h rfl rfl rfl ?_
  intro w2 bb2 h
  refine r_nil (r_seq (r_region (r_alloc tabOk h rfl rfl rfl ?_)))
  intro w3 bb3 h
  refine r_nil (r_seq (r_region (rp rfl rfl (r_v (v_ld tabOk (h.box 2 rfl) (j := 0) rfl rfl rfl) rfl (rp rfl rfl (r_stbox tabOk 0 h rfl rfl rfl rfl rfl rfl rfl ?_))))))
  intro w4 h
  refine r_nil (r_seq (r_region (rp rfl rfl (r_v (v_ld tabOk (h.box 2 rfl) (j := 1) rfl rfl rfl) rfl (rp rfl rfl (r_stbox tabOk 0 h rfl rfl rfl rfl rfl rfl rfl ?_))))))
  intro w5 h
  replace h : SH _ _ [Ch.box bb3 [.string a.Name, .int .i64 a.Kind, .slice none 0 0, .slice none 0 0, .slice none 0 0, .int .i64 0, .int .i64 0] 155, Ch.box bb2 [.string ByteArray.empty, .int .i64 0, .slice none 0 0, .slice none 0 0, .slice none 0 0, .int .i64 0, .int .i64 0] 155, Ch.box bb1 [.string a.Name, .int .i64 a.Kind, .slice p1 a.Pins.length k1, .slice p2 a.Arcs.length k2, .slice p3 a.Truth.length k3, .int .i64 a.Leak, .int .i64 a.Energy] 176] := h
  refine r_nil (r_seq (r_region (rp rfl rfl (r_v (v_ld tabOk (h.box 2 rfl) (j := 2) rfl rfl rfl) rfl ?_))))
  obtain ⟨r1, hr1, hF⟩ := bindS hF
  refine r_callL r1 h call151 (laws_toPinS_ok ⟨_, _, rfl, (h.oldS s1)⟩ hr1) rfl rfl rfl rfl ?_
  intro w6 S1 p4 k4 h
  refine rp rfl rfl (r_stbox tabOk 1 h rfl rfl rfl rfl rfl rfl rfl ?_)
  intro w7 h
  refine r_nil (r_seq (r_region (rp rfl rfl (r_v (v_ld tabOk (h.box 3 rfl) (j := 3) rfl rfl rfl) rfl ?_))))
  obtain ⟨r2, hr2, hF⟩ := bindS hF
  refine r_callL r2 h call152 (laws_toArcS_ok ⟨_, _, rfl, (h.oldS s2)⟩ hr2) rfl rfl rfl rfl ?_
  intro w8 S2 p5 k5 h
  refine rp rfl rfl (r_stbox tabOk 2 h rfl rfl rfl rfl rfl rfl rfl ?_)
  intro w9 h
  replace h : SH _ _ [Ch.own S2 (r2 : List TArc) [.slice p5 r2.length k5], Ch.own S1 (r1 : List TPin) [.slice p4 r1.length k4], Ch.box bb3 [.string a.Name, .int .i64 a.Kind, .slice p4 r1.length k4, .slice p5 r2.length k5, .slice none 0 0, .int .i64 0, .int .i64 0] 155, Ch.box bb2 [.string ByteArray.empty, .int .i64 0, .slice none 0 0, .slice none 0 0, .slice none 0 0, .int .i64 0, .int .i64 0] 155, Ch.box bb1 [.string a.Name, .int .i64 a.Kind, .slice p1 a.Pins.length k1, .slice p2 a.Arcs.length k2, .slice p3 a.Truth.length k3, .int .i64 a.Leak, .int .i64 a.Energy] 176] := h
  refine r_nil (r_seq (r_region (rp rfl rfl (r_v (v_ld tabOk (h.box 4 rfl) (j := 4) rfl rfl rfl) rfl ?_))))
  obtain ⟨r3, hr3, hF⟩ := bindS hF
  refine r_callL r3 h call27 (laws_toInt64S_ok ⟨_, _, rfl, (h.oldS s3)⟩ hr3) rfl rfl rfl rfl ?_
  intro w10 S3 p6 k6 h
  refine rp rfl rfl (r_stbox tabOk 3 h rfl rfl rfl rfl rfl rfl rfl ?_)
  intro w11 h
  refine r_nil (r_seq (r_region (rp rfl rfl (r_v (v_ld tabOk (h.box 5 rfl) (j := 5) rfl rfl rfl) rfl (rp rfl rfl (r_stbox tabOk 3 h rfl rfl rfl rfl rfl rfl rfl ?_))))))
  intro w12 h
  replace h : SH _ _ [Ch.own S3 (r3 : List Int) [.slice p6 r3.length k6], Ch.own S2 (r2 : List TArc) [.slice p5 r2.length k5], Ch.own S1 (r1 : List TPin) [.slice p4 r1.length k4], Ch.box bb3 [.string a.Name, .int .i64 a.Kind, .slice p4 r1.length k4, .slice p5 r2.length k5, .slice p6 r3.length k6, .int .i64 a.Leak, .int .i64 0] 155, Ch.box bb2 [.string ByteArray.empty, .int .i64 0, .slice none 0 0, .slice none 0 0, .slice none 0 0, .int .i64 0, .int .i64 0] 155, Ch.box bb1 [.string a.Name, .int .i64 a.Kind, .slice p1 a.Pins.length k1, .slice p2 a.Arcs.length k2, .slice p3 a.Truth.length k3, .int .i64 a.Leak, .int .i64 a.Energy] 176] := h
  refine r_nil (r_seq (r_region (rp rfl rfl (r_v (v_ld tabOk (h.box 5 rfl) (j := 6) rfl rfl rfl) rfl (rp rfl rfl (r_stbox tabOk 3 h rfl rfl rfl rfl rfl rfl rfl ?_))))))
  intro w13 h
  refine r_nil (r_seq (r_region (r_v (v_ld tabOk (h.box 3 rfl) (j := 0) rfl rfl rfl) rfl (r_stbox tabOk 4 h rfl rfl rfl rfl rfl rfl rfl ?_))))
  intro w14 h
  replace h : SH _ _ [Ch.own S3 (r3 : List Int) [.slice p6 r3.length k6], Ch.own S2 (r2 : List TArc) [.slice p5 r2.length k5], Ch.own S1 (r1 : List TPin) [.slice p4 r1.length k4], Ch.box bb3 [.string a.Name, .int .i64 a.Kind, .slice p4 r1.length k4, .slice p5 r2.length k5, .slice p6 r3.length k6, .int .i64 a.Leak, .int .i64 a.Energy] 155, Ch.box bb2 [.string a.Name, .int .i64 a.Kind, .slice p4 r1.length k4, .slice p5 r2.length k5, .slice p6 r3.length k6, .int .i64 a.Leak, .int .i64 a.Energy] 155, Ch.box bb1 [.string a.Name, .int .i64 a.Kind, .slice p1 a.Pins.length k1, .slice p2 a.Arcs.length k2, .slice p3 a.Truth.length k3, .int .i64 a.Leak, .int .i64 a.Energy] 176] := h
  refine r_nil ?_
  obtain rfl := someI hF
  exact r_retV tabOk (ρ := TCell) [GoT.v TCell [.string a.Name, .int .i64 a.Kind, .slice p4 r1.length k4, .slice p5 r2.length k5, .slice p6 r3.length k6, .int .i64 a.Leak, .int .i64 a.Energy]] h ⟨⟨_, _, _, rfl, rfl, h.box 4 rfl, rfl⟩, trivial⟩ (PV.done h (pv_one (po_TCell (⟨a.Name, a.Kind, r1, r2, r3, a.Leak, a.Energy⟩ : TCell) h (po_flat (S := fun _ => False) rfl) (po_flat (S := fun _ => False) rfl) (po_own 2 h rfl) (po_own 1 h rfl) (po_own 0 h rfl) (po_flat (S := fun _ => False) rfl) (po_flat (S := fun _ => False) rfl) (by rfl) (by rfl) (by rfl) (by rfl) (by rfl) (by rfl))))

def laws_toCellS_L1 (a : (List TCell)) : Nat → (List TCell) → Int → Option ((List TCell) × Int)
  | 0, _, _ => none
  | n + 1, x2, i1 =>
    bif decide (i1 < (a.length : Int)) then
      (idx a i1).bind fun y1 =>
      (laws_toCell n y1).bind fun r1 =>
      (idx x2 i1).bind fun _ =>
      laws_toCellS_L1 a n (setS x2 i1 r1) (W64 (i1 + 1))
    else
      some (x2, i1)

def laws_toCellS (n : Nat) (a : (List TCell)) : Option (List TCell) :=
  (mkS (a.length : Int) ((⟨ByteArray.empty, 0, [], [], [], 0, 0⟩ : TCell) : TCell)).bind fun x1 =>
  (laws_toCellS_L1 a n x1 0).bind fun o => match o with
  | (x2, _) =>
    some x2

theorem laws_toCellS_ok {n : Nat} {w : World} {a : (List TCell)} {cs1 : List Value} (ha1 : GoT.R w (old w) a cs1) {r : (List TCell)} (hF : laws_toCellS n a = some r) : RetV Tryz.prog 70 [GoT.v (List TCell) cs1] w r := by
  obtain ⟨p1, k1, rfl, s1⟩ := ha1
  refine retV_of_run Tryz.func70 rfl (m := 23) rfl rfl (fun h => ?_)
  rw [laws_toCellS] at hF
  refine r_seq (r_region (rp rfl rfl (r_nil (r_seq (r_region (rp rfl rfl (rp rfl rfl ?_)))))))
  obtain ⟨x1, hx1, hF⟩ := bindS hF
  obtain ⟨g1, g2, hx1⟩ := mkS_some hx1
  refine r_makeE tabOk TCell h rfl rfl rfl rfl rfl rfl rfl rfl rfl g1 g2 hx1 rfl ?_
  intro w1 S1 p2 h
  refine rp rfl rfl (r_nil (r_seq (r_seq (r_region (rp rfl rfl (r_nil ?_))))))
  obtain ⟨o1, hF, hK1⟩ := bindS hF
  refine r_block (r_sub [(0, _), (3, _), (4, _)] ⟨rfl, rfl, rfl, trivial⟩ ?_)
  refine r_loop (fun m e w' => ∃ (S2 : Nat → Prop) (x2 : (List TCell)) (i1 : Int), laws_toCellS_L1 a m x2 i1 = some o1 ∧ e = [(0, .slice p1 a.length k1), (3, .slice p2 x1.length x1.length), (4, .int .i64 i1)] ∧ SH w w' [Ch.own S2 (x2 : List TCell) [.slice p2 x1.length x1.length]]) n ⟨_, _, _, hF, rfl, h⟩ ?_
  rintro m1 e1 w2 ⟨S2, x2, i1, hF, rfl, h⟩
  rcases m1 with _ | m1
  · rw [laws_toCellS_L1] at hF
    cases hF
  rw [laws_toCellS_L1] at hF
  refine r_seq (r_seq (r_region (rp rfl rfl (rp rfl rfl (rp rfl rfl (rp rfl rfl (r_nil ?_)))))))
  refine r_if rfl hF (fun hF => ?_) (fun hF => ?_)
  · refine r_skip (r_seq (r_block (r_region (rp rfl rfl (rp rfl rfl (rp rfl rfl (rp rfl rfl ?_)))))))
    obtain ⟨y1, hy1, hF⟩ := bindS hF
    have he1 := idx_some hy1
    obtain ⟨b1, o_1, q1, cs2, hp1, hq1, -, hr1, hc2⟩ := s1.at hy1
    obtain ⟨p3, k2, p4, k3, p5, k4, rfl, s2, s3, s4⟩ := open_TCell hr1
    refine r_v (v_ix tabOk hp1 hq1 ⟨he1.1, he1.2.1⟩ rfl rfl rfl rfl rfl rfl) rfl (r_v (v_ld tabOk (hc2.below h.below) (j := 0) rfl rfl rfl) rfl ?_)
    obtain ⟨r1, hr2, hF⟩ := bindS hF
    refine r_callO r1 h call121 (laws_toCell_ok (mkR_TCell y1 (h.oldS s2) (h.oldS s3) (h.oldS s4)) hr2) rfl rfl rfl rfl ?_
    intro w3 S3 cs3 h
    obtain ⟨p6, k5, p7, k6, p8, k7, rfl, -, -, -⟩ := open_TCell (h.own 0 rfl)
    obtain ⟨y2, hy2, hF⟩ := bindS hF
    have he2 := idx_some hy2
    replace h := h.lrn0 1 rfl
    obtain ⟨b2, o_2, q2, cs4, hp2, hq2, -, hr3, hc3⟩ := (sl_of (h.lrnO 1 rfl)).1.at hy2
    have hr4 := hr3
    obtain ⟨p9, k8, p10, k9, p11, k10, rfl, s8, s9, s10⟩ := open_TCell hr3
    replace h := h.lrnAdd 1 rfl hr4
    refine r_v (v_ix tabOk hp2 hq2 ⟨he2.1, lt_ln he2.2.1 (sl_of (h.lrnO 1 rfl)).2⟩ rfl rfl rfl rfl rfl rfl) rfl ?_
    replace h := h.unlrn 1 rfl
    refine r_stownN tabOk r1 h hy2 hp2 hq2 rfl rfl rfl rfl rfl ?_
    intro w4 S4 h
    exact r_nil (r_blk (r_region (rp rfl rfl (rp rfl rfl (rp rfl rfl (r_nil (r_back m1 [(0, _), (3, _), (4, _)] (Nat.lt_succ_self m1) ⟨rfl, rfl, rfl, trivial⟩ ⟨_, _, _, hF, rfl, h⟩)))))))
  refine r_exit rfl ?_
  obtain rfl := someI hF; replace hF := hK1
  refine r_seq (r_region (rp rfl rfl (rp rfl rfl (r_nil ?_))))
  obtain rfl := someI hF
  exact r_retV tabOk (ρ := (List TCell)) [GoT.v (List TCell) [.slice p2 x1.length x1.length]] h ⟨rfl, trivial⟩ (PV.done h (pv_one (po_own 0 h rfl)))

def laws_toLibrary (n : Nat) (a : TLibrary) : Option TLibrary :=
  (laws_toCellS n a.Cells).bind fun r1 =>
  some (⟨r1⟩ : TLibrary)

theorem laws_toLibrary_ok {n : Nat} {w : World} {a : TLibrary} {cs1 : List Value} (ha1 : GoT.R w (old w) a cs1) {r : TLibrary} (hF : laws_toLibrary n a = some r) : RetV Tryz.prog 36 [GoT.v TLibrary cs1] w r := by
  obtain ⟨p1, k1, rfl, s1⟩ := open_TLibrary ha1
  refine retV_of_run Tryz.func36 rfl (m := 9) rfl rfl (fun h => ?_)
  rw [laws_toLibrary] at hF
  refine r_seq (r_region (r_box h rfl rfl ?_))
  intro w1 bb1 h
  refine r_alloc tabOk h rfl rfl rfl ?_
  intro w2 bb2 h
  refine r_nil (r_seq (r_region (r_alloc tabOk h rfl rfl rfl ?_)))
  intro w3 bb3 h
  refine r_nil (r_seq (r_region (rp rfl rfl (r_v (v_ld tabOk (h.box 2 rfl) (j := 0) rfl rfl rfl) rfl ?_))))
  obtain ⟨r1, hr1, hF⟩ := bindS hF
  refine r_callL r1 h call70 (laws_toCellS_ok ⟨_, _, rfl, (h.oldS s1)⟩ hr1) rfl rfl rfl rfl ?_
  intro w4 S1 p2 k2 h
  refine rp rfl rfl (r_stbox tabOk 1 h rfl rfl rfl rfl rfl rfl rfl ?_)
  intro w5 h
  refine r_nil (r_seq (r_region (r_v (v_ld tabOk (h.box 1 rfl) (j := 0) rfl rfl rfl) rfl (r_stbox tabOk 2 h rfl rfl rfl rfl rfl rfl rfl ?_))))
  intro w6 h
  replace h : SH _ _ [Ch.own S1 (r1 : List TCell) [.slice p2 r1.length k2], Ch.box bb3 [.slice p2 r1.length k2] 41, Ch.box bb2 [.slice p2 r1.length k2] 41, Ch.box bb1 [.slice p1 a.Cells.length k1] 24] := h
  refine r_nil ?_
  obtain rfl := someI hF
  exact r_retV tabOk (ρ := TLibrary) [GoT.v TLibrary [.slice p2 r1.length k2]] h ⟨⟨_, _, _, rfl, rfl, h.box 2 rfl, rfl⟩, trivial⟩ (PV.done h (pv_one (po_TLibrary (⟨r1⟩ : TLibrary) h (po_own 0 h rfl) )))

def laws_toInstance (n : Nat) (a : TInstance) : Option TInstance :=
  (laws_toInt64S n a.Nets).bind fun r1 =>
  some (⟨a.Name, a.Cell, r1⟩ : TInstance)

theorem laws_toInstance_ok {n : Nat} {w : World} {a : TInstance} {cs1 : List Value} (ha1 : GoT.R w (old w) a cs1) {r : TInstance} (hF : laws_toInstance n a = some r) : RetV Tryz.prog 122 [GoT.v TInstance cs1] w r := by
  obtain ⟨p1, k1, rfl, s1⟩ := open_TInstance ha1
  refine retV_of_run Tryz.func122 rfl (m := 15) rfl rfl (fun h => ?_)
  rw [laws_toInstance] at hF
  refine r_seq (r_region (r_box h rfl rfl ?_))
  intro w1 bb1 h
  refine r_alloc tabOk h rfl rfl rfl ?_
  intro w2 bb2 h
  refine r_nil (r_seq (r_region (r_alloc tabOk h rfl rfl rfl ?_)))
  intro w3 bb3 h
  refine r_nil (r_seq (r_region (rp rfl rfl (r_v (v_ld tabOk (h.box 2 rfl) (j := 0) rfl rfl rfl) rfl (rp rfl rfl (r_stbox tabOk 0 h rfl rfl rfl rfl rfl rfl rfl ?_))))))
  intro w4 h
  refine r_nil (r_seq (r_region (rp rfl rfl (r_v (v_ld tabOk (h.box 2 rfl) (j := 1) rfl rfl rfl) rfl (rp rfl rfl (r_stbox tabOk 0 h rfl rfl rfl rfl rfl rfl rfl ?_))))))
  intro w5 h
  replace h : SH _ _ [Ch.box bb3 [.string a.Name, .int .i64 a.Cell, .slice none 0 0] 126, Ch.box bb2 [.string ByteArray.empty, .int .i64 0, .slice none 0 0] 126, Ch.box bb1 [.string a.Name, .int .i64 a.Cell, .slice p1 a.Nets.length k1] 178] := h
  refine r_nil (r_seq (r_region (rp rfl rfl (r_v (v_ld tabOk (h.box 2 rfl) (j := 2) rfl rfl rfl) rfl ?_))))
  obtain ⟨r1, hr1, hF⟩ := bindS hF
  refine r_callL r1 h call27 (laws_toInt64S_ok ⟨_, _, rfl, (h.oldS s1)⟩ hr1) rfl rfl rfl rfl ?_
  intro w6 S1 p2 k2 h
  refine rp rfl rfl (r_stbox tabOk 1 h rfl rfl rfl rfl rfl rfl rfl ?_)
  intro w7 h
  refine r_nil (r_seq (r_region (r_v (v_ld tabOk (h.box 1 rfl) (j := 0) rfl rfl rfl) rfl (r_stbox tabOk 2 h rfl rfl rfl rfl rfl rfl rfl ?_))))
  intro w8 h
  replace h : SH _ _ [Ch.own S1 (r1 : List Int) [.slice p2 r1.length k2], Ch.box bb3 [.string a.Name, .int .i64 a.Cell, .slice p2 r1.length k2] 126, Ch.box bb2 [.string a.Name, .int .i64 a.Cell, .slice p2 r1.length k2] 126, Ch.box bb1 [.string a.Name, .int .i64 a.Cell, .slice p1 a.Nets.length k1] 178] := h
  refine r_nil ?_
  obtain rfl := someI hF
  exact r_retV tabOk (ρ := TInstance) [GoT.v TInstance [.string a.Name, .int .i64 a.Cell, .slice p2 r1.length k2]] h ⟨⟨_, _, _, rfl, rfl, h.box 2 rfl, rfl⟩, trivial⟩ (PV.done h (pv_one (po_TInstance (⟨a.Name, a.Cell, r1⟩ : TInstance) h (po_flat (S := fun _ => False) rfl) (po_flat (S := fun _ => False) rfl) (po_own 0 h rfl) (by rfl) (by rfl))))

def laws_toInstanceS_L1 (a : (List TInstance)) : Nat → (List TInstance) → Int → Option ((List TInstance) × Int)
  | 0, _, _ => none
  | n + 1, x2, i1 =>
    bif decide (i1 < (a.length : Int)) then
      (idx a i1).bind fun y1 =>
      (laws_toInstance n y1).bind fun r1 =>
      (idx x2 i1).bind fun _ =>
      laws_toInstanceS_L1 a n (setS x2 i1 r1) (W64 (i1 + 1))
    else
      some (x2, i1)

def laws_toInstanceS (n : Nat) (a : (List TInstance)) : Option (List TInstance) :=
  (mkS (a.length : Int) ((⟨ByteArray.empty, 0, []⟩ : TInstance) : TInstance)).bind fun x1 =>
  (laws_toInstanceS_L1 a n x1 0).bind fun o => match o with
  | (x2, _) =>
    some x2

theorem laws_toInstanceS_ok {n : Nat} {w : World} {a : (List TInstance)} {cs1 : List Value} (ha1 : GoT.R w (old w) a cs1) {r : (List TInstance)} (hF : laws_toInstanceS n a = some r) : RetV Tryz.prog 71 [GoT.v (List TInstance) cs1] w r := by
  obtain ⟨p1, k1, rfl, s1⟩ := ha1
  refine retV_of_run Tryz.func71 rfl (m := 23) rfl rfl (fun h => ?_)
  rw [laws_toInstanceS] at hF
  refine r_seq (r_region (rp rfl rfl (r_nil (r_seq (r_region (rp rfl rfl (rp rfl rfl ?_)))))))
  obtain ⟨x1, hx1, hF⟩ := bindS hF
  obtain ⟨g1, g2, hx1⟩ := mkS_some hx1
  refine r_makeE tabOk TInstance h rfl rfl rfl rfl rfl rfl rfl rfl rfl g1 g2 hx1 rfl ?_
  intro w1 S1 p2 h
  refine rp rfl rfl (r_nil (r_seq (r_seq (r_region (rp rfl rfl (r_nil ?_))))))
  obtain ⟨o1, hF, hK1⟩ := bindS hF
  refine r_block (r_sub [(0, _), (3, _), (4, _)] ⟨rfl, rfl, rfl, trivial⟩ ?_)
  refine r_loop (fun m e w' => ∃ (S2 : Nat → Prop) (x2 : (List TInstance)) (i1 : Int), laws_toInstanceS_L1 a m x2 i1 = some o1 ∧ e = [(0, .slice p1 a.length k1), (3, .slice p2 x1.length x1.length), (4, .int .i64 i1)] ∧ SH w w' [Ch.own S2 (x2 : List TInstance) [.slice p2 x1.length x1.length]]) n ⟨_, _, _, hF, rfl, h⟩ ?_
  rintro m1 e1 w2 ⟨S2, x2, i1, hF, rfl, h⟩
  rcases m1 with _ | m1
  · rw [laws_toInstanceS_L1] at hF
    cases hF
  rw [laws_toInstanceS_L1] at hF
  refine r_seq (r_seq (r_region (rp rfl rfl (rp rfl rfl (rp rfl rfl (rp rfl rfl (r_nil ?_)))))))
  refine r_if rfl hF (fun hF => ?_) (fun hF => ?_)
  · refine r_skip (r_seq (r_block (r_region (rp rfl rfl (rp rfl rfl (rp rfl rfl (rp rfl rfl ?_)))))))
    obtain ⟨y1, hy1, hF⟩ := bindS hF
    have he1 := idx_some hy1
    obtain ⟨b1, o_1, q1, cs2, hp1, hq1, -, hr1, hc2⟩ := s1.at hy1
    obtain ⟨p3, k2, rfl, s2⟩ := open_TInstance hr1
    refine r_v (v_ix tabOk hp1 hq1 ⟨he1.1, he1.2.1⟩ rfl rfl rfl rfl rfl rfl) rfl (r_v (v_ld tabOk (hc2.below h.below) (j := 0) rfl rfl rfl) rfl ?_)
    obtain ⟨r1, hr2, hF⟩ := bindS hF
    refine r_callO r1 h call122 (laws_toInstance_ok (mkR_TInstance y1 (h.oldS s2)) hr2) rfl rfl rfl rfl ?_
    intro w3 S3 cs3 h
    obtain ⟨p4, k3, rfl, -⟩ := open_TInstance (h.own 0 rfl)
    obtain ⟨y2, hy2, hF⟩ := bindS hF
    have he2 := idx_some hy2
    replace h := h.lrn0 1 rfl
    obtain ⟨b2, o_2, q2, cs4, hp2, hq2, -, hr3, hc3⟩ := (sl_of (h.lrnO 1 rfl)).1.at hy2
    have hr4 := hr3
    obtain ⟨p5, k4, rfl, s4⟩ := open_TInstance hr3
    replace h := h.lrnAdd 1 rfl hr4
    refine r_v (v_ix tabOk hp2 hq2 ⟨he2.1, lt_ln he2.2.1 (sl_of (h.lrnO 1 rfl)).2⟩ rfl rfl rfl rfl rfl rfl) rfl ?_
    replace h := h.unlrn 1 rfl
    refine r_stownN tabOk r1 h hy2 hp2 hq2 rfl rfl rfl rfl rfl ?_
    intro w4 S4 h
    exact r_nil (r_blk (r_region (rp rfl rfl (rp rfl rfl (rp rfl rfl (r_nil (r_back m1 [(0, _), (3, _), (4, _)] (Nat.lt_succ_self m1) ⟨rfl, rfl, rfl, trivial⟩ ⟨_, _, _, hF, rfl, h⟩)))))))
  refine r_exit rfl ?_
  obtain rfl := someI hF; replace hF := hK1
  refine r_seq (r_region (rp rfl rfl (rp rfl rfl (r_nil ?_))))
  obtain rfl := someI hF
  exact r_retV tabOk (ρ := (List TInstance)) [GoT.v (List TInstance) [.slice p2 x1.length x1.length]] h ⟨rfl, trivial⟩ (PV.done h (pv_one (po_own 0 h rfl)))

def laws_toStringS_L1 (a : (List ByteArray)) : Nat → (List ByteArray) → Int → Option ((List ByteArray) × Int)
  | 0, _, _ => none
  | n + 1, x2, i1 =>
    bif decide (i1 < (a.length : Int)) then
      (idx a i1).bind fun y1 =>
      (idx x2 i1).bind fun _ =>
      laws_toStringS_L1 a n (setS x2 i1 y1) (W64 (i1 + 1))
    else
      some (x2, i1)

def laws_toStringS (n : Nat) (a : (List ByteArray)) : Option (List ByteArray) :=
  (mkS (a.length : Int) (ByteArray.empty : ByteArray)).bind fun x1 =>
  (laws_toStringS_L1 a n x1 0).bind fun o => match o with
  | (x2, _) =>
    some x2

theorem laws_toStringS_ok {n : Nat} {w : World} {a : (List ByteArray)} {cs1 : List Value} (ha1 : GoT.R w (old w) a cs1) {r : (List ByteArray)} (hF : laws_toStringS n a = some r) : RetV Tryz.prog 72 [GoT.v (List ByteArray) cs1] w r := by
  obtain ⟨p1, k1, rfl, s1⟩ := ha1
  refine retV_of_run Tryz.func72 rfl (m := 22) rfl rfl (fun h => ?_)
  rw [laws_toStringS] at hF
  refine r_seq (r_region (rp rfl rfl (r_nil (r_seq (r_region (rp rfl rfl (rp rfl rfl ?_)))))))
  obtain ⟨x1, hx1, hF⟩ := bindS hF
  obtain ⟨g1, g2, hx1⟩ := mkS_some hx1
  refine r_makeE tabOk ByteArray h rfl rfl rfl rfl rfl rfl rfl rfl rfl g1 g2 hx1 rfl ?_
  intro w1 S1 p2 h
  refine rp rfl rfl (r_nil (r_seq (r_seq (r_region (rp rfl rfl (r_nil ?_))))))
  obtain ⟨o1, hF, hK1⟩ := bindS hF
  refine r_block (r_sub [(0, _), (3, _), (4, _)] ⟨rfl, rfl, rfl, trivial⟩ ?_)
  refine r_loop (fun m e w' => ∃ (x2 : (List ByteArray)) (i1 : Int), laws_toStringS_L1 a m x2 i1 = some o1 ∧ e = [(0, .slice p1 a.length k1), (3, .slice p2 x1.length x1.length), (4, .int .i64 i1)] ∧ SH w w' [Ch.own S1 (x2 : List ByteArray) [.slice p2 x1.length x1.length]]) n ⟨_, _, hF, rfl, h⟩ ?_
  rintro m1 e1 w2 ⟨x2, i1, hF, rfl, h⟩
  rcases m1 with _ | m1
  · rw [laws_toStringS_L1] at hF
    cases hF
  rw [laws_toStringS_L1] at hF
  refine r_seq (r_seq (r_region (rp rfl rfl (rp rfl rfl (rp rfl rfl (rp rfl rfl (r_nil ?_)))))))
  refine r_if rfl hF (fun hF => ?_) (fun hF => ?_)
  · refine r_skip (r_seq (r_block (r_region (rp rfl rfl (rp rfl rfl (rp rfl rfl (rp rfl rfl ?_)))))))
    obtain ⟨y1, hy1, hF⟩ := bindS hF
    have he1 := idx_some hy1
    obtain ⟨b1, o_1, q1, cs2, hp1, hq1, -, hr1, hc2⟩ := s1.at hy1
    obtain rfl := hr1
    refine r_v (v_ix tabOk hp1 hq1 ⟨he1.1, he1.2.1⟩ rfl rfl rfl rfl rfl rfl) rfl (r_v (v_ld tabOk (hc2.below h.below) (j := 0) rfl rfl rfl) rfl ?_)
    obtain ⟨y2, hy2, hF⟩ := bindS hF
    have he2 := idx_some hy2
    obtain ⟨b2, o_2, q2, cs3, hp2, hq2, -, hr2, hc3⟩ := (h.sl 0 rfl).1.at hy2
    obtain rfl := hr2
    refine r_v (v_ix tabOk hp2 hq2 ⟨he2.1, lt_ln he2.2.1 (h.sl 0 rfl).2⟩ rfl rfl rfl rfl rfl rfl) rfl (r_stown tabOk 0 0 y1 h rfl hy2 hp2 hq2 rfl hc3 rfl rfl rfl rfl rfl rfl rfl ?_)
    intro w3 h
    exact r_nil (r_blk (r_region (rp rfl rfl (rp rfl rfl (rp rfl rfl (r_nil (r_back m1 [(0, _), (3, _), (4, _)] (Nat.lt_succ_self m1) ⟨rfl, rfl, rfl, trivial⟩ ⟨_, _, hF, rfl, h⟩)))))))
  refine r_exit rfl ?_
  obtain rfl := someI hF; replace hF := hK1
  refine r_seq (r_region (rp rfl rfl (rp rfl rfl (r_nil ?_))))
  obtain rfl := someI hF
  exact r_retV tabOk (ρ := (List ByteArray)) [GoT.v (List ByteArray) [.slice p2 x1.length x1.length]] h ⟨rfl, trivial⟩ (PV.done h (pv_one (po_own 0 h rfl)))

def laws_toPort (_ : Nat) (a : TPort) : Option TPort :=
  some (⟨a.Name, a.Dir, a.Net⟩ : TPort)

theorem laws_toPort_ok {n : Nat} {w : World} {a : TPort} {cs1 : List Value} (ha1 : GoT.R w (old w) a cs1) {r : TPort} (hF : laws_toPort n a = some r) : RetV Tryz.prog 123 [GoT.v TPort cs1] w r := by
  obtain rfl := open_TPort ha1
  refine retV_of_run Tryz.func123 rfl (m := 14) rfl rfl (fun h => ?_)
  rw [laws_toPort] at hF
  refine r_seq (r_region (r_box h rfl rfl ?_))
  intro w1 bb1 h
  refine r_alloc tabOk h rfl rfl rfl ?_
  intro w2 bb2 h
  refine r_nil (r_seq (r_region (r_alloc tabOk h rfl rfl rfl ?_)))
  intro w3 bb3 h
  refine r_nil (r_seq (r_region (rp rfl rfl (r_v (v_ld tabOk (h.box 2 rfl) (j := 0) rfl rfl rfl) rfl (rp rfl rfl (r_stbox tabOk 0 h rfl rfl rfl rfl rfl rfl rfl ?_))))))
  intro w4 h
  refine r_nil (r_seq (r_region (rp rfl rfl (r_v (v_ld tabOk (h.box 2 rfl) (j := 1) rfl rfl rfl) rfl (rp rfl rfl (r_stbox tabOk 0 h rfl rfl rfl rfl rfl rfl rfl ?_))))))
  intro w5 h
  replace h : SH _ _ [Ch.box bb3 [.string a.Name, .int .i64 a.Dir, .int .i64 0] 148, Ch.box bb2 [.string ByteArray.empty, .int .i64 0, .int .i64 0] 148, Ch.box bb1 [.string a.Name, .int .i64 a.Dir, .int .i64 a.Net] 180] := h
  refine r_nil (r_seq (r_region (rp rfl rfl (r_v (v_ld tabOk (h.box 2 rfl) (j := 2) rfl rfl rfl) rfl (rp rfl rfl (r_stbox tabOk 0 h rfl rfl rfl rfl rfl rfl rfl ?_))))))
  intro w6 h
  refine r_nil (r_seq (r_region (r_v (v_ld tabOk (h.box 0 rfl) (j := 0) rfl rfl rfl) rfl (r_stbox tabOk 1 h rfl rfl rfl rfl rfl rfl rfl ?_))))
  intro w7 h
  replace h : SH _ _ [Ch.box bb3 [.string a.Name, .int .i64 a.Dir, .int .i64 a.Net] 148, Ch.box bb2 [.string a.Name, .int .i64 a.Dir, .int .i64 a.Net] 148, Ch.box bb1 [.string a.Name, .int .i64 a.Dir, .int .i64 a.Net] 180] := h
  refine r_nil ?_
  obtain rfl := someI hF
  exact r_retV tabOk (ρ := TPort) [GoT.v TPort [.string a.Name, .int .i64 a.Dir, .int .i64 a.Net]] h ⟨⟨_, _, _, rfl, rfl, h.box 1 rfl, rfl⟩, trivial⟩ (PV.done h (pv_one (po_flat (S := fun _ => False) (mkR_TPort (⟨a.Name, a.Dir, a.Net⟩ : TPort)))))

def laws_toPortS_L1 (a : (List TPort)) : Nat → (List TPort) → Int → Option ((List TPort) × Int)
  | 0, _, _ => none
  | n + 1, x2, i1 =>
    bif decide (i1 < (a.length : Int)) then
      (idx a i1).bind fun y1 =>
      (laws_toPort n y1).bind fun r1 =>
      (idx x2 i1).bind fun _ =>
      laws_toPortS_L1 a n (setS x2 i1 r1) (W64 (i1 + 1))
    else
      some (x2, i1)

def laws_toPortS (n : Nat) (a : (List TPort)) : Option (List TPort) :=
  (mkS (a.length : Int) ((⟨ByteArray.empty, 0, 0⟩ : TPort) : TPort)).bind fun x1 =>
  (laws_toPortS_L1 a n x1 0).bind fun o => match o with
  | (x2, _) =>
    some x2

theorem laws_toPortS_ok {n : Nat} {w : World} {a : (List TPort)} {cs1 : List Value} (ha1 : GoT.R w (old w) a cs1) {r : (List TPort)} (hF : laws_toPortS n a = some r) : RetV Tryz.prog 73 [GoT.v (List TPort) cs1] w r := by
  obtain ⟨p1, k1, rfl, s1⟩ := ha1
  refine retV_of_run Tryz.func73 rfl (m := 23) rfl rfl (fun h => ?_)
  rw [laws_toPortS] at hF
  refine r_seq (r_region (rp rfl rfl (r_nil (r_seq (r_region (rp rfl rfl (rp rfl rfl ?_)))))))
  obtain ⟨x1, hx1, hF⟩ := bindS hF
  obtain ⟨g1, g2, hx1⟩ := mkS_some hx1
  refine r_makeE tabOk TPort h rfl rfl rfl rfl rfl rfl rfl rfl rfl g1 g2 hx1 rfl ?_
  intro w1 S1 p2 h
  refine rp rfl rfl (r_nil (r_seq (r_seq (r_region (rp rfl rfl (r_nil ?_))))))
  obtain ⟨o1, hF, hK1⟩ := bindS hF
  refine r_block (r_sub [(0, _), (3, _), (4, _)] ⟨rfl, rfl, rfl, trivial⟩ ?_)
  refine r_loop (fun m e w' => ∃ (x2 : (List TPort)) (i1 : Int), laws_toPortS_L1 a m x2 i1 = some o1 ∧ e = [(0, .slice p1 a.length k1), (3, .slice p2 x1.length x1.length), (4, .int .i64 i1)] ∧ SH w w' [Ch.own S1 (x2 : List TPort) [.slice p2 x1.length x1.length]]) n ⟨_, _, hF, rfl, h⟩ ?_
  rintro m1 e1 w2 ⟨x2, i1, hF, rfl, h⟩
  rcases m1 with _ | m1
  · rw [laws_toPortS_L1] at hF
    cases hF
  rw [laws_toPortS_L1] at hF
  refine r_seq (r_seq (r_region (rp rfl rfl (rp rfl rfl (rp rfl rfl (rp rfl rfl (r_nil ?_)))))))
  refine r_if rfl hF (fun hF => ?_) (fun hF => ?_)
  · refine r_skip (r_seq (r_block (r_region (rp rfl rfl (rp rfl rfl (rp rfl rfl (rp rfl rfl ?_)))))))
    obtain ⟨y1, hy1, hF⟩ := bindS hF
    have he1 := idx_some hy1
    obtain ⟨b1, o_1, q1, cs2, hp1, hq1, -, hr1, hc2⟩ := s1.at hy1
    obtain rfl := open_TPort hr1
    refine r_v (v_ix tabOk hp1 hq1 ⟨he1.1, he1.2.1⟩ rfl rfl rfl rfl rfl rfl) rfl (r_v (v_ld tabOk (hc2.below h.below) (j := 0) rfl rfl rfl) rfl ?_)
    obtain ⟨r1, hr2, hF⟩ := bindS hF
    refine r_callO r1 h call123 (laws_toPort_ok (mkR_TPort y1) hr2) rfl rfl rfl rfl ?_
    intro w3 S2 cs3 h
    obtain rfl := open_TPort (h.own 0 rfl)
    obtain ⟨y2, hy2, hF⟩ := bindS hF
    have he2 := idx_some hy2
    obtain ⟨b2, o_2, q2, cs4, hp2, hq2, -, hr3, hc3⟩ := (h.sl 1 rfl).1.at hy2
    obtain rfl := open_TPort hr3
    refine r_v (v_ix tabOk hp2 hq2 ⟨he2.1, lt_ln he2.2.1 (h.sl 1 rfl).2⟩ rfl rfl rfl rfl rfl rfl) rfl (r_stown tabOk 1 0 r1 h rfl hy2 hp2 hq2 (mkR_TPort y2) hc3 rfl rfl rfl (mkR_TPort r1) rfl rfl rfl ?_)
    intro w4 h
    refine r_nil (r_blk (r_region (rp rfl rfl (rp rfl rfl (rp rfl rfl (r_nil ?_))))))
    replace h := h.pick [1] rfl
    exact r_back m1 [(0, _), (3, _), (4, _)] (Nat.lt_succ_self m1) ⟨rfl, rfl, rfl, trivial⟩ ⟨_, _, hF, rfl, h⟩
  refine r_exit rfl ?_
  obtain rfl := someI hF; replace hF := hK1
  refine r_seq (r_region (rp rfl rfl (rp rfl rfl (r_nil ?_))))
  obtain rfl := someI hF
  exact r_retV tabOk (ρ := (List TPort)) [GoT.v (List TPort) [.slice p2 x1.length x1.length]] h ⟨rfl, trivial⟩ (PV.done h (pv_one (po_own 0 h rfl)))

def laws_toDesign (n : Nat) (a : TDesign) : Option TDesign :=
  (laws_toInstanceS n a.Instances).bind fun r1 =>
  (laws_toStringS n a.Nets).bind fun r2 =>
  (laws_toPortS n a.Ports).bind fun r3 =>
  some (⟨r1, r2, r3⟩ : TDesign)

theorem laws_toDesign_ok {n : Nat} {w : World} {a : TDesign} {cs1 : List Value} (ha1 : GoT.R w (old w) a cs1) {r : TDesign} (hF : laws_toDesign n a = some r) : RetV Tryz.prog 37 [GoT.v TDesign cs1] w r := by
  obtain ⟨p1, k1, p2, k2, p3, k3, rfl, s1, s2, s3⟩ := open_TDesign ha1
  refine retV_of_run Tryz.func37 rfl (m := 17) rfl rfl (fun h => ?_)
  rw [laws_toDesign] at hF
  refine r_seq (r_region (r_box h rfl rfl ?_))
  intro w1 bb1 h
  refine r_alloc tabOk h rfl rfl rfl ?_
  intro w2 bb2 h
  refine r_nil (r_seq (r_region (r_alloc tabOk h rfl rfl rfl ?_)))
  intro w3 bb3 h
  refine r_nil (r_seq (r_region (rp rfl rfl (r_v (v_ld tabOk (h.box 2 rfl) (j := 0) rfl rfl rfl) rfl ?_))))
  obtain ⟨r1, hr1, hF⟩ := bindS hF
  refine r_callL r1 h call71 (laws_toInstanceS_ok ⟨_, _, rfl, (h.oldS s1)⟩ hr1) rfl rfl rfl rfl ?_
  intro w4 S1 p4 k4 h
  refine rp rfl rfl (r_stbox tabOk 1 h rfl rfl rfl rfl rfl rfl rfl ?_)
  intro w5 h
  refine r_nil (r_seq (r_region (rp rfl rfl (r_v (v_ld tabOk (h.box 3 rfl) (j := 1) rfl rfl rfl) rfl ?_))))
  obtain ⟨r2, hr2, hF⟩ := bindS hF
  refine r_callL r2 h call72 (laws_toStringS_ok ⟨_, _, rfl, (h.oldS s2)⟩ hr2) rfl rfl rfl rfl ?_
  intro w6 S2 p5 k5 h
  refine rp rfl rfl (r_stbox tabOk 2 h rfl rfl rfl rfl rfl rfl rfl ?_)
  intro w7 h
  replace h : SH _ _ [Ch.own S2 (r2 : List ByteArray) [.slice p5 r2.length k5], Ch.own S1 (r1 : List TInstance) [.slice p4 r1.length k4], Ch.box bb3 [.slice p4 r1.length k4, .slice p5 r2.length k5, .slice none 0 0] 45, Ch.box bb2 [.slice none 0 0, .slice none 0 0, .slice none 0 0] 45, Ch.box bb1 [.slice p1 a.Instances.length k1, .slice p2 a.Nets.length k2, .slice p3 a.Ports.length k3] 29] := h
  refine r_nil (r_seq (r_region (rp rfl rfl (r_v (v_ld tabOk (h.box 4 rfl) (j := 2) rfl rfl rfl) rfl ?_))))
  obtain ⟨r3, hr3, hF⟩ := bindS hF
  refine r_callL r3 h call73 (laws_toPortS_ok ⟨_, _, rfl, (h.oldS s3)⟩ hr3) rfl rfl rfl rfl ?_
  intro w8 S3 p6 k6 h
  refine rp rfl rfl (r_stbox tabOk 3 h rfl rfl rfl rfl rfl rfl rfl ?_)
  intro w9 h
  refine r_nil (r_seq (r_region (r_v (v_ld tabOk (h.box 3 rfl) (j := 0) rfl rfl rfl) rfl (r_stbox tabOk 4 h rfl rfl rfl rfl rfl rfl rfl ?_))))
  intro w10 h
  replace h : SH _ _ [Ch.own S3 (r3 : List TPort) [.slice p6 r3.length k6], Ch.own S2 (r2 : List ByteArray) [.slice p5 r2.length k5], Ch.own S1 (r1 : List TInstance) [.slice p4 r1.length k4], Ch.box bb3 [.slice p4 r1.length k4, .slice p5 r2.length k5, .slice p6 r3.length k6] 45, Ch.box bb2 [.slice p4 r1.length k4, .slice p5 r2.length k5, .slice p6 r3.length k6] 45, Ch.box bb1 [.slice p1 a.Instances.length k1, .slice p2 a.Nets.length k2, .slice p3 a.Ports.length k3] 29] := h
  refine r_nil ?_
  obtain rfl := someI hF
  exact r_retV tabOk (ρ := TDesign) [GoT.v TDesign [.slice p4 r1.length k4, .slice p5 r2.length k5, .slice p6 r3.length k6]] h ⟨⟨_, _, _, rfl, rfl, h.box 4 rfl, rfl⟩, trivial⟩ (PV.done h (pv_one (po_TDesign (⟨r1, r2, r3⟩ : TDesign) h (po_own 2 h rfl) (po_own 1 h rfl) (po_own 0 h rfl) (by rfl) (by rfl))))

def laws_toWire (n : Nat) (a : TWire) : Option TWire :=
  (laws_toInt64S n a.Parent).bind fun r1 =>
  (laws_toInt64S n a.Res).bind fun r2 =>
  (laws_toInt64S n a.Cap).bind fun r3 =>
  (laws_toInt64S n a.Sink).bind fun r4 =>
  some (⟨r1, r2, r3, r4⟩ : TWire)

theorem laws_toWire_ok {n : Nat} {w : World} {a : TWire} {cs1 : List Value} (ha1 : GoT.R w (old w) a cs1) {r : TWire} (hF : laws_toWire n a = some r) : RetV Tryz.prog 74 [GoT.v TWire cs1] w r := by
  obtain ⟨p1, k1, p2, k2, p3, k3, p4, k4, rfl, s1, s2, s3, s4⟩ := open_TWire ha1
  refine retV_of_run Tryz.func74 rfl (m := 21) rfl rfl (fun h => ?_)
  rw [laws_toWire] at hF
  refine r_seq (r_region (r_box h rfl rfl ?_))
  intro w1 bb1 h
  refine r_alloc tabOk h rfl rfl rfl ?_
  intro w2 bb2 h
  refine r_nil (r_seq (r_region (r_alloc tabOk h rfl rfl rfl ?_)))
  intro w3 bb3 h
  refine r_nil (r_seq (r_region (rp rfl rfl (r_v (v_ld tabOk (h.box 2 rfl) (j := 0) rfl rfl rfl) rfl ?_))))
  obtain ⟨r1, hr1, hF⟩ := bindS hF
  refine r_callL r1 h call27 (laws_toInt64S_ok ⟨_, _, rfl, (h.oldS s1)⟩ hr1) rfl rfl rfl rfl ?_
  intro w4 S1 p5 k5 h
  refine rp rfl rfl (r_stbox tabOk 1 h rfl rfl rfl rfl rfl rfl rfl ?_)
  intro w5 h
  refine r_nil (r_seq (r_region (rp rfl rfl (r_v (v_ld tabOk (h.box 3 rfl) (j := 1) rfl rfl rfl) rfl ?_))))
  obtain ⟨r2, hr2, hF⟩ := bindS hF
  refine r_callL r2 h call27 (laws_toInt64S_ok ⟨_, _, rfl, (h.oldS s2)⟩ hr2) rfl rfl rfl rfl ?_
  intro w6 S2 p6 k6 h
  refine rp rfl rfl (r_stbox tabOk 2 h rfl rfl rfl rfl rfl rfl rfl ?_)
  intro w7 h
  replace h : SH _ _ [Ch.own S2 (r2 : List Int) [.slice p6 r2.length k6], Ch.own S1 (r1 : List Int) [.slice p5 r1.length k5], Ch.box bb3 [.slice p5 r1.length k5, .slice p6 r2.length k6, .slice none 0 0, .slice none 0 0] 117, Ch.box bb2 [.slice none 0 0, .slice none 0 0, .slice none 0 0, .slice none 0 0] 117, Ch.box bb1 [.slice p1 a.Parent.length k1, .slice p2 a.Res.length k2, .slice p3 a.Cap.length k3, .slice p4 a.Sink.length k4] 114] := h
  refine r_nil (r_seq (r_region (rp rfl rfl (r_v (v_ld tabOk (h.box 4 rfl) (j := 2) rfl rfl rfl) rfl ?_))))
  obtain ⟨r3, hr3, hF⟩ := bindS hF
  refine r_callL r3 h call27 (laws_toInt64S_ok ⟨_, _, rfl, (h.oldS s3)⟩ hr3) rfl rfl rfl rfl ?_
  intro w8 S3 p7 k7 h
  refine rp rfl rfl (r_stbox tabOk 3 h rfl rfl rfl rfl rfl rfl rfl ?_)
  intro w9 h
  refine r_nil (r_seq (r_region (rp rfl rfl (r_v (v_ld tabOk (h.box 5 rfl) (j := 3) rfl rfl rfl) rfl ?_))))
  obtain ⟨r4, hr4, hF⟩ := bindS hF
  refine r_callL r4 h call27 (laws_toInt64S_ok ⟨_, _, rfl, (h.oldS s4)⟩ hr4) rfl rfl rfl rfl ?_
  intro w10 S4 p8 k8 h
  refine rp rfl rfl (r_stbox tabOk 4 h rfl rfl rfl rfl rfl rfl rfl ?_)
  intro w11 h
  replace h : SH _ _ [Ch.own S4 (r4 : List Int) [.slice p8 r4.length k8], Ch.own S3 (r3 : List Int) [.slice p7 r3.length k7], Ch.own S2 (r2 : List Int) [.slice p6 r2.length k6], Ch.own S1 (r1 : List Int) [.slice p5 r1.length k5], Ch.box bb3 [.slice p5 r1.length k5, .slice p6 r2.length k6, .slice p7 r3.length k7, .slice p8 r4.length k8] 117, Ch.box bb2 [.slice none 0 0, .slice none 0 0, .slice none 0 0, .slice none 0 0] 117, Ch.box bb1 [.slice p1 a.Parent.length k1, .slice p2 a.Res.length k2, .slice p3 a.Cap.length k3, .slice p4 a.Sink.length k4] 114] := h
  refine r_nil (r_seq (r_region (r_v (v_ld tabOk (h.box 4 rfl) (j := 0) rfl rfl rfl) rfl (r_stbox tabOk 5 h rfl rfl rfl rfl rfl rfl rfl ?_))))
  intro w12 h
  refine r_nil ?_
  obtain rfl := someI hF
  exact r_retV tabOk (ρ := TWire) [GoT.v TWire [.slice p5 r1.length k5, .slice p6 r2.length k6, .slice p7 r3.length k7, .slice p8 r4.length k8]] h ⟨⟨_, _, _, rfl, rfl, h.box 5 rfl, rfl⟩, trivial⟩ (PV.done h (pv_one (po_TWire (⟨r1, r2, r3, r4⟩ : TWire) h (po_own 3 h rfl) (po_own 2 h rfl) (po_own 1 h rfl) (po_own 0 h rfl) (by rfl) (by rfl) (by rfl))))

def laws_toWireS_L1 (a : (List TWire)) : Nat → (List TWire) → Int → Option ((List TWire) × Int)
  | 0, _, _ => none
  | n + 1, x2, i1 =>
    bif decide (i1 < (a.length : Int)) then
      (idx a i1).bind fun y1 =>
      (laws_toWire n y1).bind fun r1 =>
      (idx x2 i1).bind fun _ =>
      laws_toWireS_L1 a n (setS x2 i1 r1) (W64 (i1 + 1))
    else
      some (x2, i1)

def laws_toWireS (n : Nat) (a : (List TWire)) : Option (List TWire) :=
  (mkS (a.length : Int) ((⟨[], [], [], []⟩ : TWire) : TWire)).bind fun x1 =>
  (laws_toWireS_L1 a n x1 0).bind fun o => match o with
  | (x2, _) =>
    some x2

theorem laws_toWireS_ok {n : Nat} {w : World} {a : (List TWire)} {cs1 : List Value} (ha1 : GoT.R w (old w) a cs1) {r : (List TWire)} (hF : laws_toWireS n a = some r) : RetV Tryz.prog 38 [GoT.v (List TWire) cs1] w r := by
  obtain ⟨p1, k1, rfl, s1⟩ := ha1
  refine retV_of_run Tryz.func38 rfl (m := 23) rfl rfl (fun h => ?_)
  rw [laws_toWireS] at hF
  refine r_seq (r_region (rp rfl rfl (r_nil (r_seq (r_region (rp rfl rfl (rp rfl rfl ?_)))))))
  obtain ⟨x1, hx1, hF⟩ := bindS hF
  obtain ⟨g1, g2, hx1⟩ := mkS_some hx1
  refine r_makeE tabOk TWire h rfl rfl rfl rfl rfl rfl rfl rfl rfl g1 g2 hx1 rfl ?_
  intro w1 S1 p2 h
  refine rp rfl rfl (r_nil (r_seq (r_seq (r_region (rp rfl rfl (r_nil ?_))))))
  obtain ⟨o1, hF, hK1⟩ := bindS hF
  refine r_block (r_sub [(0, _), (3, _), (4, _)] ⟨rfl, rfl, rfl, trivial⟩ ?_)
  refine r_loop (fun m e w' => ∃ (S2 : Nat → Prop) (x2 : (List TWire)) (i1 : Int), laws_toWireS_L1 a m x2 i1 = some o1 ∧ e = [(0, .slice p1 a.length k1), (3, .slice p2 x1.length x1.length), (4, .int .i64 i1)] ∧ SH w w' [Ch.own S2 (x2 : List TWire) [.slice p2 x1.length x1.length]]) n ⟨_, _, _, hF, rfl, h⟩ ?_
  rintro m1 e1 w2 ⟨S2, x2, i1, hF, rfl, h⟩
  rcases m1 with _ | m1
  · rw [laws_toWireS_L1] at hF
    cases hF
  rw [laws_toWireS_L1] at hF
  refine r_seq (r_seq (r_region (rp rfl rfl (rp rfl rfl (rp rfl rfl (rp rfl rfl (r_nil ?_)))))))
  refine r_if rfl hF (fun hF => ?_) (fun hF => ?_)
  · refine r_skip (r_seq (r_block (r_region (rp rfl rfl (rp rfl rfl (rp rfl rfl (rp rfl rfl ?_)))))))
    obtain ⟨y1, hy1, hF⟩ := bindS hF
    have he1 := idx_some hy1
    obtain ⟨b1, o_1, q1, cs2, hp1, hq1, -, hr1, hc2⟩ := s1.at hy1
    obtain ⟨p3, k2, p4, k3, p5, k4, p6, k5, rfl, s2, s3, s4, s5⟩ := open_TWire hr1
    refine r_v (v_ix tabOk hp1 hq1 ⟨he1.1, he1.2.1⟩ rfl rfl rfl rfl rfl rfl) rfl (r_v (v_ld tabOk (hc2.below h.below) (j := 0) rfl rfl rfl) rfl ?_)
    obtain ⟨r1, hr2, hF⟩ := bindS hF
    refine r_callO r1 h call74 (laws_toWire_ok (mkR_TWire y1 (h.oldS s2) (h.oldS s3) (h.oldS s4) (h.oldS s5)) hr2) rfl rfl rfl rfl ?_
    intro w3 S3 cs3 h
    obtain ⟨p7, k6, p8, k7, p9, k8, p10, k9, rfl, -, -, -, -⟩ := open_TWire (h.own 0 rfl)
    obtain ⟨y2, hy2, hF⟩ := bindS hF
    have he2 := idx_some hy2
    replace h := h.lrn0 1 rfl
    obtain ⟨b2, o_2, q2, cs4, hp2, hq2, -, hr3, hc3⟩ := (sl_of (h.lrnO 1 rfl)).1.at hy2
    have hr4 := hr3
    obtain ⟨p11, k10, p12, k11, p13, k12, p14, k13, rfl, s10, s11, s12, s13⟩ := open_TWire hr3
    replace h := h.lrnAdd 1 rfl hr4
    refine r_v (v_ix tabOk hp2 hq2 ⟨he2.1, lt_ln he2.2.1 (sl_of (h.lrnO 1 rfl)).2⟩ rfl rfl rfl rfl rfl rfl) rfl ?_
    replace h := h.unlrn 1 rfl
    refine r_stownN tabOk r1 h hy2 hp2 hq2 rfl rfl rfl rfl rfl ?_
    intro w4 S4 h
    exact r_nil (r_blk (r_region (rp rfl rfl (rp rfl rfl (rp rfl rfl (r_nil (r_back m1 [(0, _), (3, _), (4, _)] (Nat.lt_succ_self m1) ⟨rfl, rfl, rfl, trivial⟩ ⟨_, _, _, hF, rfl, h⟩)))))))
  refine r_exit rfl ?_
  obtain rfl := someI hF; replace hF := hK1
  refine r_seq (r_region (rp rfl rfl (rp rfl rfl (r_nil ?_))))
  obtain rfl := someI hF
  exact r_retV tabOk (ρ := (List TWire)) [GoT.v (List TWire) [.slice p2 x1.length x1.length]] h ⟨rfl, trivial⟩ (PV.done h (pv_one (po_own 0 h rfl)))

def laws_toBlock (n : Nat) (a : TBlock) : Option TBlock :=
  (laws_toLibrary n (⟨a.Library.Cells⟩ : TLibrary)).bind fun r1 =>
  (laws_toDesign n (⟨a.Design.Instances, a.Design.Nets, a.Design.Ports⟩ : TDesign)).bind fun r2 =>
  (laws_toWireS n a.Wires).bind fun r3 =>
  some (⟨r1, r2, r3⟩ : TBlock)

theorem laws_toBlock_ok {n : Nat} {w : World} {a : TBlock} {cs1 : List Value} (ha1 : GoT.R w (old w) a cs1) {r : TBlock} (hF : laws_toBlock n a = some r) : RetV Tryz.prog 11 [GoT.v TBlock cs1] w r := by
  obtain ⟨p1, k1, p2, k2, p3, k3, p4, k4, p5, k5, rfl, s1, s2, s3, s4, s5⟩ := open_TBlock ha1
  refine retV_of_run Tryz.func11 rfl (m := 17) rfl rfl (fun h => ?_)
  rw [laws_toBlock] at hF
  refine r_seq (r_region (r_box h rfl rfl ?_))
  intro w1 bb1 h
  refine r_alloc tabOk h rfl rfl rfl ?_
  intro w2 bb2 h
  refine r_nil (r_seq (r_region (r_alloc tabOk h rfl rfl rfl ?_)))
  intro w3 bb3 h
  refine r_nil (r_seq (r_region (rp rfl rfl (r_v (v_ld tabOk (h.box 2 rfl) (j := 0) rfl rfl rfl) rfl ?_))))
  obtain ⟨r1, hr1, hF⟩ := bindS hF
  refine r_callO r1 h call36 (laws_toLibrary_ok (mkR_TLibrary (⟨a.Library.Cells⟩ : TLibrary) (h.oldS s1)) hr1) rfl rfl rfl rfl ?_
  intro w4 S1 cs2 h
  obtain ⟨p6, k6, rfl, -⟩ := open_TLibrary (h.own 0 rfl)
  refine rp rfl rfl (r_stbox tabOk 1 h rfl rfl rfl rfl rfl rfl rfl ?_)
  intro w5 h
  refine r_nil (r_seq (r_region (rp rfl rfl (r_v (v_ld tabOk (h.box 3 rfl) (j := 1) rfl rfl rfl) rfl ?_))))
  obtain ⟨r2, hr2, hF⟩ := bindS hF
  refine r_callO r2 h call37 (laws_toDesign_ok (mkR_TDesign (⟨a.Design.Instances, a.Design.Nets, a.Design.Ports⟩ : TDesign) (h.oldS s2) (h.oldS s3) (h.oldS s4)) hr2) rfl rfl rfl rfl ?_
  intro w6 S2 cs3 h
  obtain ⟨p7, k7, p8, k8, p9, k9, rfl, -, -, -⟩ := open_TDesign (h.own 0 rfl)
  refine rp rfl rfl (r_stbox tabOk 2 h rfl rfl rfl rfl rfl rfl rfl ?_)
  intro w7 h
  replace h : SH _ _ [Ch.own S2 (r2 : TDesign) [.slice p7 r2.Instances.length k7, .slice p8 r2.Nets.length k8, .slice p9 r2.Ports.length k9], Ch.own S1 (r1 : TLibrary) [.slice p6 r1.Cells.length k6], Ch.box bb3 [.slice p6 r1.Cells.length k6, .slice p7 r2.Instances.length k7, .slice p8 r2.Nets.length k8, .slice p9 r2.Ports.length k9, .slice none 0 0] 48, Ch.box bb2 [.slice none 0 0, .slice none 0 0, .slice none 0 0, .slice none 0 0, .slice none 0 0] 48, Ch.box bb1 [.slice p1 a.Library.Cells.length k1, .slice p2 a.Design.Instances.length k2, .slice p3 a.Design.Nets.length k3, .slice p4 a.Design.Ports.length k4, .slice p5 a.Wires.length k5] 32] := h
  refine r_nil (r_seq (r_region (rp rfl rfl (r_v (v_ld tabOk (h.box 4 rfl) (j := 4) rfl rfl rfl) rfl ?_))))
  obtain ⟨r3, hr3, hF⟩ := bindS hF
  refine r_callL r3 h call38 (laws_toWireS_ok ⟨_, _, rfl, (h.oldS s5)⟩ hr3) rfl rfl rfl rfl ?_
  intro w8 S3 p10 k10 h
  refine rp rfl rfl (r_stbox tabOk 3 h rfl rfl rfl rfl rfl rfl rfl ?_)
  intro w9 h
  refine r_nil (r_seq (r_region (r_v (v_ld tabOk (h.box 3 rfl) (j := 0) rfl rfl rfl) rfl (r_stbox tabOk 4 h rfl rfl rfl rfl rfl rfl rfl ?_))))
  intro w10 h
  replace h : SH _ _ [Ch.own S3 (r3 : List TWire) [.slice p10 r3.length k10], Ch.own S2 (r2 : TDesign) [.slice p7 r2.Instances.length k7, .slice p8 r2.Nets.length k8, .slice p9 r2.Ports.length k9], Ch.own S1 (r1 : TLibrary) [.slice p6 r1.Cells.length k6], Ch.box bb3 [.slice p6 r1.Cells.length k6, .slice p7 r2.Instances.length k7, .slice p8 r2.Nets.length k8, .slice p9 r2.Ports.length k9, .slice p10 r3.length k10] 48, Ch.box bb2 [.slice p6 r1.Cells.length k6, .slice p7 r2.Instances.length k7, .slice p8 r2.Nets.length k8, .slice p9 r2.Ports.length k9, .slice p10 r3.length k10] 48, Ch.box bb1 [.slice p1 a.Library.Cells.length k1, .slice p2 a.Design.Instances.length k2, .slice p3 a.Design.Nets.length k3, .slice p4 a.Design.Ports.length k4, .slice p5 a.Wires.length k5] 32] := h
  refine r_nil ?_
  obtain rfl := someI hF
  exact r_retV tabOk (ρ := TBlock) [GoT.v TBlock [.slice p6 r1.Cells.length k6, .slice p7 r2.Instances.length k7, .slice p8 r2.Nets.length k8, .slice p9 r2.Ports.length k9, .slice p10 r3.length k10]] h ⟨⟨_, _, _, rfl, rfl, h.box 4 rfl, rfl⟩, trivial⟩ (PV.done h (pv_one (po_TBlock (⟨r1, r2, r3⟩ : TBlock) h (po_own 2 h rfl) (po_own 1 h rfl) (po_own 0 h rfl) (by rfl) (by rfl))))

def laws_eqInt64S_L1 (a : (List Int)) (b : (List Int)) : Nat → Int → Option (Flow Bool Int)
  | 0, _ => none
  | n + 1, i1 =>
    bif decide (i1 < (a.length : Int)) then
      (idx a i1).bind fun y1 =>
      (idx b i1).bind fun y2 =>
      bif (y1 != y2) then
        some (.ret false)
      else
        laws_eqInt64S_L1 a b n (W64 (i1 + 1))
    else
      some (.nxt i1)

def laws_eqInt64S (n : Nat) (a : (List Int)) (b : (List Int)) : Option Bool :=
  bif ((a.length : Int) != (b.length : Int)) then
    some false
  else
    (laws_eqInt64S_L1 a b n 0).bind fun o => match o with
    | .ret r => some r
    | .nxt _ =>
      some true

theorem laws_eqInt64S_ok {n : Nat} {w : World} {a : (List Int)} {b : (List Int)} {cs1 : List Value} (ha1 : GoT.R w (old w) a cs1) {cs2 : List Value} (ha2 : GoT.R w (old w) b cs2) {r : Bool} (hF : laws_eqInt64S n a b = some r) : RetV Tryz.prog 22 [GoT.v (List Int) cs1, GoT.v (List Int) cs2] w r := by
  obtain ⟨p1, k1, rfl, s1⟩ := ha1
  obtain ⟨p2, k2, rfl, s2⟩ := ha2
  refine retV_of_run Tryz.func22 rfl (m := 26) rfl rfl (fun h => ?_)
  rw [laws_eqInt64S] at hF
  refine r_seq (r_region (rp rfl rfl (r_nil (r_seq (r_seq (r_region (rp rfl rfl (rp rfl rfl (rp rfl rfl (rp rfl rfl (rp rfl rfl ?_)))))))))))
  refine r_nil ?_
  refine r_if rfl hF (fun hF => ?_) (fun hF => ?_)
  · exact r_seq (r_region (rp rfl rfl (r_nil (r_rB tabOk h hF ⟨rfl, trivial⟩))))
  refine r_skip (r_seq (r_seq (r_region (rp rfl rfl (r_nil ?_)))))
  obtain ⟨o1, hF, hK1⟩ := bindS hF
  refine r_block (r_sub [(0, _), (1, _), (5, _)] ⟨rfl, rfl, rfl, trivial⟩ ?_)
  refine r_loop (fun m e w' => ∃ (i1 : Int), laws_eqInt64S_L1 a b m i1 = some o1 ∧ e = [(0, .slice p1 a.length k1), (1, .slice p2 b.length k2), (5, .int .i64 i1)] ∧ SH w w' []) n ⟨_, hF, rfl, h⟩ ?_
  rintro m1 e1 w1 ⟨i1, hF, rfl, h⟩
  rcases m1 with _ | m1
  · rw [laws_eqInt64S_L1] at hF
    cases hF
  rw [laws_eqInt64S_L1] at hF
  refine r_seq (r_seq (r_region (rp rfl rfl (rp rfl rfl (rp rfl rfl (rp rfl rfl (r_nil ?_)))))))
  refine r_if rfl hF (fun hF => ?_) (fun hF => ?_)
  · refine r_skip (r_seq (r_block (r_seq ?_)))
    refine r_draw rfl (by kernel_rfl) ?_
    refine dp rfl rfl (dp rfl rfl ?_)
    obtain ⟨y1, hy1, hF⟩ := bindS hF
    have he1 := idx_some hy1
    obtain ⟨b1, o_1, q1, cs3, hp1, hq1, -, hr1, hc3⟩ := s1.at hy1
    obtain rfl := hr1
    refine d_v (fun _ hb => v_ix tabOk hp1 hq1 ⟨he1.1, he1.2.1⟩ rfl rfl rfl rfl rfl rfl) rfl ?_
    refine d_v (fun _ hb => v_ld tabOk ((hc3.below h.below).below hb) (j := 0) rfl rfl rfl) rfl ?_
    refine dp rfl rfl (dp rfl rfl ?_)
    obtain ⟨y2, hy2, hF⟩ := bindS hF
    have he2 := idx_some hy2
    obtain ⟨b2, o_2, q2, cs4, hp2, hq2, -, hr2, hc4⟩ := s2.at hy2
    obtain rfl := hr2
    refine d_v (fun _ hb => v_ix tabOk hp2 hq2 ⟨he2.1, he2.2.1⟩ rfl rfl rfl rfl rfl rfl) rfl ?_
    refine d_v (fun _ hb => v_ld tabOk ((hc4.below h.below).below hb) (j := 0) rfl rfl rfl) rfl ?_
    refine dp rfl rfl ?_
    refine d_nil (fun w2 hb => ?_)
    replace h := h.ext hb
    clear hb
    refine r_if rfl hF (fun hF => ?_) (fun hF => ?_)
    · refine r_seq (r_region (rp rfl rfl (r_nil ?_)))
      obtain rfl := someI hF; replace hF := hK1
      exact r_rB tabOk h hF ⟨rfl, trivial⟩
    exact r_skip (r_blk (r_region (rp rfl rfl (rp rfl rfl (rp rfl rfl (r_nil (r_back m1 [(0, _), (1, _), (5, _)] (Nat.lt_succ_self m1) ⟨rfl, rfl, rfl, trivial⟩ ⟨_, hF, rfl, h⟩)))))))
  refine r_exit rfl ?_
  obtain rfl := someI hF; replace hF := hK1
  exact r_seq (r_region (rp rfl rfl (r_nil (r_rB tabOk h hF ⟨rfl, trivial⟩))))

end Go.Fw
