/- By a program of mine (gen.py): for each function a plain function and the proof that the code computes it. -/
import Derived.Test.YtihkipojhdehnaaGreatDoorFw34
import Derived.Test.YtihkipojhdehnaaGreatDoorChecked
import Derived.Test.YtihkipojhdehnaaGreatDoorS1

namespace Go.Fw
open Go Go.Proofs
open Go.RowKit (Below)
set_option maxRecDepth 100000
set_option maxHeartbeats 1600000
structure qaf where
 Name : ByteArray
 Dir : Int
 Cap : Int
 Clock : Bool
instance gt_TPin : GoT qaf := isoT (pairT instStr (pairT instInt (pairT instInt instBool))) (fun x => (x.Name, x.Dir, x.Cap, x.Clock)) ⟨ByteArray.empty, 0, 0, false⟩ rfl true (fun h => by cases h)
instance fl_TPin : Flat qaf := qhL (pairT instStr (pairT instInt (pairT instInt instBool))) (fun x : qaf => (x.Name, x.Dir, x.Cap, x.Clock)) ⟨ByteArray.empty, 0, 0, false⟩ rfl true (fun h => by cases h) (qb4 _ _ (inferInstanceAs (Flat ByteArray)) (qb4 _ _ (inferInstanceAs (Flat Int)) (qb4 _ _ (inferInstanceAs (Flat Int)) (inferInstanceAs (Flat Bool)))))
theorem qa7 {w : World} {S : Nat → Prop} {x : qaf} {cs : List Value} (h : GoT.R w S x cs) : cs = [.string x.Name, .int .i64 x.Dir, .int .i64 x.Cap, .bool x.Clock] := by
 obtain ⟨_, _, rfl, rfl, ⟨_, _, rfl, rfl, ⟨_, _, rfl, rfl, rfl⟩⟩⟩ := h
 exact rfl
theorem qdQ {w : World} {S : Nat → Prop} (x : qaf) : GoT.R w S x [.string x.Name, .int .i64 x.Dir, .int .i64 x.Cap, .bool x.Clock] := ⟨[.string x.Name], [.int .i64 x.Dir, .int .i64 x.Cap, .bool x.Clock], rfl, rfl, ⟨[.int .i64 x.Dir], [.int .i64 x.Cap, .bool x.Clock], rfl, rfl, ⟨[.int .i64 x.Cap], [.bool x.Clock], rfl, rfl, rfl⟩⟩⟩
structure qC where
 Slews : (List Int)
 Loads : (List Int)
 Values : (List Int)
instance gt_TTable : GoT qC := isoT (pairT (@instList Int instInt) (pairT (@instList Int instInt) (@instList Int instInt))) (fun x => (x.Slews, x.Loads, x.Values)) ⟨[], [], []⟩ rfl true (fun h => by cases h)
theorem qbs {w : World} {S : Nat → Prop} {x : qC} {cs : List Value} (h : GoT.R w S x cs) : ∃ p0 k0 p1 k1 p2 k2, cs = [.slice p0 (x.Slews).length k0, .slice p1 (x.Loads).length k1, .slice p2 (x.Values).length k2] ∧ SlR w S x.Slews p0 k0 ∧ SlR w S x.Loads p1 k1 ∧ SlR w S x.Values p2 k2 := by
 obtain ⟨_, _, rfl, ⟨p0, k0, rfl, s0⟩, ⟨_, _, rfl, ⟨p1, k1, rfl, s1⟩, ⟨p2, k2, rfl, s2⟩⟩⟩ := h
 exact ⟨p0, k0, p1, k1, p2, k2, rfl, s0, s1, s2⟩
theorem qht {w : World} {S : Nat → Prop} (x : qC) {p0 : Option Addr} {k0 : Nat} {p1 : Option Addr} {k1 : Nat} {p2 : Option Addr} {k2 : Nat} (s0 : SlR w S x.Slews p0 k0) (s1 : SlR w S x.Loads p1 k1) (s2 : SlR w S x.Values p2 k2) : GoT.R w S x [.slice p0 (x.Slews).length k0, .slice p1 (x.Loads).length k1, .slice p2 (x.Values).length k2] := ⟨[.slice p0 (x.Slews).length k0], [.slice p1 (x.Loads).length k1, .slice p2 (x.Values).length k2], rfl, ⟨p0, k0, rfl, s0⟩, ⟨[.slice p1 (x.Loads).length k1], [.slice p2 (x.Values).length k2], rfl, ⟨p1, k1, rfl, s1⟩, ⟨p2, k2, rfl, s2⟩⟩⟩
theorem qnt {w0 w : World} {L : List Ch} {S : Nat → Prop} {x : qC} {p0 : Option Addr} {l0 k0 : Nat} {p1 : Option Addr} {l1 k1 : Nat} {p2 : Option Addr} {l2 k2 : Nat} (h : SH w0 w (Ch.own S x [.slice p0 l0 k0, .slice p1 l1 k1, .slice p2 l2 k2] :: L)) : ∃ S0 S1 S2, SH w0 w (Ch.own S2 x.Values [.slice p2 l2 k2] :: Ch.own S1 x.Loads [.slice p1 l1 k1] :: Ch.own S0 x.Slews [.slice p0 l0 k0] :: L) := by
 obtain ⟨hv, ho⟩ := h.headV
 replace ho : GoT.O w S x _ := ho
 obtain ⟨A0, B0, d0, e0, he, o0, ho, a0, b0⟩ := ho
 obtain ⟨q, m, rfl, s0⟩ := o0
 cases he
 replace hv := hv.push (c := Ch.own A0 x.Slews [_]) (S2 := B0) ⟨_, _, rfl, s0⟩ (fun _ hd => hd.elim) a0 b0
 obtain ⟨A1, B1, d1, e1, he, o1, ho, a1, b1⟩ := ho
 obtain ⟨q, m, rfl, s1⟩ := o1
 cases he
 replace hv := hv.push (c := Ch.own A1 x.Loads [_]) (S2 := B1) ⟨_, _, rfl, s1⟩ (fun _ hd => hd.elim) a1 b1
 obtain ⟨q, m, he, s2⟩ := ho
 cases he
 replace hv := hv.push (c := Ch.own B1 x.Values [_]) (S2 := (fun _ => False)) ⟨_, _, rfl, s2⟩ (fun _ hd => hd.elim) (fun b hb => ⟨hb, fun h => h⟩) (fun _ h => h.elim)
 exact ⟨A0, A1, B1, hv.sh⟩
theorem qmT {w0 w : World} {L : List Ch} (x : qC) {I0 I1 I2 : List Nat} {c0 c1 c2 : List Value} (h : SH w0 w L) (h0 : PO w L I0 x.Slews c0) (h1 : PO w L I1 x.Loads c1) (h2 : PO w L I2 x.Values c2) (b0 : apartB I0 (I1 ++ I2) = true) (b1 : apartB I1 I2 = true) : PO w L (I0 ++ (I1 ++ I2)) x (c0 ++ (c1 ++ c2)) :=
 (qcn h h0 (qcn h h1 h2 b1) b0)

structure qY where
 Kind : Int
 From : Int
 To : Int
 Sense : Int
 Delay : (List qC)
 Slew : (List qC)
instance gt_TArc : GoT qY := isoT (pairT instInt (pairT instInt (pairT instInt (pairT instInt (pairT (@instList qC gt_TTable) (@instList qC gt_TTable)))))) (fun x => (x.Kind, x.From, x.To, x.Sense, x.Delay, x.Slew)) ⟨0, 0, 0, 0, [], []⟩ rfl true (fun h => by cases h)
theorem qaQ {w : World} {S : Nat → Prop} {x : qY} {cs : List Value} (h : GoT.R w S x cs) : ∃ p0 k0 p1 k1, cs = [.int .i64 x.Kind, .int .i64 x.From, .int .i64 x.To, .int .i64 x.Sense, .slice p0 (x.Delay).length k0, .slice p1 (x.Slew).length k1] ∧ SlR w S x.Delay p0 k0 ∧ SlR w S x.Slew p1 k1 := by
 obtain ⟨_, _, rfl, rfl, ⟨_, _, rfl, rfl, ⟨_, _, rfl, rfl, ⟨_, _, rfl, rfl, ⟨_, _, rfl, ⟨p0, k0, rfl, s0⟩, ⟨p1, k1, rfl, s1⟩⟩⟩⟩⟩⟩ := h
 exact ⟨p0, k0, p1, k1, rfl, s0, s1⟩
theorem qgg {w : World} {S : Nat → Prop} (x : qY) {p0 : Option Addr} {k0 : Nat} {p1 : Option Addr} {k1 : Nat} (s0 : SlR w S x.Delay p0 k0) (s1 : SlR w S x.Slew p1 k1) : GoT.R w S x [.int .i64 x.Kind, .int .i64 x.From, .int .i64 x.To, .int .i64 x.Sense, .slice p0 (x.Delay).length k0, .slice p1 (x.Slew).length k1] := ⟨[.int .i64 x.Kind], [.int .i64 x.From, .int .i64 x.To, .int .i64 x.Sense, .slice p0 (x.Delay).length k0, .slice p1 (x.Slew).length k1], rfl, rfl, ⟨[.int .i64 x.From], [.int .i64 x.To, .int .i64 x.Sense, .slice p0 (x.Delay).length k0, .slice p1 (x.Slew).length k1], rfl, rfl, ⟨[.int .i64 x.To], [.int .i64 x.Sense, .slice p0 (x.Delay).length k0, .slice p1 (x.Slew).length k1], rfl, rfl, ⟨[.int .i64 x.Sense], [.slice p0 (x.Delay).length k0, .slice p1 (x.Slew).length k1], rfl, rfl, ⟨[.slice p0 (x.Delay).length k0], [.slice p1 (x.Slew).length k1], rfl, ⟨p0, k0, rfl, s0⟩, ⟨p1, k1, rfl, s1⟩⟩⟩⟩⟩⟩
theorem qoV {w0 w : World} {L : List Ch} {S : Nat → Prop} {x : qY} {p0 : Option Addr} {l0 k0 : Nat} {p1 : Option Addr} {l1 k1 : Nat} (h : SH w0 w (Ch.own S x [.int .i64 x.Kind, .int .i64 x.From, .int .i64 x.To, .int .i64 x.Sense, .slice p0 l0 k0, .slice p1 l1 k1] :: L)) : ∃ S0 S1, SH w0 w (Ch.own S1 x.Slew [.slice p1 l1 k1] :: Ch.own S0 x.Delay [.slice p0 l0 k0] :: L) := by
 obtain ⟨hv, ho⟩ := h.headV
 replace ho : GoT.O w S x _ := ho
 obtain ⟨A0, B0, d0, e0, he, o0, ho, a0, b0⟩ := ho
 obtain rfl := o0
 cases he
 replace hv := hv.less b0
 obtain ⟨A1, B1, d1, e1, he, o1, ho, a1, b1⟩ := ho
 obtain rfl := o1
 cases he
 replace hv := hv.less b1
 obtain ⟨A2, B2, d2, e2, he, o2, ho, a2, b2⟩ := ho
 obtain rfl := o2
 cases he
 replace hv := hv.less b2
 obtain ⟨A3, B3, d3, e3, he, o3, ho, a3, b3⟩ := ho
 obtain rfl := o3
 cases he
 replace hv := hv.less b3
 obtain ⟨A4, B4, d4, e4, he, o4, ho, a4, b4⟩ := ho
 obtain ⟨q, m, rfl, s0⟩ := o4
 cases he
 replace hv := hv.push (c := Ch.own A4 x.Delay [_]) (S2 := B4) ⟨_, _, rfl, s0⟩ (fun _ hd => hd.elim) a4 b4
 obtain ⟨q, m, he, s1⟩ := ho
 cases he
 replace hv := hv.push (c := Ch.own B4 x.Slew [_]) (S2 := (fun _ => False)) ⟨_, _, rfl, s1⟩ (fun _ hd => hd.elim) (fun b hb => ⟨hb, fun h => h⟩) (fun _ h => h.elim)
 exact ⟨A4, B4, hv.sh⟩
theorem qpf {w0 w : World} {L : List Ch} (x : qY) {I0 I1 I2 I3 I4 I5 : List Nat} {c0 c1 c2 c3 c4 c5 : List Value} (h : SH w0 w L) (h0 : PO w L I0 x.Kind c0) (h1 : PO w L I1 x.From c1) (h2 : PO w L I2 x.To c2) (h3 : PO w L I3 x.Sense c3) (h4 : PO w L I4 x.Delay c4) (h5 : PO w L I5 x.Slew c5) (b0 : apartB I0 (I1 ++ (I2 ++ (I3 ++ (I4 ++ I5)))) = true) (b1 : apartB I1 (I2 ++ (I3 ++ (I4 ++ I5))) = true) (b2 : apartB I2 (I3 ++ (I4 ++ I5)) = true) (b3 : apartB I3 (I4 ++ I5) = true) (b4 : apartB I4 I5 = true) : PO w L (I0 ++ (I1 ++ (I2 ++ (I3 ++ (I4 ++ I5))))) x (c0 ++ (c1 ++ (c2 ++ (c3 ++ (c4 ++ c5))))) :=
 (qcn h h0 (qcn h h1 (qcn h h2 (qcn h h3 (qcn h h4 h5 b4) b3) b2) b1) b0)

structure qB where
 Name : ByteArray
 Kind : Int
 Pins : (List qaf)
 Arcs : (List qY)
 Truth : (List Int)
 Leak : Int
 Energy : Int
instance gt_TCell : GoT qB := isoT (pairT instStr (pairT instInt (pairT (@instList qaf gt_TPin) (pairT (@instList qY gt_TArc) (pairT (@instList Int instInt) (pairT instInt instInt)))))) (fun x => (x.Name, x.Kind, x.Pins, x.Arcs, x.Truth, x.Leak, x.Energy)) ⟨ByteArray.empty, 0, [], [], [], 0, 0⟩ rfl true (fun h => by cases h)
theorem qai {w : World} {S : Nat → Prop} {x : qB} {cs : List Value} (h : GoT.R w S x cs) : ∃ p0 k0 p1 k1 p2 k2, cs = [.string x.Name, .int .i64 x.Kind, .slice p0 (x.Pins).length k0, .slice p1 (x.Arcs).length k1, .slice p2 (x.Truth).length k2, .int .i64 x.Leak, .int .i64 x.Energy] ∧ SlR w S x.Pins p0 k0 ∧ SlR w S x.Arcs p1 k1 ∧ SlR w S x.Truth p2 k2 := by
 obtain ⟨_, _, rfl, rfl, ⟨_, _, rfl, rfl, ⟨_, _, rfl, ⟨p0, k0, rfl, s0⟩, ⟨_, _, rfl, ⟨p1, k1, rfl, s1⟩, ⟨_, _, rfl, ⟨p2, k2, rfl, s2⟩, ⟨_, _, rfl, rfl, rfl⟩⟩⟩⟩⟩⟩ := h
 exact ⟨p0, k0, p1, k1, p2, k2, rfl, s0, s1, s2⟩
theorem qh5 {w : World} {S : Nat → Prop} (x : qB) {p0 : Option Addr} {k0 : Nat} {p1 : Option Addr} {k1 : Nat} {p2 : Option Addr} {k2 : Nat} (s0 : SlR w S x.Pins p0 k0) (s1 : SlR w S x.Arcs p1 k1) (s2 : SlR w S x.Truth p2 k2) : GoT.R w S x [.string x.Name, .int .i64 x.Kind, .slice p0 (x.Pins).length k0, .slice p1 (x.Arcs).length k1, .slice p2 (x.Truth).length k2, .int .i64 x.Leak, .int .i64 x.Energy] := ⟨[.string x.Name], [.int .i64 x.Kind, .slice p0 (x.Pins).length k0, .slice p1 (x.Arcs).length k1, .slice p2 (x.Truth).length k2, .int .i64 x.Leak, .int .i64 x.Energy], rfl, rfl, ⟨[.int .i64 x.Kind], [.slice p0 (x.Pins).length k0, .slice p1 (x.Arcs).length k1, .slice p2 (x.Truth).length k2, .int .i64 x.Leak, .int .i64 x.Energy], rfl, rfl, ⟨[.slice p0 (x.Pins).length k0], [.slice p1 (x.Arcs).length k1, .slice p2 (x.Truth).length k2, .int .i64 x.Leak, .int .i64 x.Energy], rfl, ⟨p0, k0, rfl, s0⟩, ⟨[.slice p1 (x.Arcs).length k1], [.slice p2 (x.Truth).length k2, .int .i64 x.Leak, .int .i64 x.Energy], rfl, ⟨p1, k1, rfl, s1⟩, ⟨[.slice p2 (x.Truth).length k2], [.int .i64 x.Leak, .int .i64 x.Energy], rfl, ⟨p2, k2, rfl, s2⟩, ⟨[.int .i64 x.Leak], [.int .i64 x.Energy], rfl, rfl, rfl⟩⟩⟩⟩⟩⟩
theorem qnZ {w0 w : World} {L : List Ch} {S : Nat → Prop} {x : qB} {p0 : Option Addr} {l0 k0 : Nat} {p1 : Option Addr} {l1 k1 : Nat} {p2 : Option Addr} {l2 k2 : Nat} (h : SH w0 w (Ch.own S x [.string x.Name, .int .i64 x.Kind, .slice p0 l0 k0, .slice p1 l1 k1, .slice p2 l2 k2, .int .i64 x.Leak, .int .i64 x.Energy] :: L)) : ∃ S0 S1 S2, SH w0 w (Ch.own S2 x.Truth [.slice p2 l2 k2] :: Ch.own S1 x.Arcs [.slice p1 l1 k1] :: Ch.own S0 x.Pins [.slice p0 l0 k0] :: L) := by
 obtain ⟨hv, ho⟩ := h.headV
 replace ho : GoT.O w S x _ := ho
 obtain ⟨A0, B0, d0, e0, he, o0, ho, a0, b0⟩ := ho
 obtain rfl := o0
 cases he
 replace hv := hv.less b0
 obtain ⟨A1, B1, d1, e1, he, o1, ho, a1, b1⟩ := ho
 obtain rfl := o1
 cases he
 replace hv := hv.less b1
 obtain ⟨A2, B2, d2, e2, he, o2, ho, a2, b2⟩ := ho
 obtain ⟨q, m, rfl, s0⟩ := o2
 cases he
 replace hv := hv.push (c := Ch.own A2 x.Pins [_]) (S2 := B2) ⟨_, _, rfl, s0⟩ (fun _ hd => hd.elim) a2 b2
 obtain ⟨A3, B3, d3, e3, he, o3, ho, a3, b3⟩ := ho
 obtain ⟨q, m, rfl, s1⟩ := o3
 cases he
 replace hv := hv.push (c := Ch.own A3 x.Arcs [_]) (S2 := B3) ⟨_, _, rfl, s1⟩ (fun _ hd => hd.elim) a3 b3
 obtain ⟨A4, B4, d4, e4, he, o4, ho, a4, b4⟩ := ho
 obtain ⟨q, m, rfl, s2⟩ := o4
 cases he
 replace hv := hv.push (c := Ch.own A4 x.Truth [_]) (S2 := B4) ⟨_, _, rfl, s2⟩ (fun _ hd => hd.elim) a4 b4
 obtain ⟨A5, B5, d5, e5, he, o5, ho, a5, b5⟩ := ho
 obtain rfl := o5
 cases he
 replace hv := hv.less b5
 exact ⟨A2, A3, A4, hv.sh⟩
theorem qoc {w0 w : World} {L : List Ch} (x : qB) {I0 I1 I2 I3 I4 I5 I6 : List Nat} {c0 c1 c2 c3 c4 c5 c6 : List Value} (h : SH w0 w L) (h0 : PO w L I0 x.Name c0) (h1 : PO w L I1 x.Kind c1) (h2 : PO w L I2 x.Pins c2) (h3 : PO w L I3 x.Arcs c3) (h4 : PO w L I4 x.Truth c4) (h5 : PO w L I5 x.Leak c5) (h6 : PO w L I6 x.Energy c6) (b0 : apartB I0 (I1 ++ (I2 ++ (I3 ++ (I4 ++ (I5 ++ I6))))) = true) (b1 : apartB I1 (I2 ++ (I3 ++ (I4 ++ (I5 ++ I6)))) = true) (b2 : apartB I2 (I3 ++ (I4 ++ (I5 ++ I6))) = true) (b3 : apartB I3 (I4 ++ (I5 ++ I6)) = true) (b4 : apartB I4 (I5 ++ I6) = true) (b5 : apartB I5 I6 = true) : PO w L (I0 ++ (I1 ++ (I2 ++ (I3 ++ (I4 ++ (I5 ++ I6)))))) x (c0 ++ (c1 ++ (c2 ++ (c3 ++ (c4 ++ (c5 ++ c6)))))) :=
 (qcn h h0 (qcn h h1 (qcn h h2 (qcn h h3 (qcn h h4 (qcn h h5 h6 b5) b4) b3) b2) b1) b0)

structure qz where
 Cells : (List qB)
instance gt_TLibrary : GoT qz := isoT (@instList qB gt_TCell) (fun x => x.Cells) ⟨[]⟩ rfl true (fun h => by cases h)
theorem qb3 {w : World} {S : Nat → Prop} {x : qz} {cs : List Value} (h : GoT.R w S x cs) : ∃ p0 k0, cs = [.slice p0 (x.Cells).length k0] ∧ SlR w S x.Cells p0 k0 := by
 obtain ⟨p0, k0, rfl, s0⟩ := h
 exact ⟨p0, k0, rfl, s0⟩
theorem qfl {w : World} {S : Nat → Prop} (x : qz) {p0 : Option Addr} {k0 : Nat} (s0 : SlR w S x.Cells p0 k0) : GoT.R w S x [.slice p0 (x.Cells).length k0] := ⟨p0, k0, rfl, s0⟩
theorem ql2 {w0 w : World} {L : List Ch} {S : Nat → Prop} {x : qz} {p0 : Option Addr} {l0 k0 : Nat} (h : SH w0 w (Ch.own S x [.slice p0 l0 k0] :: L)) : ∃ S0, SH w0 w (Ch.own S0 x.Cells [.slice p0 l0 k0] :: L) := by
 obtain ⟨hv, ho⟩ := h.headV
 replace ho : GoT.O w S x _ := ho
 obtain ⟨q, m, he, s0⟩ := ho
 cases he
 replace hv := hv.push (c := Ch.own S x.Cells [_]) (S2 := (fun _ => False)) ⟨_, _, rfl, s0⟩ (fun _ hd => hd.elim) (fun b hb => ⟨hb, fun h => h⟩) (fun _ h => h.elim)
 exact ⟨S, hv.sh⟩
theorem qoj {w0 w : World} {L : List Ch} (x : qz) {I0 : List Nat} {c0 : List Value} (_ : SH w0 w L) (h0 : PO w L I0 x.Cells c0) : PO w L I0 x c0 :=
 h0

structure qk where
 Name : ByteArray
 Cell : Int
 Nets : (List Int)
instance gt_TInstance : GoT qk := isoT (pairT instStr (pairT instInt (@instList Int instInt))) (fun x => (x.Name, x.Cell, x.Nets)) ⟨ByteArray.empty, 0, []⟩ rfl true (fun h => by cases h)
theorem qad {w : World} {S : Nat → Prop} {x : qk} {cs : List Value} (h : GoT.R w S x cs) : ∃ p0 k0, cs = [.string x.Name, .int .i64 x.Cell, .slice p0 (x.Nets).length k0] ∧ SlR w S x.Nets p0 k0 := by
 obtain ⟨_, _, rfl, rfl, ⟨_, _, rfl, rfl, ⟨p0, k0, rfl, s0⟩⟩⟩ := h
 exact ⟨p0, k0, rfl, s0⟩
theorem qfu {w : World} {S : Nat → Prop} (x : qk) {p0 : Option Addr} {k0 : Nat} (s0 : SlR w S x.Nets p0 k0) : GoT.R w S x [.string x.Name, .int .i64 x.Cell, .slice p0 (x.Nets).length k0] := ⟨[.string x.Name], [.int .i64 x.Cell, .slice p0 (x.Nets).length k0], rfl, rfl, ⟨[.int .i64 x.Cell], [.slice p0 (x.Nets).length k0], rfl, rfl, ⟨p0, k0, rfl, s0⟩⟩⟩
theorem qly {w0 w : World} {L : List Ch} {S : Nat → Prop} {x : qk} {p0 : Option Addr} {l0 k0 : Nat} (h : SH w0 w (Ch.own S x [.string x.Name, .int .i64 x.Cell, .slice p0 l0 k0] :: L)) : ∃ S0, SH w0 w (Ch.own S0 x.Nets [.slice p0 l0 k0] :: L) := by
 obtain ⟨hv, ho⟩ := h.headV
 replace ho : GoT.O w S x _ := ho
 obtain ⟨A0, B0, d0, e0, he, o0, ho, a0, b0⟩ := ho
 obtain rfl := o0
 cases he
 replace hv := hv.less b0
 obtain ⟨A1, B1, d1, e1, he, o1, ho, a1, b1⟩ := ho
 obtain rfl := o1
 cases he
 replace hv := hv.less b1
 obtain ⟨q, m, he, s0⟩ := ho
 cases he
 replace hv := hv.push (c := Ch.own B1 x.Nets [_]) (S2 := (fun _ => False)) ⟨_, _, rfl, s0⟩ (fun _ hd => hd.elim) (fun b hb => ⟨hb, fun h => h⟩) (fun _ h => h.elim)
 exact ⟨B1, hv.sh⟩
theorem qkB {w0 w : World} {L : List Ch} (x : qk) {I0 I1 I2 : List Nat} {c0 c1 c2 : List Value} (h : SH w0 w L) (h0 : PO w L I0 x.Name c0) (h1 : PO w L I1 x.Cell c1) (h2 : PO w L I2 x.Nets c2) (b0 : apartB I0 (I1 ++ I2) = true) (b1 : apartB I1 I2 = true) : PO w L (I0 ++ (I1 ++ I2)) x (c0 ++ (c1 ++ c2)) :=
 (qcn h h0 (qcn h h1 h2 b1) b0)

structure qV where
 Name : ByteArray
 Dir : Int
 Net : Int
instance gt_TPort : GoT qV := isoT (pairT instStr (pairT instInt instInt)) (fun x => (x.Name, x.Dir, x.Net)) ⟨ByteArray.empty, 0, 0⟩ rfl true (fun h => by cases h)
instance fl_TPort : Flat qV := qhL (pairT instStr (pairT instInt instInt)) (fun x : qV => (x.Name, x.Dir, x.Net)) ⟨ByteArray.empty, 0, 0⟩ rfl true (fun h => by cases h) (qb4 _ _ (inferInstanceAs (Flat ByteArray)) (qb4 _ _ (inferInstanceAs (Flat Int)) (inferInstanceAs (Flat Int))))
theorem qaW {w : World} {S : Nat → Prop} {x : qV} {cs : List Value} (h : GoT.R w S x cs) : cs = [.string x.Name, .int .i64 x.Dir, .int .i64 x.Net] := by
 obtain ⟨_, _, rfl, rfl, ⟨_, _, rfl, rfl, rfl⟩⟩ := h
 exact rfl
theorem qdY {w : World} {S : Nat → Prop} (x : qV) : GoT.R w S x [.string x.Name, .int .i64 x.Dir, .int .i64 x.Net] := ⟨[.string x.Name], [.int .i64 x.Dir, .int .i64 x.Net], rfl, rfl, ⟨[.int .i64 x.Dir], [.int .i64 x.Net], rfl, rfl, rfl⟩⟩
structure ql where
 Instances : (List qk)
 Nets : (List ByteArray)
 Ports : (List qV)
instance gt_TDesign : GoT ql := isoT (pairT (@instList qk gt_TInstance) (pairT (@instList ByteArray instStr) (@instList qV gt_TPort))) (fun x => (x.Instances, x.Nets, x.Ports)) ⟨[], [], []⟩ rfl true (fun h => by cases h)
theorem qaS {w : World} {S : Nat → Prop} {x : ql} {cs : List Value} (h : GoT.R w S x cs) : ∃ p0 k0 p1 k1 p2 k2, cs = [.slice p0 (x.Instances).length k0, .slice p1 (x.Nets).length k1, .slice p2 (x.Ports).length k2] ∧ SlR w S x.Instances p0 k0 ∧ SlR w S x.Nets p1 k1 ∧ SlR w S x.Ports p2 k2 := by
 obtain ⟨_, _, rfl, ⟨p0, k0, rfl, s0⟩, ⟨_, _, rfl, ⟨p1, k1, rfl, s1⟩, ⟨p2, k2, rfl, s2⟩⟩⟩ := h
 exact ⟨p0, k0, p1, k1, p2, k2, rfl, s0, s1, s2⟩
theorem qco {w : World} {S : Nat → Prop} (x : ql) {p0 : Option Addr} {k0 : Nat} {p1 : Option Addr} {k1 : Nat} {p2 : Option Addr} {k2 : Nat} (s0 : SlR w S x.Instances p0 k0) (s1 : SlR w S x.Nets p1 k1) (s2 : SlR w S x.Ports p2 k2) : GoT.R w S x [.slice p0 (x.Instances).length k0, .slice p1 (x.Nets).length k1, .slice p2 (x.Ports).length k2] := ⟨[.slice p0 (x.Instances).length k0], [.slice p1 (x.Nets).length k1, .slice p2 (x.Ports).length k2], rfl, ⟨p0, k0, rfl, s0⟩, ⟨[.slice p1 (x.Nets).length k1], [.slice p2 (x.Ports).length k2], rfl, ⟨p1, k1, rfl, s1⟩, ⟨p2, k2, rfl, s2⟩⟩⟩
theorem qmK {w0 w : World} {L : List Ch} {S : Nat → Prop} {x : ql} {p0 : Option Addr} {l0 k0 : Nat} {p1 : Option Addr} {l1 k1 : Nat} {p2 : Option Addr} {l2 k2 : Nat} (h : SH w0 w (Ch.own S x [.slice p0 l0 k0, .slice p1 l1 k1, .slice p2 l2 k2] :: L)) : ∃ S0 S1 S2, SH w0 w (Ch.own S2 x.Ports [.slice p2 l2 k2] :: Ch.own S1 x.Nets [.slice p1 l1 k1] :: Ch.own S0 x.Instances [.slice p0 l0 k0] :: L) := by
 obtain ⟨hv, ho⟩ := h.headV
 replace ho : GoT.O w S x _ := ho
 obtain ⟨A0, B0, d0, e0, he, o0, ho, a0, b0⟩ := ho
 obtain ⟨q, m, rfl, s0⟩ := o0
 cases he
 replace hv := hv.push (c := Ch.own A0 x.Instances [_]) (S2 := B0) ⟨_, _, rfl, s0⟩ (fun _ hd => hd.elim) a0 b0
 obtain ⟨A1, B1, d1, e1, he, o1, ho, a1, b1⟩ := ho
 obtain ⟨q, m, rfl, s1⟩ := o1
 cases he
 replace hv := hv.push (c := Ch.own A1 x.Nets [_]) (S2 := B1) ⟨_, _, rfl, s1⟩ (fun _ hd => hd.elim) a1 b1
 obtain ⟨q, m, he, s2⟩ := ho
 cases he
 replace hv := hv.push (c := Ch.own B1 x.Ports [_]) (S2 := (fun _ => False)) ⟨_, _, rfl, s2⟩ (fun _ hd => hd.elim) (fun b hb => ⟨hb, fun h => h⟩) (fun _ h => h.elim)
 exact ⟨A0, A1, B1, hv.sh⟩
theorem qoP {w0 w : World} {L : List Ch} (x : ql) {I0 I1 I2 : List Nat} {c0 c1 c2 : List Value} (h : SH w0 w L) (h0 : PO w L I0 x.Instances c0) (h1 : PO w L I1 x.Nets c1) (h2 : PO w L I2 x.Ports c2) (b0 : apartB I0 (I1 ++ I2) = true) (b1 : apartB I1 I2 = true) : PO w L (I0 ++ (I1 ++ I2)) x (c0 ++ (c1 ++ c2)) :=
 (qcn h h0 (qcn h h1 h2 b1) b0)

structure qP where
 Parent : (List Int)
 Res : (List Int)
 Cap : (List Int)
 Sink : (List Int)
instance gt_TWire : GoT qP := isoT (pairT (@instList Int instInt) (pairT (@instList Int instInt) (pairT (@instList Int instInt) (@instList Int instInt)))) (fun x => (x.Parent, x.Res, x.Cap, x.Sink)) ⟨[], [], [], []⟩ rfl true (fun h => by cases h)
theorem qbw {w : World} {S : Nat → Prop} {x : qP} {cs : List Value} (h : GoT.R w S x cs) : ∃ p0 k0 p1 k1 p2 k2 p3 k3, cs = [.slice p0 (x.Parent).length k0, .slice p1 (x.Res).length k1, .slice p2 (x.Cap).length k2, .slice p3 (x.Sink).length k3] ∧ SlR w S x.Parent p0 k0 ∧ SlR w S x.Res p1 k1 ∧ SlR w S x.Cap p2 k2 ∧ SlR w S x.Sink p3 k3 := by
 obtain ⟨_, _, rfl, ⟨p0, k0, rfl, s0⟩, ⟨_, _, rfl, ⟨p1, k1, rfl, s1⟩, ⟨_, _, rfl, ⟨p2, k2, rfl, s2⟩, ⟨p3, k3, rfl, s3⟩⟩⟩⟩ := h
 exact ⟨p0, k0, p1, k1, p2, k2, p3, k3, rfl, s0, s1, s2, s3⟩
theorem qh8 {w : World} {S : Nat → Prop} (x : qP) {p0 : Option Addr} {k0 : Nat} {p1 : Option Addr} {k1 : Nat} {p2 : Option Addr} {k2 : Nat} {p3 : Option Addr} {k3 : Nat} (s0 : SlR w S x.Parent p0 k0) (s1 : SlR w S x.Res p1 k1) (s2 : SlR w S x.Cap p2 k2) (s3 : SlR w S x.Sink p3 k3) : GoT.R w S x [.slice p0 (x.Parent).length k0, .slice p1 (x.Res).length k1, .slice p2 (x.Cap).length k2, .slice p3 (x.Sink).length k3] := ⟨[.slice p0 (x.Parent).length k0], [.slice p1 (x.Res).length k1, .slice p2 (x.Cap).length k2, .slice p3 (x.Sink).length k3], rfl, ⟨p0, k0, rfl, s0⟩, ⟨[.slice p1 (x.Res).length k1], [.slice p2 (x.Cap).length k2, .slice p3 (x.Sink).length k3], rfl, ⟨p1, k1, rfl, s1⟩, ⟨[.slice p2 (x.Cap).length k2], [.slice p3 (x.Sink).length k3], rfl, ⟨p2, k2, rfl, s2⟩, ⟨p3, k3, rfl, s3⟩⟩⟩⟩
theorem qnX {w0 w : World} {L : List Ch} {S : Nat → Prop} {x : qP} {p0 : Option Addr} {l0 k0 : Nat} {p1 : Option Addr} {l1 k1 : Nat} {p2 : Option Addr} {l2 k2 : Nat} {p3 : Option Addr} {l3 k3 : Nat} (h : SH w0 w (Ch.own S x [.slice p0 l0 k0, .slice p1 l1 k1, .slice p2 l2 k2, .slice p3 l3 k3] :: L)) : ∃ S0 S1 S2 S3, SH w0 w (Ch.own S3 x.Sink [.slice p3 l3 k3] :: Ch.own S2 x.Cap [.slice p2 l2 k2] :: Ch.own S1 x.Res [.slice p1 l1 k1] :: Ch.own S0 x.Parent [.slice p0 l0 k0] :: L) := by
 obtain ⟨hv, ho⟩ := h.headV
 replace ho : GoT.O w S x _ := ho
 obtain ⟨A0, B0, d0, e0, he, o0, ho, a0, b0⟩ := ho
 obtain ⟨q, m, rfl, s0⟩ := o0
 cases he
 replace hv := hv.push (c := Ch.own A0 x.Parent [_]) (S2 := B0) ⟨_, _, rfl, s0⟩ (fun _ hd => hd.elim) a0 b0
 obtain ⟨A1, B1, d1, e1, he, o1, ho, a1, b1⟩ := ho
 obtain ⟨q, m, rfl, s1⟩ := o1
 cases he
 replace hv := hv.push (c := Ch.own A1 x.Res [_]) (S2 := B1) ⟨_, _, rfl, s1⟩ (fun _ hd => hd.elim) a1 b1
 obtain ⟨A2, B2, d2, e2, he, o2, ho, a2, b2⟩ := ho
 obtain ⟨q, m, rfl, s2⟩ := o2
 cases he
 replace hv := hv.push (c := Ch.own A2 x.Cap [_]) (S2 := B2) ⟨_, _, rfl, s2⟩ (fun _ hd => hd.elim) a2 b2
 obtain ⟨q, m, he, s3⟩ := ho
 cases he
 replace hv := hv.push (c := Ch.own B2 x.Sink [_]) (S2 := (fun _ => False)) ⟨_, _, rfl, s3⟩ (fun _ hd => hd.elim) (fun b hb => ⟨hb, fun h => h⟩) (fun _ h => h.elim)
 exact ⟨A0, A1, A2, B2, hv.sh⟩
theorem qnT {w0 w : World} {L : List Ch} (x : qP) {I0 I1 I2 I3 : List Nat} {c0 c1 c2 c3 : List Value} (h : SH w0 w L) (h0 : PO w L I0 x.Parent c0) (h1 : PO w L I1 x.Res c1) (h2 : PO w L I2 x.Cap c2) (h3 : PO w L I3 x.Sink c3) (b0 : apartB I0 (I1 ++ (I2 ++ I3)) = true) (b1 : apartB I1 (I2 ++ I3) = true) (b2 : apartB I2 I3 = true) : PO w L (I0 ++ (I1 ++ (I2 ++ I3))) x (c0 ++ (c1 ++ (c2 ++ c3))) :=
 (qcn h h0 (qcn h h1 (qcn h h2 h3 b2) b1) b0)

structure qF where
 Library : qz
 Design : ql
 Wires : (List qP)
instance gt_TBlock : GoT qF := isoT (pairT gt_TLibrary (pairT gt_TDesign (@instList qP gt_TWire))) (fun x => (x.Library, x.Design, x.Wires)) ⟨(⟨[]⟩ : qz), (⟨[], [], []⟩ : ql), []⟩ rfl true (fun h => by cases h)
theorem qar {w : World} {S : Nat → Prop} {x : qF} {cs : List Value} (h : GoT.R w S x cs) : ∃ p0 k0 p1 k1 p2 k2 p3 k3 p4 k4, cs = [.slice p0 (x.Library.Cells).length k0, .slice p1 (x.Design.Instances).length k1, .slice p2 (x.Design.Nets).length k2, .slice p3 (x.Design.Ports).length k3, .slice p4 (x.Wires).length k4] ∧ SlR w S x.Library.Cells p0 k0 ∧ SlR w S x.Design.Instances p1 k1 ∧ SlR w S x.Design.Nets p2 k2 ∧ SlR w S x.Design.Ports p3 k3 ∧ SlR w S x.Wires p4 k4 := by
 obtain ⟨_, _, rfl, ⟨p0, k0, rfl, s0⟩, ⟨_, _, rfl, ⟨_, _, rfl, ⟨p1, k1, rfl, s1⟩, ⟨_, _, rfl, ⟨p2, k2, rfl, s2⟩, ⟨p3, k3, rfl, s3⟩⟩⟩, ⟨p4, k4, rfl, s4⟩⟩⟩ := h
 exact ⟨p0, k0, p1, k1, p2, k2, p3, k3, p4, k4, rfl, s0, s1, s2, s3, s4⟩
theorem qoN {w : World} {S : Nat → Prop} (x : qF) {p0 : Option Addr} {k0 : Nat} {p1 : Option Addr} {k1 : Nat} {p2 : Option Addr} {k2 : Nat} {p3 : Option Addr} {k3 : Nat} {p4 : Option Addr} {k4 : Nat} (s0 : SlR w S x.Library.Cells p0 k0) (s1 : SlR w S x.Design.Instances p1 k1) (s2 : SlR w S x.Design.Nets p2 k2) (s3 : SlR w S x.Design.Ports p3 k3) (s4 : SlR w S x.Wires p4 k4) : GoT.R w S x [.slice p0 (x.Library.Cells).length k0, .slice p1 (x.Design.Instances).length k1, .slice p2 (x.Design.Nets).length k2, .slice p3 (x.Design.Ports).length k3, .slice p4 (x.Wires).length k4] := ⟨[.slice p0 (x.Library.Cells).length k0], [.slice p1 (x.Design.Instances).length k1, .slice p2 (x.Design.Nets).length k2, .slice p3 (x.Design.Ports).length k3, .slice p4 (x.Wires).length k4], rfl, ⟨p0, k0, rfl, s0⟩, ⟨[.slice p1 (x.Design.Instances).length k1, .slice p2 (x.Design.Nets).length k2, .slice p3 (x.Design.Ports).length k3], [.slice p4 (x.Wires).length k4], rfl, ⟨[.slice p1 (x.Design.Instances).length k1], [.slice p2 (x.Design.Nets).length k2, .slice p3 (x.Design.Ports).length k3], rfl, ⟨p1, k1, rfl, s1⟩, ⟨[.slice p2 (x.Design.Nets).length k2], [.slice p3 (x.Design.Ports).length k3], rfl, ⟨p2, k2, rfl, s2⟩, ⟨p3, k3, rfl, s3⟩⟩⟩, ⟨p4, k4, rfl, s4⟩⟩⟩
theorem qmz {w0 w : World} {L : List Ch} {S : Nat → Prop} {x : qF} {p0 : Option Addr} {l0 k0 : Nat} {p1 : Option Addr} {l1 k1 : Nat} {p2 : Option Addr} {l2 k2 : Nat} {p3 : Option Addr} {l3 k3 : Nat} {p4 : Option Addr} {l4 k4 : Nat} (h : SH w0 w (Ch.own S x [.slice p0 l0 k0, .slice p1 l1 k1, .slice p2 l2 k2, .slice p3 l3 k3, .slice p4 l4 k4] :: L)) : ∃ S0 S1 S2, SH w0 w (Ch.own S2 x.Wires [.slice p4 l4 k4] :: Ch.own S1 x.Design [.slice p1 l1 k1, .slice p2 l2 k2, .slice p3 l3 k3] :: Ch.own S0 x.Library [.slice p0 l0 k0] :: L) := by
 obtain ⟨hv, ho⟩ := h.headV
 replace ho : GoT.O w S x _ := ho
 obtain ⟨A0, B0, d0, e0, he0, o0, ho, a0, b0⟩ := ho
 have hl0 : d0.length = 1 := GoT.len (GoT.toR o0)
 obtain ⟨rfl, rfl⟩ : d0 = [.slice p0 l0 k0] ∧ e0 = [.slice p1 l1 k1, .slice p2 l2 k2, .slice p3 l3 k3, .slice p4 l4 k4] := by
  have := List.append_inj (show [.slice p0 l0 k0] ++ [.slice p1 l1 k1, .slice p2 l2 k2, .slice p3 l3 k3, .slice p4 l4 k4] = d0 ++ e0 from he0) (by rw [hl0]; rfl)
  exact ⟨this.1.symm, this.2.symm⟩
 replace hv := hv.push (c := Ch.own A0 x.Library [.slice p0 l0 k0]) (S2 := B0) o0 (fun _ hd => hd.elim) a0 b0
 obtain ⟨A1, B1, d1, e1, he1, o1, ho, a1, b1⟩ := ho
 have hl1 : d1.length = 3 := GoT.len (GoT.toR o1)
 obtain ⟨rfl, rfl⟩ : d1 = [.slice p1 l1 k1, .slice p2 l2 k2, .slice p3 l3 k3] ∧ e1 = [.slice p4 l4 k4] := by
  have := List.append_inj (show [.slice p1 l1 k1, .slice p2 l2 k2, .slice p3 l3 k3] ++ [.slice p4 l4 k4] = d1 ++ e1 from he1) (by rw [hl1]; rfl)
  exact ⟨this.1.symm, this.2.symm⟩
 replace hv := hv.push (c := Ch.own A1 x.Design [.slice p1 l1 k1, .slice p2 l2 k2, .slice p3 l3 k3]) (S2 := B1) o1 (fun _ hd => hd.elim) a1 b1
 replace hv := hv.push (c := Ch.own B1 x.Wires [.slice p4 l4 k4]) (S2 := (fun _ => False)) ho (fun _ hd => hd.elim) (fun b hb => ⟨hb, fun h => h⟩) (fun _ h => h.elim)
 exact ⟨A0, A1, B1, hv.sh⟩
theorem qp6 {w0 w : World} {L : List Ch} (x : qF) {I0 I1 I2 : List Nat} {c0 c1 c2 : List Value} (h : SH w0 w L) (h0 : PO w L I0 x.Library c0) (h1 : PO w L I1 x.Design c1) (h2 : PO w L I2 x.Wires c2) (b0 : apartB I0 (I1 ++ I2) = true) (b1 : apartB I1 I2 = true) : PO w L (I0 ++ (I1 ++ I2)) x (c0 ++ (c1 ++ c2)) :=
 (qcn h h0 (qcn h h1 h2 b1) b0)

structure qf where
 Kind : Int
 Value : Int
 From : (List Int)
 Through : (List Int)
 To : (List Int)
instance gt_TException : GoT qf := isoT (pairT instInt (pairT instInt (pairT (@instList Int instInt) (pairT (@instList Int instInt) (@instList Int instInt))))) (fun x => (x.Kind, x.Value, x.From, x.Through, x.To)) ⟨0, 0, [], [], []⟩ rfl true (fun h => by cases h)
theorem qX {w : World} {S : Nat → Prop} {x : qf} {cs : List Value} (h : GoT.R w S x cs) : ∃ p0 k0 p1 k1 p2 k2, cs = [.int .i64 x.Kind, .int .i64 x.Value, .slice p0 (x.From).length k0, .slice p1 (x.Through).length k1, .slice p2 (x.To).length k2] ∧ SlR w S x.From p0 k0 ∧ SlR w S x.Through p1 k1 ∧ SlR w S x.To p2 k2 := by
 obtain ⟨_, _, rfl, rfl, ⟨_, _, rfl, rfl, ⟨_, _, rfl, ⟨p0, k0, rfl, s0⟩, ⟨_, _, rfl, ⟨p1, k1, rfl, s1⟩, ⟨p2, k2, rfl, s2⟩⟩⟩⟩⟩ := h
 exact ⟨p0, k0, p1, k1, p2, k2, rfl, s0, s1, s2⟩
theorem qdy {w : World} {S : Nat → Prop} (x : qf) {p0 : Option Addr} {k0 : Nat} {p1 : Option Addr} {k1 : Nat} {p2 : Option Addr} {k2 : Nat} (s0 : SlR w S x.From p0 k0) (s1 : SlR w S x.Through p1 k1) (s2 : SlR w S x.To p2 k2) : GoT.R w S x [.int .i64 x.Kind, .int .i64 x.Value, .slice p0 (x.From).length k0, .slice p1 (x.Through).length k1, .slice p2 (x.To).length k2] := ⟨[.int .i64 x.Kind], [.int .i64 x.Value, .slice p0 (x.From).length k0, .slice p1 (x.Through).length k1, .slice p2 (x.To).length k2], rfl, rfl, ⟨[.int .i64 x.Value], [.slice p0 (x.From).length k0, .slice p1 (x.Through).length k1, .slice p2 (x.To).length k2], rfl, rfl, ⟨[.slice p0 (x.From).length k0], [.slice p1 (x.Through).length k1, .slice p2 (x.To).length k2], rfl, ⟨p0, k0, rfl, s0⟩, ⟨[.slice p1 (x.Through).length k1], [.slice p2 (x.To).length k2], rfl, ⟨p1, k1, rfl, s1⟩, ⟨p2, k2, rfl, s2⟩⟩⟩⟩⟩
theorem qkQ {w0 w : World} {L : List Ch} {S : Nat → Prop} {x : qf} {p0 : Option Addr} {l0 k0 : Nat} {p1 : Option Addr} {l1 k1 : Nat} {p2 : Option Addr} {l2 k2 : Nat} (h : SH w0 w (Ch.own S x [.int .i64 x.Kind, .int .i64 x.Value, .slice p0 l0 k0, .slice p1 l1 k1, .slice p2 l2 k2] :: L)) : ∃ S0 S1 S2, SH w0 w (Ch.own S2 x.To [.slice p2 l2 k2] :: Ch.own S1 x.Through [.slice p1 l1 k1] :: Ch.own S0 x.From [.slice p0 l0 k0] :: L) := by
 obtain ⟨hv, ho⟩ := h.headV
 replace ho : GoT.O w S x _ := ho
 obtain ⟨A0, B0, d0, e0, he, o0, ho, a0, b0⟩ := ho
 obtain rfl := o0
 cases he
 replace hv := hv.less b0
 obtain ⟨A1, B1, d1, e1, he, o1, ho, a1, b1⟩ := ho
 obtain rfl := o1
 cases he
 replace hv := hv.less b1
 obtain ⟨A2, B2, d2, e2, he, o2, ho, a2, b2⟩ := ho
 obtain ⟨q, m, rfl, s0⟩ := o2
 cases he
 replace hv := hv.push (c := Ch.own A2 x.From [_]) (S2 := B2) ⟨_, _, rfl, s0⟩ (fun _ hd => hd.elim) a2 b2
 obtain ⟨A3, B3, d3, e3, he, o3, ho, a3, b3⟩ := ho
 obtain ⟨q, m, rfl, s1⟩ := o3
 cases he
 replace hv := hv.push (c := Ch.own A3 x.Through [_]) (S2 := B3) ⟨_, _, rfl, s1⟩ (fun _ hd => hd.elim) a3 b3
 obtain ⟨q, m, he, s2⟩ := ho
 cases he
 replace hv := hv.push (c := Ch.own B3 x.To [_]) (S2 := (fun _ => False)) ⟨_, _, rfl, s2⟩ (fun _ hd => hd.elim) (fun b hb => ⟨hb, fun h => h⟩) (fun _ h => h.elim)
 exact ⟨A2, A3, B3, hv.sh⟩
theorem qj7 {w0 w : World} {L : List Ch} (x : qf) {I0 I1 I2 I3 I4 : List Nat} {c0 c1 c2 c3 c4 : List Value} (h : SH w0 w L) (h0 : PO w L I0 x.Kind c0) (h1 : PO w L I1 x.Value c1) (h2 : PO w L I2 x.From c2) (h3 : PO w L I3 x.Through c3) (h4 : PO w L I4 x.To c4) (b0 : apartB I0 (I1 ++ (I2 ++ (I3 ++ I4))) = true) (b1 : apartB I1 (I2 ++ (I3 ++ I4)) = true) (b2 : apartB I2 (I3 ++ I4) = true) (b3 : apartB I3 I4 = true) : PO w L (I0 ++ (I1 ++ (I2 ++ (I3 ++ I4)))) x (c0 ++ (c1 ++ (c2 ++ (c3 ++ c4)))) :=
 (qcn h h0 (qcn h h1 (qcn h h2 (qcn h h3 h4 b3) b2) b1) b0)

structure qlF where
 False : Bool
 Cycles : Int
 MaxLimit : Int
 MinLimit : Int
instance gt_TEffect : GoT qlF := isoT (pairT instBool (pairT instInt (pairT instInt instInt))) (fun x => (x.False, x.Cycles, x.MaxLimit, x.MinLimit)) ⟨false, 0, 0, 0⟩ rfl true (fun h => by cases h)
instance fl_TEffect : Flat qlF := qhL (pairT instBool (pairT instInt (pairT instInt instInt))) (fun x : qlF => (x.False, x.Cycles, x.MaxLimit, x.MinLimit)) ⟨false, 0, 0, 0⟩ rfl true (fun h => by cases h) (qb4 _ _ (inferInstanceAs (Flat Bool)) (qb4 _ _ (inferInstanceAs (Flat Int)) (qb4 _ _ (inferInstanceAs (Flat Int)) (inferInstanceAs (Flat Int)))))
structure Tplace where
 instance_ : Int
 pin : Int
 net : Int
 drives : Bool
instance gt_Tplace : GoT Tplace := isoT (pairT instInt (pairT instInt (pairT instInt instBool))) (fun x => (x.instance_, x.pin, x.net, x.drives)) ⟨0, 0, 0, false⟩ rfl true (fun h => by cases h)
instance fl_Tplace : Flat Tplace := qhL (pairT instInt (pairT instInt (pairT instInt instBool))) (fun x : Tplace => (x.instance_, x.pin, x.net, x.drives)) ⟨0, 0, 0, false⟩ rfl true (fun h => by cases h) (qb4 _ _ (inferInstanceAs (Flat Int)) (qb4 _ _ (inferInstanceAs (Flat Int)) (qb4 _ _ (inferInstanceAs (Flat Int)) (inferInstanceAs (Flat Bool)))))
theorem qhK {w : World} {S : Nat → Prop} {x : Tplace} {cs : List Value} (h : GoT.R w S x cs) : cs = [.int .i64 x.instance_, .int .i64 x.pin, .int .i64 x.net, .bool x.drives] := by
 obtain ⟨_, _, rfl, rfl, ⟨_, _, rfl, rfl, ⟨_, _, rfl, rfl, rfl⟩⟩⟩ := h
 exact rfl
theorem qiV {w : World} {S : Nat → Prop} (x : Tplace) : GoT.R w S x [.int .i64 x.instance_, .int .i64 x.pin, .int .i64 x.net, .bool x.drives] := ⟨[.int .i64 x.instance_], [.int .i64 x.pin, .int .i64 x.net, .bool x.drives], rfl, rfl, ⟨[.int .i64 x.pin], [.int .i64 x.net, .bool x.drives], rfl, rfl, ⟨[.int .i64 x.net], [.bool x.drives], rfl, rfl, rfl⟩⟩⟩
structure qbd where
 From : Int
 To : Int
 Kind : Int
 Index : Int
instance gt_TLink : GoT qbd := isoT (pairT instInt (pairT instInt (pairT instInt instInt))) (fun x => (x.From, x.To, x.Kind, x.Index)) ⟨0, 0, 0, 0⟩ rfl true (fun h => by cases h)
instance fl_TLink : Flat qbd := qhL (pairT instInt (pairT instInt (pairT instInt instInt))) (fun x : qbd => (x.From, x.To, x.Kind, x.Index)) ⟨0, 0, 0, 0⟩ rfl true (fun h => by cases h) (qb4 _ _ (inferInstanceAs (Flat Int)) (qb4 _ _ (inferInstanceAs (Flat Int)) (qb4 _ _ (inferInstanceAs (Flat Int)) (inferInstanceAs (Flat Int)))))
theorem qnd {w : World} {S : Nat → Prop} (x : qbd) : GoT.R w S x [.int .i64 x.From, .int .i64 x.To, .int .i64 x.Kind, .int .i64 x.Index] := ⟨[.int .i64 x.From], [.int .i64 x.To, .int .i64 x.Kind, .int .i64 x.Index], rfl, rfl, ⟨[.int .i64 x.To], [.int .i64 x.Kind, .int .i64 x.Index], rfl, rfl, ⟨[.int .i64 x.Kind], [.int .i64 x.Index], rfl, rfl, rfl⟩⟩⟩
structure Tview where
 Block : qF
 places : (List Tplace)
 links : (List qbd)
 loads : (List Int)
 delays : (List (List Int))
 extras : (List Int)
instance gt_Tview : GoT Tview := isoT (pairT gt_TBlock (pairT (@instList Tplace gt_Tplace) (pairT (@instList qbd gt_TLink) (pairT (@instList Int instInt) (pairT (@instList (List Int) (@instList Int instInt)) (@instList Int instInt)))))) (fun x => (x.Block, x.places, x.links, x.loads, x.delays, x.extras)) ⟨(⟨(⟨[]⟩ : qz), (⟨[], [], []⟩ : ql), []⟩ : qF), [], [], [], [], []⟩ rfl true (fun h => by cases h)
theorem ql8 {w : World} {S : Nat → Prop} {x : Tview} {cs : List Value} (h : GoT.R w S x cs) : ∃ p0 k0 p1 k1 p2 k2 p3 k3 p4 k4 p5 k5 p6 k6 p7 k7 p8 k8 p9 k9, cs = [.slice p0 (x.Block.Library.Cells).length k0, .slice p1 (x.Block.Design.Instances).length k1, .slice p2 (x.Block.Design.Nets).length k2, .slice p3 (x.Block.Design.Ports).length k3, .slice p4 (x.Block.Wires).length k4, .slice p5 (x.places).length k5, .slice p6 (x.links).length k6, .slice p7 (x.loads).length k7, .slice p8 (x.delays).length k8, .slice p9 (x.extras).length k9] ∧ SlR w S x.Block.Library.Cells p0 k0 ∧ SlR w S x.Block.Design.Instances p1 k1 ∧ SlR w S x.Block.Design.Nets p2 k2 ∧ SlR w S x.Block.Design.Ports p3 k3 ∧ SlR w S x.Block.Wires p4 k4 ∧ SlR w S x.places p5 k5 ∧ SlR w S x.links p6 k6 ∧ SlR w S x.loads p7 k7 ∧ SlR w S x.delays p8 k8 ∧ SlR w S x.extras p9 k9 := by
 obtain ⟨_, _, rfl, ⟨_, _, rfl, ⟨p0, k0, rfl, s0⟩, ⟨_, _, rfl, ⟨_, _, rfl, ⟨p1, k1, rfl, s1⟩, ⟨_, _, rfl, ⟨p2, k2, rfl, s2⟩, ⟨p3, k3, rfl, s3⟩⟩⟩, ⟨p4, k4, rfl, s4⟩⟩⟩, ⟨_, _, rfl, ⟨p5, k5, rfl, s5⟩, ⟨_, _, rfl, ⟨p6, k6, rfl, s6⟩, ⟨_, _, rfl, ⟨p7, k7, rfl, s7⟩, ⟨_, _, rfl, ⟨p8, k8, rfl, s8⟩, ⟨p9, k9, rfl, s9⟩⟩⟩⟩⟩⟩ := h
 exact ⟨p0, k0, p1, k1, p2, k2, p3, k3, p4, k4, p5, k5, p6, k6, p7, k7, p8, k8, p9, k9, rfl, s0, s1, s2, s3, s4, s5, s6, s7, s8, s9⟩
structure Tl05Place where
 instance_ : Int
 pin : Int
 net : Int
 drives : Bool
instance gt_Tl05Place : GoT Tl05Place := isoT (pairT instInt (pairT instInt (pairT instInt instBool))) (fun x => (x.instance_, x.pin, x.net, x.drives)) ⟨0, 0, 0, false⟩ rfl true (fun h => by cases h)
instance fl_Tl05Place : Flat Tl05Place := qhL (pairT instInt (pairT instInt (pairT instInt instBool))) (fun x : Tl05Place => (x.instance_, x.pin, x.net, x.drives)) ⟨0, 0, 0, false⟩ rfl true (fun h => by cases h) (qb4 _ _ (inferInstanceAs (Flat Int)) (qb4 _ _ (inferInstanceAs (Flat Int)) (qb4 _ _ (inferInstanceAs (Flat Int)) (inferInstanceAs (Flat Bool)))))
theorem qjH {w : World} {S : Nat → Prop} {x : Tl05Place} {cs : List Value} (h : GoT.R w S x cs) : cs = [.int .i64 x.instance_, .int .i64 x.pin, .int .i64 x.net, .bool x.drives] := by
 obtain ⟨_, _, rfl, rfl, ⟨_, _, rfl, rfl, ⟨_, _, rfl, rfl, rfl⟩⟩⟩ := h
 exact rfl
theorem qj8 {w : World} {S : Nat → Prop} (x : Tl05Place) : GoT.R w S x [.int .i64 x.instance_, .int .i64 x.pin, .int .i64 x.net, .bool x.drives] := ⟨[.int .i64 x.instance_], [.int .i64 x.pin, .int .i64 x.net, .bool x.drives], rfl, rfl, ⟨[.int .i64 x.pin], [.int .i64 x.net, .bool x.drives], rfl, rfl, ⟨[.int .i64 x.net], [.bool x.drives], rfl, rfl, rfl⟩⟩⟩
structure qS where
 e0 : Int
 e1 : Int
instance gt_TA2_Int : GoT qS := isoT (pairT instInt instInt) (fun x => (x.e0, x.e1)) ⟨0, 0⟩ rfl true (fun h => by cases h)
instance fl_TA2_Int : Flat qS := qhL (pairT instInt instInt) (fun x : qS => (x.e0, x.e1)) ⟨0, 0⟩ rfl true (fun h => by cases h) (qb4 _ _ (inferInstanceAs (Flat Int)) (inferInstanceAs (Flat Int)))
theorem qnB {w : World} {S : Nat → Prop} {x : qS} {cs : List Value} (h : GoT.R w S x cs) : cs = [.int .i64 x.e0, .int .i64 x.e1] := by
 obtain ⟨_, _, rfl, rfl, rfl⟩ := h
 exact rfl
theorem qc0 {w : World} {S : Nat → Prop} (x : qS) : GoT.R w S x [.int .i64 x.e0, .int .i64 x.e1] := ⟨[.int .i64 x.e0], [.int .i64 x.e1], rfl, rfl, rfl⟩
structure qii where
 Early : Int
 Late : Int
instance gt_TSpan : GoT qii := isoT (pairT instInt instInt) (fun x => (x.Early, x.Late)) ⟨0, 0⟩ rfl true (fun h => by cases h)
instance fl_TSpan : Flat qii := qhL (pairT instInt instInt) (fun x : qii => (x.Early, x.Late)) ⟨0, 0⟩ rfl true (fun h => by cases h) (qb4 _ _ (inferInstanceAs (Flat Int)) (inferInstanceAs (Flat Int)))
theorem qoF {w : World} {S : Nat → Prop} {x : qii} {cs : List Value} (h : GoT.R w S x cs) : cs = [.int .i64 x.Early, .int .i64 x.Late] := by
 obtain ⟨_, _, rfl, rfl, rfl⟩ := h
 exact rfl
theorem qna {w : World} {S : Nat → Prop} (x : qii) : GoT.R w S x [.int .i64 x.Early, .int .i64 x.Late] := ⟨[.int .i64 x.Early], [.int .i64 x.Late], rfl, rfl, rfl⟩
def tab : Tab := [
 (2, ⟨.int .i64, 1, 8, some (.int .i64 0), []⟩),
 (3, ⟨.int .i64, 1, 8, some (.int .i64 0), []⟩),
 (4, ⟨.bool, 1, 1, some (.bool false), []⟩),
 (5, ⟨.int .u8, 1, 1, some (.int .u8 0), []⟩),
 (9, ⟨.str, 1, 16, some (.string ByteArray.empty), []⟩),
 (22, ⟨.slice 171, 1, 24, some (.slice none 0 0), []⟩),
 (24, ⟨.struct, 1, 24, some (.agg #[.slice none 0 0]), [(0, 1, some false)]⟩),
 (25, ⟨.slice 174, 1, 24, some (.slice none 0 0), []⟩),
 (26, ⟨.slice 9, 1, 24, some (.slice none 0 0), []⟩),
 (27, ⟨.slice 177, 1, 24, some (.slice none 0 0), []⟩),
 (29, ⟨.struct, 3, 72, some (.agg #[.slice none 0 0, .slice none 0 0, .slice none 0 0]), [(0, 1, some false), (1, 1, some false), (2, 1, some false)]⟩),
 (30, ⟨.slice 122, 1, 24, some (.slice none 0 0), []⟩),
 (32, ⟨.struct, 5, 120, some (.agg #[.slice none 0 0, .slice none 0 0, .slice none 0 0, .slice none 0 0, .slice none 0 0]), [(0, 1, some true), (1, 3, some true), (4, 1, some false)]⟩),
 (33, ⟨.slice 80, 1, 24, some (.slice none 0 0), []⟩),
 (34, ⟨.slice 2, 1, 24, some (.slice none 0 0), []⟩),
 (38, ⟨.struct, 4, 32, some (.agg #[.bool false, .int .i64 0, .int .i64 0, .int .i64 0]), [(0, 1, some false), (1, 1, some false), (2, 1, some false), (3, 1, some false)]⟩),
 (41, ⟨.slice 183, 1, 24, some (.slice none 0 0), []⟩),
 (43, ⟨.struct, 1, 24, some (.agg #[.slice none 0 0]), [(0, 1, some false)]⟩),
 (44, ⟨.slice 185, 1, 24, some (.slice none 0 0), []⟩),
 (45, ⟨.slice 187, 1, 24, some (.slice none 0 0), []⟩),
 (47, ⟨.struct, 3, 72, some (.agg #[.slice none 0 0, .slice none 0 0, .slice none 0 0]), [(0, 1, some false), (1, 1, some false), (2, 1, some false)]⟩),
 (48, ⟨.slice 130, 1, 24, some (.slice none 0 0), []⟩),
 (50, ⟨.struct, 5, 120, some (.agg #[.slice none 0 0, .slice none 0 0, .slice none 0 0, .slice none 0 0, .slice none 0 0]), [(0, 1, some true), (1, 3, some true), (4, 1, some false)]⟩),
 (52, ⟨.slice 87, 1, 24, some (.slice none 0 0), []⟩),
 (70, ⟨.slice 34, 1, 24, some (.slice none 0 0), []⟩),
 (80, ⟨.struct, 5, 88, some (.agg #[.int .i64 0, .int .i64 0, .slice none 0 0, .slice none 0 0, .slice none 0 0]), [(0, 1, some false), (1, 1, some false), (2, 1, some false), (3, 1, some false), (4, 1, some false)]⟩),
 (87, ⟨.struct, 5, 88, some (.agg #[.int .i64 0, .int .i64 0, .slice none 0 0, .slice none 0 0, .slice none 0 0]), [(0, 1, some false), (1, 1, some false), (2, 1, some false), (3, 1, some false), (4, 1, some false)]⟩),
 (89, ⟨.ptr, 1, 8, some (.pointer none), []⟩),
 (104, ⟨.slice 4, 1, 24, some (.slice none 0 0), []⟩),
 (122, ⟨.struct, 4, 96, some (.agg #[.slice none 0 0, .slice none 0 0, .slice none 0 0, .slice none 0 0]), [(0, 1, some false), (1, 1, some false), (2, 1, some false), (3, 1, some false)]⟩),
 (130, ⟨.struct, 4, 96, some (.agg #[.slice none 0 0, .slice none 0 0, .slice none 0 0, .slice none 0 0]), [(0, 1, some false), (1, 1, some false), (2, 1, some false), (3, 1, some false)]⟩),
 (156, ⟨.struct, 4, 32, some (.agg #[.int .i64 0, .int .i64 0, .int .i64 0, .bool false]), [(0, 1, some false), (1, 1, some false), (2, 1, some false), (3, 1, some false)]⟩),
 (157, ⟨.slice 156, 1, 24, some (.slice none 0 0), []⟩),
 (158, ⟨.slice 216, 1, 24, some (.slice none 0 0), []⟩),
 (160, ⟨.struct, 10, 240, some (.agg #[.slice none 0 0, .slice none 0 0, .slice none 0 0, .slice none 0 0, .slice none 0 0, .slice none 0 0, .slice none 0 0, .slice none 0 0, .slice none 0 0, .slice none 0 0]), [(0, 5, some true), (5, 1, some false), (6, 1, some false), (7, 1, some false), (8, 1, some false), (9, 1, some false)]⟩),
 (168, ⟨.slice 257, 1, 24, some (.slice none 0 0), []⟩),
 (169, ⟨.slice 261, 1, 24, some (.slice none 0 0), []⟩),
 (171, ⟨.struct, 7, 112, some (.agg #[.string ByteArray.empty, .int .i64 0, .slice none 0 0, .slice none 0 0, .slice none 0 0, .int .i64 0, .int .i64 0]), [(0, 1, some false), (1, 1, some false), (2, 1, some false), (3, 1, some false), (4, 1, some false), (5, 1, some false), (6, 1, some false)]⟩),
 (174, ⟨.struct, 3, 48, some (.agg #[.string ByteArray.empty, .int .i64 0, .slice none 0 0]), [(0, 1, some false), (1, 1, some false), (2, 1, some false)]⟩),
 (177, ⟨.struct, 3, 32, some (.agg #[.string ByteArray.empty, .int .i64 0, .int .i64 0]), [(0, 1, some false), (1, 1, some false), (2, 1, some false)]⟩),
 (178, ⟨.slice 202, 1, 24, some (.slice none 0 0), []⟩),
 (180, ⟨.slice 238, 1, 24, some (.slice none 0 0), []⟩),
 (181, ⟨.slice 211, 1, 24, some (.slice none 0 0), []⟩),
 (183, ⟨.struct, 7, 112, some (.agg #[.string ByteArray.empty, .int .i64 0, .slice none 0 0, .slice none 0 0, .slice none 0 0, .int .i64 0, .int .i64 0]), [(0, 1, some false), (1, 1, some false), (2, 1, some false), (3, 1, some false), (4, 1, some false), (5, 1, some false), (6, 1, some false)]⟩),
 (185, ⟨.struct, 3, 48, some (.agg #[.string ByteArray.empty, .int .i64 0, .slice none 0 0]), [(0, 1, some false), (1, 1, some false), (2, 1, some false)]⟩),
 (187, ⟨.struct, 3, 32, some (.agg #[.string ByteArray.empty, .int .i64 0, .int .i64 0]), [(0, 1, some false), (1, 1, some false), (2, 1, some false)]⟩),
 (202, ⟨.struct, 4, 32, some (.agg #[.int .i64 0, .int .i64 0, .int .i64 0, .bool false]), [(0, 1, some false), (1, 1, some false), (2, 1, some false), (3, 1, some false)]⟩),
 (209, ⟨.slice 267, 1, 24, some (.slice none 0 0), []⟩),
 (211, ⟨.struct, 6, 80, some (.agg #[.int .i64 0, .int .i64 0, .int .i64 0, .int .i64 0, .slice none 0 0, .slice none 0 0]), [(0, 1, some false), (1, 1, some false), (2, 1, some false), (3, 1, some false), (4, 1, some false), (5, 1, some false)]⟩),
 (216, ⟨.struct, 4, 32, some (.agg #[.int .i64 0, .int .i64 0, .int .i64 0, .int .i64 0]), [(0, 1, some false), (1, 1, some false), (2, 1, some false), (3, 1, some false)]⟩),
 (224, ⟨.slice 3, 1, 24, some (.slice none 0 0), []⟩),
 (236, ⟨.slice 5, 1, 24, some (.slice none 0 0), []⟩),
 (238, ⟨.struct, 4, 40, some (.agg #[.string ByteArray.empty, .int .i64 0, .int .i64 0, .bool false]), [(0, 1, some false), (1, 1, some false), (2, 1, some false), (3, 1, some false)]⟩),
 (246, ⟨.slice 248, 1, 24, some (.slice none 0 0), []⟩),
 (248, ⟨.arr 2 2, 2, 16, some (.agg #[.int .i64 0, .int .i64 0]), []⟩),
 (253, ⟨.int .u64, 1, 8, some (.int .u64 0), []⟩),
 (257, ⟨.struct, 4, 40, some (.agg #[.string ByteArray.empty, .int .i64 0, .int .i64 0, .bool false]), [(0, 1, some false), (1, 1, some false), (2, 1, some false), (3, 1, some false)]⟩),
 (259, ⟨.slice 283, 1, 24, some (.slice none 0 0), []⟩),
 (261, ⟨.struct, 6, 80, some (.agg #[.int .i64 0, .int .i64 0, .int .i64 0, .int .i64 0, .slice none 0 0, .slice none 0 0]), [(0, 1, some false), (1, 1, some false), (2, 1, some false), (3, 1, some false), (4, 1, some false), (5, 1, some false)]⟩),
 (267, ⟨.struct, 3, 72, some (.agg #[.slice none 0 0, .slice none 0 0, .slice none 0 0]), [(0, 1, some false), (1, 1, some false), (2, 1, some false)]⟩),
 (283, ⟨.struct, 3, 72, some (.agg #[.slice none 0 0, .slice none 0 0, .slice none 0 0]), [(0, 1, some false), (1, 1, some false), (2, 1, some false)]⟩),
 (291, ⟨.struct, 2, 16, some (.agg #[.int .i64 0, .int .i64 0]), [(0, 1, some false), (1, 1, some false)]⟩)]
theorem qc : TabOk Tryz.prog tab := TabOk.mk (by kernel_rfl)
theorem rp {n : Nat} {Q : Exit → Act → World → Prop} {k : List It} {e : Env} {w : World} {all : Array Oper} {l : List Oper} {op : Op} {d t : Nat} {ps : String} {af : Array Edge} {v : Value}
  (h : pev tab e op = some v) (hn : Nat.blt d n = true) (hk : Run Tryz.prog n Q (.ops all l :: k) ((d, v) :: e) w) : Run Tryz.prog n Q (.ops all (⟨some d, op, t, ps, af, none⟩ :: l) :: k) e w := r_p qc h hn hk
theorem dp {n : Nat} {Q : Exit → Act → World → Prop} {k : List It} {e : Env} {w : World} {all : Array Oper} {l : List Oper} {op : Op} {d t : Nat} {ps : String} {af : Array Edge} {v : Value}
  (h : pev tab e op = some v) (hn : Nat.blt d n = true) (hk : RunD Tryz.prog n Q k all w l ((d, v) :: e)) : RunD Tryz.prog n Q k all w (⟨some d, op, t, ps, af, none⟩ :: l) e := d_p qc h hn hk
section
variable {P : Program} {n : Nat} {Q : Exit → Act → World → Prop} {k : List It} {e : Env} {w : World}
theorem zSR {i4 : Nat} {o5 : List Oper} {x3 : Code} (h : Run P n Q (.ops o5.toArray o5 :: .code x3 :: k) e w) : Run P n Q (.code (.seq (.region i4 o5.toArray false) x3) :: k) e w := qbr <| qy h
theorem zSSR {i6 : Nat} {o7 : List Oper} {x5 : Code} {x3 : Code} (h : Run P n Q (.ops o7.toArray o7 :: .code x5 :: .code x3 :: k) e w) : Run P n Q (.code (.seq (.seq (.region i6 o7.toArray false) x5) x3) :: k) e w := qbr <| qbr <| qy h
theorem zKSR {i5 : Nat} {o6 : List Oper} {x4 : Code} (h : Run P n Q (.ops o6.toArray o6 :: .code x4 :: k) e w) : Run P n Q (.code .skip :: .code (.seq (.region i5 o6.toArray false) x4) :: k) e w := qdH <| qbr <| qy h
theorem zKSSR {i7 : Nat} {o8 : List Oper} {x6 : Code} {x4 : Code} (h : Run P n Q (.ops o8.toArray o8 :: .code x6 :: .code x4 :: k) e w) : Run P n Q (.code .skip :: .code (.seq (.seq (.region i7 o8.toArray false) x6) x4) :: k) e w := qdH <| qbr <| qbr <| qy h
theorem zNSR {a1 : Array Oper} {i5 : Nat} {o6 : List Oper} {x4 : Code} (h : Run P n Q (.ops o6.toArray o6 :: .code x4 :: k) e w) : Run P n Q (.ops a1 [] :: .code (.seq (.region i5 o6.toArray false) x4) :: k) e w := qb <| qbr <| qy h
theorem zNSSR {a1 : Array Oper} {i7 : Nat} {o8 : List Oper} {x6 : Code} {x4 : Code} (h : Run P n Q (.ops o8.toArray o8 :: .code x6 :: .code x4 :: k) e w) : Run P n Q (.ops a1 [] :: .code (.seq (.seq (.region i7 o8.toArray false) x6) x4) :: k) e w := qb <| qbr <| qbr <| qy h
theorem zKS {x3 : Code} {x4 : Code} (h : Run P n Q (.code x3 :: .code x4 :: k) e w) : Run P n Q (.code .skip :: .code (.seq x3 x4) :: k) e w := qdH <| qbr h
theorem zNS {a1 : Array Oper} {x3 : Code} {x4 : Code} (h : Run P n Q (.code x3 :: .code x4 :: k) e w) : Run P n Q (.ops a1 [] :: .code (.seq x3 x4) :: k) e w := qb <| qbr h
theorem zNSS {a1 : Array Oper} {x5 : Code} {x6 : Code} {x4 : Code} (h : Run P n Q (.code x5 :: .code x6 :: .code x4 :: k) e w) : Run P n Q (.ops a1 [] :: .code (.seq (.seq x5 x6) x4) :: k) e w := qb <| qbr <| qbr h
theorem zBSR {i2 : Nat} {i6 : Nat} {o7 : List Oper} {x5 : Code} (h : Run P n Q (.ops o7.toArray o7 :: .code x5 :: .blk i2 :: k) e w) : Run P n Q (.code (.block i2 (.seq (.region i6 o7.toArray false) x5)) :: k) e w := qv <| qbr <| qy h
theorem zKSB {i5 : Nat} {x6 : Code} {x4 : Code} (h : Run P n Q (.code x6 :: .blk i5 :: .code x4 :: k) e w) : Run P n Q (.code .skip :: .code (.seq (.block i5 x6) x4) :: k) e w := qdH <| qbr <| qv h
theorem zKSBR {i5 : Nat} {i7 : Nat} {o8 : List Oper} {x4 : Code} (h : Run P n Q (.ops o8.toArray o8 :: .blk i5 :: .code x4 :: k) e w) : Run P n Q (.code .skip :: .code (.seq (.block i5 (.region i7 o8.toArray false)) x4) :: k) e w := qdH <| qbr <| qv <| qy h
theorem zKSBSR {i5 : Nat} {i9 : Nat} {o10 : List Oper} {x8 : Code} {x4 : Code} (h : Run P n Q (.ops o10.toArray o10 :: .code x8 :: .blk i5 :: .code x4 :: k) e w) : Run P n Q (.code .skip :: .code (.seq (.block i5 (.seq (.region i9 o10.toArray false) x8)) x4) :: k) e w := qdH <| qbr <| qv <| qbr <| qy h
theorem zKE {i2 : Nat} (h : Run P n Q (k) e w) : Run P n Q (.code .skip :: .blk i2 :: k) e w := qdH <| qf2 h
theorem zKER {i4 : Nat} {o5 : List Oper} {i2 : Nat} (h : Run P n Q (.ops o5.toArray o5 :: k) e w) : Run P n Q (.code .skip :: .blk i2 :: .code (.region i4 o5.toArray false) :: k) e w := qdH <| qf2 <| qy h
theorem zNE {a1 : Array Oper} {i2 : Nat} (h : Run P n Q (k) e w) : Run P n Q (.ops a1 [] :: .blk i2 :: k) e w := qb <| qf2 h
theorem zNER {a1 : Array Oper} {i4 : Nat} {o5 : List Oper} {i2 : Nat} (h : Run P n Q (.ops o5.toArray o5 :: k) e w) : Run P n Q (.ops a1 [] :: .blk i2 :: .code (.region i4 o5.toArray false) :: k) e w := qb <| qf2 <| qy h
theorem zNSB {a1 : Array Oper} {i5 : Nat} {x6 : Code} {x4 : Code} (h : Run P n Q (.code x6 :: .blk i5 :: .code x4 :: k) e w) : Run P n Q (.ops a1 [] :: .code (.seq (.block i5 x6) x4) :: k) e w := qb <| qbr <| qv h
theorem zSS {x4 : Code} {x5 : Code} {x3 : Code} (h : Run P n Q (.code x4 :: .code x5 :: .code x3 :: k) e w) : Run P n Q (.code (.seq (.seq x4 x5) x3) :: k) e w := qbr <| qbr h
theorem zKSS {x5 : Code} {x6 : Code} {x4 : Code} (h : Run P n Q (.code x5 :: .code x6 :: .code x4 :: k) e w) : Run P n Q (.code .skip :: .code (.seq (.seq x5 x6) x4) :: k) e w := qdH <| qbr <| qbr h
theorem zKB {i3 : Nat} {x4 : Code} (h : Run P n Q (.code x4 :: .blk i3 :: k) e w) : Run P n Q (.code .skip :: .code (.block i3 x4) :: k) e w := qdH <| qv h
end
section
variable {w0 w : World} {L : List Ch} {n : Nat} {Q : Exit → Act → World → Prop} {k : List It} {e : Env} {all : Array Oper} {l : List Oper}
theorem zp1 {op0 : Op} {d0 t0 : Nat} {s0 : String} {f0 : Array Edge} {v0 : Value} (h : (pev tab (e) op0, Nat.blt d0 n) = (some v0, true)) (hk : Run Tryz.prog n Q (.ops all l :: k) ((d0, v0) :: e) w) : Run Tryz.prog n Q (.ops all (⟨some d0, op0, t0, s0, f0, none⟩ :: l) :: k) e w := by
 have H := h
 simp only [Prod.mk.injEq] at H
 exact rp (H.1) (H.2) (hk)
theorem zd1 {op0 : Op} {d0 t0 : Nat} {s0 : String} {f0 : Array Edge} {v0 : Value} (h : (pev tab (e) op0, Nat.blt d0 n) = (some v0, true)) (hk : RunD Tryz.prog n Q k all w l ((d0, v0) :: e)) : RunD Tryz.prog n Q k all w (⟨some d0, op0, t0, s0, f0, none⟩ :: l) e := by
 have H := h
 simp only [Prod.mk.injEq] at H
 exact dp (H.1) (H.2) (hk)
theorem zp2 {op0 : Op} {d0 t0 : Nat} {s0 : String} {f0 : Array Edge} {v0 : Value} {op1 : Op} {d1 t1 : Nat} {s1 : String} {f1 : Array Edge} {v1 : Value} (h : (pev tab (e) op0, Nat.blt d0 n, pev tab ((d0, v0) :: e) op1, Nat.blt d1 n) = (some v0, true, some v1, true)) (hk : Run Tryz.prog n Q (.ops all l :: k) ((d1, v1) :: (d0, v0) :: e) w) : Run Tryz.prog n Q (.ops all (⟨some d0, op0, t0, s0, f0, none⟩ :: ⟨some d1, op1, t1, s1, f1, none⟩ :: l) :: k) e w := by
 have H := h
 simp only [Prod.mk.injEq] at H
 exact rp (H.1) (H.2.1) (rp (H.2.2.1) (H.2.2.2) (hk))
theorem zd2 {op0 : Op} {d0 t0 : Nat} {s0 : String} {f0 : Array Edge} {v0 : Value} {op1 : Op} {d1 t1 : Nat} {s1 : String} {f1 : Array Edge} {v1 : Value} (h : (pev tab (e) op0, Nat.blt d0 n, pev tab ((d0, v0) :: e) op1, Nat.blt d1 n) = (some v0, true, some v1, true)) (hk : RunD Tryz.prog n Q k all w l ((d1, v1) :: (d0, v0) :: e)) : RunD Tryz.prog n Q k all w (⟨some d0, op0, t0, s0, f0, none⟩ :: ⟨some d1, op1, t1, s1, f1, none⟩ :: l) e := by
 have H := h
 simp only [Prod.mk.injEq] at H
 exact dp (H.1) (H.2.1) (dp (H.2.2.1) (H.2.2.2) (hk))
theorem zp3 {op0 : Op} {d0 t0 : Nat} {s0 : String} {f0 : Array Edge} {v0 : Value} {op1 : Op} {d1 t1 : Nat} {s1 : String} {f1 : Array Edge} {v1 : Value} {op2 : Op} {d2 t2 : Nat} {s2 : String} {f2 : Array Edge} {v2 : Value} (h : (pev tab (e) op0, Nat.blt d0 n, pev tab ((d0, v0) :: e) op1, Nat.blt d1 n, pev tab ((d1, v1) :: (d0, v0) :: e) op2, Nat.blt d2 n) = (some v0, true, some v1, true, some v2, true)) (hk : Run Tryz.prog n Q (.ops all l :: k) ((d2, v2) :: (d1, v1) :: (d0, v0) :: e) w) : Run Tryz.prog n Q (.ops all (⟨some d0, op0, t0, s0, f0, none⟩ :: ⟨some d1, op1, t1, s1, f1, none⟩ :: ⟨some d2, op2, t2, s2, f2, none⟩ :: l) :: k) e w := by
 have H := h
 simp only [Prod.mk.injEq] at H
 exact rp (H.1) (H.2.1) (rp (H.2.2.1) (H.2.2.2.1) (rp (H.2.2.2.2.1) (H.2.2.2.2.2) (hk)))
theorem zd3 {op0 : Op} {d0 t0 : Nat} {s0 : String} {f0 : Array Edge} {v0 : Value} {op1 : Op} {d1 t1 : Nat} {s1 : String} {f1 : Array Edge} {v1 : Value} {op2 : Op} {d2 t2 : Nat} {s2 : String} {f2 : Array Edge} {v2 : Value} (h : (pev tab (e) op0, Nat.blt d0 n, pev tab ((d0, v0) :: e) op1, Nat.blt d1 n, pev tab ((d1, v1) :: (d0, v0) :: e) op2, Nat.blt d2 n) = (some v0, true, some v1, true, some v2, true)) (hk : RunD Tryz.prog n Q k all w l ((d2, v2) :: (d1, v1) :: (d0, v0) :: e)) : RunD Tryz.prog n Q k all w (⟨some d0, op0, t0, s0, f0, none⟩ :: ⟨some d1, op1, t1, s1, f1, none⟩ :: ⟨some d2, op2, t2, s2, f2, none⟩ :: l) e := by
 have H := h
 simp only [Prod.mk.injEq] at H
 exact dp (H.1) (H.2.1) (dp (H.2.2.1) (H.2.2.2.1) (dp (H.2.2.2.2.1) (H.2.2.2.2.2) (hk)))
theorem zp4 {op0 : Op} {d0 t0 : Nat} {s0 : String} {f0 : Array Edge} {v0 : Value} {op1 : Op} {d1 t1 : Nat} {s1 : String} {f1 : Array Edge} {v1 : Value} {op2 : Op} {d2 t2 : Nat} {s2 : String} {f2 : Array Edge} {v2 : Value} {op3 : Op} {d3 t3 : Nat} {s3 : String} {f3 : Array Edge} {v3 : Value} (h : (pev tab (e) op0, Nat.blt d0 n, pev tab ((d0, v0) :: e) op1, Nat.blt d1 n, pev tab ((d1, v1) :: (d0, v0) :: e) op2, Nat.blt d2 n, pev tab ((d2, v2) :: (d1, v1) :: (d0, v0) :: e) op3, Nat.blt d3 n) = (some v0, true, some v1, true, some v2, true, some v3, true)) (hk : Run Tryz.prog n Q (.ops all l :: k) ((d3, v3) :: (d2, v2) :: (d1, v1) :: (d0, v0) :: e) w) : Run Tryz.prog n Q (.ops all (⟨some d0, op0, t0, s0, f0, none⟩ :: ⟨some d1, op1, t1, s1, f1, none⟩ :: ⟨some d2, op2, t2, s2, f2, none⟩ :: ⟨some d3, op3, t3, s3, f3, none⟩ :: l) :: k) e w := by
 have H := h
 simp only [Prod.mk.injEq] at H
 exact rp (H.1) (H.2.1) (rp (H.2.2.1) (H.2.2.2.1) (rp (H.2.2.2.2.1) (H.2.2.2.2.2.1) (rp (H.2.2.2.2.2.2.1) (H.2.2.2.2.2.2.2) (hk))))
theorem zp5 {op0 : Op} {d0 t0 : Nat} {s0 : String} {f0 : Array Edge} {v0 : Value} {op1 : Op} {d1 t1 : Nat} {s1 : String} {f1 : Array Edge} {v1 : Value} {op2 : Op} {d2 t2 : Nat} {s2 : String} {f2 : Array Edge} {v2 : Value} {op3 : Op} {d3 t3 : Nat} {s3 : String} {f3 : Array Edge} {v3 : Value} {op4 : Op} {d4 t4 : Nat} {s4 : String} {f4 : Array Edge} {v4 : Value} (h : (pev tab (e) op0, Nat.blt d0 n, pev tab ((d0, v0) :: e) op1, Nat.blt d1 n, pev tab ((d1, v1) :: (d0, v0) :: e) op2, Nat.blt d2 n, pev tab ((d2, v2) :: (d1, v1) :: (d0, v0) :: e) op3, Nat.blt d3 n, pev tab ((d3, v3) :: (d2, v2) :: (d1, v1) :: (d0, v0) :: e) op4, Nat.blt d4 n) = (some v0, true, some v1, true, some v2, true, some v3, true, some v4, true)) (hk : Run Tryz.prog n Q (.ops all l :: k) ((d4, v4) :: (d3, v3) :: (d2, v2) :: (d1, v1) :: (d0, v0) :: e) w) : Run Tryz.prog n Q (.ops all (⟨some d0, op0, t0, s0, f0, none⟩ :: ⟨some d1, op1, t1, s1, f1, none⟩ :: ⟨some d2, op2, t2, s2, f2, none⟩ :: ⟨some d3, op3, t3, s3, f3, none⟩ :: ⟨some d4, op4, t4, s4, f4, none⟩ :: l) :: k) e w := by
 have H := h
 simp only [Prod.mk.injEq] at H
 exact rp (H.1) (H.2.1) (rp (H.2.2.1) (H.2.2.2.1) (rp (H.2.2.2.2.1) (H.2.2.2.2.2.1) (rp (H.2.2.2.2.2.2.1) (H.2.2.2.2.2.2.2.1) (rp (H.2.2.2.2.2.2.2.2.1) (H.2.2.2.2.2.2.2.2.2) (hk)))))
theorem zn1 {o0 : Oper} {d0 : Nat} (h : (notW (e) all o0, o0.dst, Nat.blt d0 n) = (true, some d0, true)) (hk : Run Tryz.prog n Q (.ops all l :: k) ((d0, undef) :: e) w) : Run Tryz.prog n Q (.ops all (o0 :: l) :: k) e w := by
 have H := h
 simp only [Prod.mk.injEq] at H
 exact qik (H.1) (H.2.1) (H.2.2) (hk)
theorem zn2 {o0 : Oper} {d0 : Nat} {o1 : Oper} {d1 : Nat} (h : (notW (e) all o0, o0.dst, Nat.blt d0 n, notW ((d0, undef) :: e) all o1, o1.dst, Nat.blt d1 n) = (true, some d0, true, true, some d1, true)) (hk : Run Tryz.prog n Q (.ops all l :: k) ((d1, undef) :: (d0, undef) :: e) w) : Run Tryz.prog n Q (.ops all (o0 :: o1 :: l) :: k) e w := by
 have H := h
 simp only [Prod.mk.injEq] at H
 exact qik (H.1) (H.2.1) (H.2.2.1) (qik (H.2.2.2.1) (H.2.2.2.2.1) (H.2.2.2.2.2) (hk))
theorem zn3 {o0 : Oper} {d0 : Nat} {o1 : Oper} {d1 : Nat} {o2 : Oper} {d2 : Nat} (h : (notW (e) all o0, o0.dst, Nat.blt d0 n, notW ((d0, undef) :: e) all o1, o1.dst, Nat.blt d1 n, notW ((d1, undef) :: (d0, undef) :: e) all o2, o2.dst, Nat.blt d2 n) = (true, some d0, true, true, some d1, true, true, some d2, true)) (hk : Run Tryz.prog n Q (.ops all l :: k) ((d2, undef) :: (d1, undef) :: (d0, undef) :: e) w) : Run Tryz.prog n Q (.ops all (o0 :: o1 :: o2 :: l) :: k) e w := by
 have H := h
 simp only [Prod.mk.injEq] at H
 exact qik (H.1) (H.2.1) (H.2.2.1) (qik (H.2.2.2.1) (H.2.2.2.2.1) (H.2.2.2.2.2.1) (qik (H.2.2.2.2.2.2.1) (H.2.2.2.2.2.2.2.1) (H.2.2.2.2.2.2.2.2) (hk)))
theorem zn4 {o0 : Oper} {d0 : Nat} {o1 : Oper} {d1 : Nat} {o2 : Oper} {d2 : Nat} {o3 : Oper} {d3 : Nat} (h : (notW (e) all o0, o0.dst, Nat.blt d0 n, notW ((d0, undef) :: e) all o1, o1.dst, Nat.blt d1 n, notW ((d1, undef) :: (d0, undef) :: e) all o2, o2.dst, Nat.blt d2 n, notW ((d2, undef) :: (d1, undef) :: (d0, undef) :: e) all o3, o3.dst, Nat.blt d3 n) = (true, some d0, true, true, some d1, true, true, some d2, true, true, some d3, true)) (hk : Run Tryz.prog n Q (.ops all l :: k) ((d3, undef) :: (d2, undef) :: (d1, undef) :: (d0, undef) :: e) w) : Run Tryz.prog n Q (.ops all (o0 :: o1 :: o2 :: o3 :: l) :: k) e w := by
 have H := h
 simp only [Prod.mk.injEq] at H
 exact qik (H.1) (H.2.1) (H.2.2.1) (qik (H.2.2.2.1) (H.2.2.2.2.1) (H.2.2.2.2.2.1) (qik (H.2.2.2.2.2.2.1) (H.2.2.2.2.2.2.2.1) (H.2.2.2.2.2.2.2.2.1) (qik (H.2.2.2.2.2.2.2.2.2.1) (H.2.2.2.2.2.2.2.2.2.2.1) (H.2.2.2.2.2.2.2.2.2.2.2) (hk))))
theorem zn5 {o0 : Oper} {d0 : Nat} {o1 : Oper} {d1 : Nat} {o2 : Oper} {d2 : Nat} {o3 : Oper} {d3 : Nat} {o4 : Oper} {d4 : Nat} (h : (notW (e) all o0, o0.dst, Nat.blt d0 n, notW ((d0, undef) :: e) all o1, o1.dst, Nat.blt d1 n, notW ((d1, undef) :: (d0, undef) :: e) all o2, o2.dst, Nat.blt d2 n, notW ((d2, undef) :: (d1, undef) :: (d0, undef) :: e) all o3, o3.dst, Nat.blt d3 n, notW ((d3, undef) :: (d2, undef) :: (d1, undef) :: (d0, undef) :: e) all o4, o4.dst, Nat.blt d4 n) = (true, some d0, true, true, some d1, true, true, some d2, true, true, some d3, true, true, some d4, true)) (hk : Run Tryz.prog n Q (.ops all l :: k) ((d4, undef) :: (d3, undef) :: (d2, undef) :: (d1, undef) :: (d0, undef) :: e) w) : Run Tryz.prog n Q (.ops all (o0 :: o1 :: o2 :: o3 :: o4 :: l) :: k) e w := by
 have H := h
 simp only [Prod.mk.injEq] at H
 exact qik (H.1) (H.2.1) (H.2.2.1) (qik (H.2.2.2.1) (H.2.2.2.2.1) (H.2.2.2.2.2.1) (qik (H.2.2.2.2.2.2.1) (H.2.2.2.2.2.2.2.1) (H.2.2.2.2.2.2.2.2.1) (qik (H.2.2.2.2.2.2.2.2.2.1) (H.2.2.2.2.2.2.2.2.2.2.1) (H.2.2.2.2.2.2.2.2.2.2.2.1) (qik (H.2.2.2.2.2.2.2.2.2.2.2.2.1) (H.2.2.2.2.2.2.2.2.2.2.2.2.2.1) (H.2.2.2.2.2.2.2.2.2.2.2.2.2.2) (hk)))))
theorem zl (i j : Nat) {d t ty : Nat} {x : Operand} {te : TE} {ps : String} {af : Array Edge} {v : Value} {b : Nat} {cs : List Value} {t' : TypeId} (h : SH w0 w L) (hh : (L[i]?, opv e x, tab.get t, ld te cs j, Nat.blt d n) = (some (Ch.box b cs t'), some (.pointer (some ⟨b, 0 + j, none⟩)), some te, some v, true))
  (hk : Run Tryz.prog n Q (.ops all l :: k) ((d, v) :: e) w) : Run Tryz.prog n Q (.ops all (⟨some d, .load t x, ty, ps, af, none⟩ :: l) :: k) e w := by
 simp only [Prod.mk.injEq] at hh
 exact r_v (qda qc (h.box i hh.1) (j := j) hh.2.1 hh.2.2.1 hh.2.2.2.1) hh.2.2.2.2 hk
theorem zc (j : Nat) {d t ty : Nat} {x : Operand} {te : TE} {ps : String} {af : Array Edge} {v : Value} {b o : Nat} {cs : List Value} (h : CellsAt w b o cs) (hh : (opv e x, tab.get t, ld te cs j, Nat.blt d n) = (some (.pointer (some ⟨b, o + j, none⟩)), some te, some v, true))
  (hk : Run Tryz.prog n Q (.ops all l :: k) ((d, v) :: e) w) : Run Tryz.prog n Q (.ops all (⟨some d, .load t x, ty, ps, af, none⟩ :: l) :: k) e w := by
 simp only [Prod.mk.injEq] at hh
 exact r_v (qda qc h (j := j) hh.1 hh.2.1 hh.2.2.1) hh.2.2.2 hk
theorem zdl (i j : Nat) {d t ty : Nat} {x : Operand} {te : TE} {ps : String} {af : Array Edge} {v : Value} {b : Nat} {cs : List Value} {t' : TypeId} (h : SH w0 w L) (hh : (L[i]?, opv e x, tab.get t, ld te cs j, Nat.blt d n) = (some (Ch.box b cs t'), some (.pointer (some ⟨b, 0 + j, none⟩)), some te, some v, true))
  (hk : RunD Tryz.prog n Q k all w l ((d, v) :: e)) : RunD Tryz.prog n Q k all w (⟨some d, .load t x, ty, ps, af, none⟩ :: l) e := by
 simp only [Prod.mk.injEq] at hh
 exact d_v (fun _ hb => qda qc ((h.box i hh.1).below hb) (j := j) hh.2.1 hh.2.2.1 hh.2.2.2.1) hh.2.2.2.2 hk
theorem zdc (j : Nat) {d t ty : Nat} {x : Operand} {te : TE} {ps : String} {af : Array Edge} {v : Value} {b o : Nat} {cs : List Value} (h : CellsAt w b o cs) (hh : (opv e x, tab.get t, ld te cs j, Nat.blt d n) = (some (.pointer (some ⟨b, o + j, none⟩)), some te, some v, true))
  (hk : RunD Tryz.prog n Q k all w l ((d, v) :: e)) : RunD Tryz.prog n Q k all w (⟨some d, .load t x, ty, ps, af, none⟩ :: l) e := by
 simp only [Prod.mk.injEq] at hh
 exact d_v (fun _ hb => qda qc (h.below hb) (j := j) hh.1 hh.2.1 hh.2.2.1) hh.2.2.2 hk
theorem zx {x i : Operand} {t ty d el m : Nat} {te te1 : TE} {ps : String} {af : Array Edge} {p : Option Addr} {ln c : Nat} {kd : IntKind} {iv : Int} {b o q : Nat} (hp : p = some ⟨b, o, none⟩) (hq : q = o + iv.toNat * m) (hlt : 0 ≤ iv ∧ iv < ln) (hh : (opv e x, opv e i, tab.get t, te.kind, tab.get el, te1.size, Nat.blt d n) = (some (.slice p ln c), some (.int kd iv), some te, TK.slice el, some te1, m, true)) (hk : Run Tryz.prog n Q (.ops all l :: k) ((d, .pointer (some ⟨b, q, none⟩)) :: e) w) : Run Tryz.prog n Q (.ops all (⟨some d, .indexAddr t x i, ty, ps, af, none⟩ :: l) :: k) e w := by
 simp only [Prod.mk.injEq] at hh
 exact r_v (qhn qc hp hq hlt hh.1 hh.2.1 hh.2.2.1 hh.2.2.2.1 hh.2.2.2.2.1 hh.2.2.2.2.2.1) hh.2.2.2.2.2.2 hk
theorem zxe {x i : Operand} {t ty d el m : Nat} {te te1 : TE} {ps : String} {af : Array Edge} {p : Option Addr} {ln c : Nat} {kd : IntKind} {iv : Int} {b o q : Nat} {α : Prop} (hp : p = some ⟨b, o, none⟩) (hq : q = o + iv.toNat * m) (hlt : 0 ≤ iv ∧ iv < ln ∧ α) (hh : (opv e x, opv e i, tab.get t, te.kind, tab.get el, te1.size, Nat.blt d n) = (some (.slice p ln c), some (.int kd iv), some te, TK.slice el, some te1, m, true)) (hk : Run Tryz.prog n Q (.ops all l :: k) ((d, .pointer (some ⟨b, q, none⟩)) :: e) w) : Run Tryz.prog n Q (.ops all (⟨some d, .indexAddr t x i, ty, ps, af, none⟩ :: l) :: k) e w := zx hp hq ⟨hlt.1, hlt.2.1⟩ hh hk
theorem zdx {x i : Operand} {t ty d el m : Nat} {te te1 : TE} {ps : String} {af : Array Edge} {p : Option Addr} {ln c : Nat} {kd : IntKind} {iv : Int} {b o q : Nat} (hp : p = some ⟨b, o, none⟩) (hq : q = o + iv.toNat * m) (hlt : 0 ≤ iv ∧ iv < ln) (hh : (opv e x, opv e i, tab.get t, te.kind, tab.get el, te1.size, Nat.blt d n) = (some (.slice p ln c), some (.int kd iv), some te, TK.slice el, some te1, m, true)) (hk : RunD Tryz.prog n Q k all w l ((d, .pointer (some ⟨b, q, none⟩)) :: e)) : RunD Tryz.prog n Q k all w (⟨some d, .indexAddr t x i, ty, ps, af, none⟩ :: l) e := by
 simp only [Prod.mk.injEq] at hh
 exact d_v (fun _ _ => qhn qc hp hq hlt hh.1 hh.2.1 hh.2.2.1 hh.2.2.2.1 hh.2.2.2.2.1 hh.2.2.2.2.2.1) hh.2.2.2.2.2.2 hk
theorem zdxe {x i : Operand} {t ty d el m : Nat} {te te1 : TE} {ps : String} {af : Array Edge} {p : Option Addr} {ln c : Nat} {kd : IntKind} {iv : Int} {b o q : Nat} {α : Prop} (hp : p = some ⟨b, o, none⟩) (hq : q = o + iv.toNat * m) (hlt : 0 ≤ iv ∧ iv < ln ∧ α) (hh : (opv e x, opv e i, tab.get t, te.kind, tab.get el, te1.size, Nat.blt d n) = (some (.slice p ln c), some (.int kd iv), some te, TK.slice el, some te1, m, true)) (hk : RunD Tryz.prog n Q k all w l ((d, .pointer (some ⟨b, q, none⟩)) :: e)) : RunD Tryz.prog n Q k all w (⟨some d, .indexAddr t x i, ty, ps, af, none⟩ :: l) e := zdx hp hq ⟨hlt.1, hlt.2.1⟩ hh hk
theorem zs (i : Nat) {t ty : Nat} {ps : String} {af : Array Edge} {x v : Operand} {te : TE} {b j : Nat} {cs : List Value} {t' : TypeId} {u : Value} (h : SH w0 w L)
  (hh : (L[i]?, opv e x, opv e v, tab.get t, Nat.beq (cellsL u).length te.size, Nat.ble (j + (cellsL u).length) cs.length, ones (cellsL u)) = (some (Ch.box b cs t'), some (.pointer (some ⟨b, j, none⟩)), some u, some te, true, true, true))
  (hk : ∀ w', SH w0 w' (L.set i (Ch.box b (splice cs j (cellsL u)) t')) → Run Tryz.prog n Q (.ops all l :: k) e w') : Run Tryz.prog n Q (.ops all (⟨none, .store t x v, ty, ps, af, none⟩ :: l) :: k) e w := by
 simp only [Prod.mk.injEq] at hh
 exact qrr qc i h hh.1 hh.2.1 hh.2.2.1 hh.2.2.2.1 hh.2.2.2.2.1 hh.2.2.2.2.2.1 hh.2.2.2.2.2.2 hk
theorem zb {b : Bool} (h : ¬ b = true) : b = false := Bool.eq_false_iff.2 h
end
theorem call9 : qm Tryz.prog 9 := ⟨_, Tryz.func9, rfl, by kernel_rfl⟩
theorem call10 : qm Tryz.prog 10 := ⟨_, Tryz.func10, rfl, by kernel_rfl⟩
theorem call12 : qm Tryz.prog 12 := ⟨_, Tryz.func12, rfl, by kernel_rfl⟩
theorem call13 : qm Tryz.prog 13 := ⟨_, Tryz.func13, rfl, by kernel_rfl⟩
theorem call14 : qm Tryz.prog 14 := ⟨_, Tryz.func14, rfl, by kernel_rfl⟩
theorem call17 : qm Tryz.prog 17 := ⟨_, Tryz.func17, rfl, by kernel_rfl⟩
theorem call18 : qm Tryz.prog 18 := ⟨_, Tryz.func18, rfl, by kernel_rfl⟩
theorem call19 : qm Tryz.prog 19 := ⟨_, Tryz.func19, rfl, by kernel_rfl⟩
theorem call22 : qm Tryz.prog 22 := ⟨_, Tryz.func22, rfl, by kernel_rfl⟩
theorem call23 : qm Tryz.prog 23 := ⟨_, Tryz.func23, rfl, by kernel_rfl⟩
theorem call24 : qm Tryz.prog 24 := ⟨_, Tryz.func24, rfl, by kernel_rfl⟩
theorem call25 : qm Tryz.prog 25 := ⟨_, Tryz.func25, rfl, by kernel_rfl⟩
theorem call26 : qm Tryz.prog 26 := ⟨_, Tryz.func26, rfl, by kernel_rfl⟩
theorem call27 : qm Tryz.prog 27 := ⟨_, Tryz.func27, rfl, by kernel_rfl⟩
theorem call37 : qm Tryz.prog 37 := ⟨_, Tryz.func37, rfl, by kernel_rfl⟩
theorem call38 : qm Tryz.prog 38 := ⟨_, Tryz.func38, rfl, by kernel_rfl⟩
theorem call39 : qm Tryz.prog 39 := ⟨_, Tryz.func39, rfl, by kernel_rfl⟩
theorem call40 : qm Tryz.prog 40 := ⟨_, Tryz.func40, rfl, by kernel_rfl⟩
theorem call41 : qm Tryz.prog 41 := ⟨_, Tryz.func41, rfl, by kernel_rfl⟩
theorem call44 : qm Tryz.prog 44 := ⟨_, Tryz.func44, rfl, by kernel_rfl⟩
theorem call45 : qm Tryz.prog 45 := ⟨_, Tryz.func45, rfl, by kernel_rfl⟩
theorem call46 : qm Tryz.prog 46 := ⟨_, Tryz.func46, rfl, by kernel_rfl⟩
theorem call47 : qm Tryz.prog 47 := ⟨_, Tryz.func47, rfl, by kernel_rfl⟩
theorem call48 : qm Tryz.prog 48 := ⟨_, Tryz.func48, rfl, by kernel_rfl⟩
theorem call51 : qm Tryz.prog 51 := ⟨_, Tryz.func51, rfl, by kernel_rfl⟩
theorem call52 : qm Tryz.prog 52 := ⟨_, Tryz.func52, rfl, by kernel_rfl⟩
theorem call53 : qm Tryz.prog 53 := ⟨_, Tryz.func53, rfl, by kernel_rfl⟩
theorem call54 : qm Tryz.prog 54 := ⟨_, Tryz.func54, rfl, by kernel_rfl⟩
theorem call55 : qm Tryz.prog 55 := ⟨_, Tryz.func55, rfl, by kernel_rfl⟩
theorem call57 : qm Tryz.prog 57 := ⟨_, Tryz.func57, rfl, by kernel_rfl⟩
theorem call58 : qm Tryz.prog 58 := ⟨_, Tryz.func58, rfl, by kernel_rfl⟩
theorem call59 : qm Tryz.prog 59 := ⟨_, Tryz.func59, rfl, by kernel_rfl⟩
theorem call60 : qm Tryz.prog 60 := ⟨_, Tryz.func60, rfl, by kernel_rfl⟩
theorem call61 : qm Tryz.prog 61 := ⟨_, Tryz.func61, rfl, by kernel_rfl⟩
theorem call62 : qm Tryz.prog 62 := ⟨_, Tryz.func62, rfl, by kernel_rfl⟩
theorem call66 : qm Tryz.prog 66 := ⟨_, Tryz.func66, rfl, by kernel_rfl⟩
theorem call71 : qm Tryz.prog 71 := ⟨_, Tryz.func71, rfl, by kernel_rfl⟩
theorem call72 : qm Tryz.prog 72 := ⟨_, Tryz.func72, rfl, by kernel_rfl⟩
theorem call73 : qm Tryz.prog 73 := ⟨_, Tryz.func73, rfl, by kernel_rfl⟩
theorem call74 : qm Tryz.prog 74 := ⟨_, Tryz.func74, rfl, by kernel_rfl⟩
theorem call75 : qm Tryz.prog 75 := ⟨_, Tryz.func75, rfl, by kernel_rfl⟩
theorem call76 : qm Tryz.prog 76 := ⟨_, Tryz.func76, rfl, by kernel_rfl⟩
theorem call77 : qm Tryz.prog 77 := ⟨_, Tryz.func77, rfl, by kernel_rfl⟩
theorem call78 : qm Tryz.prog 78 := ⟨_, Tryz.func78, rfl, by kernel_rfl⟩
theorem call79 : qm Tryz.prog 79 := ⟨_, Tryz.func79, rfl, by kernel_rfl⟩
theorem call80 : qm Tryz.prog 80 := ⟨_, Tryz.func80, rfl, by kernel_rfl⟩
theorem call81 : qm Tryz.prog 81 := ⟨_, Tryz.func81, rfl, by kernel_rfl⟩
theorem call82 : qm Tryz.prog 82 := ⟨_, Tryz.func82, rfl, by kernel_rfl⟩
theorem call83 : qm Tryz.prog 83 := ⟨_, Tryz.func83, rfl, by kernel_rfl⟩
theorem call84 : qm Tryz.prog 84 := ⟨_, Tryz.func84, rfl, by kernel_rfl⟩
theorem call85 : qm Tryz.prog 85 := ⟨_, Tryz.func85, rfl, by kernel_rfl⟩
theorem call86 : qm Tryz.prog 86 := ⟨_, Tryz.func86, rfl, by kernel_rfl⟩
theorem call87 : qm Tryz.prog 87 := ⟨_, Tryz.func87, rfl, by kernel_rfl⟩
theorem call90 : qm Tryz.prog 90 := ⟨_, Tryz.func90, rfl, by kernel_rfl⟩
theorem call92 : qm Tryz.prog 92 := ⟨_, Tryz.func92, rfl, by kernel_rfl⟩
theorem call93 : qm Tryz.prog 93 := ⟨_, Tryz.func93, rfl, by kernel_rfl⟩
theorem call94 : qm Tryz.prog 94 := ⟨_, Tryz.func94, rfl, by kernel_rfl⟩
theorem call95 : qm Tryz.prog 95 := ⟨_, Tryz.func95, rfl, by kernel_rfl⟩
theorem call96 : qm Tryz.prog 96 := ⟨_, Tryz.func96, rfl, by kernel_rfl⟩
theorem call97 : qm Tryz.prog 97 := ⟨_, Tryz.func97, rfl, by kernel_rfl⟩
theorem call98 : qm Tryz.prog 98 := ⟨_, Tryz.func98, rfl, by kernel_rfl⟩
theorem call99 : qm Tryz.prog 99 := ⟨_, Tryz.func99, rfl, by kernel_rfl⟩
theorem call100 : qm Tryz.prog 100 := ⟨_, Tryz.func100, rfl, by kernel_rfl⟩
theorem call101 : qm Tryz.prog 101 := ⟨_, Tryz.func101, rfl, by kernel_rfl⟩
theorem call102 : qm Tryz.prog 102 := ⟨_, Tryz.func102, rfl, by kernel_rfl⟩
theorem call103 : qm Tryz.prog 103 := ⟨_, Tryz.func103, rfl, by kernel_rfl⟩
theorem call104 : qm Tryz.prog 104 := ⟨_, Tryz.func104, rfl, by kernel_rfl⟩
theorem call105 : qm Tryz.prog 105 := ⟨_, Tryz.func105, rfl, by kernel_rfl⟩
theorem call108 : qm Tryz.prog 108 := ⟨_, Tryz.func108, rfl, by kernel_rfl⟩
theorem call109 : qm Tryz.prog 109 := ⟨_, Tryz.func109, rfl, by kernel_rfl⟩
theorem call110 : qm Tryz.prog 110 := ⟨_, Tryz.func110, rfl, by kernel_rfl⟩
theorem call111 : qm Tryz.prog 111 := ⟨_, Tryz.func111, rfl, by kernel_rfl⟩
theorem call112 : qm Tryz.prog 112 := ⟨_, Tryz.func112, rfl, by kernel_rfl⟩
theorem call113 : qm Tryz.prog 113 := ⟨_, Tryz.func113, rfl, by kernel_rfl⟩
theorem call114 : qm Tryz.prog 114 := ⟨_, Tryz.func114, rfl, by kernel_rfl⟩
theorem call121 : qm Tryz.prog 121 := ⟨_, Tryz.func121, rfl, by kernel_rfl⟩
theorem call122 : qm Tryz.prog 122 := ⟨_, Tryz.func122, rfl, by kernel_rfl⟩
theorem call123 : qm Tryz.prog 123 := ⟨_, Tryz.func123, rfl, by kernel_rfl⟩
theorem call124 : qm Tryz.prog 124 := ⟨_, Tryz.func124, rfl, by kernel_rfl⟩
theorem call125 : qm Tryz.prog 125 := ⟨_, Tryz.func125, rfl, by kernel_rfl⟩
theorem call126 : qm Tryz.prog 126 := ⟨_, Tryz.func126, rfl, by kernel_rfl⟩
theorem call127 : qm Tryz.prog 127 := ⟨_, Tryz.func127, rfl, by kernel_rfl⟩
theorem call129 : qm Tryz.prog 129 := ⟨_, Tryz.func129, rfl, by kernel_rfl⟩
theorem call130 : qm Tryz.prog 130 := ⟨_, Tryz.func130, rfl, by kernel_rfl⟩
theorem call131 : qm Tryz.prog 131 := ⟨_, Tryz.func131, rfl, by kernel_rfl⟩
theorem call132 : qm Tryz.prog 132 := ⟨_, Tryz.func132, rfl, by kernel_rfl⟩
theorem call133 : qm Tryz.prog 133 := ⟨_, Tryz.func133, rfl, by kernel_rfl⟩
theorem call134 : qm Tryz.prog 134 := ⟨_, Tryz.func134, rfl, by kernel_rfl⟩
theorem call135 : qm Tryz.prog 135 := ⟨_, Tryz.func135, rfl, by kernel_rfl⟩
theorem call136 : qm Tryz.prog 136 := ⟨_, Tryz.func136, rfl, by kernel_rfl⟩
theorem call137 : qm Tryz.prog 137 := ⟨_, Tryz.func137, rfl, by kernel_rfl⟩
theorem call138 : qm Tryz.prog 138 := ⟨_, Tryz.func138, rfl, by kernel_rfl⟩
theorem call139 : qm Tryz.prog 139 := ⟨_, Tryz.func139, rfl, by kernel_rfl⟩
theorem call147 : qm Tryz.prog 147 := ⟨_, Tryz.func147, rfl, by kernel_rfl⟩
theorem call148 : qm Tryz.prog 148 := ⟨_, Tryz.func148, rfl, by kernel_rfl⟩
theorem call149 : qm Tryz.prog 149 := ⟨_, Tryz.func149, rfl, by kernel_rfl⟩
theorem call150 : qm Tryz.prog 150 := ⟨_, Tryz.func150, rfl, by kernel_rfl⟩
theorem call151 : qm Tryz.prog 151 := ⟨_, Tryz.func151, rfl, by kernel_rfl⟩
theorem call152 : qm Tryz.prog 152 := ⟨_, Tryz.func152, rfl, by kernel_rfl⟩
theorem call153 : qm Tryz.prog 153 := ⟨_, Tryz.func153, rfl, by kernel_rfl⟩
theorem call154 : qm Tryz.prog 154 := ⟨_, Tryz.func154, rfl, by kernel_rfl⟩
theorem call155 : qm Tryz.prog 155 := ⟨_, Tryz.func155, rfl, by kernel_rfl⟩
theorem call156 : qm Tryz.prog 156 := ⟨_, Tryz.func156, rfl, by kernel_rfl⟩
theorem call157 : qm Tryz.prog 157 := ⟨_, Tryz.func157, rfl, by kernel_rfl⟩
theorem call160 : qm Tryz.prog 160 := ⟨_, Tryz.func160, rfl, by kernel_rfl⟩
theorem call163 : qm Tryz.prog 163 := ⟨_, Tryz.func163, rfl, by kernel_rfl⟩
theorem call169 : qm Tryz.prog 169 := ⟨_, Tryz.func169, rfl, by kernel_rfl⟩
theorem call170 : qm Tryz.prog 170 := ⟨_, Tryz.func170, rfl, by kernel_rfl⟩
theorem call171 : qm Tryz.prog 171 := ⟨_, Tryz.func171, rfl, by kernel_rfl⟩
theorem call172 : qm Tryz.prog 172 := ⟨_, Tryz.func172, rfl, by kernel_rfl⟩
theorem call173 : qm Tryz.prog 173 := ⟨_, Tryz.func173, rfl, by kernel_rfl⟩
theorem call174 : qm Tryz.prog 174 := ⟨_, Tryz.func174, rfl, by kernel_rfl⟩
theorem call175 : qm Tryz.prog 175 := ⟨_, Tryz.func175, rfl, by kernel_rfl⟩
theorem call176 : qm Tryz.prog 176 := ⟨_, Tryz.func176, rfl, by kernel_rfl⟩
theorem call177 : qm Tryz.prog 177 := ⟨_, Tryz.func177, rfl, by kernel_rfl⟩
theorem call178 : qm Tryz.prog 178 := ⟨_, Tryz.func178, rfl, by kernel_rfl⟩
theorem call179 : qm Tryz.prog 179 := ⟨_, Tryz.func179, rfl, by kernel_rfl⟩
theorem call180 : qm Tryz.prog 180 := ⟨_, Tryz.func180, rfl, by kernel_rfl⟩
theorem call181 : qm Tryz.prog 181 := ⟨_, Tryz.func181, rfl, by kernel_rfl⟩
theorem call182 : qm Tryz.prog 182 := ⟨_, Tryz.func182, rfl, by kernel_rfl⟩
theorem call183 : qm Tryz.prog 183 := ⟨_, Tryz.func183, rfl, by kernel_rfl⟩
theorem call184 : qm Tryz.prog 184 := ⟨_, Tryz.func184, rfl, by kernel_rfl⟩
theorem call185 : qm Tryz.prog 185 := ⟨_, Tryz.func185, rfl, by kernel_rfl⟩
theorem call186 : qm Tryz.prog 186 := ⟨_, Tryz.func186, rfl, by kernel_rfl⟩
theorem call187 : qm Tryz.prog 187 := ⟨_, Tryz.func187, rfl, by kernel_rfl⟩
theorem call188 : qm Tryz.prog 188 := ⟨_, Tryz.func188, rfl, by kernel_rfl⟩
theorem call189 : qm Tryz.prog 189 := ⟨_, Tryz.func189, rfl, by kernel_rfl⟩
theorem call190 : qm Tryz.prog 190 := ⟨_, Tryz.func190, rfl, by kernel_rfl⟩
theorem call191 : qm Tryz.prog 191 := ⟨_, Tryz.func191, rfl, by kernel_rfl⟩
theorem call192 : qm Tryz.prog 192 := ⟨_, Tryz.func192, rfl, by kernel_rfl⟩
theorem call196 : qm Tryz.prog 196 := ⟨_, Tryz.func196, rfl, by kernel_rfl⟩
theorem call197 : qm Tryz.prog 197 := ⟨_, Tryz.func197, rfl, by kernel_rfl⟩
theorem call198 : qm Tryz.prog 198 := ⟨_, Tryz.func198, rfl, by kernel_rfl⟩
theorem call199 : qm Tryz.prog 199 := ⟨_, Tryz.func199, rfl, by kernel_rfl⟩
theorem call200 : qm Tryz.prog 200 := ⟨_, Tryz.func200, rfl, by kernel_rfl⟩
theorem call201 : qm Tryz.prog 201 := ⟨_, Tryz.func201, rfl, by kernel_rfl⟩
theorem call202 : qm Tryz.prog 202 := ⟨_, Tryz.func202, rfl, by kernel_rfl⟩
theorem call203 : qm Tryz.prog 203 := ⟨_, Tryz.func203, rfl, by kernel_rfl⟩
theorem call204 : qm Tryz.prog 204 := ⟨_, Tryz.func204, rfl, by kernel_rfl⟩
theorem call205 : qm Tryz.prog 205 := ⟨_, Tryz.func205, rfl, by kernel_rfl⟩
theorem call206 : qm Tryz.prog 206 := ⟨_, Tryz.func206, rfl, by kernel_rfl⟩
theorem call207 : qm Tryz.prog 207 := ⟨_, Tryz.func207, rfl, by kernel_rfl⟩
theorem call208 : qm Tryz.prog 208 := ⟨_, Tryz.func208, rfl, by kernel_rfl⟩
theorem call209 : qm Tryz.prog 209 := ⟨_, Tryz.func209, rfl, by kernel_rfl⟩
theorem call212 : qm Tryz.prog 212 := ⟨_, Tryz.func212, rfl, by kernel_rfl⟩
theorem call213 : qm Tryz.prog 213 := ⟨_, Tryz.func213, rfl, by kernel_rfl⟩
theorem call214 : qm Tryz.prog 214 := ⟨_, Tryz.func214, rfl, by kernel_rfl⟩
theorem call215 : qm Tryz.prog 215 := ⟨_, Tryz.func215, rfl, by kernel_rfl⟩
theorem call216 : qm Tryz.prog 216 := ⟨_, Tryz.func216, rfl, by kernel_rfl⟩
theorem call217 : qm Tryz.prog 217 := ⟨_, Tryz.func217, rfl, by kernel_rfl⟩
theorem call218 : qm Tryz.prog 218 := ⟨_, Tryz.func218, rfl, by kernel_rfl⟩
theorem call219 : qm Tryz.prog 219 := ⟨_, Tryz.func219, rfl, by kernel_rfl⟩
theorem call220 : qm Tryz.prog 220 := ⟨_, Tryz.func220, rfl, by kernel_rfl⟩
theorem call221 : qm Tryz.prog 221 := ⟨_, Tryz.func221, rfl, by kernel_rfl⟩
theorem call222 : qm Tryz.prog 222 := ⟨_, Tryz.func222, rfl, by kernel_rfl⟩
theorem call224 : qm Tryz.prog 224 := ⟨_, Tryz.func224, rfl, by kernel_rfl⟩
theorem call225 : qm Tryz.prog 225 := ⟨_, Tryz.func225, rfl, by kernel_rfl⟩
theorem call226 : qm Tryz.prog 226 := ⟨_, Tryz.func226, rfl, by kernel_rfl⟩
theorem call227 : qm Tryz.prog 227 := ⟨_, Tryz.func227, rfl, by kernel_rfl⟩
theorem call228 : qm Tryz.prog 228 := ⟨_, Tryz.func228, rfl, by kernel_rfl⟩
theorem call229 : qm Tryz.prog 229 := ⟨_, Tryz.func229, rfl, by kernel_rfl⟩
theorem call230 : qm Tryz.prog 230 := ⟨_, Tryz.func230, rfl, by kernel_rfl⟩
theorem call231 : qm Tryz.prog 231 := ⟨_, Tryz.func231, rfl, by kernel_rfl⟩
theorem call232 : qm Tryz.prog 232 := ⟨_, Tryz.func232, rfl, by kernel_rfl⟩
theorem call233 : qm Tryz.prog 233 := ⟨_, Tryz.func233, rfl, by kernel_rfl⟩
theorem call234 : qm Tryz.prog 234 := ⟨_, Tryz.func234, rfl, by kernel_rfl⟩
theorem call243 : qm Tryz.prog 243 := ⟨_, Tryz.func243, rfl, by kernel_rfl⟩
theorem call244 : qm Tryz.prog 244 := ⟨_, Tryz.func244, rfl, by kernel_rfl⟩
theorem call245 : qm Tryz.prog 245 := ⟨_, Tryz.func245, rfl, by kernel_rfl⟩
theorem call246 : qm Tryz.prog 246 := ⟨_, Tryz.func246, rfl, by kernel_rfl⟩
theorem call247 : qm Tryz.prog 247 := ⟨_, Tryz.func247, rfl, by kernel_rfl⟩
theorem call248 : qm Tryz.prog 248 := ⟨_, Tryz.func248, rfl, by kernel_rfl⟩
theorem call254 : qm Tryz.prog 254 := ⟨_, Tryz.func254, rfl, by kernel_rfl⟩
theorem call255 : qm Tryz.prog 255 := ⟨_, Tryz.func255, rfl, by kernel_rfl⟩
theorem call256 : qm Tryz.prog 256 := ⟨_, Tryz.func256, rfl, by kernel_rfl⟩
theorem call257 : qm Tryz.prog 257 := ⟨_, Tryz.func257, rfl, by kernel_rfl⟩
theorem call258 : qm Tryz.prog 258 := ⟨_, Tryz.func258, rfl, by kernel_rfl⟩
theorem call259 : qm Tryz.prog 259 := ⟨_, Tryz.func259, rfl, by kernel_rfl⟩
theorem call260 : qm Tryz.prog 260 := ⟨_, Tryz.func260, rfl, by kernel_rfl⟩
theorem call264 : qm Tryz.prog 264 := ⟨_, Tryz.func264, rfl, by kernel_rfl⟩
theorem call265 : qm Tryz.prog 265 := ⟨_, Tryz.func265, rfl, by kernel_rfl⟩

def qbg (_ : Nat) (a : (List Int)) (left : Int) : Option Int :=
 bif decide ((W64 (left - (a.length : Int))) < 0) then
  some (-1)
 else
  some (W64 (left - (a.length : Int)))

theorem qa9 {n : Nat} {w : World} {a : (List Int)} {left : Int} {cs1 : List Value} (ha1 : GoT.R w (old w) a cs1) {r : Int} (hF : qbg n a left = some r) : RetV Tryz.prog 76 [GoT.v (List Int) cs1, .int .i64 left] w r := by
 obtain ⟨p1, k1, rfl, s1⟩ := ha1
 refine qe Tryz.func76 rfl (m := 12) rfl rfl (fun h => ?_)
 rw [qbg] at hF
 refine zSR (zp1 rfl (zNSR (zp5 rfl (qb ?_))))
 refine zSSR (zp2 rfl (qb ?_))
 refine qr rfl hF ?_ ?_ <;> intro hF
 ·exact zSR (zp1 rfl (qb (qap qc h hF ⟨rfl, trivial⟩)))
 exact zKSR (zp2 rfl (qb (qap qc h hF ⟨rfl, trivial⟩)))

def qhw (_ : Nat) (a : qaf) (left : Int) : Option Int :=
 bif decide ((W64 (left - (a.Name.size : Int))) < 0) then
  some (-1)
 else
  some (W64 (left - (a.Name.size : Int)))

theorem qmy {n : Nat} {w : World} {a : qaf} {left : Int} {cs1 : List Value} (ha1 : GoT.R w (old w) a cs1) {r : Int} (hF : qhw n a left = some r) : RetV Tryz.prog 196 [GoT.v qaf cs1, .int .i64 left] w r := by
 obtain rfl := qa7 ha1
 refine qe Tryz.func196 rfl (m := 13) rfl rfl (fun h => ?_)
 rw [qhw] at hF
 refine zSR (qO h rfl rfl ?_)
 intro w1 bb1 h
 refine zp1 rfl (zNSR (zp2 rfl (zl 0 0 h rfl (zp3 rfl (zNS ?_)))))
 refine zSR (zp2 rfl (qb ?_))
 refine qr rfl hF ?_ ?_ <;> intro hF
 ·exact zSR (zp1 rfl (qb (qap qc h hF ⟨rfl, trivial⟩)))
 exact zKSR (zp2 rfl (qb (qap qc h hF ⟨rfl, trivial⟩)))

def qdr (a : (List qaf)) : Nat → Int → Int → Option (Flow Int (Int × Int))
 | 0, _, _ => none
 | n + 1, i1, i2 =>
  bif decide (i2 < (a.length : Int)) then
   (idx a i2).bind fun y1 =>
   (qhw n y1 i1).bind fun r1 =>
   bif decide (r1 < 0) then
    some (.ret (-1))
   else
    qdr a n r1 (W64 (i2 + 1))
  else
   some (.nxt (i1, i2))

def qiq (n : Nat) (a : (List qaf)) (left : Int) : Option Int :=
 bif decide ((W64 (left - (a.length : Int))) < 0) then
  some (-1)
 else
  (qdr a n (W64 (left - (a.length : Int))) 0).bind fun o => match o with
  | .ret r => some r
  | .nxt (i1, _) =>
   some i1

theorem qlU {n : Nat} {w : World} {a : (List qaf)} {left : Int} {cs1 : List Value} (ha1 : GoT.R w (old w) a cs1) {r : Int} (hF : qiq n a left = some r) : RetV Tryz.prog 169 [GoT.v (List qaf) cs1, .int .i64 left] w r := by
 obtain ⟨p1, k1, rfl, s1⟩ := ha1
 refine qe Tryz.func169 rfl (m := 27) rfl rfl (fun h => ?_)
 rw [qiq] at hF
 refine zSR (zp1 rfl (zNSR (zp5 rfl (qb ?_))))
 refine zSSR (zp2 rfl (qb ?_))
 refine qr rfl hF ?_ ?_ <;> intro hF
 ·exact zSR (zp1 rfl (qb (qap qc h hF ⟨rfl, trivial⟩)))
 refine zKSSR (zp1 rfl (qb ?_))
 obtain ⟨o1, hF, hK1⟩ := qd hF
 refine qv (qR [(0, _), (1, _), (5, _)] ⟨rfl, rfl, rfl, trivial⟩ ?_)
 refine qI (fun m e w' => ∃ (i1 : Int) (i2 : Int), qdr a m i1 i2 = some o1 ∧ e = [(0, .slice p1 a.length k1), (1, .int .i64 i1), (5, .int .i64 i2)] ∧ SH w w' []) n ⟨_, _, hF, rfl, h⟩ ?_
 rintro m1 e1 w1 ⟨i1, i2, hF, rfl, h⟩
 rcases m1 with _ | m1
 ·rw [qdr] at hF
  cases hF
 rw [qdr] at hF
 refine zSSR (zp4 rfl (qb ?_))
 refine qr rfl hF ?_ ?_ <;> intro hF
 ·refine zKSBSR (zp2 rfl ?_)
  obtain ⟨y1, hy1, hF⟩ := qd hF
  have he1 := qg hy1
  obtain ⟨b1, o_1, q1, cs2, hp1, hq1, -, hr1, hc3⟩ := s1.at hy1
  obtain rfl := qa7 hr1
  refine zxe hp1 hq1 he1 rfl (zc 0 (hc3.below h.below) rfl (zp1 rfl ?_))
  obtain ⟨r1, hr2, hF⟩ := qd hF
  refine qT r1 h call196 (qmy (qdQ y1) hr2) rfl rfl rfl rfl ?_
  intro w2 h
  refine zp1 rfl (zNSR (zp2 rfl (qb ?_)))
  refine qr rfl hF ?_ ?_ <;> intro hF
  ·refine zSR (zp1 rfl (qb ?_))
   obtain rfl := qh hF; replace hF := hK1
   exact qap qc h hF ⟨rfl, trivial⟩
  exact zKER (zp3 rfl (qb (qA m1 [(0, _), (1, _), (5, _)] (Nat.lt_succ_self m1) ⟨rfl, rfl, rfl, trivial⟩ ⟨_, _, hF, rfl, h⟩)))
 refine qH rfl ?_
 obtain rfl := qh hF; replace hF := hK1
 exact zSR (zp2 rfl (qb (qap qc h hF ⟨rfl, trivial⟩)))

def qfR (n : Nat) (a : qC) (left : Int) : Option Int :=
 (qbg n a.Slews left).bind fun r1 =>
 bif decide (r1 < 0) then
  some (-1)
 else
  (qbg n a.Loads r1).bind fun r2 =>
  bif decide (r2 < 0) then
   some (-1)
  else
   (qbg n a.Values r2).bind fun r3 =>
   bif decide (r3 < 0) then
    some (-1)
   else
    some r3

theorem qlq {n : Nat} {w : World} {a : qC} {left : Int} {cs1 : List Value} (ha1 : GoT.R w (old w) a cs1) {r : Int} (hF : qfR n a left = some r) : RetV Tryz.prog 224 [GoT.v qC cs1, .int .i64 left] w r := by
 obtain ⟨p1, k1, p2, k2, p3, k3, rfl, s1, s2, s3⟩ := qbs ha1
 refine qe Tryz.func224 rfl (m := 24) rfl rfl (fun h => ?_)
 rw [qfR] at hF
 refine zSR (qO h rfl rfl ?_)
 intro w1 bb1 h
 refine zp1 rfl (zNSR (zp1 rfl (zl 0 0 h rfl (zp1 rfl ?_))))
 obtain ⟨r1, hr1, hF⟩ := qd hF
 refine qT r1 h call76 (qa9 ⟨_, _, rfl, (h.oldS s1)⟩ hr1) rfl rfl rfl rfl ?_
 intro w2 h
 refine zp1 rfl (zNSSR (zp2 rfl (qb ?_)))
 refine qr rfl hF ?_ ?_ <;> intro hF
 ·exact zSR (zp1 rfl (qb (qap qc h hF ⟨rfl, trivial⟩)))
 refine zKSR (zp1 rfl (zl 0 1 h rfl (zp1 rfl ?_)))
 obtain ⟨r2, hr2, hF⟩ := qd hF
 refine qT r2 h call76 (qa9 ⟨_, _, rfl, (h.oldS s2)⟩ hr2) rfl rfl rfl rfl ?_
 intro w3 h
 refine zp1 rfl (zNSSR (zp2 rfl (qb ?_)))
 refine qr rfl hF ?_ ?_ <;> intro hF
 ·exact zSR (zp1 rfl (qb (qap qc h hF ⟨rfl, trivial⟩)))
 refine zKSR (zp1 rfl (zl 0 2 h rfl (zp1 rfl ?_)))
 obtain ⟨r3, hr3, hF⟩ := qd hF
 refine qT r3 h call76 (qa9 ⟨_, _, rfl, (h.oldS s3)⟩ hr3) rfl rfl rfl rfl ?_
 intro w4 h
 refine zp1 rfl (zNSSR (zp2 rfl (qb ?_)))
 refine qr rfl hF ?_ ?_ <;> intro hF
 ·exact zSR (zp1 rfl (qb (qap qc h hF ⟨rfl, trivial⟩)))
 exact zKSR (zp2 rfl (qb (qap qc h hF ⟨rfl, trivial⟩)))

def qcD (a : (List qC)) : Nat → Int → Int → Option (Flow Int (Int × Int))
 | 0, _, _ => none
 | n + 1, i1, i2 =>
  bif decide (i2 < (a.length : Int)) then
   (idx a i2).bind fun y1 =>
   (qfR n y1 i1).bind fun r1 =>
   bif decide (r1 < 0) then
    some (.ret (-1))
   else
    qcD a n r1 (W64 (i2 + 1))
  else
   some (.nxt (i1, i2))

def qf8 (n : Nat) (a : (List qC)) (left : Int) : Option Int :=
 bif decide ((W64 (left - (a.length : Int))) < 0) then
  some (-1)
 else
  (qcD a n (W64 (left - (a.length : Int))) 0).bind fun o => match o with
  | .ret r => some r
  | .nxt (i1, _) =>
   some i1

theorem qiO {n : Nat} {w : World} {a : (List qC)} {left : Int} {cs1 : List Value} (ha1 : GoT.R w (old w) a cs1) {r : Int} (hF : qf8 n a left = some r) : RetV Tryz.prog 212 [GoT.v (List qC) cs1, .int .i64 left] w r := by
 obtain ⟨p1, k1, rfl, s1⟩ := ha1
 refine qe Tryz.func212 rfl (m := 27) rfl rfl (fun h => ?_)
 rw [qf8] at hF
 refine zSR (zp1 rfl (zNSR (zp5 rfl (qb ?_))))
 refine zSSR (zp2 rfl (qb ?_))
 refine qr rfl hF ?_ ?_ <;> intro hF
 ·exact zSR (zp1 rfl (qb (qap qc h hF ⟨rfl, trivial⟩)))
 refine zKSSR (zp1 rfl (qb ?_))
 obtain ⟨o1, hF, hK1⟩ := qd hF
 refine qv (qR [(0, _), (1, _), (5, _)] ⟨rfl, rfl, rfl, trivial⟩ ?_)
 refine qI (fun m e w' => ∃ (i1 : Int) (i2 : Int), qcD a m i1 i2 = some o1 ∧ e = [(0, .slice p1 a.length k1), (1, .int .i64 i1), (5, .int .i64 i2)] ∧ SH w w' []) n ⟨_, _, hF, rfl, h⟩ ?_
 rintro m1 e1 w1 ⟨i1, i2, hF, rfl, h⟩
 rcases m1 with _ | m1
 ·rw [qcD] at hF
  cases hF
 rw [qcD] at hF
 refine zSSR (zp4 rfl (qb ?_))
 refine qr rfl hF ?_ ?_ <;> intro hF
 ·refine zKSBSR (zp2 rfl ?_)
  obtain ⟨y1, hy1, hF⟩ := qd hF
  have he1 := qg hy1
  obtain ⟨b1, o_1, q1, cs2, hp1, hq1, -, hr1, hc3⟩ := s1.at hy1
  obtain ⟨p2, k2, p3, k3, p4, k4, rfl, s2, s3, s4⟩ := qbs hr1
  refine zxe hp1 hq1 he1 rfl (zc 0 (hc3.below h.below) rfl (zp1 rfl ?_))
  obtain ⟨r1, hr2, hF⟩ := qd hF
  refine qT r1 h call224 (qlq (qht y1 (h.oldS s2) (h.oldS s3) (h.oldS s4)) hr2) rfl rfl rfl rfl ?_
  intro w2 h
  refine zp1 rfl (zNSR (zp2 rfl (qb ?_)))
  refine qr rfl hF ?_ ?_ <;> intro hF
  ·refine zSR (zp1 rfl (qb ?_))
   obtain rfl := qh hF; replace hF := hK1
   exact qap qc h hF ⟨rfl, trivial⟩
  exact zKER (zp3 rfl (qb (qA m1 [(0, _), (1, _), (5, _)] (Nat.lt_succ_self m1) ⟨rfl, rfl, rfl, trivial⟩ ⟨_, _, hF, rfl, h⟩)))
 refine qH rfl ?_
 obtain rfl := qh hF; replace hF := hK1
 exact zSR (zp2 rfl (qb (qap qc h hF ⟨rfl, trivial⟩)))

def qhq (n : Nat) (a : qY) (left : Int) : Option Int :=
 (qf8 n a.Delay left).bind fun r1 =>
 bif decide (r1 < 0) then
  some (-1)
 else
  (qf8 n a.Slew r1).bind fun r2 =>
  bif decide (r2 < 0) then
   some (-1)
  else
   some r2

theorem qmI {n : Nat} {w : World} {a : qY} {left : Int} {cs1 : List Value} (ha1 : GoT.R w (old w) a cs1) {r : Int} (hF : qhq n a left = some r) : RetV Tryz.prog 197 [GoT.v qY cs1, .int .i64 left] w r := by
 obtain ⟨p1, k1, p2, k2, rfl, s1, s2⟩ := qaQ ha1
 refine qe Tryz.func197 rfl (m := 18) rfl rfl (fun h => ?_)
 rw [qhq] at hF
 refine zSR (qO h rfl rfl ?_)
 intro w1 bb1 h
 refine zp1 rfl (zNSR (zp1 rfl (zl 0 4 h rfl (zp1 rfl ?_))))
 obtain ⟨r1, hr1, hF⟩ := qd hF
 refine qT r1 h call212 (qiO ⟨_, _, rfl, (h.oldS s1)⟩ hr1) rfl rfl rfl rfl ?_
 intro w2 h
 refine zp1 rfl (zNSSR (zp2 rfl (qb ?_)))
 refine qr rfl hF ?_ ?_ <;> intro hF
 ·exact zSR (zp1 rfl (qb (qap qc h hF ⟨rfl, trivial⟩)))
 refine zKSR (zp1 rfl (zl 0 5 h rfl (zp1 rfl ?_)))
 obtain ⟨r2, hr2, hF⟩ := qd hF
 refine qT r2 h call212 (qiO ⟨_, _, rfl, (h.oldS s2)⟩ hr2) rfl rfl rfl rfl ?_
 intro w3 h
 refine zp1 rfl (zNSSR (zp2 rfl (qb ?_)))
 refine qr rfl hF ?_ ?_ <;> intro hF
 ·exact zSR (zp1 rfl (qb (qap qc h hF ⟨rfl, trivial⟩)))
 exact zKSR (zp2 rfl (qb (qap qc h hF ⟨rfl, trivial⟩)))

def qdB (a : (List qY)) : Nat → Int → Int → Option (Flow Int (Int × Int))
 | 0, _, _ => none
 | n + 1, i1, i2 =>
  bif decide (i2 < (a.length : Int)) then
   (idx a i2).bind fun y1 =>
   (qhq n y1 i1).bind fun r1 =>
   bif decide (r1 < 0) then
    some (.ret (-1))
   else
    qdB a n r1 (W64 (i2 + 1))
  else
   some (.nxt (i1, i2))

def qio (n : Nat) (a : (List qY)) (left : Int) : Option Int :=
 bif decide ((W64 (left - (a.length : Int))) < 0) then
  some (-1)
 else
  (qdB a n (W64 (left - (a.length : Int))) 0).bind fun o => match o with
  | .ret r => some r
  | .nxt (i1, _) =>
   some i1

theorem qlK {n : Nat} {w : World} {a : (List qY)} {left : Int} {cs1 : List Value} (ha1 : GoT.R w (old w) a cs1) {r : Int} (hF : qio n a left = some r) : RetV Tryz.prog 170 [GoT.v (List qY) cs1, .int .i64 left] w r := by
 obtain ⟨p1, k1, rfl, s1⟩ := ha1
 refine qe Tryz.func170 rfl (m := 27) rfl rfl (fun h => ?_)
 rw [qio] at hF
 refine zSR (zp1 rfl (zNSR (zp5 rfl (qb ?_))))
 refine zSSR (zp2 rfl (qb ?_))
 refine qr rfl hF ?_ ?_ <;> intro hF
 ·exact zSR (zp1 rfl (qb (qap qc h hF ⟨rfl, trivial⟩)))
 refine zKSSR (zp1 rfl (qb ?_))
 obtain ⟨o1, hF, hK1⟩ := qd hF
 refine qv (qR [(0, _), (1, _), (5, _)] ⟨rfl, rfl, rfl, trivial⟩ ?_)
 refine qI (fun m e w' => ∃ (i1 : Int) (i2 : Int), qdB a m i1 i2 = some o1 ∧ e = [(0, .slice p1 a.length k1), (1, .int .i64 i1), (5, .int .i64 i2)] ∧ SH w w' []) n ⟨_, _, hF, rfl, h⟩ ?_
 rintro m1 e1 w1 ⟨i1, i2, hF, rfl, h⟩
 rcases m1 with _ | m1
 ·rw [qdB] at hF
  cases hF
 rw [qdB] at hF
 refine zSSR (zp4 rfl (qb ?_))
 refine qr rfl hF ?_ ?_ <;> intro hF
 ·refine zKSBSR (zp2 rfl ?_)
  obtain ⟨y1, hy1, hF⟩ := qd hF
  have he1 := qg hy1
  obtain ⟨b1, o_1, q1, cs2, hp1, hq1, -, hr1, hc3⟩ := s1.at hy1
  obtain ⟨p2, k2, p3, k3, rfl, s2, s3⟩ := qaQ hr1
  refine zxe hp1 hq1 he1 rfl (zc 0 (hc3.below h.below) rfl (zp1 rfl ?_))
  obtain ⟨r1, hr2, hF⟩ := qd hF
  refine qT r1 h call197 (qmI (qgg y1 (h.oldS s2) (h.oldS s3)) hr2) rfl rfl rfl rfl ?_
  intro w2 h
  refine zp1 rfl (zNSR (zp2 rfl (qb ?_)))
  refine qr rfl hF ?_ ?_ <;> intro hF
  ·refine zSR (zp1 rfl (qb ?_))
   obtain rfl := qh hF; replace hF := hK1
   exact qap qc h hF ⟨rfl, trivial⟩
  exact zKER (zp3 rfl (qb (qA m1 [(0, _), (1, _), (5, _)] (Nat.lt_succ_self m1) ⟨rfl, rfl, rfl, trivial⟩ ⟨_, _, hF, rfl, h⟩)))
 refine qH rfl ?_
 obtain rfl := qh hF; replace hF := hK1
 exact zSR (zp2 rfl (qb (qap qc h hF ⟨rfl, trivial⟩)))

def qgy (n : Nat) (a : qB) (left : Int) : Option Int :=
 bif decide ((W64 (left - (a.Name.size : Int))) < 0) then
  some (-1)
 else
  (qiq n a.Pins (W64 (left - (a.Name.size : Int)))).bind fun r1 =>
  bif decide (r1 < 0) then
   some (-1)
  else
   (qio n a.Arcs r1).bind fun r2 =>
   bif decide (r2 < 0) then
    some (-1)
   else
    (qbg n a.Truth r2).bind fun r3 =>
    bif decide (r3 < 0) then
     some (-1)
    else
     some r3

theorem qlT {n : Nat} {w : World} {a : qB} {left : Int} {cs1 : List Value} (ha1 : GoT.R w (old w) a cs1) {r : Int} (hF : qgy n a left = some r) : RetV Tryz.prog 121 [GoT.v qB cs1, .int .i64 left] w r := by
 obtain ⟨p1, k1, p2, k2, p3, k3, rfl, s1, s2, s3⟩ := qai ha1
 refine qe Tryz.func121 rfl (m := 31) rfl rfl (fun h => ?_)
 rw [qgy] at hF
 refine zSR (qO h rfl rfl ?_)
 intro w1 bb1 h
 refine zp1 rfl (zNSR (zp2 rfl (zl 0 0 h rfl (zp3 rfl (zNS ?_)))))
 refine zSR (zp2 rfl (qb ?_))
 refine qr rfl hF ?_ ?_ <;> intro hF
 ·exact zSR (zp1 rfl (qb (qap qc h hF ⟨rfl, trivial⟩)))
 refine zKSR (zp1 rfl (zl 0 2 h rfl (zp1 rfl ?_)))
 obtain ⟨r1, hr1, hF⟩ := qd hF
 refine qT r1 h call169 (qlU ⟨_, _, rfl, (h.oldS s1)⟩ hr1) rfl rfl rfl rfl ?_
 intro w2 h
 refine zp1 rfl (zNSSR (zp2 rfl (qb ?_)))
 refine qr rfl hF ?_ ?_ <;> intro hF
 ·exact zSR (zp1 rfl (qb (qap qc h hF ⟨rfl, trivial⟩)))
 refine zKSR (zp1 rfl (zl 0 3 h rfl (zp1 rfl ?_)))
 obtain ⟨r2, hr2, hF⟩ := qd hF
 refine qT r2 h call170 (qlK ⟨_, _, rfl, (h.oldS s2)⟩ hr2) rfl rfl rfl rfl ?_
 intro w3 h
 refine zp1 rfl (zNSSR (zp2 rfl (qb ?_)))
 refine qr rfl hF ?_ ?_ <;> intro hF
 ·exact zSR (zp1 rfl (qb (qap qc h hF ⟨rfl, trivial⟩)))
 refine zKSR (zp1 rfl (zl 0 4 h rfl (zp1 rfl ?_)))
 obtain ⟨r3, hr3, hF⟩ := qd hF
 refine qT r3 h call76 (qa9 ⟨_, _, rfl, (h.oldS s3)⟩ hr3) rfl rfl rfl rfl ?_
 intro w4 h
 refine zp1 rfl (zNSSR (zp2 rfl (qb ?_)))
 refine qr rfl hF ?_ ?_ <;> intro hF
 ·exact zSR (zp1 rfl (qb (qap qc h hF ⟨rfl, trivial⟩)))
 exact zKSR (zp2 rfl (qb (qap qc h hF ⟨rfl, trivial⟩)))

def qc3 (a : (List qB)) : Nat → Int → Int → Option (Flow Int (Int × Int))
 | 0, _, _ => none
 | n + 1, i1, i2 =>
  bif decide (i2 < (a.length : Int)) then
   (idx a i2).bind fun y1 =>
   (qgy n y1 i1).bind fun r1 =>
   bif decide (r1 < 0) then
    some (.ret (-1))
   else
    qc3 a n r1 (W64 (i2 + 1))
  else
   some (.nxt (i1, i2))

def qh0 (n : Nat) (a : (List qB)) (left : Int) : Option Int :=
 bif decide ((W64 (left - (a.length : Int))) < 0) then
  some (-1)
 else
  (qc3 a n (W64 (left - (a.length : Int))) 0).bind fun o => match o with
  | .ret r => some r
  | .nxt (i1, _) =>
   some i1

theorem qlr {n : Nat} {w : World} {a : (List qB)} {left : Int} {cs1 : List Value} (ha1 : GoT.R w (old w) a cs1) {r : Int} (hF : qh0 n a left = some r) : RetV Tryz.prog 71 [GoT.v (List qB) cs1, .int .i64 left] w r := by
 obtain ⟨p1, k1, rfl, s1⟩ := ha1
 refine qe Tryz.func71 rfl (m := 27) rfl rfl (fun h => ?_)
 rw [qh0] at hF
 refine zSR (zp1 rfl (zNSR (zp5 rfl (qb ?_))))
 refine zSSR (zp2 rfl (qb ?_))
 refine qr rfl hF ?_ ?_ <;> intro hF
 ·exact zSR (zp1 rfl (qb (qap qc h hF ⟨rfl, trivial⟩)))
 refine zKSSR (zp1 rfl (qb ?_))
 obtain ⟨o1, hF, hK1⟩ := qd hF
 refine qv (qR [(0, _), (1, _), (5, _)] ⟨rfl, rfl, rfl, trivial⟩ ?_)
 refine qI (fun m e w' => ∃ (i1 : Int) (i2 : Int), qc3 a m i1 i2 = some o1 ∧ e = [(0, .slice p1 a.length k1), (1, .int .i64 i1), (5, .int .i64 i2)] ∧ SH w w' []) n ⟨_, _, hF, rfl, h⟩ ?_
 rintro m1 e1 w1 ⟨i1, i2, hF, rfl, h⟩
 rcases m1 with _ | m1
 ·rw [qc3] at hF
  cases hF
 rw [qc3] at hF
 refine zSSR (zp4 rfl (qb ?_))
 refine qr rfl hF ?_ ?_ <;> intro hF
 ·refine zKSBSR (zp2 rfl ?_)
  obtain ⟨y1, hy1, hF⟩ := qd hF
  have he1 := qg hy1
  obtain ⟨b1, o_1, q1, cs2, hp1, hq1, -, hr1, hc3⟩ := s1.at hy1
  obtain ⟨p2, k2, p3, k3, p4, k4, rfl, s2, s3, s4⟩ := qai hr1
  refine zxe hp1 hq1 he1 rfl (zc 0 (hc3.below h.below) rfl (zp1 rfl ?_))
  obtain ⟨r1, hr2, hF⟩ := qd hF
  refine qT r1 h call121 (qlT (qh5 y1 (h.oldS s2) (h.oldS s3) (h.oldS s4)) hr2) rfl rfl rfl rfl ?_
  intro w2 h
  refine zp1 rfl (zNSR (zp2 rfl (qb ?_)))
  refine qr rfl hF ?_ ?_ <;> intro hF
  ·refine zSR (zp1 rfl (qb ?_))
   obtain rfl := qh hF; replace hF := hK1
   exact qap qc h hF ⟨rfl, trivial⟩
  exact zKER (zp3 rfl (qb (qA m1 [(0, _), (1, _), (5, _)] (Nat.lt_succ_self m1) ⟨rfl, rfl, rfl, trivial⟩ ⟨_, _, hF, rfl, h⟩)))
 refine qH rfl ?_
 obtain rfl := qh hF; replace hF := hK1
 exact zSR (zp2 rfl (qb (qap qc h hF ⟨rfl, trivial⟩)))

def qfI (n : Nat) (a : qz) (left : Int) : Option Int :=
 (qh0 n a.Cells left).bind fun r1 =>
 bif decide (r1 < 0) then
  some (-1)
 else
  some r1

theorem qkE {n : Nat} {w : World} {a : qz} {left : Int} {cs1 : List Value} (ha1 : GoT.R w (old w) a cs1) {r : Int} (hF : qfI n a left = some r) : RetV Tryz.prog 37 [GoT.v qz cs1, .int .i64 left] w r := by
 obtain ⟨p1, k1, rfl, s1⟩ := qb3 ha1
 refine qe Tryz.func37 rfl (m := 12) rfl rfl (fun h => ?_)
 rw [qfI] at hF
 refine zSR (qO h rfl rfl ?_)
 intro w1 bb1 h
 refine zp1 rfl (zNSR (zp1 rfl (zl 0 0 h rfl (zp1 rfl ?_))))
 obtain ⟨r1, hr1, hF⟩ := qd hF
 refine qT r1 h call71 (qlr ⟨_, _, rfl, (h.oldS s1)⟩ hr1) rfl rfl rfl rfl ?_
 intro w2 h
 refine zp1 rfl (zNSSR (zp2 rfl (qb ?_)))
 refine qr rfl hF ?_ ?_ <;> intro hF
 ·exact zSR (zp1 rfl (qb (qap qc h hF ⟨rfl, trivial⟩)))
 exact zKSR (zp2 rfl (qb (qap qc h hF ⟨rfl, trivial⟩)))

def qeu (n : Nat) (a : qk) (left : Int) : Option Int :=
 bif decide ((W64 (left - (a.Name.size : Int))) < 0) then
  some (-1)
 else
  (qbg n a.Nets (W64 (left - (a.Name.size : Int)))).bind fun r1 =>
  bif decide (r1 < 0) then
   some (-1)
  else
   some r1

theorem qkh {n : Nat} {w : World} {a : qk} {left : Int} {cs1 : List Value} (ha1 : GoT.R w (old w) a cs1) {r : Int} (hF : qeu n a left = some r) : RetV Tryz.prog 122 [GoT.v qk cs1, .int .i64 left] w r := by
 obtain ⟨p1, k1, rfl, s1⟩ := qad ha1
 refine qe Tryz.func122 rfl (m := 19) rfl rfl (fun h => ?_)
 rw [qeu] at hF
 refine zSR (qO h rfl rfl ?_)
 intro w1 bb1 h
 refine zp1 rfl (zNSR (zp2 rfl (zl 0 0 h rfl (zp3 rfl (zNS ?_)))))
 refine zSR (zp2 rfl (qb ?_))
 refine qr rfl hF ?_ ?_ <;> intro hF
 ·exact zSR (zp1 rfl (qb (qap qc h hF ⟨rfl, trivial⟩)))
 refine zKSR (zp1 rfl (zl 0 2 h rfl (zp1 rfl ?_)))
 obtain ⟨r1, hr1, hF⟩ := qd hF
 refine qT r1 h call76 (qa9 ⟨_, _, rfl, (h.oldS s1)⟩ hr1) rfl rfl rfl rfl ?_
 intro w2 h
 refine zp1 rfl (zNSSR (zp2 rfl (qb ?_)))
 refine qr rfl hF ?_ ?_ <;> intro hF
 ·exact zSR (zp1 rfl (qb (qap qc h hF ⟨rfl, trivial⟩)))
 exact zKSR (zp2 rfl (qb (qap qc h hF ⟨rfl, trivial⟩)))

def qbE (a : (List qk)) : Nat → Int → Int → Option (Flow Int (Int × Int))
 | 0, _, _ => none
 | n + 1, i1, i2 =>
  bif decide (i2 < (a.length : Int)) then
   (idx a i2).bind fun y1 =>
   (qeu n y1 i1).bind fun r1 =>
   bif decide (r1 < 0) then
    some (.ret (-1))
   else
    qbE a n r1 (W64 (i2 + 1))
  else
   some (.nxt (i1, i2))

def qfV (n : Nat) (a : (List qk)) (left : Int) : Option Int :=
 bif decide ((W64 (left - (a.length : Int))) < 0) then
  some (-1)
 else
  (qbE a n (W64 (left - (a.length : Int))) 0).bind fun o => match o with
  | .ret r => some r
  | .nxt (i1, _) =>
   some i1

theorem qjT {n : Nat} {w : World} {a : (List qk)} {left : Int} {cs1 : List Value} (ha1 : GoT.R w (old w) a cs1) {r : Int} (hF : qfV n a left = some r) : RetV Tryz.prog 72 [GoT.v (List qk) cs1, .int .i64 left] w r := by
 obtain ⟨p1, k1, rfl, s1⟩ := ha1
 refine qe Tryz.func72 rfl (m := 27) rfl rfl (fun h => ?_)
 rw [qfV] at hF
 refine zSR (zp1 rfl (zNSR (zp5 rfl (qb ?_))))
 refine zSSR (zp2 rfl (qb ?_))
 refine qr rfl hF ?_ ?_ <;> intro hF
 ·exact zSR (zp1 rfl (qb (qap qc h hF ⟨rfl, trivial⟩)))
 refine zKSSR (zp1 rfl (qb ?_))
 obtain ⟨o1, hF, hK1⟩ := qd hF
 refine qv (qR [(0, _), (1, _), (5, _)] ⟨rfl, rfl, rfl, trivial⟩ ?_)
 refine qI (fun m e w' => ∃ (i1 : Int) (i2 : Int), qbE a m i1 i2 = some o1 ∧ e = [(0, .slice p1 a.length k1), (1, .int .i64 i1), (5, .int .i64 i2)] ∧ SH w w' []) n ⟨_, _, hF, rfl, h⟩ ?_
 rintro m1 e1 w1 ⟨i1, i2, hF, rfl, h⟩
 rcases m1 with _ | m1
 ·rw [qbE] at hF
  cases hF
 rw [qbE] at hF
 refine zSSR (zp4 rfl (qb ?_))
 refine qr rfl hF ?_ ?_ <;> intro hF
 ·refine zKSBSR (zp2 rfl ?_)
  obtain ⟨y1, hy1, hF⟩ := qd hF
  have he1 := qg hy1
  obtain ⟨b1, o_1, q1, cs2, hp1, hq1, -, hr1, hc3⟩ := s1.at hy1
  obtain ⟨p2, k2, rfl, s2⟩ := qad hr1
  refine zxe hp1 hq1 he1 rfl (zc 0 (hc3.below h.below) rfl (zp1 rfl ?_))
  obtain ⟨r1, hr2, hF⟩ := qd hF
  refine qT r1 h call122 (qkh (qfu y1 (h.oldS s2)) hr2) rfl rfl rfl rfl ?_
  intro w2 h
  refine zp1 rfl (zNSR (zp2 rfl (qb ?_)))
  refine qr rfl hF ?_ ?_ <;> intro hF
  ·refine zSR (zp1 rfl (qb ?_))
   obtain rfl := qh hF; replace hF := hK1
   exact qap qc h hF ⟨rfl, trivial⟩
  exact zKER (zp3 rfl (qb (qA m1 [(0, _), (1, _), (5, _)] (Nat.lt_succ_self m1) ⟨rfl, rfl, rfl, trivial⟩ ⟨_, _, hF, rfl, h⟩)))
 refine qH rfl ?_
 obtain rfl := qh hF; replace hF := hK1
 exact zSR (zp2 rfl (qb (qap qc h hF ⟨rfl, trivial⟩)))

def qcf (a : (List ByteArray)) : Nat → Int → Int → Option (Flow Int (Int × Int))
 | 0, _, _ => none
 | n + 1, i1, i2 =>
  bif decide (i2 < (a.length : Int)) then
   (idx a i2).bind fun y1 =>
   bif decide ((W64 (i1 - (y1.size : Int))) < 0) then
    some (.ret (-1))
   else
    qcf a n (W64 (i1 - (y1.size : Int))) (W64 (i2 + 1))
  else
   some (.nxt (i1, i2))

def qhf (n : Nat) (a : (List ByteArray)) (left : Int) : Option Int :=
 bif decide ((W64 (left - (a.length : Int))) < 0) then
  some (-1)
 else
  (qcf a n (W64 (left - (a.length : Int))) 0).bind fun o => match o with
  | .ret r => some r
  | .nxt (i1, _) =>
   some i1

theorem qkI {n : Nat} {w : World} {a : (List ByteArray)} {left : Int} {cs1 : List Value} (ha1 : GoT.R w (old w) a cs1) {r : Int} (hF : qhf n a left = some r) : RetV Tryz.prog 73 [GoT.v (List ByteArray) cs1, .int .i64 left] w r := by
 obtain ⟨p1, k1, rfl, s1⟩ := ha1
 refine qe Tryz.func73 rfl (m := 28) rfl rfl (fun h => ?_)
 rw [qhf] at hF
 refine zSR (zp1 rfl (zNSR (zp5 rfl (qb ?_))))
 refine zSSR (zp2 rfl (qb ?_))
 refine qr rfl hF ?_ ?_ <;> intro hF
 ·exact zSR (zp1 rfl (qb (qap qc h hF ⟨rfl, trivial⟩)))
 refine zKSSR (zp1 rfl (qb ?_))
 obtain ⟨o1, hF, hK1⟩ := qd hF
 refine qv (qR [(0, _), (1, _), (5, _)] ⟨rfl, rfl, rfl, trivial⟩ ?_)
 refine qI (fun m e w' => ∃ (i1 : Int) (i2 : Int), qcf a m i1 i2 = some o1 ∧ e = [(0, .slice p1 a.length k1), (1, .int .i64 i1), (5, .int .i64 i2)] ∧ SH w w' []) n ⟨_, _, hF, rfl, h⟩ ?_
 rintro m1 e1 w1 ⟨i1, i2, hF, rfl, h⟩
 rcases m1 with _ | m1
 ·rw [qcf] at hF
  cases hF
 rw [qcf] at hF
 refine zSSR (zp4 rfl (qb ?_))
 refine qr rfl hF ?_ ?_ <;> intro hF
 ·refine zKSBSR (zp3 rfl ?_)
  obtain ⟨y1, hy1, hF⟩ := qd hF
  have he1 := qg hy1
  obtain ⟨b1, o_1, q1, cs2, hp1, hq1, -, hr1, hc3⟩ := s1.at hy1
  obtain rfl := hr1
  refine zxe hp1 hq1 he1 rfl (zc 0 (hc3.below h.below) rfl (zp3 rfl (zNSR (zp2 rfl (qb ?_)))))
  refine qr rfl hF ?_ ?_ <;> intro hF
  ·refine zSR (zp1 rfl (qb ?_))
   obtain rfl := qh hF; replace hF := hK1
   exact qap qc h hF ⟨rfl, trivial⟩
  exact zKER (zp3 rfl (qb (qA m1 [(0, _), (1, _), (5, _)] (Nat.lt_succ_self m1) ⟨rfl, rfl, rfl, trivial⟩ ⟨_, _, hF, rfl, h⟩)))
 refine qH rfl ?_
 obtain rfl := qh hF; replace hF := hK1
 exact zSR (zp2 rfl (qb (qap qc h hF ⟨rfl, trivial⟩)))

def qgs (_ : Nat) (a : qV) (left : Int) : Option Int :=
 bif decide ((W64 (left - (a.Name.size : Int))) < 0) then
  some (-1)
 else
  some (W64 (left - (a.Name.size : Int)))

theorem qme {n : Nat} {w : World} {a : qV} {left : Int} {cs1 : List Value} (ha1 : GoT.R w (old w) a cs1) {r : Int} (hF : qgs n a left = some r) : RetV Tryz.prog 123 [GoT.v qV cs1, .int .i64 left] w r := by
 obtain rfl := qaW ha1
 refine qe Tryz.func123 rfl (m := 13) rfl rfl (fun h => ?_)
 rw [qgs] at hF
 refine zSR (qO h rfl rfl ?_)
 intro w1 bb1 h
 refine zp1 rfl (zNSR (zp2 rfl (zl 0 0 h rfl (zp3 rfl (zNS ?_)))))
 refine zSR (zp2 rfl (qb ?_))
 refine qr rfl hF ?_ ?_ <;> intro hF
 ·exact zSR (zp1 rfl (qb (qap qc h hF ⟨rfl, trivial⟩)))
 exact zKSR (zp2 rfl (qb (qap qc h hF ⟨rfl, trivial⟩)))

def qcY (a : (List qV)) : Nat → Int → Int → Option (Flow Int (Int × Int))
 | 0, _, _ => none
 | n + 1, i1, i2 =>
  bif decide (i2 < (a.length : Int)) then
   (idx a i2).bind fun y1 =>
   (qgs n y1 i1).bind fun r1 =>
   bif decide (r1 < 0) then
    some (.ret (-1))
   else
    qcY a n r1 (W64 (i2 + 1))
  else
   some (.nxt (i1, i2))

def qh2 (n : Nat) (a : (List qV)) (left : Int) : Option Int :=
 bif decide ((W64 (left - (a.length : Int))) < 0) then
  some (-1)
 else
  (qcY a n (W64 (left - (a.length : Int))) 0).bind fun o => match o with
  | .ret r => some r
  | .nxt (i1, _) =>
   some i1

theorem qli {n : Nat} {w : World} {a : (List qV)} {left : Int} {cs1 : List Value} (ha1 : GoT.R w (old w) a cs1) {r : Int} (hF : qh2 n a left = some r) : RetV Tryz.prog 74 [GoT.v (List qV) cs1, .int .i64 left] w r := by
 obtain ⟨p1, k1, rfl, s1⟩ := ha1
 refine qe Tryz.func74 rfl (m := 27) rfl rfl (fun h => ?_)
 rw [qh2] at hF
 refine zSR (zp1 rfl (zNSR (zp5 rfl (qb ?_))))
 refine zSSR (zp2 rfl (qb ?_))
 refine qr rfl hF ?_ ?_ <;> intro hF
 ·exact zSR (zp1 rfl (qb (qap qc h hF ⟨rfl, trivial⟩)))
 refine zKSSR (zp1 rfl (qb ?_))
 obtain ⟨o1, hF, hK1⟩ := qd hF
 refine qv (qR [(0, _), (1, _), (5, _)] ⟨rfl, rfl, rfl, trivial⟩ ?_)
 refine qI (fun m e w' => ∃ (i1 : Int) (i2 : Int), qcY a m i1 i2 = some o1 ∧ e = [(0, .slice p1 a.length k1), (1, .int .i64 i1), (5, .int .i64 i2)] ∧ SH w w' []) n ⟨_, _, hF, rfl, h⟩ ?_
 rintro m1 e1 w1 ⟨i1, i2, hF, rfl, h⟩
 rcases m1 with _ | m1
 ·rw [qcY] at hF
  cases hF
 rw [qcY] at hF
 refine zSSR (zp4 rfl (qb ?_))
 refine qr rfl hF ?_ ?_ <;> intro hF
 ·refine zKSBSR (zp2 rfl ?_)
  obtain ⟨y1, hy1, hF⟩ := qd hF
  have he1 := qg hy1
  obtain ⟨b1, o_1, q1, cs2, hp1, hq1, -, hr1, hc3⟩ := s1.at hy1
  obtain rfl := qaW hr1
  refine zxe hp1 hq1 he1 rfl (zc 0 (hc3.below h.below) rfl (zp1 rfl ?_))
  obtain ⟨r1, hr2, hF⟩ := qd hF
  refine qT r1 h call123 (qme (qdY y1) hr2) rfl rfl rfl rfl ?_
  intro w2 h
  refine zp1 rfl (zNSR (zp2 rfl (qb ?_)))
  refine qr rfl hF ?_ ?_ <;> intro hF
  ·refine zSR (zp1 rfl (qb ?_))
   obtain rfl := qh hF; replace hF := hK1
   exact qap qc h hF ⟨rfl, trivial⟩
  exact zKER (zp3 rfl (qb (qA m1 [(0, _), (1, _), (5, _)] (Nat.lt_succ_self m1) ⟨rfl, rfl, rfl, trivial⟩ ⟨_, _, hF, rfl, h⟩)))
 refine qH rfl ?_
 obtain rfl := qh hF; replace hF := hK1
 exact zSR (zp2 rfl (qb (qap qc h hF ⟨rfl, trivial⟩)))

def qgk (n : Nat) (a : ql) (left : Int) : Option Int :=
 (qfV n a.Instances left).bind fun r1 =>
 bif decide (r1 < 0) then
  some (-1)
 else
  (qhf n a.Nets r1).bind fun r2 =>
  bif decide (r2 < 0) then
   some (-1)
  else
   (qh2 n a.Ports r2).bind fun r3 =>
   bif decide (r3 < 0) then
    some (-1)
   else
    some r3

theorem qkS {n : Nat} {w : World} {a : ql} {left : Int} {cs1 : List Value} (ha1 : GoT.R w (old w) a cs1) {r : Int} (hF : qgk n a left = some r) : RetV Tryz.prog 38 [GoT.v ql cs1, .int .i64 left] w r := by
 obtain ⟨p1, k1, p2, k2, p3, k3, rfl, s1, s2, s3⟩ := qaS ha1
 refine qe Tryz.func38 rfl (m := 24) rfl rfl (fun h => ?_)
 rw [qgk] at hF
 refine zSR (qO h rfl rfl ?_)
 intro w1 bb1 h
 refine zp1 rfl (zNSR (zp1 rfl (zl 0 0 h rfl (zp1 rfl ?_))))
 obtain ⟨r1, hr1, hF⟩ := qd hF
 refine qT r1 h call72 (qjT ⟨_, _, rfl, (h.oldS s1)⟩ hr1) rfl rfl rfl rfl ?_
 intro w2 h
 refine zp1 rfl (zNSSR (zp2 rfl (qb ?_)))
 refine qr rfl hF ?_ ?_ <;> intro hF
 ·exact zSR (zp1 rfl (qb (qap qc h hF ⟨rfl, trivial⟩)))
 refine zKSR (zp1 rfl (zl 0 1 h rfl (zp1 rfl ?_)))
 obtain ⟨r2, hr2, hF⟩ := qd hF
 refine qT r2 h call73 (qkI ⟨_, _, rfl, (h.oldS s2)⟩ hr2) rfl rfl rfl rfl ?_
 intro w3 h
 refine zp1 rfl (zNSSR (zp2 rfl (qb ?_)))
 refine qr rfl hF ?_ ?_ <;> intro hF
 ·exact zSR (zp1 rfl (qb (qap qc h hF ⟨rfl, trivial⟩)))
 refine zKSR (zp1 rfl (zl 0 2 h rfl (zp1 rfl ?_)))
 obtain ⟨r3, hr3, hF⟩ := qd hF
 refine qT r3 h call74 (qli ⟨_, _, rfl, (h.oldS s3)⟩ hr3) rfl rfl rfl rfl ?_
 intro w4 h
 refine zp1 rfl (zNSSR (zp2 rfl (qb ?_)))
 refine qr rfl hF ?_ ?_ <;> intro hF
 ·exact zSR (zp1 rfl (qb (qap qc h hF ⟨rfl, trivial⟩)))
 exact zKSR (zp2 rfl (qb (qap qc h hF ⟨rfl, trivial⟩)))

def qgF (n : Nat) (a : qP) (left : Int) : Option Int :=
 (qbg n a.Parent left).bind fun r1 =>
 bif decide (r1 < 0) then
  some (-1)
 else
  (qbg n a.Res r1).bind fun r2 =>
  bif decide (r2 < 0) then
   some (-1)
  else
   (qbg n a.Cap r2).bind fun r3 =>
   bif decide (r3 < 0) then
    some (-1)
   else
    (qbg n a.Sink r3).bind fun r4 =>
    bif decide (r4 < 0) then
     some (-1)
    else
     some r4

theorem ql6 {n : Nat} {w : World} {a : qP} {left : Int} {cs1 : List Value} (ha1 : GoT.R w (old w) a cs1) {r : Int} (hF : qgF n a left = some r) : RetV Tryz.prog 75 [GoT.v qP cs1, .int .i64 left] w r := by
 obtain ⟨p1, k1, p2, k2, p3, k3, p4, k4, rfl, s1, s2, s3, s4⟩ := qbw ha1
 refine qe Tryz.func75 rfl (m := 30) rfl rfl (fun h => ?_)
 rw [qgF] at hF
 refine zSR (qO h rfl rfl ?_)
 intro w1 bb1 h
 refine zp1 rfl (zNSR (zp1 rfl (zl 0 0 h rfl (zp1 rfl ?_))))
 obtain ⟨r1, hr1, hF⟩ := qd hF
 refine qT r1 h call76 (qa9 ⟨_, _, rfl, (h.oldS s1)⟩ hr1) rfl rfl rfl rfl ?_
 intro w2 h
 refine zp1 rfl (zNSSR (zp2 rfl (qb ?_)))
 refine qr rfl hF ?_ ?_ <;> intro hF
 ·exact zSR (zp1 rfl (qb (qap qc h hF ⟨rfl, trivial⟩)))
 refine zKSR (zp1 rfl (zl 0 1 h rfl (zp1 rfl ?_)))
 obtain ⟨r2, hr2, hF⟩ := qd hF
 refine qT r2 h call76 (qa9 ⟨_, _, rfl, (h.oldS s2)⟩ hr2) rfl rfl rfl rfl ?_
 intro w3 h
 refine zp1 rfl (zNSSR (zp2 rfl (qb ?_)))
 refine qr rfl hF ?_ ?_ <;> intro hF
 ·exact zSR (zp1 rfl (qb (qap qc h hF ⟨rfl, trivial⟩)))
 refine zKSR (zp1 rfl (zl 0 2 h rfl (zp1 rfl ?_)))
 obtain ⟨r3, hr3, hF⟩ := qd hF
 refine qT r3 h call76 (qa9 ⟨_, _, rfl, (h.oldS s3)⟩ hr3) rfl rfl rfl rfl ?_
 intro w4 h
 refine zp1 rfl (zNSSR (zp2 rfl (qb ?_)))
 refine qr rfl hF ?_ ?_ <;> intro hF
 ·exact zSR (zp1 rfl (qb (qap qc h hF ⟨rfl, trivial⟩)))
 refine zKSR (zp1 rfl (zl 0 3 h rfl (zp1 rfl ?_)))
 obtain ⟨r4, hr4, hF⟩ := qd hF
 refine qT r4 h call76 (qa9 ⟨_, _, rfl, (h.oldS s4)⟩ hr4) rfl rfl rfl rfl ?_
 intro w5 h
 refine zp1 rfl (zNSSR (zp2 rfl (qb ?_)))
 refine qr rfl hF ?_ ?_ <;> intro hF
 ·exact zSR (zp1 rfl (qb (qap qc h hF ⟨rfl, trivial⟩)))
 exact zKSR (zp2 rfl (qb (qap qc h hF ⟨rfl, trivial⟩)))

def qc5 (a : (List qP)) : Nat → Int → Int → Option (Flow Int (Int × Int))
 | 0, _, _ => none
 | n + 1, i1, i2 =>
  bif decide (i2 < (a.length : Int)) then
   (idx a i2).bind fun y1 =>
   (qgF n y1 i1).bind fun r1 =>
   bif decide (r1 < 0) then
    some (.ret (-1))
   else
    qc5 a n r1 (W64 (i2 + 1))
  else
   some (.nxt (i1, i2))

def qh3 (n : Nat) (a : (List qP)) (left : Int) : Option Int :=
 bif decide ((W64 (left - (a.length : Int))) < 0) then
  some (-1)
 else
  (qc5 a n (W64 (left - (a.length : Int))) 0).bind fun o => match o with
  | .ret r => some r
  | .nxt (i1, _) =>
   some i1

theorem qln {n : Nat} {w : World} {a : (List qP)} {left : Int} {cs1 : List Value} (ha1 : GoT.R w (old w) a cs1) {r : Int} (hF : qh3 n a left = some r) : RetV Tryz.prog 39 [GoT.v (List qP) cs1, .int .i64 left] w r := by
 obtain ⟨p1, k1, rfl, s1⟩ := ha1
 refine qe Tryz.func39 rfl (m := 27) rfl rfl (fun h => ?_)
 rw [qh3] at hF
 refine zSR (zp1 rfl (zNSR (zp5 rfl (qb ?_))))
 refine zSSR (zp2 rfl (qb ?_))
 refine qr rfl hF ?_ ?_ <;> intro hF
 ·exact zSR (zp1 rfl (qb (qap qc h hF ⟨rfl, trivial⟩)))
 refine zKSSR (zp1 rfl (qb ?_))
 obtain ⟨o1, hF, hK1⟩ := qd hF
 refine qv (qR [(0, _), (1, _), (5, _)] ⟨rfl, rfl, rfl, trivial⟩ ?_)
 refine qI (fun m e w' => ∃ (i1 : Int) (i2 : Int), qc5 a m i1 i2 = some o1 ∧ e = [(0, .slice p1 a.length k1), (1, .int .i64 i1), (5, .int .i64 i2)] ∧ SH w w' []) n ⟨_, _, hF, rfl, h⟩ ?_
 rintro m1 e1 w1 ⟨i1, i2, hF, rfl, h⟩
 rcases m1 with _ | m1
 ·rw [qc5] at hF
  cases hF
 rw [qc5] at hF
 refine zSSR (zp4 rfl (qb ?_))
 refine qr rfl hF ?_ ?_ <;> intro hF
 ·refine zKSBSR (zp2 rfl ?_)
  obtain ⟨y1, hy1, hF⟩ := qd hF
  have he1 := qg hy1
  obtain ⟨b1, o_1, q1, cs2, hp1, hq1, -, hr1, hc3⟩ := s1.at hy1
  obtain ⟨p2, k2, p3, k3, p4, k4, p5, k5, rfl, s2, s3, s4, s5⟩ := qbw hr1
  refine zxe hp1 hq1 he1 rfl (zc 0 (hc3.below h.below) rfl (zp1 rfl ?_))
  obtain ⟨r1, hr2, hF⟩ := qd hF
  refine qT r1 h call75 (ql6 (qh8 y1 (h.oldS s2) (h.oldS s3) (h.oldS s4) (h.oldS s5)) hr2) rfl rfl rfl rfl ?_
  intro w2 h
  refine zp1 rfl (zNSR (zp2 rfl (qb ?_)))
  refine qr rfl hF ?_ ?_ <;> intro hF
  ·refine zSR (zp1 rfl (qb ?_))
   obtain rfl := qh hF; replace hF := hK1
   exact qap qc h hF ⟨rfl, trivial⟩
  exact zKER (zp3 rfl (qb (qA m1 [(0, _), (1, _), (5, _)] (Nat.lt_succ_self m1) ⟨rfl, rfl, rfl, trivial⟩ ⟨_, _, hF, rfl, h⟩)))
 refine qH rfl ?_
 obtain rfl := qh hF; replace hF := hK1
 exact zSR (zp2 rfl (qb (qap qc h hF ⟨rfl, trivial⟩)))

def qgW (n : Nat) (a : qF) (left : Int) : Option Int :=
 (qfI n (⟨a.Library.Cells⟩ : qz) left).bind fun r1 =>
 bif decide (r1 < 0) then
  some (-1)
 else
  (qgk n (⟨a.Design.Instances, a.Design.Nets, a.Design.Ports⟩ : ql) r1).bind fun r2 =>
  bif decide (r2 < 0) then
   some (-1)
  else
   (qh3 n a.Wires r2).bind fun r3 =>
   bif decide (r3 < 0) then
    some (-1)
   else
    some r3

theorem qlo {n : Nat} {w : World} {a : qF} {left : Int} {cs1 : List Value} (ha1 : GoT.R w (old w) a cs1) {r : Int} (hF : qgW n a left = some r) : RetV Tryz.prog 9 [GoT.v qF cs1, .int .i64 left] w r := by
 obtain ⟨p1, k1, p2, k2, p3, k3, p4, k4, p5, k5, rfl, s1, s2, s3, s4, s5⟩ := qar ha1
 refine qe Tryz.func9 rfl (m := 24) rfl rfl (fun h => ?_)
 rw [qgW] at hF
 refine zSR (qO h rfl rfl ?_)
 intro w1 bb1 h
 refine zp1 rfl (zNSR (zp1 rfl (zl 0 0 h rfl (zp1 rfl ?_))))
 obtain ⟨r1, hr1, hF⟩ := qd hF
 refine qT r1 h call37 (qkE (qfl (⟨a.Library.Cells⟩ : qz) (h.oldS s1)) hr1) rfl rfl rfl rfl ?_
 intro w2 h
 refine zp1 rfl (zNSSR (zp2 rfl (qb ?_)))
 refine qr rfl hF ?_ ?_ <;> intro hF
 ·exact zSR (zp1 rfl (qb (qap qc h hF ⟨rfl, trivial⟩)))
 refine zKSR (zp1 rfl (zl 0 1 h rfl (zp1 rfl ?_)))
 obtain ⟨r2, hr2, hF⟩ := qd hF
 refine qT r2 h call38 (qkS (qco (⟨a.Design.Instances, a.Design.Nets, a.Design.Ports⟩ : ql) (h.oldS s2) (h.oldS s3) (h.oldS s4)) hr2) rfl rfl rfl rfl ?_
 intro w3 h
 refine zp1 rfl (zNSSR (zp2 rfl (qb ?_)))
 refine qr rfl hF ?_ ?_ <;> intro hF
 ·exact zSR (zp1 rfl (qb (qap qc h hF ⟨rfl, trivial⟩)))
 refine zKSR (zp1 rfl (zl 0 4 h rfl (zp1 rfl ?_)))
 obtain ⟨r3, hr3, hF⟩ := qd hF
 refine qT r3 h call39 (qln ⟨_, _, rfl, (h.oldS s5)⟩ hr3) rfl rfl rfl rfl ?_
 intro w4 h
 refine zp1 rfl (zNSSR (zp2 rfl (qb ?_)))
 refine qr rfl hF ?_ ?_ <;> intro hF
 ·exact zSR (zp1 rfl (qb (qap qc h hF ⟨rfl, trivial⟩)))
 exact zKSR (zp2 rfl (qb (qap qc h hF ⟨rfl, trivial⟩)))

def qdk (a : (List Int)) : Nat → (List Int) → Int → Option ((List Int) × Int)
 | 0, _, _ => none
 | n + 1, x2, i1 =>
  bif decide (i1 < (a.length : Int)) then
   (idx a i1).bind fun y1 =>
   (idx x2 i1).bind fun _ =>
   qdk a n (setS x2 i1 y1) (W64 (i1 + 1))
  else
   some (x2, i1)

def qa4 (n : Nat) (a : (List Int)) : Option (List Int) :=
 (mkS (a.length : Int) (0 : Int)).bind fun x1 =>
 (qdk a n x1 0).bind fun o => match o with
 | (x2, _) =>
  some x2

theorem qa6 {n : Nat} {w : World} {a : (List Int)} {cs1 : List Value} (ha1 : GoT.R w (old w) a cs1) {r : (List Int)} (hF : qa4 n a = some r) : RetV Tryz.prog 14 [GoT.v (List Int) cs1] w r := by
 obtain ⟨p1, k1, rfl, s1⟩ := ha1
 refine qe Tryz.func14 rfl (m := 22) rfl rfl (fun h => ?_)
 rw [qa4] at hF
 refine zSR (zp1 rfl (zNSR (zp2 rfl ?_)))
 obtain ⟨x1, hx1, hF⟩ := qd hF
 obtain ⟨g1, g2, hx1⟩ := qdz hx1
 refine qeA qc Int h rfl rfl rfl rfl rfl rfl rfl rfl rfl g1 g2 hx1 rfl ?_
 intro w1 S1 p2 h
 refine zp1 rfl (zNSSR (zp1 rfl (qb ?_)))
 obtain ⟨o1, hF, hK1⟩ := qd hF
 refine qv (qR [(0, _), (3, _), (4, _)] ⟨rfl, rfl, rfl, trivial⟩ ?_)
 refine qI (fun m e w' => ∃ (x2 : (List Int)) (i1 : Int), qdk a m x2 i1 = some o1 ∧ e = [(0, .slice p1 a.length k1), (3, .slice p2 x1.length x1.length), (4, .int .i64 i1)] ∧ SH w w' [Ch.own S1 (x2 : List Int) [.slice p2 x1.length x1.length]]) n ⟨_, _, hF, rfl, h⟩ ?_
 rintro m1 e1 w2 ⟨x2, i1, hF, rfl, h⟩
 rcases m1 with _ | m1
 ·rw [qdk] at hF
  cases hF
 rw [qdk] at hF
 refine zSSR (zp4 rfl (qb ?_))
 refine qr rfl hF ?_ ?_ <;> intro hF
 ·refine zKSBR (zp4 rfl ?_)
  obtain ⟨y1, hy1, hF⟩ := qd hF
  have he1 := qg hy1
  obtain ⟨b1, o_1, q1, cs2, hp1, hq1, -, hr1, hc2⟩ := s1.at hy1
  obtain rfl := hr1
  refine zxe hp1 hq1 he1 rfl (zc 0 (hc2.below h.below) rfl ?_)
  obtain ⟨y2, hy2, hF⟩ := qd hF
  have he2 := qg hy2
  obtain ⟨b2, o_2, q2, cs3, hp2, hq2, -, hr2, hc3⟩ := (h.sl 0 rfl).1.at hy2
  obtain rfl := hr2
  refine zx hp2 hq2 ⟨he2.1, qae he2.2.1 (h.sl 0 rfl).2⟩ rfl (qcS qc 0 0 y1 h rfl hy2 hp2 hq2 rfl hc3 rfl rfl rfl rfl rfl rfl rfl ?_)
  intro w3 h
  exact zNER (zp3 rfl (qb (qA m1 [(0, _), (3, _), (4, _)] (Nat.lt_succ_self m1) ⟨rfl, rfl, rfl, trivial⟩ ⟨_, _, hF, rfl, h⟩)))
 refine qH rfl ?_
 obtain rfl := qh hF; replace hF := hK1
 refine zSR (zp2 rfl (qb ?_))
 obtain rfl := qh hF
 exact qav qc (ρ := (List Int)) [GoT.v (List Int) [.slice p2 x1.length x1.length]] h ⟨rfl, trivial⟩ (PV.done h (qaG (qab 0 h rfl)))

def qhs (_ : Nat) (a : qaf) : Option qaf :=
 some (⟨a.Name, a.Dir, a.Cap, a.Clock⟩ : qaf)

theorem qmA {n : Nat} {w : World} {a : qaf} {cs1 : List Value} (ha1 : GoT.R w (old w) a cs1) {r : qaf} (hF : qhs n a = some r) : RetV Tryz.prog 198 [GoT.v qaf cs1] w r := by
 obtain rfl := qa7 ha1
 refine qe Tryz.func198 rfl (m := 17) rfl rfl (fun h => ?_)
 rw [qhs] at hF
 refine zSR (qO h rfl rfl ?_)
 intro w1 bb1 h
 refine qah qc h rfl rfl rfl ?_
 intro w2 bb2 h
 refine zNSR (qah qc h rfl rfl rfl ?_)
 intro w3 bb3 h
 refine zNSR (zp1 rfl (zl 2 0 h rfl (zp1 rfl (zs 0 h rfl ?_))))
 intro w4 h
 refine zNSR (zp1 rfl (zl 2 1 h rfl (zp1 rfl (zs 0 h rfl ?_))))
 intro w5 h
 replace h : SH _ _ [Ch.box bb3 [.string a.Name, .int .i64 a.Dir, .int .i64 0, .bool false] 238, Ch.box bb2 [.string ByteArray.empty, .int .i64 0, .int .i64 0, .bool false] 238, Ch.box bb1 [.string a.Name, .int .i64 a.Dir, .int .i64 a.Cap, .bool a.Clock] 257] := h
 refine zNSR (zp1 rfl (zl 2 2 h rfl (zp1 rfl (zs 0 h rfl ?_))))
 intro w6 h
 refine zNSR (zp1 rfl (zl 2 3 h rfl (zp1 rfl (zs 0 h rfl ?_))))
 intro w7 h
 replace h : SH _ _ [Ch.box bb3 [.string a.Name, .int .i64 a.Dir, .int .i64 a.Cap, .bool a.Clock] 238, Ch.box bb2 [.string ByteArray.empty, .int .i64 0, .int .i64 0, .bool false] 238, Ch.box bb1 [.string a.Name, .int .i64 a.Dir, .int .i64 a.Cap, .bool a.Clock] 257] := h
 refine zNSR (zl 0 0 h rfl (zs 1 h rfl ?_))
 intro w8 h
 refine qb ?_
 obtain rfl := qh hF
 exact qav qc (ρ := qaf) [GoT.v qaf [.string a.Name, .int .i64 a.Dir, .int .i64 a.Cap, .bool a.Clock]] h ⟨⟨_, _, _, rfl, rfl, h.box 1 rfl, rfl⟩, trivial⟩ (PV.done h (qaG (qax (S := fun _ => False) (qdQ (⟨a.Name, a.Dir, a.Cap, a.Clock⟩ : qaf)))))

def qec (a : (List qaf)) : Nat → (List qaf) → Int → Option ((List qaf) × Int)
 | 0, _, _ => none
 | n + 1, x2, i1 =>
  bif decide (i1 < (a.length : Int)) then
   (idx a i1).bind fun y1 =>
   (qhs n y1).bind fun r1 =>
   (idx x2 i1).bind fun _ =>
   qec a n (setS x2 i1 r1) (W64 (i1 + 1))
  else
   some (x2, i1)

def qhG (n : Nat) (a : (List qaf)) : Option (List qaf) :=
 (mkS (a.length : Int) ((⟨ByteArray.empty, 0, 0, false⟩ : qaf) : qaf)).bind fun x1 =>
 (qec a n x1 0).bind fun o => match o with
 | (x2, _) =>
  some x2

theorem qlP {n : Nat} {w : World} {a : (List qaf)} {cs1 : List Value} (ha1 : GoT.R w (old w) a cs1) {r : (List qaf)} (hF : qhG n a = some r) : RetV Tryz.prog 171 [GoT.v (List qaf) cs1] w r := by
 obtain ⟨p1, k1, rfl, s1⟩ := ha1
 refine qe Tryz.func171 rfl (m := 23) rfl rfl (fun h => ?_)
 rw [qhG] at hF
 refine zSR (zp1 rfl (zNSR (zp2 rfl ?_)))
 obtain ⟨x1, hx1, hF⟩ := qd hF
 obtain ⟨g1, g2, hx1⟩ := qdz hx1
 refine qeA qc qaf h rfl rfl rfl rfl rfl rfl rfl rfl rfl g1 g2 hx1 rfl ?_
 intro w1 S1 p2 h
 refine zp1 rfl (zNSSR (zp1 rfl (qb ?_)))
 obtain ⟨o1, hF, hK1⟩ := qd hF
 refine qv (qR [(0, _), (3, _), (4, _)] ⟨rfl, rfl, rfl, trivial⟩ ?_)
 refine qI (fun m e w' => ∃ (x2 : (List qaf)) (i1 : Int), qec a m x2 i1 = some o1 ∧ e = [(0, .slice p1 a.length k1), (3, .slice p2 x1.length x1.length), (4, .int .i64 i1)] ∧ SH w w' [Ch.own S1 (x2 : List qaf) [.slice p2 x1.length x1.length]]) n ⟨_, _, hF, rfl, h⟩ ?_
 rintro m1 e1 w2 ⟨x2, i1, hF, rfl, h⟩
 rcases m1 with _ | m1
 ·rw [qec] at hF
  cases hF
 rw [qec] at hF
 refine zSSR (zp4 rfl (qb ?_))
 refine qr rfl hF ?_ ?_ <;> intro hF
 ·refine zKSBR (zp4 rfl ?_)
  obtain ⟨y1, hy1, hF⟩ := qd hF
  have he1 := qg hy1
  obtain ⟨b1, o_1, q1, cs2, hp1, hq1, -, hr1, hc2⟩ := s1.at hy1
  obtain rfl := qa7 hr1
  refine zxe hp1 hq1 he1 rfl (zc 0 (hc2.below h.below) rfl ?_)
  obtain ⟨r1, hr2, hF⟩ := qd hF
  refine qfD r1 h call198 (qmA (qdQ y1) hr2) rfl rfl rfl rfl ?_
  intro w3 S2 cs3 h
  obtain rfl := qa7 (h.own 0 rfl)
  obtain ⟨y2, hy2, hF⟩ := qd hF
  have he2 := qg hy2
  obtain ⟨b2, o_2, q2, cs4, hp2, hq2, -, hr3, hc3⟩ := (h.sl 1 rfl).1.at hy2
  obtain rfl := qa7 hr3
  refine zx hp2 hq2 ⟨he2.1, qae he2.2.1 (h.sl 1 rfl).2⟩ rfl (qcS qc 1 0 r1 h rfl hy2 hp2 hq2 (qdQ y2) hc3 rfl rfl rfl (qdQ r1) rfl rfl rfl ?_)
  intro w4 h
  refine zNER (zp3 rfl (qb ?_))
  replace h := h.pick [1] rfl
  exact qA m1 [(0, _), (3, _), (4, _)] (Nat.lt_succ_self m1) ⟨rfl, rfl, rfl, trivial⟩ ⟨_, _, hF, rfl, h⟩
 refine qH rfl ?_
 obtain rfl := qh hF; replace hF := hK1
 refine zSR (zp2 rfl (qb ?_))
 obtain rfl := qh hF
 exact qav qc (ρ := (List qaf)) [GoT.v (List qaf) [.slice p2 x1.length x1.length]] h ⟨rfl, trivial⟩ (PV.done h (qaG (qab 0 h rfl)))

def qfS (n : Nat) (a : qC) : Option qC :=
 (qa4 n a.Slews).bind fun r1 =>
 (qa4 n a.Loads).bind fun r2 =>
 (qa4 n a.Values).bind fun r3 =>
 some (⟨r1, r2, r3⟩ : qC)

theorem qlu {n : Nat} {w : World} {a : qC} {cs1 : List Value} (ha1 : GoT.R w (old w) a cs1) {r : qC} (hF : qfS n a = some r) : RetV Tryz.prog 225 [GoT.v qC cs1] w r := by
 obtain ⟨p1, k1, p2, k2, p3, k3, rfl, s1, s2, s3⟩ := qbs ha1
 refine qe Tryz.func225 rfl (m := 17) rfl rfl (fun h => ?_)
 rw [qfS] at hF
 refine zSR (qO h rfl rfl ?_)
 intro w1 bb1 h
 refine qah qc h rfl rfl rfl ?_
 intro w2 bb2 h
 refine zNSR (qah qc h rfl rfl rfl ?_)
 intro w3 bb3 h
 refine zNSR (zp1 rfl (zl 2 0 h rfl ?_))
 obtain ⟨r1, hr1, hF⟩ := qd hF
 refine qat r1 h call14 (qa6 ⟨_, _, rfl, (h.oldS s1)⟩ hr1) rfl rfl rfl rfl ?_
 intro w4 S1 p4 k4 h
 refine zp1 rfl (zs 1 h rfl ?_)
 intro w5 h
 refine zNSR (zp1 rfl (zl 3 1 h rfl ?_))
 obtain ⟨r2, hr2, hF⟩ := qd hF
 refine qat r2 h call14 (qa6 ⟨_, _, rfl, (h.oldS s2)⟩ hr2) rfl rfl rfl rfl ?_
 intro w6 S2 p5 k5 h
 refine zp1 rfl (zs 2 h rfl ?_)
 intro w7 h
 replace h : SH _ _ [Ch.own S2 (r2 : List Int) [.slice p5 r2.length k5], Ch.own S1 (r1 : List Int) [.slice p4 r1.length k4], Ch.box bb3 [.slice p4 r1.length k4, .slice p5 r2.length k5, .slice none 0 0] 267, Ch.box bb2 [.slice none 0 0, .slice none 0 0, .slice none 0 0] 267, Ch.box bb1 [.slice p1 a.Slews.length k1, .slice p2 a.Loads.length k2, .slice p3 a.Values.length k3] 283] := h
 refine zNSR (zp1 rfl (zl 4 2 h rfl ?_))
 obtain ⟨r3, hr3, hF⟩ := qd hF
 refine qat r3 h call14 (qa6 ⟨_, _, rfl, (h.oldS s3)⟩ hr3) rfl rfl rfl rfl ?_
 intro w8 S3 p6 k6 h
 refine zp1 rfl (zs 3 h rfl ?_)
 intro w9 h
 refine zNSR (zl 3 0 h rfl (zs 4 h rfl ?_))
 intro w10 h
 replace h : SH _ _ [Ch.own S3 (r3 : List Int) [.slice p6 r3.length k6], Ch.own S2 (r2 : List Int) [.slice p5 r2.length k5], Ch.own S1 (r1 : List Int) [.slice p4 r1.length k4], Ch.box bb3 [.slice p4 r1.length k4, .slice p5 r2.length k5, .slice p6 r3.length k6] 267, Ch.box bb2 [.slice p4 r1.length k4, .slice p5 r2.length k5, .slice p6 r3.length k6] 267, Ch.box bb1 [.slice p1 a.Slews.length k1, .slice p2 a.Loads.length k2, .slice p3 a.Values.length k3] 283] := h
 refine qb ?_
 obtain rfl := qh hF
 exact qav qc (ρ := qC) [GoT.v qC [.slice p4 r1.length k4, .slice p5 r2.length k5, .slice p6 r3.length k6]] h ⟨⟨_, _, _, rfl, rfl, h.box 4 rfl, rfl⟩, trivial⟩ (PV.done h (qaG (qmT (⟨r1, r2, r3⟩ : qC) h (qab 2 h rfl) (qab 1 h rfl) (qab 0 h rfl) (by rfl) (by rfl))))

def qdf (a : (List qC)) : Nat → (List qC) → Int → Option ((List qC) × Int)
 | 0, _, _ => none
 | n + 1, x2, i1 =>
  bif decide (i1 < (a.length : Int)) then
   (idx a i1).bind fun y1 =>
   (qfS n y1).bind fun r1 =>
   (idx x2 i1).bind fun _ =>
   qdf a n (setS x2 i1 r1) (W64 (i1 + 1))
  else
   some (x2, i1)

def qfx (n : Nat) (a : (List qC)) : Option (List qC) :=
 (mkS (a.length : Int) ((⟨[], [], []⟩ : qC) : qC)).bind fun x1 =>
 (qdf a n x1 0).bind fun o => match o with
 | (x2, _) =>
  some x2

theorem qiC {n : Nat} {w : World} {a : (List qC)} {cs1 : List Value} (ha1 : GoT.R w (old w) a cs1) {r : (List qC)} (hF : qfx n a = some r) : RetV Tryz.prog 213 [GoT.v (List qC) cs1] w r := by
 obtain ⟨p1, k1, rfl, s1⟩ := ha1
 refine qe Tryz.func213 rfl (m := 23) rfl rfl (fun h => ?_)
 rw [qfx] at hF
 refine zSR (zp1 rfl (zNSR (zp2 rfl ?_)))
 obtain ⟨x1, hx1, hF⟩ := qd hF
 obtain ⟨g1, g2, hx1⟩ := qdz hx1
 refine qeA qc qC h rfl rfl rfl rfl rfl rfl rfl rfl rfl g1 g2 hx1 rfl ?_
 intro w1 S1 p2 h
 refine zp1 rfl (zNSSR (zp1 rfl (qb ?_)))
 obtain ⟨o1, hF, hK1⟩ := qd hF
 refine qv (qR [(0, _), (3, _), (4, _)] ⟨rfl, rfl, rfl, trivial⟩ ?_)
 refine qI (fun m e w' => ∃ (S2 : Nat → Prop) (x2 : (List qC)) (i1 : Int), qdf a m x2 i1 = some o1 ∧ e = [(0, .slice p1 a.length k1), (3, .slice p2 x1.length x1.length), (4, .int .i64 i1)] ∧ SH w w' [Ch.own S2 (x2 : List qC) [.slice p2 x1.length x1.length]]) n ⟨_, _, _, hF, rfl, h⟩ ?_
 rintro m1 e1 w2 ⟨S2, x2, i1, hF, rfl, h⟩
 rcases m1 with _ | m1
 ·rw [qdf] at hF
  cases hF
 rw [qdf] at hF
 refine zSSR (zp4 rfl (qb ?_))
 refine qr rfl hF ?_ ?_ <;> intro hF
 ·refine zKSBR (zp4 rfl ?_)
  obtain ⟨y1, hy1, hF⟩ := qd hF
  have he1 := qg hy1
  obtain ⟨b1, o_1, q1, cs2, hp1, hq1, -, hr1, hc2⟩ := s1.at hy1
  obtain ⟨p3, k2, p4, k3, p5, k4, rfl, s2, s3, s4⟩ := qbs hr1
  refine zxe hp1 hq1 he1 rfl (zc 0 (hc2.below h.below) rfl ?_)
  obtain ⟨r1, hr2, hF⟩ := qd hF
  refine qfD r1 h call225 (qlu (qht y1 (h.oldS s2) (h.oldS s3) (h.oldS s4)) hr2) rfl rfl rfl rfl ?_
  intro w3 S3 cs3 h
  obtain ⟨p6, k5, p7, k6, p8, k7, rfl, -, -, -⟩ := qbs (h.own 0 rfl)
  obtain ⟨y2, hy2, hF⟩ := qd hF
  have he2 := qg hy2
  replace h := h.lrn0 1 rfl
  obtain ⟨b2, o_2, q2, cs4, hp2, hq2, -, hr3, hc3⟩ := (qhY (h.lrnO 1 rfl)).1.at hy2
  have hr4 := hr3
  obtain ⟨p9, k8, p10, k9, p11, k10, rfl, s8, s9, s10⟩ := qbs hr3
  replace h := h.lrnAdd 1 rfl hr4
  refine zx hp2 hq2 ⟨he2.1, qae he2.2.1 (qhY (h.lrnO 1 rfl)).2⟩ rfl ?_
  replace h := h.unlrn 1 rfl
  refine qiG qc r1 h hy2 hp2 hq2 rfl rfl rfl rfl rfl ?_
  intro w4 S4 h
  exact zNER (zp3 rfl (qb (qA m1 [(0, _), (3, _), (4, _)] (Nat.lt_succ_self m1) ⟨rfl, rfl, rfl, trivial⟩ ⟨_, _, _, hF, rfl, h⟩)))
 refine qH rfl ?_
 obtain rfl := qh hF; replace hF := hK1
 refine zSR (zp2 rfl (qb ?_))
 obtain rfl := qh hF
 exact qav qc (ρ := (List qC)) [GoT.v (List qC) [.slice p2 x1.length x1.length]] h ⟨rfl, trivial⟩ (PV.done h (qaG (qab 0 h rfl)))

def qhl (n : Nat) (a : qY) : Option qY :=
 (qfx n a.Delay).bind fun r1 =>
 (qfx n a.Slew).bind fun r2 =>
 some (⟨a.Kind, a.From, a.To, a.Sense, r1, r2⟩ : qY)

theorem qmJ {n : Nat} {w : World} {a : qY} {cs1 : List Value} (ha1 : GoT.R w (old w) a cs1) {r : qY} (hF : qhl n a = some r) : RetV Tryz.prog 199 [GoT.v qY cs1] w r := by
 obtain ⟨p1, k1, p2, k2, rfl, s1, s2⟩ := qaQ ha1
 refine qe Tryz.func199 rfl (m := 25) rfl rfl (fun h => ?_)
 rw [qhl] at hF
 refine zSR (qO h rfl rfl ?_)
 intro w1 bb1 h
 refine qah qc h rfl rfl rfl ?_
 intro w2 bb2 h
 refine zNSR (qah qc h rfl rfl rfl ?_)
 intro w3 bb3 h
 refine zNSR (zp1 rfl (zl 2 0 h rfl (zp1 rfl (zs 0 h rfl ?_))))
 intro w4 h
 refine zNSR (zp1 rfl (zl 2 1 h rfl (zp1 rfl (zs 0 h rfl ?_))))
 intro w5 h
 replace h : SH _ _ [Ch.box bb3 [.int .i64 a.Kind, .int .i64 a.From, .int .i64 0, .int .i64 0, .slice none 0 0, .slice none 0 0] 211, Ch.box bb2 [.int .i64 0, .int .i64 0, .int .i64 0, .int .i64 0, .slice none 0 0, .slice none 0 0] 211, Ch.box bb1 [.int .i64 a.Kind, .int .i64 a.From, .int .i64 a.To, .int .i64 a.Sense, .slice p1 a.Delay.length k1, .slice p2 a.Slew.length k2] 261] := h
 refine zNSR (zp1 rfl (zl 2 2 h rfl (zp1 rfl (zs 0 h rfl ?_))))
 intro w6 h
 refine zNSR (zp1 rfl (zl 2 3 h rfl (zp1 rfl (zs 0 h rfl ?_))))
 intro w7 h
 replace h : SH _ _ [Ch.box bb3 [.int .i64 a.Kind, .int .i64 a.From, .int .i64 a.To, .int .i64 a.Sense, .slice none 0 0, .slice none 0 0] 211, Ch.box bb2 [.int .i64 0, .int .i64 0, .int .i64 0, .int .i64 0, .slice none 0 0, .slice none 0 0] 211, Ch.box bb1 [.int .i64 a.Kind, .int .i64 a.From, .int .i64 a.To, .int .i64 a.Sense, .slice p1 a.Delay.length k1, .slice p2 a.Slew.length k2] 261] := h
 refine zNSR (zp1 rfl (zl 2 4 h rfl ?_))
 obtain ⟨r1, hr1, hF⟩ := qd hF
 refine qat r1 h call213 (qiC ⟨_, _, rfl, (h.oldS s1)⟩ hr1) rfl rfl rfl rfl ?_
 intro w8 S1 p3 k3 h
 refine zp1 rfl (zs 1 h rfl ?_)
 intro w9 h
 refine zNSR (zp1 rfl (zl 3 5 h rfl ?_))
 obtain ⟨r2, hr2, hF⟩ := qd hF
 refine qat r2 h call213 (qiC ⟨_, _, rfl, (h.oldS s2)⟩ hr2) rfl rfl rfl rfl ?_
 intro w10 S2 p4 k4 h
 refine zp1 rfl (zs 2 h rfl ?_)
 intro w11 h
 replace h : SH _ _ [Ch.own S2 (r2 : List qC) [.slice p4 r2.length k4], Ch.own S1 (r1 : List qC) [.slice p3 r1.length k3], Ch.box bb3 [.int .i64 a.Kind, .int .i64 a.From, .int .i64 a.To, .int .i64 a.Sense, .slice p3 r1.length k3, .slice p4 r2.length k4] 211, Ch.box bb2 [.int .i64 0, .int .i64 0, .int .i64 0, .int .i64 0, .slice none 0 0, .slice none 0 0] 211, Ch.box bb1 [.int .i64 a.Kind, .int .i64 a.From, .int .i64 a.To, .int .i64 a.Sense, .slice p1 a.Delay.length k1, .slice p2 a.Slew.length k2] 261] := h
 refine zNSR (zl 2 0 h rfl (zs 3 h rfl ?_))
 intro w12 h
 refine qb ?_
 obtain rfl := qh hF
 exact qav qc (ρ := qY) [GoT.v qY [.int .i64 a.Kind, .int .i64 a.From, .int .i64 a.To, .int .i64 a.Sense, .slice p3 r1.length k3, .slice p4 r2.length k4]] h ⟨⟨_, _, _, rfl, rfl, h.box 3 rfl, rfl⟩, trivial⟩ (PV.done h (qaG (qpf (⟨a.Kind, a.From, a.To, a.Sense, r1, r2⟩ : qY) h (qax (S := fun _ => False) rfl) (qax (S := fun _ => False) rfl) (qax (S := fun _ => False) rfl) (qax (S := fun _ => False) rfl) (qab 1 h rfl) (qab 0 h rfl) (by rfl) (by rfl) (by rfl) (by rfl) (by rfl))))

def qea (a : (List qY)) : Nat → (List qY) → Int → Option ((List qY) × Int)
 | 0, _, _ => none
 | n + 1, x2, i1 =>
  bif decide (i1 < (a.length : Int)) then
   (idx a i1).bind fun y1 =>
   (qhl n y1).bind fun r1 =>
   (idx x2 i1).bind fun _ =>
   qea a n (setS x2 i1 r1) (W64 (i1 + 1))
  else
   some (x2, i1)

def qhN (n : Nat) (a : (List qY)) : Option (List qY) :=
 (mkS (a.length : Int) ((⟨0, 0, 0, 0, [], []⟩ : qY) : qY)).bind fun x1 =>
 (qea a n x1 0).bind fun o => match o with
 | (x2, _) =>
  some x2

theorem ql1 {n : Nat} {w : World} {a : (List qY)} {cs1 : List Value} (ha1 : GoT.R w (old w) a cs1) {r : (List qY)} (hF : qhN n a = some r) : RetV Tryz.prog 172 [GoT.v (List qY) cs1] w r := by
 obtain ⟨p1, k1, rfl, s1⟩ := ha1
 refine qe Tryz.func172 rfl (m := 23) rfl rfl (fun h => ?_)
 rw [qhN] at hF
 refine zSR (zp1 rfl (zNSR (zp2 rfl ?_)))
 obtain ⟨x1, hx1, hF⟩ := qd hF
 obtain ⟨g1, g2, hx1⟩ := qdz hx1
 refine qeA qc qY h rfl rfl rfl rfl rfl rfl rfl rfl rfl g1 g2 hx1 rfl ?_
 intro w1 S1 p2 h
 refine zp1 rfl (zNSSR (zp1 rfl (qb ?_)))
 obtain ⟨o1, hF, hK1⟩ := qd hF
 refine qv (qR [(0, _), (3, _), (4, _)] ⟨rfl, rfl, rfl, trivial⟩ ?_)
 refine qI (fun m e w' => ∃ (S2 : Nat → Prop) (x2 : (List qY)) (i1 : Int), qea a m x2 i1 = some o1 ∧ e = [(0, .slice p1 a.length k1), (3, .slice p2 x1.length x1.length), (4, .int .i64 i1)] ∧ SH w w' [Ch.own S2 (x2 : List qY) [.slice p2 x1.length x1.length]]) n ⟨_, _, _, hF, rfl, h⟩ ?_
 rintro m1 e1 w2 ⟨S2, x2, i1, hF, rfl, h⟩
 rcases m1 with _ | m1
 ·rw [qea] at hF
  cases hF
 rw [qea] at hF
 refine zSSR (zp4 rfl (qb ?_))
 refine qr rfl hF ?_ ?_ <;> intro hF
 ·refine zKSBR (zp4 rfl ?_)
  obtain ⟨y1, hy1, hF⟩ := qd hF
  have he1 := qg hy1
  obtain ⟨b1, o_1, q1, cs2, hp1, hq1, -, hr1, hc2⟩ := s1.at hy1
  obtain ⟨p3, k2, p4, k3, rfl, s2, s3⟩ := qaQ hr1
  refine zxe hp1 hq1 he1 rfl (zc 0 (hc2.below h.below) rfl ?_)
  obtain ⟨r1, hr2, hF⟩ := qd hF
  refine qfD r1 h call199 (qmJ (qgg y1 (h.oldS s2) (h.oldS s3)) hr2) rfl rfl rfl rfl ?_
  intro w3 S3 cs3 h
  obtain ⟨p5, k4, p6, k5, rfl, -, -⟩ := qaQ (h.own 0 rfl)
  obtain ⟨y2, hy2, hF⟩ := qd hF
  have he2 := qg hy2
  replace h := h.lrn0 1 rfl
  obtain ⟨b2, o_2, q2, cs4, hp2, hq2, -, hr3, hc3⟩ := (qhY (h.lrnO 1 rfl)).1.at hy2
  have hr4 := hr3
  obtain ⟨p7, k6, p8, k7, rfl, s6, s7⟩ := qaQ hr3
  replace h := h.lrnAdd 1 rfl hr4
  refine zx hp2 hq2 ⟨he2.1, qae he2.2.1 (qhY (h.lrnO 1 rfl)).2⟩ rfl ?_
  replace h := h.unlrn 1 rfl
  refine qiG qc r1 h hy2 hp2 hq2 rfl rfl rfl rfl rfl ?_
  intro w4 S4 h
  exact zNER (zp3 rfl (qb (qA m1 [(0, _), (3, _), (4, _)] (Nat.lt_succ_self m1) ⟨rfl, rfl, rfl, trivial⟩ ⟨_, _, _, hF, rfl, h⟩)))
 refine qH rfl ?_
 obtain rfl := qh hF; replace hF := hK1
 refine zSR (zp2 rfl (qb ?_))
 obtain rfl := qh hF
 exact qav qc (ρ := (List qY)) [GoT.v (List qY) [.slice p2 x1.length x1.length]] h ⟨rfl, trivial⟩ (PV.done h (qaG (qab 0 h rfl)))

def qgz (n : Nat) (a : qB) : Option qB :=
 (qhG n a.Pins).bind fun r1 =>
 (qhN n a.Arcs).bind fun r2 =>
 (qa4 n a.Truth).bind fun r3 =>
 some (⟨a.Name, a.Kind, r1, r2, r3, a.Leak, a.Energy⟩ : qB)

theorem ql9 {n : Nat} {w : World} {a : qB} {cs1 : List Value} (ha1 : GoT.R w (old w) a cs1) {r : qB} (hF : qgz n a = some r) : RetV Tryz.prog 125 [GoT.v qB cs1] w r := by
 obtain ⟨p1, k1, p2, k2, p3, k3, rfl, s1, s2, s3⟩ := qai ha1
 refine qe Tryz.func125 rfl (m := 29) rfl rfl (fun h => ?_)
 rw [qgz] at hF
 refine zSR (qO h rfl rfl ?_)
 intro w1 bb1 h
 refine qah qc h rfl rfl rfl ?_
 intro w2 bb2 h
 refine zNSR (qah qc h rfl rfl rfl ?_)
 intro w3 bb3 h
 refine zNSR (zp1 rfl (zl 2 0 h rfl (zp1 rfl (zs 0 h rfl ?_))))
 intro w4 h
 refine zNSR (zp1 rfl (zl 2 1 h rfl (zp1 rfl (zs 0 h rfl ?_))))
 intro w5 h
 replace h : SH _ _ [Ch.box bb3 [.string a.Name, .int .i64 a.Kind, .slice none 0 0, .slice none 0 0, .slice none 0 0, .int .i64 0, .int .i64 0] 183, Ch.box bb2 [.string ByteArray.empty, .int .i64 0, .slice none 0 0, .slice none 0 0, .slice none 0 0, .int .i64 0, .int .i64 0] 183, Ch.box bb1 [.string a.Name, .int .i64 a.Kind, .slice p1 a.Pins.length k1, .slice p2 a.Arcs.length k2, .slice p3 a.Truth.length k3, .int .i64 a.Leak, .int .i64 a.Energy] 171] := h
 refine zNSR (zp1 rfl (zl 2 2 h rfl ?_))
 obtain ⟨r1, hr1, hF⟩ := qd hF
 refine qat r1 h call171 (qlP ⟨_, _, rfl, (h.oldS s1)⟩ hr1) rfl rfl rfl rfl ?_
 intro w6 S1 p4 k4 h
 refine zp1 rfl (zs 1 h rfl ?_)
 intro w7 h
 refine zNSR (zp1 rfl (zl 3 3 h rfl ?_))
 obtain ⟨r2, hr2, hF⟩ := qd hF
 refine qat r2 h call172 (ql1 ⟨_, _, rfl, (h.oldS s2)⟩ hr2) rfl rfl rfl rfl ?_
 intro w8 S2 p5 k5 h
 refine zp1 rfl (zs 2 h rfl ?_)
 intro w9 h
 replace h : SH _ _ [Ch.own S2 (r2 : List qY) [.slice p5 r2.length k5], Ch.own S1 (r1 : List qaf) [.slice p4 r1.length k4], Ch.box bb3 [.string a.Name, .int .i64 a.Kind, .slice p4 r1.length k4, .slice p5 r2.length k5, .slice none 0 0, .int .i64 0, .int .i64 0] 183, Ch.box bb2 [.string ByteArray.empty, .int .i64 0, .slice none 0 0, .slice none 0 0, .slice none 0 0, .int .i64 0, .int .i64 0] 183, Ch.box bb1 [.string a.Name, .int .i64 a.Kind, .slice p1 a.Pins.length k1, .slice p2 a.Arcs.length k2, .slice p3 a.Truth.length k3, .int .i64 a.Leak, .int .i64 a.Energy] 171] := h
 refine zNSR (zp1 rfl (zl 4 4 h rfl ?_))
 obtain ⟨r3, hr3, hF⟩ := qd hF
 refine qat r3 h call14 (qa6 ⟨_, _, rfl, (h.oldS s3)⟩ hr3) rfl rfl rfl rfl ?_
 intro w10 S3 p6 k6 h
 refine zp1 rfl (zs 3 h rfl ?_)
 intro w11 h
 refine zNSR (zp1 rfl (zl 5 5 h rfl (zp1 rfl (zs 3 h rfl ?_))))
 intro w12 h
 replace h : SH _ _ [Ch.own S3 (r3 : List Int) [.slice p6 r3.length k6], Ch.own S2 (r2 : List qY) [.slice p5 r2.length k5], Ch.own S1 (r1 : List qaf) [.slice p4 r1.length k4], Ch.box bb3 [.string a.Name, .int .i64 a.Kind, .slice p4 r1.length k4, .slice p5 r2.length k5, .slice p6 r3.length k6, .int .i64 a.Leak, .int .i64 0] 183, Ch.box bb2 [.string ByteArray.empty, .int .i64 0, .slice none 0 0, .slice none 0 0, .slice none 0 0, .int .i64 0, .int .i64 0] 183, Ch.box bb1 [.string a.Name, .int .i64 a.Kind, .slice p1 a.Pins.length k1, .slice p2 a.Arcs.length k2, .slice p3 a.Truth.length k3, .int .i64 a.Leak, .int .i64 a.Energy] 171] := h
 refine zNSR (zp1 rfl (zl 5 6 h rfl (zp1 rfl (zs 3 h rfl ?_))))
 intro w13 h
 refine zNSR (zl 3 0 h rfl (zs 4 h rfl ?_))
 intro w14 h
 replace h : SH _ _ [Ch.own S3 (r3 : List Int) [.slice p6 r3.length k6], Ch.own S2 (r2 : List qY) [.slice p5 r2.length k5], Ch.own S1 (r1 : List qaf) [.slice p4 r1.length k4], Ch.box bb3 [.string a.Name, .int .i64 a.Kind, .slice p4 r1.length k4, .slice p5 r2.length k5, .slice p6 r3.length k6, .int .i64 a.Leak, .int .i64 a.Energy] 183, Ch.box bb2 [.string a.Name, .int .i64 a.Kind, .slice p4 r1.length k4, .slice p5 r2.length k5, .slice p6 r3.length k6, .int .i64 a.Leak, .int .i64 a.Energy] 183, Ch.box bb1 [.string a.Name, .int .i64 a.Kind, .slice p1 a.Pins.length k1, .slice p2 a.Arcs.length k2, .slice p3 a.Truth.length k3, .int .i64 a.Leak, .int .i64 a.Energy] 171] := h
 refine qb ?_
 obtain rfl := qh hF
 exact qav qc (ρ := qB) [GoT.v qB [.string a.Name, .int .i64 a.Kind, .slice p4 r1.length k4, .slice p5 r2.length k5, .slice p6 r3.length k6, .int .i64 a.Leak, .int .i64 a.Energy]] h ⟨⟨_, _, _, rfl, rfl, h.box 4 rfl, rfl⟩, trivial⟩ (PV.done h (qaG (qoc (⟨a.Name, a.Kind, r1, r2, r3, a.Leak, a.Energy⟩ : qB) h (qax (S := fun _ => False) rfl) (qax (S := fun _ => False) rfl) (qab 2 h rfl) (qab 1 h rfl) (qab 0 h rfl) (qax (S := fun _ => False) rfl) (qax (S := fun _ => False) rfl) (by rfl) (by rfl) (by rfl) (by rfl) (by rfl) (by rfl))))

def qdF (a : (List qB)) : Nat → (List qB) → Int → Option ((List qB) × Int)
 | 0, _, _ => none
 | n + 1, x2, i1 =>
  bif decide (i1 < (a.length : Int)) then
   (idx a i1).bind fun y1 =>
   (qgz n y1).bind fun r1 =>
   (idx x2 i1).bind fun _ =>
   qdF a n (setS x2 i1 r1) (W64 (i1 + 1))
  else
   some (x2, i1)

def qgI (n : Nat) (a : (List qB)) : Option (List qB) :=
 (mkS (a.length : Int) ((⟨ByteArray.empty, 0, [], [], [], 0, 0⟩ : qB) : qB)).bind fun x1 =>
 (qdF a n x1 0).bind fun o => match o with
 | (x2, _) =>
  some x2

theorem qlp {n : Nat} {w : World} {a : (List qB)} {cs1 : List Value} (ha1 : GoT.R w (old w) a cs1) {r : (List qB)} (hF : qgI n a = some r) : RetV Tryz.prog 80 [GoT.v (List qB) cs1] w r := by
 obtain ⟨p1, k1, rfl, s1⟩ := ha1
 refine qe Tryz.func80 rfl (m := 23) rfl rfl (fun h => ?_)
 rw [qgI] at hF
 refine zSR (zp1 rfl (zNSR (zp2 rfl ?_)))
 obtain ⟨x1, hx1, hF⟩ := qd hF
 obtain ⟨g1, g2, hx1⟩ := qdz hx1
 refine qeA qc qB h rfl rfl rfl rfl rfl rfl rfl rfl rfl g1 g2 hx1 rfl ?_
 intro w1 S1 p2 h
 refine zp1 rfl (zNSSR (zp1 rfl (qb ?_)))
 obtain ⟨o1, hF, hK1⟩ := qd hF
 refine qv (qR [(0, _), (3, _), (4, _)] ⟨rfl, rfl, rfl, trivial⟩ ?_)
 refine qI (fun m e w' => ∃ (S2 : Nat → Prop) (x2 : (List qB)) (i1 : Int), qdF a m x2 i1 = some o1 ∧ e = [(0, .slice p1 a.length k1), (3, .slice p2 x1.length x1.length), (4, .int .i64 i1)] ∧ SH w w' [Ch.own S2 (x2 : List qB) [.slice p2 x1.length x1.length]]) n ⟨_, _, _, hF, rfl, h⟩ ?_
 rintro m1 e1 w2 ⟨S2, x2, i1, hF, rfl, h⟩
 rcases m1 with _ | m1
 ·rw [qdF] at hF
  cases hF
 rw [qdF] at hF
 refine zSSR (zp4 rfl (qb ?_))
 refine qr rfl hF ?_ ?_ <;> intro hF
 ·refine zKSBR (zp4 rfl ?_)
  obtain ⟨y1, hy1, hF⟩ := qd hF
  have he1 := qg hy1
  obtain ⟨b1, o_1, q1, cs2, hp1, hq1, -, hr1, hc2⟩ := s1.at hy1
  obtain ⟨p3, k2, p4, k3, p5, k4, rfl, s2, s3, s4⟩ := qai hr1
  refine zxe hp1 hq1 he1 rfl (zc 0 (hc2.below h.below) rfl ?_)
  obtain ⟨r1, hr2, hF⟩ := qd hF
  refine qfD r1 h call125 (ql9 (qh5 y1 (h.oldS s2) (h.oldS s3) (h.oldS s4)) hr2) rfl rfl rfl rfl ?_
  intro w3 S3 cs3 h
  obtain ⟨p6, k5, p7, k6, p8, k7, rfl, -, -, -⟩ := qai (h.own 0 rfl)
  obtain ⟨y2, hy2, hF⟩ := qd hF
  have he2 := qg hy2
  replace h := h.lrn0 1 rfl
  obtain ⟨b2, o_2, q2, cs4, hp2, hq2, -, hr3, hc3⟩ := (qhY (h.lrnO 1 rfl)).1.at hy2
  have hr4 := hr3
  obtain ⟨p9, k8, p10, k9, p11, k10, rfl, s8, s9, s10⟩ := qai hr3
  replace h := h.lrnAdd 1 rfl hr4
  refine zx hp2 hq2 ⟨he2.1, qae he2.2.1 (qhY (h.lrnO 1 rfl)).2⟩ rfl ?_
  replace h := h.unlrn 1 rfl
  refine qiG qc r1 h hy2 hp2 hq2 rfl rfl rfl rfl rfl ?_
  intro w4 S4 h
  exact zNER (zp3 rfl (qb (qA m1 [(0, _), (3, _), (4, _)] (Nat.lt_succ_self m1) ⟨rfl, rfl, rfl, trivial⟩ ⟨_, _, _, hF, rfl, h⟩)))
 refine qH rfl ?_
 obtain rfl := qh hF; replace hF := hK1
 refine zSR (zp2 rfl (qb ?_))
 obtain rfl := qh hF
 exact qav qc (ρ := (List qB)) [GoT.v (List qB) [.slice p2 x1.length x1.length]] h ⟨rfl, trivial⟩ (PV.done h (qaG (qab 0 h rfl)))

def qfJ (n : Nat) (a : qz) : Option qz :=
 (qgI n a.Cells).bind fun r1 =>
 some (⟨r1⟩ : qz)

theorem qkx {n : Nat} {w : World} {a : qz} {cs1 : List Value} (ha1 : GoT.R w (old w) a cs1) {r : qz} (hF : qfJ n a = some r) : RetV Tryz.prog 44 [GoT.v qz cs1] w r := by
 obtain ⟨p1, k1, rfl, s1⟩ := qb3 ha1
 refine qe Tryz.func44 rfl (m := 9) rfl rfl (fun h => ?_)
 rw [qfJ] at hF
 refine zSR (qO h rfl rfl ?_)
 intro w1 bb1 h
 refine qah qc h rfl rfl rfl ?_
 intro w2 bb2 h
 refine zNSR (qah qc h rfl rfl rfl ?_)
 intro w3 bb3 h
 refine zNSR (zp1 rfl (zl 2 0 h rfl ?_))
 obtain ⟨r1, hr1, hF⟩ := qd hF
 refine qat r1 h call80 (qlp ⟨_, _, rfl, (h.oldS s1)⟩ hr1) rfl rfl rfl rfl ?_
 intro w4 S1 p2 k2 h
 refine zp1 rfl (zs 1 h rfl ?_)
 intro w5 h
 refine zNSR (zl 1 0 h rfl (zs 2 h rfl ?_))
 intro w6 h
 replace h : SH _ _ [Ch.own S1 (r1 : List qB) [.slice p2 r1.length k2], Ch.box bb3 [.slice p2 r1.length k2] 43, Ch.box bb2 [.slice p2 r1.length k2] 43, Ch.box bb1 [.slice p1 a.Cells.length k1] 24] := h
 refine qb ?_
 obtain rfl := qh hF
 exact qav qc (ρ := qz) [GoT.v qz [.slice p2 r1.length k2]] h ⟨⟨_, _, _, rfl, rfl, h.box 2 rfl, rfl⟩, trivial⟩ (PV.done h (qaG (qoj (⟨r1⟩ : qz) h (qab 0 h rfl))))

def qet (n : Nat) (a : qk) : Option qk :=
 (qa4 n a.Nets).bind fun r1 =>
 some (⟨a.Name, a.Cell, r1⟩ : qk)

theorem qj9 {n : Nat} {w : World} {a : qk} {cs1 : List Value} (ha1 : GoT.R w (old w) a cs1) {r : qk} (hF : qet n a = some r) : RetV Tryz.prog 126 [GoT.v qk cs1] w r := by
 obtain ⟨p1, k1, rfl, s1⟩ := qad ha1
 refine qe Tryz.func126 rfl (m := 15) rfl rfl (fun h => ?_)
 rw [qet] at hF
 refine zSR (qO h rfl rfl ?_)
 intro w1 bb1 h
 refine qah qc h rfl rfl rfl ?_
 intro w2 bb2 h
 refine zNSR (qah qc h rfl rfl rfl ?_)
 intro w3 bb3 h
 refine zNSR (zp1 rfl (zl 2 0 h rfl (zp1 rfl (zs 0 h rfl ?_))))
 intro w4 h
 refine zNSR (zp1 rfl (zl 2 1 h rfl (zp1 rfl (zs 0 h rfl ?_))))
 intro w5 h
 replace h : SH _ _ [Ch.box bb3 [.string a.Name, .int .i64 a.Cell, .slice none 0 0] 185, Ch.box bb2 [.string ByteArray.empty, .int .i64 0, .slice none 0 0] 185, Ch.box bb1 [.string a.Name, .int .i64 a.Cell, .slice p1 a.Nets.length k1] 174] := h
 refine zNSR (zp1 rfl (zl 2 2 h rfl ?_))
 obtain ⟨r1, hr1, hF⟩ := qd hF
 refine qat r1 h call14 (qa6 ⟨_, _, rfl, (h.oldS s1)⟩ hr1) rfl rfl rfl rfl ?_
 intro w6 S1 p2 k2 h
 refine zp1 rfl (zs 1 h rfl ?_)
 intro w7 h
 refine zNSR (zl 1 0 h rfl (zs 2 h rfl ?_))
 intro w8 h
 replace h : SH _ _ [Ch.own S1 (r1 : List Int) [.slice p2 r1.length k2], Ch.box bb3 [.string a.Name, .int .i64 a.Cell, .slice p2 r1.length k2] 185, Ch.box bb2 [.string a.Name, .int .i64 a.Cell, .slice p2 r1.length k2] 185, Ch.box bb1 [.string a.Name, .int .i64 a.Cell, .slice p1 a.Nets.length k1] 174] := h
 refine qb ?_
 obtain rfl := qh hF
 exact qav qc (ρ := qk) [GoT.v qk [.string a.Name, .int .i64 a.Cell, .slice p2 r1.length k2]] h ⟨⟨_, _, _, rfl, rfl, h.box 2 rfl, rfl⟩, trivial⟩ (PV.done h (qaG (qkB (⟨a.Name, a.Cell, r1⟩ : qk) h (qax (S := fun _ => False) rfl) (qax (S := fun _ => False) rfl) (qab 0 h rfl) (by rfl) (by rfl))))

def qcc (a : (List qk)) : Nat → (List qk) → Int → Option ((List qk) × Int)
 | 0, _, _ => none
 | n + 1, x2, i1 =>
  bif decide (i1 < (a.length : Int)) then
   (idx a i1).bind fun y1 =>
   (qet n y1).bind fun r1 =>
   (idx x2 i1).bind fun _ =>
   qcc a n (setS x2 i1 r1) (W64 (i1 + 1))
  else
   some (x2, i1)

def qe4 (n : Nat) (a : (List qk)) : Option (List qk) :=
 (mkS (a.length : Int) ((⟨ByteArray.empty, 0, []⟩ : qk) : qk)).bind fun x1 =>
 (qcc a n x1 0).bind fun o => match o with
 | (x2, _) =>
  some x2

theorem qj4 {n : Nat} {w : World} {a : (List qk)} {cs1 : List Value} (ha1 : GoT.R w (old w) a cs1) {r : (List qk)} (hF : qe4 n a = some r) : RetV Tryz.prog 81 [GoT.v (List qk) cs1] w r := by
 obtain ⟨p1, k1, rfl, s1⟩ := ha1
 refine qe Tryz.func81 rfl (m := 23) rfl rfl (fun h => ?_)
 rw [qe4] at hF
 refine zSR (zp1 rfl (zNSR (zp2 rfl ?_)))
 obtain ⟨x1, hx1, hF⟩ := qd hF
 obtain ⟨g1, g2, hx1⟩ := qdz hx1
 refine qeA qc qk h rfl rfl rfl rfl rfl rfl rfl rfl rfl g1 g2 hx1 rfl ?_
 intro w1 S1 p2 h
 refine zp1 rfl (zNSSR (zp1 rfl (qb ?_)))
 obtain ⟨o1, hF, hK1⟩ := qd hF
 refine qv (qR [(0, _), (3, _), (4, _)] ⟨rfl, rfl, rfl, trivial⟩ ?_)
 refine qI (fun m e w' => ∃ (S2 : Nat → Prop) (x2 : (List qk)) (i1 : Int), qcc a m x2 i1 = some o1 ∧ e = [(0, .slice p1 a.length k1), (3, .slice p2 x1.length x1.length), (4, .int .i64 i1)] ∧ SH w w' [Ch.own S2 (x2 : List qk) [.slice p2 x1.length x1.length]]) n ⟨_, _, _, hF, rfl, h⟩ ?_
 rintro m1 e1 w2 ⟨S2, x2, i1, hF, rfl, h⟩
 rcases m1 with _ | m1
 ·rw [qcc] at hF
  cases hF
 rw [qcc] at hF
 refine zSSR (zp4 rfl (qb ?_))
 refine qr rfl hF ?_ ?_ <;> intro hF
 ·refine zKSBR (zp4 rfl ?_)
  obtain ⟨y1, hy1, hF⟩ := qd hF
  have he1 := qg hy1
  obtain ⟨b1, o_1, q1, cs2, hp1, hq1, -, hr1, hc2⟩ := s1.at hy1
  obtain ⟨p3, k2, rfl, s2⟩ := qad hr1
  refine zxe hp1 hq1 he1 rfl (zc 0 (hc2.below h.below) rfl ?_)
  obtain ⟨r1, hr2, hF⟩ := qd hF
  refine qfD r1 h call126 (qj9 (qfu y1 (h.oldS s2)) hr2) rfl rfl rfl rfl ?_
  intro w3 S3 cs3 h
  obtain ⟨p4, k3, rfl, -⟩ := qad (h.own 0 rfl)
  obtain ⟨y2, hy2, hF⟩ := qd hF
  have he2 := qg hy2
  replace h := h.lrn0 1 rfl
  obtain ⟨b2, o_2, q2, cs4, hp2, hq2, -, hr3, hc3⟩ := (qhY (h.lrnO 1 rfl)).1.at hy2
  have hr4 := hr3
  obtain ⟨p5, k4, rfl, s4⟩ := qad hr3
  replace h := h.lrnAdd 1 rfl hr4
  refine zx hp2 hq2 ⟨he2.1, qae he2.2.1 (qhY (h.lrnO 1 rfl)).2⟩ rfl ?_
  replace h := h.unlrn 1 rfl
  refine qiG qc r1 h hy2 hp2 hq2 rfl rfl rfl rfl rfl ?_
  intro w4 S4 h
  exact zNER (zp3 rfl (qb (qA m1 [(0, _), (3, _), (4, _)] (Nat.lt_succ_self m1) ⟨rfl, rfl, rfl, trivial⟩ ⟨_, _, _, hF, rfl, h⟩)))
 refine qH rfl ?_
 obtain rfl := qh hF; replace hF := hK1
 refine zSR (zp2 rfl (qb ?_))
 obtain rfl := qh hF
 exact qav qc (ρ := (List qk)) [GoT.v (List qk) [.slice p2 x1.length x1.length]] h ⟨rfl, trivial⟩ (PV.done h (qaG (qab 0 h rfl)))

def qcM (a : (List ByteArray)) : Nat → (List ByteArray) → Int → Option ((List ByteArray) × Int)
 | 0, _, _ => none
 | n + 1, x2, i1 =>
  bif decide (i1 < (a.length : Int)) then
   (idx a i1).bind fun y1 =>
   (idx x2 i1).bind fun _ =>
   qcM a n (setS x2 i1 y1) (W64 (i1 + 1))
  else
   some (x2, i1)

def qfK (n : Nat) (a : (List ByteArray)) : Option (List ByteArray) :=
 (mkS (a.length : Int) (ByteArray.empty : ByteArray)).bind fun x1 =>
 (qcM a n x1 0).bind fun o => match o with
 | (x2, _) =>
  some x2

theorem qkv {n : Nat} {w : World} {a : (List ByteArray)} {cs1 : List Value} (ha1 : GoT.R w (old w) a cs1) {r : (List ByteArray)} (hF : qfK n a = some r) : RetV Tryz.prog 82 [GoT.v (List ByteArray) cs1] w r := by
 obtain ⟨p1, k1, rfl, s1⟩ := ha1
 refine qe Tryz.func82 rfl (m := 22) rfl rfl (fun h => ?_)
 rw [qfK] at hF
 refine zSR (zp1 rfl (zNSR (zp2 rfl ?_)))
 obtain ⟨x1, hx1, hF⟩ := qd hF
 obtain ⟨g1, g2, hx1⟩ := qdz hx1
 refine qeA qc ByteArray h rfl rfl rfl rfl rfl rfl rfl rfl rfl g1 g2 hx1 rfl ?_
 intro w1 S1 p2 h
 refine zp1 rfl (zNSSR (zp1 rfl (qb ?_)))
 obtain ⟨o1, hF, hK1⟩ := qd hF
 refine qv (qR [(0, _), (3, _), (4, _)] ⟨rfl, rfl, rfl, trivial⟩ ?_)
 refine qI (fun m e w' => ∃ (x2 : (List ByteArray)) (i1 : Int), qcM a m x2 i1 = some o1 ∧ e = [(0, .slice p1 a.length k1), (3, .slice p2 x1.length x1.length), (4, .int .i64 i1)] ∧ SH w w' [Ch.own S1 (x2 : List ByteArray) [.slice p2 x1.length x1.length]]) n ⟨_, _, hF, rfl, h⟩ ?_
 rintro m1 e1 w2 ⟨x2, i1, hF, rfl, h⟩
 rcases m1 with _ | m1
 ·rw [qcM] at hF
  cases hF
 rw [qcM] at hF
 refine zSSR (zp4 rfl (qb ?_))
 refine qr rfl hF ?_ ?_ <;> intro hF
 ·refine zKSBR (zp4 rfl ?_)
  obtain ⟨y1, hy1, hF⟩ := qd hF
  have he1 := qg hy1
  obtain ⟨b1, o_1, q1, cs2, hp1, hq1, -, hr1, hc2⟩ := s1.at hy1
  obtain rfl := hr1
  refine zxe hp1 hq1 he1 rfl (zc 0 (hc2.below h.below) rfl ?_)
  obtain ⟨y2, hy2, hF⟩ := qd hF
  have he2 := qg hy2
  obtain ⟨b2, o_2, q2, cs3, hp2, hq2, -, hr2, hc3⟩ := (h.sl 0 rfl).1.at hy2
  obtain rfl := hr2
  refine zx hp2 hq2 ⟨he2.1, qae he2.2.1 (h.sl 0 rfl).2⟩ rfl (qcS qc 0 0 y1 h rfl hy2 hp2 hq2 rfl hc3 rfl rfl rfl rfl rfl rfl rfl ?_)
  intro w3 h
  exact zNER (zp3 rfl (qb (qA m1 [(0, _), (3, _), (4, _)] (Nat.lt_succ_self m1) ⟨rfl, rfl, rfl, trivial⟩ ⟨_, _, hF, rfl, h⟩)))
 refine qH rfl ?_
 obtain rfl := qh hF; replace hF := hK1
 refine zSR (zp2 rfl (qb ?_))
 obtain rfl := qh hF
 exact qav qc (ρ := (List ByteArray)) [GoT.v (List ByteArray) [.slice p2 x1.length x1.length]] h ⟨rfl, trivial⟩ (PV.done h (qaG (qab 0 h rfl)))

def qgv (_ : Nat) (a : qV) : Option qV :=
 some (⟨a.Name, a.Dir, a.Net⟩ : qV)

theorem qmi {n : Nat} {w : World} {a : qV} {cs1 : List Value} (ha1 : GoT.R w (old w) a cs1) {r : qV} (hF : qgv n a = some r) : RetV Tryz.prog 127 [GoT.v qV cs1] w r := by
 obtain rfl := qaW ha1
 refine qe Tryz.func127 rfl (m := 14) rfl rfl (fun h => ?_)
 rw [qgv] at hF
 refine zSR (qO h rfl rfl ?_)
 intro w1 bb1 h
 refine qah qc h rfl rfl rfl ?_
 intro w2 bb2 h
 refine zNSR (qah qc h rfl rfl rfl ?_)
 intro w3 bb3 h
 refine zNSR (zp1 rfl (zl 2 0 h rfl (zp1 rfl (zs 0 h rfl ?_))))
 intro w4 h
 refine zNSR (zp1 rfl (zl 2 1 h rfl (zp1 rfl (zs 0 h rfl ?_))))
 intro w5 h
 replace h : SH _ _ [Ch.box bb3 [.string a.Name, .int .i64 a.Dir, .int .i64 0] 187, Ch.box bb2 [.string ByteArray.empty, .int .i64 0, .int .i64 0] 187, Ch.box bb1 [.string a.Name, .int .i64 a.Dir, .int .i64 a.Net] 177] := h
 refine zNSR (zp1 rfl (zl 2 2 h rfl (zp1 rfl (zs 0 h rfl ?_))))
 intro w6 h
 refine zNSR (zl 0 0 h rfl (zs 1 h rfl ?_))
 intro w7 h
 replace h : SH _ _ [Ch.box bb3 [.string a.Name, .int .i64 a.Dir, .int .i64 a.Net] 187, Ch.box bb2 [.string a.Name, .int .i64 a.Dir, .int .i64 a.Net] 187, Ch.box bb1 [.string a.Name, .int .i64 a.Dir, .int .i64 a.Net] 177] := h
 refine qb ?_
 obtain rfl := qh hF
 exact qav qc (ρ := qV) [GoT.v qV [.string a.Name, .int .i64 a.Dir, .int .i64 a.Net]] h ⟨⟨_, _, _, rfl, rfl, h.box 1 rfl, rfl⟩, trivial⟩ (PV.done h (qaG (qax (S := fun _ => False) (qdY (⟨a.Name, a.Dir, a.Net⟩ : qV)))))

def qdI (a : (List qV)) : Nat → (List qV) → Int → Option ((List qV) × Int)
 | 0, _, _ => none
 | n + 1, x2, i1 =>
  bif decide (i1 < (a.length : Int)) then
   (idx a i1).bind fun y1 =>
   (qgv n y1).bind fun r1 =>
   (idx x2 i1).bind fun _ =>
   qdI a n (setS x2 i1 r1) (W64 (i1 + 1))
  else
   some (x2, i1)

def qgK (n : Nat) (a : (List qV)) : Option (List qV) :=
 (mkS (a.length : Int) ((⟨ByteArray.empty, 0, 0⟩ : qV) : qV)).bind fun x1 =>
 (qdI a n x1 0).bind fun o => match o with
 | (x2, _) =>
  some x2

theorem qll {n : Nat} {w : World} {a : (List qV)} {cs1 : List Value} (ha1 : GoT.R w (old w) a cs1) {r : (List qV)} (hF : qgK n a = some r) : RetV Tryz.prog 83 [GoT.v (List qV) cs1] w r := by
 obtain ⟨p1, k1, rfl, s1⟩ := ha1
 refine qe Tryz.func83 rfl (m := 23) rfl rfl (fun h => ?_)
 rw [qgK] at hF
 refine zSR (zp1 rfl (zNSR (zp2 rfl ?_)))
 obtain ⟨x1, hx1, hF⟩ := qd hF
 obtain ⟨g1, g2, hx1⟩ := qdz hx1
 refine qeA qc qV h rfl rfl rfl rfl rfl rfl rfl rfl rfl g1 g2 hx1 rfl ?_
 intro w1 S1 p2 h
 refine zp1 rfl (zNSSR (zp1 rfl (qb ?_)))
 obtain ⟨o1, hF, hK1⟩ := qd hF
 refine qv (qR [(0, _), (3, _), (4, _)] ⟨rfl, rfl, rfl, trivial⟩ ?_)
 refine qI (fun m e w' => ∃ (x2 : (List qV)) (i1 : Int), qdI a m x2 i1 = some o1 ∧ e = [(0, .slice p1 a.length k1), (3, .slice p2 x1.length x1.length), (4, .int .i64 i1)] ∧ SH w w' [Ch.own S1 (x2 : List qV) [.slice p2 x1.length x1.length]]) n ⟨_, _, hF, rfl, h⟩ ?_
 rintro m1 e1 w2 ⟨x2, i1, hF, rfl, h⟩
 rcases m1 with _ | m1
 ·rw [qdI] at hF
  cases hF
 rw [qdI] at hF
 refine zSSR (zp4 rfl (qb ?_))
 refine qr rfl hF ?_ ?_ <;> intro hF
 ·refine zKSBR (zp4 rfl ?_)
  obtain ⟨y1, hy1, hF⟩ := qd hF
  have he1 := qg hy1
  obtain ⟨b1, o_1, q1, cs2, hp1, hq1, -, hr1, hc2⟩ := s1.at hy1
  obtain rfl := qaW hr1
  refine zxe hp1 hq1 he1 rfl (zc 0 (hc2.below h.below) rfl ?_)
  obtain ⟨r1, hr2, hF⟩ := qd hF
  refine qfD r1 h call127 (qmi (qdY y1) hr2) rfl rfl rfl rfl ?_
  intro w3 S2 cs3 h
  obtain rfl := qaW (h.own 0 rfl)
  obtain ⟨y2, hy2, hF⟩ := qd hF
  have he2 := qg hy2
  obtain ⟨b2, o_2, q2, cs4, hp2, hq2, -, hr3, hc3⟩ := (h.sl 1 rfl).1.at hy2
  obtain rfl := qaW hr3
  refine zx hp2 hq2 ⟨he2.1, qae he2.2.1 (h.sl 1 rfl).2⟩ rfl (qcS qc 1 0 r1 h rfl hy2 hp2 hq2 (qdY y2) hc3 rfl rfl rfl (qdY r1) rfl rfl rfl ?_)
  intro w4 h
  refine zNER (zp3 rfl (qb ?_))
  replace h := h.pick [1] rfl
  exact qA m1 [(0, _), (3, _), (4, _)] (Nat.lt_succ_self m1) ⟨rfl, rfl, rfl, trivial⟩ ⟨_, _, hF, rfl, h⟩
 refine qH rfl ?_
 obtain rfl := qh hF; replace hF := hK1
 refine zSR (zp2 rfl (qb ?_))
 obtain rfl := qh hF
 exact qav qc (ρ := (List qV)) [GoT.v (List qV) [.slice p2 x1.length x1.length]] h ⟨rfl, trivial⟩ (PV.done h (qaG (qab 0 h rfl)))

def qga (n : Nat) (a : ql) : Option ql :=
 (qe4 n a.Instances).bind fun r1 =>
 (qfK n a.Nets).bind fun r2 =>
 (qgK n a.Ports).bind fun r3 =>
 some (⟨r1, r2, r3⟩ : ql)

theorem qk0 {n : Nat} {w : World} {a : ql} {cs1 : List Value} (ha1 : GoT.R w (old w) a cs1) {r : ql} (hF : qga n a = some r) : RetV Tryz.prog 45 [GoT.v ql cs1] w r := by
 obtain ⟨p1, k1, p2, k2, p3, k3, rfl, s1, s2, s3⟩ := qaS ha1
 refine qe Tryz.func45 rfl (m := 17) rfl rfl (fun h => ?_)
 rw [qga] at hF
 refine zSR (qO h rfl rfl ?_)
 intro w1 bb1 h
 refine qah qc h rfl rfl rfl ?_
 intro w2 bb2 h
 refine zNSR (qah qc h rfl rfl rfl ?_)
 intro w3 bb3 h
 refine zNSR (zp1 rfl (zl 2 0 h rfl ?_))
 obtain ⟨r1, hr1, hF⟩ := qd hF
 refine qat r1 h call81 (qj4 ⟨_, _, rfl, (h.oldS s1)⟩ hr1) rfl rfl rfl rfl ?_
 intro w4 S1 p4 k4 h
 refine zp1 rfl (zs 1 h rfl ?_)
 intro w5 h
 refine zNSR (zp1 rfl (zl 3 1 h rfl ?_))
 obtain ⟨r2, hr2, hF⟩ := qd hF
 refine qat r2 h call82 (qkv ⟨_, _, rfl, (h.oldS s2)⟩ hr2) rfl rfl rfl rfl ?_
 intro w6 S2 p5 k5 h
 refine zp1 rfl (zs 2 h rfl ?_)
 intro w7 h
 replace h : SH _ _ [Ch.own S2 (r2 : List ByteArray) [.slice p5 r2.length k5], Ch.own S1 (r1 : List qk) [.slice p4 r1.length k4], Ch.box bb3 [.slice p4 r1.length k4, .slice p5 r2.length k5, .slice none 0 0] 47, Ch.box bb2 [.slice none 0 0, .slice none 0 0, .slice none 0 0] 47, Ch.box bb1 [.slice p1 a.Instances.length k1, .slice p2 a.Nets.length k2, .slice p3 a.Ports.length k3] 29] := h
 refine zNSR (zp1 rfl (zl 4 2 h rfl ?_))
 obtain ⟨r3, hr3, hF⟩ := qd hF
 refine qat r3 h call83 (qll ⟨_, _, rfl, (h.oldS s3)⟩ hr3) rfl rfl rfl rfl ?_
 intro w8 S3 p6 k6 h
 refine zp1 rfl (zs 3 h rfl ?_)
 intro w9 h
 refine zNSR (zl 3 0 h rfl (zs 4 h rfl ?_))
 intro w10 h
 replace h : SH _ _ [Ch.own S3 (r3 : List qV) [.slice p6 r3.length k6], Ch.own S2 (r2 : List ByteArray) [.slice p5 r2.length k5], Ch.own S1 (r1 : List qk) [.slice p4 r1.length k4], Ch.box bb3 [.slice p4 r1.length k4, .slice p5 r2.length k5, .slice p6 r3.length k6] 47, Ch.box bb2 [.slice p4 r1.length k4, .slice p5 r2.length k5, .slice p6 r3.length k6] 47, Ch.box bb1 [.slice p1 a.Instances.length k1, .slice p2 a.Nets.length k2, .slice p3 a.Ports.length k3] 29] := h
 refine qb ?_
 obtain rfl := qh hF
 exact qav qc (ρ := ql) [GoT.v ql [.slice p4 r1.length k4, .slice p5 r2.length k5, .slice p6 r3.length k6]] h ⟨⟨_, _, _, rfl, rfl, h.box 4 rfl, rfl⟩, trivial⟩ (PV.done h (qaG (qoP (⟨r1, r2, r3⟩ : ql) h (qab 2 h rfl) (qab 1 h rfl) (qab 0 h rfl) (by rfl) (by rfl))))

def qgB (n : Nat) (a : qP) : Option qP :=
 (qa4 n a.Parent).bind fun r1 =>
 (qa4 n a.Res).bind fun r2 =>
 (qa4 n a.Cap).bind fun r3 =>
 (qa4 n a.Sink).bind fun r4 =>
 some (⟨r1, r2, r3, r4⟩ : qP)

theorem qlJ {n : Nat} {w : World} {a : qP} {cs1 : List Value} (ha1 : GoT.R w (old w) a cs1) {r : qP} (hF : qgB n a = some r) : RetV Tryz.prog 84 [GoT.v qP cs1] w r := by
 obtain ⟨p1, k1, p2, k2, p3, k3, p4, k4, rfl, s1, s2, s3, s4⟩ := qbw ha1
 refine qe Tryz.func84 rfl (m := 21) rfl rfl (fun h => ?_)
 rw [qgB] at hF
 refine zSR (qO h rfl rfl ?_)
 intro w1 bb1 h
 refine qah qc h rfl rfl rfl ?_
 intro w2 bb2 h
 refine zNSR (qah qc h rfl rfl rfl ?_)
 intro w3 bb3 h
 refine zNSR (zp1 rfl (zl 2 0 h rfl ?_))
 obtain ⟨r1, hr1, hF⟩ := qd hF
 refine qat r1 h call14 (qa6 ⟨_, _, rfl, (h.oldS s1)⟩ hr1) rfl rfl rfl rfl ?_
 intro w4 S1 p5 k5 h
 refine zp1 rfl (zs 1 h rfl ?_)
 intro w5 h
 refine zNSR (zp1 rfl (zl 3 1 h rfl ?_))
 obtain ⟨r2, hr2, hF⟩ := qd hF
 refine qat r2 h call14 (qa6 ⟨_, _, rfl, (h.oldS s2)⟩ hr2) rfl rfl rfl rfl ?_
 intro w6 S2 p6 k6 h
 refine zp1 rfl (zs 2 h rfl ?_)
 intro w7 h
 replace h : SH _ _ [Ch.own S2 (r2 : List Int) [.slice p6 r2.length k6], Ch.own S1 (r1 : List Int) [.slice p5 r1.length k5], Ch.box bb3 [.slice p5 r1.length k5, .slice p6 r2.length k6, .slice none 0 0, .slice none 0 0] 130, Ch.box bb2 [.slice none 0 0, .slice none 0 0, .slice none 0 0, .slice none 0 0] 130, Ch.box bb1 [.slice p1 a.Parent.length k1, .slice p2 a.Res.length k2, .slice p3 a.Cap.length k3, .slice p4 a.Sink.length k4] 122] := h
 refine zNSR (zp1 rfl (zl 4 2 h rfl ?_))
 obtain ⟨r3, hr3, hF⟩ := qd hF
 refine qat r3 h call14 (qa6 ⟨_, _, rfl, (h.oldS s3)⟩ hr3) rfl rfl rfl rfl ?_
 intro w8 S3 p7 k7 h
 refine zp1 rfl (zs 3 h rfl ?_)
 intro w9 h
 refine zNSR (zp1 rfl (zl 5 3 h rfl ?_))
 obtain ⟨r4, hr4, hF⟩ := qd hF
 refine qat r4 h call14 (qa6 ⟨_, _, rfl, (h.oldS s4)⟩ hr4) rfl rfl rfl rfl ?_
 intro w10 S4 p8 k8 h
 refine zp1 rfl (zs 4 h rfl ?_)
 intro w11 h
 replace h : SH _ _ [Ch.own S4 (r4 : List Int) [.slice p8 r4.length k8], Ch.own S3 (r3 : List Int) [.slice p7 r3.length k7], Ch.own S2 (r2 : List Int) [.slice p6 r2.length k6], Ch.own S1 (r1 : List Int) [.slice p5 r1.length k5], Ch.box bb3 [.slice p5 r1.length k5, .slice p6 r2.length k6, .slice p7 r3.length k7, .slice p8 r4.length k8] 130, Ch.box bb2 [.slice none 0 0, .slice none 0 0, .slice none 0 0, .slice none 0 0] 130, Ch.box bb1 [.slice p1 a.Parent.length k1, .slice p2 a.Res.length k2, .slice p3 a.Cap.length k3, .slice p4 a.Sink.length k4] 122] := h
 refine zNSR (zl 4 0 h rfl (zs 5 h rfl ?_))
 intro w12 h
 refine qb ?_
 obtain rfl := qh hF
 exact qav qc (ρ := qP) [GoT.v qP [.slice p5 r1.length k5, .slice p6 r2.length k6, .slice p7 r3.length k7, .slice p8 r4.length k8]] h ⟨⟨_, _, _, rfl, rfl, h.box 5 rfl, rfl⟩, trivial⟩ (PV.done h (qaG (qnT (⟨r1, r2, r3, r4⟩ : qP) h (qab 3 h rfl) (qab 2 h rfl) (qab 1 h rfl) (qab 0 h rfl) (by rfl) (by rfl) (by rfl))))

def qdG (a : (List qP)) : Nat → (List qP) → Int → Option ((List qP) × Int)
 | 0, _, _ => none
 | n + 1, x2, i1 =>
  bif decide (i1 < (a.length : Int)) then
   (idx a i1).bind fun y1 =>
   (qgB n y1).bind fun r1 =>
   (idx x2 i1).bind fun _ =>
   qdG a n (setS x2 i1 r1) (W64 (i1 + 1))
  else
   some (x2, i1)

def qgU (n : Nat) (a : (List qP)) : Option (List qP) :=
 (mkS (a.length : Int) ((⟨[], [], [], []⟩ : qP) : qP)).bind fun x1 =>
 (qdG a n x1 0).bind fun o => match o with
 | (x2, _) =>
  some x2

theorem qle {n : Nat} {w : World} {a : (List qP)} {cs1 : List Value} (ha1 : GoT.R w (old w) a cs1) {r : (List qP)} (hF : qgU n a = some r) : RetV Tryz.prog 46 [GoT.v (List qP) cs1] w r := by
 obtain ⟨p1, k1, rfl, s1⟩ := ha1
 refine qe Tryz.func46 rfl (m := 23) rfl rfl (fun h => ?_)
 rw [qgU] at hF
 refine zSR (zp1 rfl (zNSR (zp2 rfl ?_)))
 obtain ⟨x1, hx1, hF⟩ := qd hF
 obtain ⟨g1, g2, hx1⟩ := qdz hx1
 refine qeA qc qP h rfl rfl rfl rfl rfl rfl rfl rfl rfl g1 g2 hx1 rfl ?_
 intro w1 S1 p2 h
 refine zp1 rfl (zNSSR (zp1 rfl (qb ?_)))
 obtain ⟨o1, hF, hK1⟩ := qd hF
 refine qv (qR [(0, _), (3, _), (4, _)] ⟨rfl, rfl, rfl, trivial⟩ ?_)
 refine qI (fun m e w' => ∃ (S2 : Nat → Prop) (x2 : (List qP)) (i1 : Int), qdG a m x2 i1 = some o1 ∧ e = [(0, .slice p1 a.length k1), (3, .slice p2 x1.length x1.length), (4, .int .i64 i1)] ∧ SH w w' [Ch.own S2 (x2 : List qP) [.slice p2 x1.length x1.length]]) n ⟨_, _, _, hF, rfl, h⟩ ?_
 rintro m1 e1 w2 ⟨S2, x2, i1, hF, rfl, h⟩
 rcases m1 with _ | m1
 ·rw [qdG] at hF
  cases hF
 rw [qdG] at hF
 refine zSSR (zp4 rfl (qb ?_))
 refine qr rfl hF ?_ ?_ <;> intro hF
 ·refine zKSBR (zp4 rfl ?_)
  obtain ⟨y1, hy1, hF⟩ := qd hF
  have he1 := qg hy1
  obtain ⟨b1, o_1, q1, cs2, hp1, hq1, -, hr1, hc2⟩ := s1.at hy1
  obtain ⟨p3, k2, p4, k3, p5, k4, p6, k5, rfl, s2, s3, s4, s5⟩ := qbw hr1
  refine zxe hp1 hq1 he1 rfl (zc 0 (hc2.below h.below) rfl ?_)
  obtain ⟨r1, hr2, hF⟩ := qd hF
  refine qfD r1 h call84 (qlJ (qh8 y1 (h.oldS s2) (h.oldS s3) (h.oldS s4) (h.oldS s5)) hr2) rfl rfl rfl rfl ?_
  intro w3 S3 cs3 h
  obtain ⟨p7, k6, p8, k7, p9, k8, p10, k9, rfl, -, -, -, -⟩ := qbw (h.own 0 rfl)
  obtain ⟨y2, hy2, hF⟩ := qd hF
  have he2 := qg hy2
  replace h := h.lrn0 1 rfl
  obtain ⟨b2, o_2, q2, cs4, hp2, hq2, -, hr3, hc3⟩ := (qhY (h.lrnO 1 rfl)).1.at hy2
  have hr4 := hr3
  obtain ⟨p11, k10, p12, k11, p13, k12, p14, k13, rfl, s10, s11, s12, s13⟩ := qbw hr3
  replace h := h.lrnAdd 1 rfl hr4
  refine zx hp2 hq2 ⟨he2.1, qae he2.2.1 (qhY (h.lrnO 1 rfl)).2⟩ rfl ?_
  replace h := h.unlrn 1 rfl
  refine qiG qc r1 h hy2 hp2 hq2 rfl rfl rfl rfl rfl ?_
  intro w4 S4 h
  exact zNER (zp3 rfl (qb (qA m1 [(0, _), (3, _), (4, _)] (Nat.lt_succ_self m1) ⟨rfl, rfl, rfl, trivial⟩ ⟨_, _, _, hF, rfl, h⟩)))
 refine qH rfl ?_
 obtain rfl := qh hF; replace hF := hK1
 refine zSR (zp2 rfl (qb ?_))
 obtain rfl := qh hF
 exact qav qc (ρ := (List qP)) [GoT.v (List qP) [.slice p2 x1.length x1.length]] h ⟨rfl, trivial⟩ (PV.done h (qaG (qab 0 h rfl)))

def qeF (n : Nat) (a : qF) : Option qF :=
 (qfJ n (⟨a.Library.Cells⟩ : qz)).bind fun r1 =>
 (qga n (⟨a.Design.Instances, a.Design.Nets, a.Design.Ports⟩ : ql)).bind fun r2 =>
 (qgU n a.Wires).bind fun r3 =>
 some (⟨r1, r2, r3⟩ : qF)

theorem qgm {n : Nat} {w : World} {a : qF} {cs1 : List Value} (ha1 : GoT.R w (old w) a cs1) {r : qF} (hF : qeF n a = some r) : RetV Tryz.prog 12 [GoT.v qF cs1] w r := by
 obtain ⟨p1, k1, p2, k2, p3, k3, p4, k4, p5, k5, rfl, s1, s2, s3, s4, s5⟩ := qar ha1
 refine qe Tryz.func12 rfl (m := 17) rfl rfl (fun h => ?_)
 rw [qeF] at hF
 refine zSR (qO h rfl rfl ?_)
 intro w1 bb1 h
 refine qah qc h rfl rfl rfl ?_
 intro w2 bb2 h
 refine zNSR (qah qc h rfl rfl rfl ?_)
 intro w3 bb3 h
 refine zNSR (zp1 rfl (zl 2 0 h rfl ?_))
 obtain ⟨r1, hr1, hF⟩ := qd hF
 refine qfD r1 h call44 (qkx (qfl (⟨a.Library.Cells⟩ : qz) (h.oldS s1)) hr1) rfl rfl rfl rfl ?_
 intro w4 S1 cs2 h
 obtain ⟨p6, k6, rfl, -⟩ := qb3 (h.own 0 rfl)
 refine zp1 rfl (zs 1 h rfl ?_)
 intro w5 h
 refine zNSR (zp1 rfl (zl 3 1 h rfl ?_))
 obtain ⟨r2, hr2, hF⟩ := qd hF
 refine qfD r2 h call45 (qk0 (qco (⟨a.Design.Instances, a.Design.Nets, a.Design.Ports⟩ : ql) (h.oldS s2) (h.oldS s3) (h.oldS s4)) hr2) rfl rfl rfl rfl ?_
 intro w6 S2 cs3 h
 obtain ⟨p7, k7, p8, k8, p9, k9, rfl, -, -, -⟩ := qaS (h.own 0 rfl)
 refine zp1 rfl (zs 2 h rfl ?_)
 intro w7 h
 replace h : SH _ _ [Ch.own S2 (r2 : ql) [.slice p7 r2.Instances.length k7, .slice p8 r2.Nets.length k8, .slice p9 r2.Ports.length k9], Ch.own S1 (r1 : qz) [.slice p6 r1.Cells.length k6], Ch.box bb3 [.slice p6 r1.Cells.length k6, .slice p7 r2.Instances.length k7, .slice p8 r2.Nets.length k8, .slice p9 r2.Ports.length k9, .slice none 0 0] 50, Ch.box bb2 [.slice none 0 0, .slice none 0 0, .slice none 0 0, .slice none 0 0, .slice none 0 0] 50, Ch.box bb1 [.slice p1 a.Library.Cells.length k1, .slice p2 a.Design.Instances.length k2, .slice p3 a.Design.Nets.length k3, .slice p4 a.Design.Ports.length k4, .slice p5 a.Wires.length k5] 32] := h
 refine zNSR (zp1 rfl (zl 4 4 h rfl ?_))
 obtain ⟨r3, hr3, hF⟩ := qd hF
 refine qat r3 h call46 (qle ⟨_, _, rfl, (h.oldS s5)⟩ hr3) rfl rfl rfl rfl ?_
 intro w8 S3 p10 k10 h
 refine zp1 rfl (zs 3 h rfl ?_)
 intro w9 h
 refine zNSR (zl 3 0 h rfl (zs 4 h rfl ?_))
 intro w10 h
 replace h : SH _ _ [Ch.own S3 (r3 : List qP) [.slice p10 r3.length k10], Ch.own S2 (r2 : ql) [.slice p7 r2.Instances.length k7, .slice p8 r2.Nets.length k8, .slice p9 r2.Ports.length k9], Ch.own S1 (r1 : qz) [.slice p6 r1.Cells.length k6], Ch.box bb3 [.slice p6 r1.Cells.length k6, .slice p7 r2.Instances.length k7, .slice p8 r2.Nets.length k8, .slice p9 r2.Ports.length k9, .slice p10 r3.length k10] 50, Ch.box bb2 [.slice p6 r1.Cells.length k6, .slice p7 r2.Instances.length k7, .slice p8 r2.Nets.length k8, .slice p9 r2.Ports.length k9, .slice p10 r3.length k10] 50, Ch.box bb1 [.slice p1 a.Library.Cells.length k1, .slice p2 a.Design.Instances.length k2, .slice p3 a.Design.Nets.length k3, .slice p4 a.Design.Ports.length k4, .slice p5 a.Wires.length k5] 32] := h
 refine qb ?_
 obtain rfl := qh hF
 exact qav qc (ρ := qF) [GoT.v qF [.slice p6 r1.Cells.length k6, .slice p7 r2.Instances.length k7, .slice p8 r2.Nets.length k8, .slice p9 r2.Ports.length k9, .slice p10 r3.length k10]] h ⟨⟨_, _, _, rfl, rfl, h.box 4 rfl, rfl⟩, trivial⟩ (PV.done h (qaG (qp6 (⟨r1, r2, r3⟩ : qF) h (qab 2 h rfl) (qab 1 h rfl) (qab 0 h rfl) (by rfl) (by rfl))))

end Go.Fw
