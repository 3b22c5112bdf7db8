/- By a program of mine (gen.py): for each function a plain function and the proof that the code computes it. -/
import Derived.Test.YtihkipojhdehnaaGreatDoorFw34
import Derived.Test.YtihkipojhdehnaaGreatDoorChecked
import Derived.Test.YtihkipojhdehnaaGreatDoorS1

namespace Go.Fw
open Go Go.Proofs
open Go.RowKit (Below)
set_option maxRecDepth 100000
set_option maxHeartbeats 1600000
structure qan where
 Name : ByteArray
 Dir : Int
 Cap : Int
 Clock : Bool
instance gt_TPin : GoT qan := isoT (pairT instStr (pairT instInt (pairT instInt instBool))) (fun x => (x.Name, x.Dir, x.Cap, x.Clock)) ⟨ByteArray.empty, 0, 0, false⟩ rfl true (fun h => by cases h)
instance fl_TPin : Flat qan := qij (pairT instStr (pairT instInt (pairT instInt instBool))) (fun x : qan => (x.Name, x.Dir, x.Cap, x.Clock)) ⟨ByteArray.empty, 0, 0, false⟩ rfl true (fun h => by cases h) (qcj _ _ (inferInstanceAs (Flat ByteArray)) (qcj _ _ (inferInstanceAs (Flat Int)) (qcj _ _ (inferInstanceAs (Flat Int)) (inferInstanceAs (Flat Bool)))))
theorem qa5 {w : World} {S : Nat → Prop} {x : qan} {cs : List Value} (h : GoT.R w S x cs) : cs = [.string x.Name, .int .i64 x.Dir, .int .i64 x.Cap, .bool x.Clock] := by
 obtain ⟨_, _, rfl, rfl, ⟨_, _, rfl, rfl, ⟨_, _, rfl, rfl, rfl⟩⟩⟩ := h
 exact rfl
theorem qeg {w : World} {S : Nat → Prop} (x : qan) : GoT.R w S x [.string x.Name, .int .i64 x.Dir, .int .i64 x.Cap, .bool x.Clock] := ⟨[.string x.Name], [.int .i64 x.Dir, .int .i64 x.Cap, .bool x.Clock], rfl, rfl, ⟨[.int .i64 x.Dir], [.int .i64 x.Cap, .bool x.Clock], rfl, rfl, ⟨[.int .i64 x.Cap], [.bool x.Clock], rfl, rfl, rfl⟩⟩⟩
structure qF where
 Slews : (List Int)
 Loads : (List Int)
 Values : (List Int)
instance gt_TTable : GoT qF := isoT (pairT (@instList Int instInt) (pairT (@instList Int instInt) (@instList Int instInt))) (fun x => (x.Slews, x.Loads, x.Values)) ⟨[], [], []⟩ rfl true (fun h => by cases h)
theorem qbF {w : World} {S : Nat → Prop} {x : qF} {cs : List Value} (h : GoT.R w S x cs) : ∃ p0 k0 p1 k1 p2 k2, cs = [.slice p0 (x.Slews).length k0, .slice p1 (x.Loads).length k1, .slice p2 (x.Values).length k2] ∧ SlR w S x.Slews p0 k0 ∧ SlR w S x.Loads p1 k1 ∧ SlR w S x.Values p2 k2 := by
 obtain ⟨_, _, rfl, ⟨p0, k0, rfl, s0⟩, ⟨_, _, rfl, ⟨p1, k1, rfl, s1⟩, ⟨p2, k2, rfl, s2⟩⟩⟩ := h
 exact ⟨p0, k0, p1, k1, p2, k2, rfl, s0, s1, s2⟩
theorem qh0 {w : World} {S : Nat → Prop} (x : qF) {p0 : Option Addr} {k0 : Nat} {p1 : Option Addr} {k1 : Nat} {p2 : Option Addr} {k2 : Nat} (s0 : SlR w S x.Slews p0 k0) (s1 : SlR w S x.Loads p1 k1) (s2 : SlR w S x.Values p2 k2) : GoT.R w S x [.slice p0 (x.Slews).length k0, .slice p1 (x.Loads).length k1, .slice p2 (x.Values).length k2] := ⟨[.slice p0 (x.Slews).length k0], [.slice p1 (x.Loads).length k1, .slice p2 (x.Values).length k2], rfl, ⟨p0, k0, rfl, s0⟩, ⟨[.slice p1 (x.Loads).length k1], [.slice p2 (x.Values).length k2], rfl, ⟨p1, k1, rfl, s1⟩, ⟨p2, k2, rfl, s2⟩⟩⟩
theorem qok {w0 w : World} {L : List Ch} {S : Nat → Prop} {x : qF} {p0 : Option Addr} {l0 k0 : Nat} {p1 : Option Addr} {l1 k1 : Nat} {p2 : Option Addr} {l2 k2 : Nat} (h : SH w0 w (Ch.own S x [.slice p0 l0 k0, .slice p1 l1 k1, .slice p2 l2 k2] :: L)) : ∃ S0 S1 S2, SH w0 w (Ch.own S2 x.Values [.slice p2 l2 k2] :: Ch.own S1 x.Loads [.slice p1 l1 k1] :: Ch.own S0 x.Slews [.slice p0 l0 k0] :: L) := by
 obtain ⟨hv, ho⟩ := h.headV
 replace ho : GoT.O w S x _ := ho
 obtain ⟨A0, B0, d0, e0, he, o0, ho, a0, b0⟩ := ho
 obtain ⟨q, m, rfl, s0⟩ := o0
 cases he
 replace hv := hv.push (c := Ch.own A0 x.Slews [_]) (S2 := B0) ⟨_, _, rfl, s0⟩ (fun _ hd => hd.elim) a0 b0
 obtain ⟨A1, B1, d1, e1, he, o1, ho, a1, b1⟩ := ho
 obtain ⟨q, m, rfl, s1⟩ := o1
 cases he
 replace hv := hv.push (c := Ch.own A1 x.Loads [_]) (S2 := B1) ⟨_, _, rfl, s1⟩ (fun _ hd => hd.elim) a1 b1
 obtain ⟨q, m, he, s2⟩ := ho
 cases he
 replace hv := hv.push (c := Ch.own B1 x.Values [_]) (S2 := (fun _ => False)) ⟨_, _, rfl, s2⟩ (fun _ hd => hd.elim) (fun b hb => ⟨hb, fun h => h⟩) (fun _ h => h.elim)
 exact ⟨A0, A1, B1, hv.sh⟩
theorem qnR {w0 w : World} {L : List Ch} (x : qF) {I0 I1 I2 : List Nat} {c0 c1 c2 : List Value} (h : SH w0 w L) (h0 : PO w L I0 x.Slews c0) (h1 : PO w L I1 x.Loads c1) (h2 : PO w L I2 x.Values c2) (b0 : apartB I0 (I1 ++ I2) = true) (b1 : apartB I1 I2 = true) : PO w L (I0 ++ (I1 ++ I2)) x (c0 ++ (c1 ++ c2)) :=
 (qcx h h0 (qcx h h1 h2 b1) b0)

structure qV where
 Kind : Int
 From : Int
 To : Int
 Sense : Int
 Delay : (List qF)
 Slew : (List qF)
instance gt_TArc : GoT qV := isoT (pairT instInt (pairT instInt (pairT instInt (pairT instInt (pairT (@instList qF gt_TTable) (@instList qF gt_TTable)))))) (fun x => (x.Kind, x.From, x.To, x.Sense, x.Delay, x.Slew)) ⟨0, 0, 0, 0, [], []⟩ rfl true (fun h => by cases h)
theorem qaH {w : World} {S : Nat → Prop} {x : qV} {cs : List Value} (h : GoT.R w S x cs) : ∃ p0 k0 p1 k1, cs = [.int .i64 x.Kind, .int .i64 x.From, .int .i64 x.To, .int .i64 x.Sense, .slice p0 (x.Delay).length k0, .slice p1 (x.Slew).length k1] ∧ SlR w S x.Delay p0 k0 ∧ SlR w S x.Slew p1 k1 := by
 obtain ⟨_, _, rfl, rfl, ⟨_, _, rfl, rfl, ⟨_, _, rfl, rfl, ⟨_, _, rfl, rfl, ⟨_, _, rfl, ⟨p0, k0, rfl, s0⟩, ⟨p1, k1, rfl, s1⟩⟩⟩⟩⟩⟩ := h
 exact ⟨p0, k0, p1, k1, rfl, s0, s1⟩
theorem qgl {w : World} {S : Nat → Prop} (x : qV) {p0 : Option Addr} {k0 : Nat} {p1 : Option Addr} {k1 : Nat} (s0 : SlR w S x.Delay p0 k0) (s1 : SlR w S x.Slew p1 k1) : GoT.R w S x [.int .i64 x.Kind, .int .i64 x.From, .int .i64 x.To, .int .i64 x.Sense, .slice p0 (x.Delay).length k0, .slice p1 (x.Slew).length k1] := ⟨[.int .i64 x.Kind], [.int .i64 x.From, .int .i64 x.To, .int .i64 x.Sense, .slice p0 (x.Delay).length k0, .slice p1 (x.Slew).length k1], rfl, rfl, ⟨[.int .i64 x.From], [.int .i64 x.To, .int .i64 x.Sense, .slice p0 (x.Delay).length k0, .slice p1 (x.Slew).length k1], rfl, rfl, ⟨[.int .i64 x.To], [.int .i64 x.Sense, .slice p0 (x.Delay).length k0, .slice p1 (x.Slew).length k1], rfl, rfl, ⟨[.int .i64 x.Sense], [.slice p0 (x.Delay).length k0, .slice p1 (x.Slew).length k1], rfl, rfl, ⟨[.slice p0 (x.Delay).length k0], [.slice p1 (x.Slew).length k1], rfl, ⟨p0, k0, rfl, s0⟩, ⟨p1, k1, rfl, s1⟩⟩⟩⟩⟩⟩
theorem qp9 {w0 w : World} {L : List Ch} {S : Nat → Prop} {x : qV} {p0 : Option Addr} {l0 k0 : Nat} {p1 : Option Addr} {l1 k1 : Nat} (h : SH w0 w (Ch.own S x [.int .i64 x.Kind, .int .i64 x.From, .int .i64 x.To, .int .i64 x.Sense, .slice p0 l0 k0, .slice p1 l1 k1] :: L)) : ∃ S0 S1, SH w0 w (Ch.own S1 x.Slew [.slice p1 l1 k1] :: Ch.own S0 x.Delay [.slice p0 l0 k0] :: L) := by
 obtain ⟨hv, ho⟩ := h.headV
 replace ho : GoT.O w S x _ := ho
 obtain ⟨A0, B0, d0, e0, he, o0, ho, a0, b0⟩ := ho
 obtain rfl := o0
 cases he
 replace hv := hv.less b0
 obtain ⟨A1, B1, d1, e1, he, o1, ho, a1, b1⟩ := ho
 obtain rfl := o1
 cases he
 replace hv := hv.less b1
 obtain ⟨A2, B2, d2, e2, he, o2, ho, a2, b2⟩ := ho
 obtain rfl := o2
 cases he
 replace hv := hv.less b2
 obtain ⟨A3, B3, d3, e3, he, o3, ho, a3, b3⟩ := ho
 obtain rfl := o3
 cases he
 replace hv := hv.less b3
 obtain ⟨A4, B4, d4, e4, he, o4, ho, a4, b4⟩ := ho
 obtain ⟨q, m, rfl, s0⟩ := o4
 cases he
 replace hv := hv.push (c := Ch.own A4 x.Delay [_]) (S2 := B4) ⟨_, _, rfl, s0⟩ (fun _ hd => hd.elim) a4 b4
 obtain ⟨q, m, he, s1⟩ := ho
 cases he
 replace hv := hv.push (c := Ch.own B4 x.Slew [_]) (S2 := (fun _ => False)) ⟨_, _, rfl, s1⟩ (fun _ hd => hd.elim) (fun b hb => ⟨hb, fun h => h⟩) (fun _ h => h.elim)
 exact ⟨A4, B4, hv.sh⟩
theorem qqh {w0 w : World} {L : List Ch} (x : qV) {I0 I1 I2 I3 I4 I5 : List Nat} {c0 c1 c2 c3 c4 c5 : List Value} (h : SH w0 w L) (h0 : PO w L I0 x.Kind c0) (h1 : PO w L I1 x.From c1) (h2 : PO w L I2 x.To c2) (h3 : PO w L I3 x.Sense c3) (h4 : PO w L I4 x.Delay c4) (h5 : PO w L I5 x.Slew c5) (b0 : apartB I0 (I1 ++ (I2 ++ (I3 ++ (I4 ++ I5)))) = true) (b1 : apartB I1 (I2 ++ (I3 ++ (I4 ++ I5))) = true) (b2 : apartB I2 (I3 ++ (I4 ++ I5)) = true) (b3 : apartB I3 (I4 ++ I5) = true) (b4 : apartB I4 I5 = true) : PO w L (I0 ++ (I1 ++ (I2 ++ (I3 ++ (I4 ++ I5))))) x (c0 ++ (c1 ++ (c2 ++ (c3 ++ (c4 ++ c5))))) :=
 (qcx h h0 (qcx h h1 (qcx h h2 (qcx h h3 (qcx h h4 h5 b4) b3) b2) b1) b0)

structure qC where
 Name : ByteArray
 Kind : Int
 Pins : (List qan)
 Arcs : (List qV)
 Truth : (List Int)
 Leak : Int
 Energy : Int
instance gt_TCell : GoT qC := isoT (pairT instStr (pairT instInt (pairT (@instList qan gt_TPin) (pairT (@instList qV gt_TArc) (pairT (@instList Int instInt) (pairT instInt instInt)))))) (fun x => (x.Name, x.Kind, x.Pins, x.Arcs, x.Truth, x.Leak, x.Energy)) ⟨ByteArray.empty, 0, [], [], [], 0, 0⟩ rfl true (fun h => by cases h)
theorem qY {w : World} {S : Nat → Prop} {x : qC} {cs : List Value} (h : GoT.R w S x cs) : ∃ p0 k0 p1 k1 p2 k2, cs = [.string x.Name, .int .i64 x.Kind, .slice p0 (x.Pins).length k0, .slice p1 (x.Arcs).length k1, .slice p2 (x.Truth).length k2, .int .i64 x.Leak, .int .i64 x.Energy] ∧ SlR w S x.Pins p0 k0 ∧ SlR w S x.Arcs p1 k1 ∧ SlR w S x.Truth p2 k2 := by
 obtain ⟨_, _, rfl, rfl, ⟨_, _, rfl, rfl, ⟨_, _, rfl, ⟨p0, k0, rfl, s0⟩, ⟨_, _, rfl, ⟨p1, k1, rfl, s1⟩, ⟨_, _, rfl, ⟨p2, k2, rfl, s2⟩, ⟨_, _, rfl, rfl, rfl⟩⟩⟩⟩⟩⟩ := h
 exact ⟨p0, k0, p1, k1, p2, k2, rfl, s0, s1, s2⟩
theorem qhd {w : World} {S : Nat → Prop} (x : qC) {p0 : Option Addr} {k0 : Nat} {p1 : Option Addr} {k1 : Nat} {p2 : Option Addr} {k2 : Nat} (s0 : SlR w S x.Pins p0 k0) (s1 : SlR w S x.Arcs p1 k1) (s2 : SlR w S x.Truth p2 k2) : GoT.R w S x [.string x.Name, .int .i64 x.Kind, .slice p0 (x.Pins).length k0, .slice p1 (x.Arcs).length k1, .slice p2 (x.Truth).length k2, .int .i64 x.Leak, .int .i64 x.Energy] := ⟨[.string x.Name], [.int .i64 x.Kind, .slice p0 (x.Pins).length k0, .slice p1 (x.Arcs).length k1, .slice p2 (x.Truth).length k2, .int .i64 x.Leak, .int .i64 x.Energy], rfl, rfl, ⟨[.int .i64 x.Kind], [.slice p0 (x.Pins).length k0, .slice p1 (x.Arcs).length k1, .slice p2 (x.Truth).length k2, .int .i64 x.Leak, .int .i64 x.Energy], rfl, rfl, ⟨[.slice p0 (x.Pins).length k0], [.slice p1 (x.Arcs).length k1, .slice p2 (x.Truth).length k2, .int .i64 x.Leak, .int .i64 x.Energy], rfl, ⟨p0, k0, rfl, s0⟩, ⟨[.slice p1 (x.Arcs).length k1], [.slice p2 (x.Truth).length k2, .int .i64 x.Leak, .int .i64 x.Energy], rfl, ⟨p1, k1, rfl, s1⟩, ⟨[.slice p2 (x.Truth).length k2], [.int .i64 x.Leak, .int .i64 x.Energy], rfl, ⟨p2, k2, rfl, s2⟩, ⟨[.int .i64 x.Leak], [.int .i64 x.Energy], rfl, rfl, rfl⟩⟩⟩⟩⟩⟩
theorem qh6 {w : World} {S : Nat → Prop} {x : qC} {p0 : Option Addr} {l0 k0 : Nat} {p1 : Option Addr} {l1 k1 : Nat} {p2 : Option Addr} {l2 k2 : Nat} (h : GoT.R w S x [.string x.Name, .int .i64 x.Kind, .slice p0 l0 k0, .slice p1 l1 k1, .slice p2 l2 k2, .int .i64 x.Leak, .int .i64 x.Energy]) : (SlR w S x.Pins p0 k0 ∧ l0 = (x.Pins).length) ∧ (SlR w S x.Arcs p1 k1 ∧ l1 = (x.Arcs).length) ∧ (SlR w S x.Truth p2 k2 ∧ l2 = (x.Truth).length) := by
 obtain ⟨q0, j0, q1, j1, q2, j2, he, s0, s1, s2⟩ := qY h
 cases he
 exact ⟨⟨s0, rfl⟩, ⟨s1, rfl⟩, ⟨s2, rfl⟩⟩
theorem qoX {w0 w : World} {L : List Ch} {S : Nat → Prop} {x : qC} {p0 : Option Addr} {l0 k0 : Nat} {p1 : Option Addr} {l1 k1 : Nat} {p2 : Option Addr} {l2 k2 : Nat} (h : SH w0 w (Ch.own S x [.string x.Name, .int .i64 x.Kind, .slice p0 l0 k0, .slice p1 l1 k1, .slice p2 l2 k2, .int .i64 x.Leak, .int .i64 x.Energy] :: L)) : ∃ S0 S1 S2, SH w0 w (Ch.own S2 x.Truth [.slice p2 l2 k2] :: Ch.own S1 x.Arcs [.slice p1 l1 k1] :: Ch.own S0 x.Pins [.slice p0 l0 k0] :: L) := by
 obtain ⟨hv, ho⟩ := h.headV
 replace ho : GoT.O w S x _ := ho
 obtain ⟨A0, B0, d0, e0, he, o0, ho, a0, b0⟩ := ho
 obtain rfl := o0
 cases he
 replace hv := hv.less b0
 obtain ⟨A1, B1, d1, e1, he, o1, ho, a1, b1⟩ := ho
 obtain rfl := o1
 cases he
 replace hv := hv.less b1
 obtain ⟨A2, B2, d2, e2, he, o2, ho, a2, b2⟩ := ho
 obtain ⟨q, m, rfl, s0⟩ := o2
 cases he
 replace hv := hv.push (c := Ch.own A2 x.Pins [_]) (S2 := B2) ⟨_, _, rfl, s0⟩ (fun _ hd => hd.elim) a2 b2
 obtain ⟨A3, B3, d3, e3, he, o3, ho, a3, b3⟩ := ho
 obtain ⟨q, m, rfl, s1⟩ := o3
 cases he
 replace hv := hv.push (c := Ch.own A3 x.Arcs [_]) (S2 := B3) ⟨_, _, rfl, s1⟩ (fun _ hd => hd.elim) a3 b3
 obtain ⟨A4, B4, d4, e4, he, o4, ho, a4, b4⟩ := ho
 obtain ⟨q, m, rfl, s2⟩ := o4
 cases he
 replace hv := hv.push (c := Ch.own A4 x.Truth [_]) (S2 := B4) ⟨_, _, rfl, s2⟩ (fun _ hd => hd.elim) a4 b4
 obtain ⟨A5, B5, d5, e5, he, o5, ho, a5, b5⟩ := ho
 obtain rfl := o5
 cases he
 replace hv := hv.less b5
 exact ⟨A2, A3, A4, hv.sh⟩
theorem qo2 {w0 w : World} {L : List Ch} (x : qC) {I0 I1 I2 I3 I4 I5 I6 : List Nat} {c0 c1 c2 c3 c4 c5 c6 : List Value} (h : SH w0 w L) (h0 : PO w L I0 x.Name c0) (h1 : PO w L I1 x.Kind c1) (h2 : PO w L I2 x.Pins c2) (h3 : PO w L I3 x.Arcs c3) (h4 : PO w L I4 x.Truth c4) (h5 : PO w L I5 x.Leak c5) (h6 : PO w L I6 x.Energy c6) (b0 : apartB I0 (I1 ++ (I2 ++ (I3 ++ (I4 ++ (I5 ++ I6))))) = true) (b1 : apartB I1 (I2 ++ (I3 ++ (I4 ++ (I5 ++ I6)))) = true) (b2 : apartB I2 (I3 ++ (I4 ++ (I5 ++ I6))) = true) (b3 : apartB I3 (I4 ++ (I5 ++ I6)) = true) (b4 : apartB I4 (I5 ++ I6) = true) (b5 : apartB I5 I6 = true) : PO w L (I0 ++ (I1 ++ (I2 ++ (I3 ++ (I4 ++ (I5 ++ I6)))))) x (c0 ++ (c1 ++ (c2 ++ (c3 ++ (c4 ++ (c5 ++ c6)))))) :=
 (qcx h h0 (qcx h h1 (qcx h h2 (qcx h h3 (qcx h h4 (qcx h h5 h6 b5) b4) b3) b2) b1) b0)

structure qv where
 Cells : (List qC)
instance gt_TLibrary : GoT qv := isoT (@instList qC gt_TCell) (fun x => x.Cells) ⟨[]⟩ rfl true (fun h => by cases h)
theorem qbA {w : World} {S : Nat → Prop} {x : qv} {cs : List Value} (h : GoT.R w S x cs) : ∃ p0 k0, cs = [.slice p0 (x.Cells).length k0] ∧ SlR w S x.Cells p0 k0 := by
 obtain ⟨p0, k0, rfl, s0⟩ := h
 exact ⟨p0, k0, rfl, s0⟩
theorem qdK {w : World} {S : Nat → Prop} (x : qv) {p0 : Option Addr} {k0 : Nat} (s0 : SlR w S x.Cells p0 k0) : GoT.R w S x [.slice p0 (x.Cells).length k0] := ⟨p0, k0, rfl, s0⟩
theorem qmK {w0 w : World} {L : List Ch} {S : Nat → Prop} {x : qv} {p0 : Option Addr} {l0 k0 : Nat} (h : SH w0 w (Ch.own S x [.slice p0 l0 k0] :: L)) : ∃ S0, SH w0 w (Ch.own S0 x.Cells [.slice p0 l0 k0] :: L) := by
 obtain ⟨hv, ho⟩ := h.headV
 replace ho : GoT.O w S x _ := ho
 obtain ⟨q, m, he, s0⟩ := ho
 cases he
 replace hv := hv.push (c := Ch.own S x.Cells [_]) (S2 := (fun _ => False)) ⟨_, _, rfl, s0⟩ (fun _ hd => hd.elim) (fun b hb => ⟨hb, fun h => h⟩) (fun _ h => h.elim)
 exact ⟨S, hv.sh⟩
theorem qoS {w0 w : World} {L : List Ch} (x : qv) {I0 : List Nat} {c0 : List Value} (_ : SH w0 w L) (h0 : PO w L I0 x.Cells c0) : PO w L I0 x c0 :=
 h0

structure qm where
 Name : ByteArray
 Cell : Int
 Nets : (List Int)
instance gt_TInstance : GoT qm := isoT (pairT instStr (pairT instInt (@instList Int instInt))) (fun x => (x.Name, x.Cell, x.Nets)) ⟨ByteArray.empty, 0, []⟩ rfl true (fun h => by cases h)
theorem qab {w : World} {S : Nat → Prop} {x : qm} {cs : List Value} (h : GoT.R w S x cs) : ∃ p0 k0, cs = [.string x.Name, .int .i64 x.Cell, .slice p0 (x.Nets).length k0] ∧ SlR w S x.Nets p0 k0 := by
 obtain ⟨_, _, rfl, rfl, ⟨_, _, rfl, rfl, ⟨p0, k0, rfl, s0⟩⟩⟩ := h
 exact ⟨p0, k0, rfl, s0⟩
theorem qf3 {w : World} {S : Nat → Prop} (x : qm) {p0 : Option Addr} {k0 : Nat} (s0 : SlR w S x.Nets p0 k0) : GoT.R w S x [.string x.Name, .int .i64 x.Cell, .slice p0 (x.Nets).length k0] := ⟨[.string x.Name], [.int .i64 x.Cell, .slice p0 (x.Nets).length k0], rfl, rfl, ⟨[.int .i64 x.Cell], [.slice p0 (x.Nets).length k0], rfl, rfl, ⟨p0, k0, rfl, s0⟩⟩⟩
theorem qmo {w0 w : World} {L : List Ch} {S : Nat → Prop} {x : qm} {p0 : Option Addr} {l0 k0 : Nat} (h : SH w0 w (Ch.own S x [.string x.Name, .int .i64 x.Cell, .slice p0 l0 k0] :: L)) : ∃ S0, SH w0 w (Ch.own S0 x.Nets [.slice p0 l0 k0] :: L) := by
 obtain ⟨hv, ho⟩ := h.headV
 replace ho : GoT.O w S x _ := ho
 obtain ⟨A0, B0, d0, e0, he, o0, ho, a0, b0⟩ := ho
 obtain rfl := o0
 cases he
 replace hv := hv.less b0
 obtain ⟨A1, B1, d1, e1, he, o1, ho, a1, b1⟩ := ho
 obtain rfl := o1
 cases he
 replace hv := hv.less b1
 obtain ⟨q, m, he, s0⟩ := ho
 cases he
 replace hv := hv.push (c := Ch.own B1 x.Nets [_]) (S2 := (fun _ => False)) ⟨_, _, rfl, s0⟩ (fun _ hd => hd.elim) (fun b hb => ⟨hb, fun h => h⟩) (fun _ h => h.elim)
 exact ⟨B1, hv.sh⟩
theorem qly {w0 w : World} {L : List Ch} (x : qm) {I0 I1 I2 : List Nat} {c0 c1 c2 : List Value} (h : SH w0 w L) (h0 : PO w L I0 x.Name c0) (h1 : PO w L I1 x.Cell c1) (h2 : PO w L I2 x.Nets c2) (b0 : apartB I0 (I1 ++ I2) = true) (b1 : apartB I1 I2 = true) : PO w L (I0 ++ (I1 ++ I2)) x (c0 ++ (c1 ++ c2)) :=
 (qcx h h0 (qcx h h1 h2 b1) b0)

structure qX where
 Name : ByteArray
 Dir : Int
 Net : Int
instance gt_TPort : GoT qX := isoT (pairT instStr (pairT instInt instInt)) (fun x => (x.Name, x.Dir, x.Net)) ⟨ByteArray.empty, 0, 0⟩ rfl true (fun h => by cases h)
instance fl_TPort : Flat qX := qij (pairT instStr (pairT instInt instInt)) (fun x : qX => (x.Name, x.Dir, x.Net)) ⟨ByteArray.empty, 0, 0⟩ rfl true (fun h => by cases h) (qcj _ _ (inferInstanceAs (Flat ByteArray)) (qcj _ _ (inferInstanceAs (Flat Int)) (inferInstanceAs (Flat Int))))
theorem qa8 {w : World} {S : Nat → Prop} {x : qX} {cs : List Value} (h : GoT.R w S x cs) : cs = [.string x.Name, .int .i64 x.Dir, .int .i64 x.Net] := by
 obtain ⟨_, _, rfl, rfl, ⟨_, _, rfl, rfl, rfl⟩⟩ := h
 exact rfl
theorem qew {w : World} {S : Nat → Prop} (x : qX) : GoT.R w S x [.string x.Name, .int .i64 x.Dir, .int .i64 x.Net] := ⟨[.string x.Name], [.int .i64 x.Dir, .int .i64 x.Net], rfl, rfl, ⟨[.int .i64 x.Dir], [.int .i64 x.Net], rfl, rfl, rfl⟩⟩
structure qj where
 Instances : (List qm)
 Nets : (List ByteArray)
 Ports : (List qX)
instance gt_TDesign : GoT qj := isoT (pairT (@instList qm gt_TInstance) (pairT (@instList ByteArray instStr) (@instList qX gt_TPort))) (fun x => (x.Instances, x.Nets, x.Ports)) ⟨[], [], []⟩ rfl true (fun h => by cases h)
theorem qaE {w : World} {S : Nat → Prop} {x : qj} {cs : List Value} (h : GoT.R w S x cs) : ∃ p0 k0 p1 k1 p2 k2, cs = [.slice p0 (x.Instances).length k0, .slice p1 (x.Nets).length k1, .slice p2 (x.Ports).length k2] ∧ SlR w S x.Instances p0 k0 ∧ SlR w S x.Nets p1 k1 ∧ SlR w S x.Ports p2 k2 := by
 obtain ⟨_, _, rfl, ⟨p0, k0, rfl, s0⟩, ⟨_, _, rfl, ⟨p1, k1, rfl, s1⟩, ⟨p2, k2, rfl, s2⟩⟩⟩ := h
 exact ⟨p0, k0, p1, k1, p2, k2, rfl, s0, s1, s2⟩
theorem qbd {w : World} {S : Nat → Prop} (x : qj) {p0 : Option Addr} {k0 : Nat} {p1 : Option Addr} {k1 : Nat} {p2 : Option Addr} {k2 : Nat} (s0 : SlR w S x.Instances p0 k0) (s1 : SlR w S x.Nets p1 k1) (s2 : SlR w S x.Ports p2 k2) : GoT.R w S x [.slice p0 (x.Instances).length k0, .slice p1 (x.Nets).length k1, .slice p2 (x.Ports).length k2] := ⟨[.slice p0 (x.Instances).length k0], [.slice p1 (x.Nets).length k1, .slice p2 (x.Ports).length k2], rfl, ⟨p0, k0, rfl, s0⟩, ⟨[.slice p1 (x.Nets).length k1], [.slice p2 (x.Ports).length k2], rfl, ⟨p1, k1, rfl, s1⟩, ⟨p2, k2, rfl, s2⟩⟩⟩
theorem qnL {w0 w : World} {L : List Ch} {S : Nat → Prop} {x : qj} {p0 : Option Addr} {l0 k0 : Nat} {p1 : Option Addr} {l1 k1 : Nat} {p2 : Option Addr} {l2 k2 : Nat} (h : SH w0 w (Ch.own S x [.slice p0 l0 k0, .slice p1 l1 k1, .slice p2 l2 k2] :: L)) : ∃ S0 S1 S2, SH w0 w (Ch.own S2 x.Ports [.slice p2 l2 k2] :: Ch.own S1 x.Nets [.slice p1 l1 k1] :: Ch.own S0 x.Instances [.slice p0 l0 k0] :: L) := by
 obtain ⟨hv, ho⟩ := h.headV
 replace ho : GoT.O w S x _ := ho
 obtain ⟨A0, B0, d0, e0, he, o0, ho, a0, b0⟩ := ho
 obtain ⟨q, m, rfl, s0⟩ := o0
 cases he
 replace hv := hv.push (c := Ch.own A0 x.Instances [_]) (S2 := B0) ⟨_, _, rfl, s0⟩ (fun _ hd => hd.elim) a0 b0
 obtain ⟨A1, B1, d1, e1, he, o1, ho, a1, b1⟩ := ho
 obtain ⟨q, m, rfl, s1⟩ := o1
 cases he
 replace hv := hv.push (c := Ch.own A1 x.Nets [_]) (S2 := B1) ⟨_, _, rfl, s1⟩ (fun _ hd => hd.elim) a1 b1
 obtain ⟨q, m, he, s2⟩ := ho
 cases he
 replace hv := hv.push (c := Ch.own B1 x.Ports [_]) (S2 := (fun _ => False)) ⟨_, _, rfl, s2⟩ (fun _ hd => hd.elim) (fun b hb => ⟨hb, fun h => h⟩) (fun _ h => h.elim)
 exact ⟨A0, A1, B1, hv.sh⟩
theorem qqd {w0 w : World} {L : List Ch} (x : qj) {I0 I1 I2 : List Nat} {c0 c1 c2 : List Value} (h : SH w0 w L) (h0 : PO w L I0 x.Instances c0) (h1 : PO w L I1 x.Nets c1) (h2 : PO w L I2 x.Ports c2) (b0 : apartB I0 (I1 ++ I2) = true) (b1 : apartB I1 I2 = true) : PO w L (I0 ++ (I1 ++ I2)) x (c0 ++ (c1 ++ c2)) :=
 (qcx h h0 (qcx h h1 h2 b1) b0)

structure qS where
 Parent : (List Int)
 Res : (List Int)
 Cap : (List Int)
 Sink : (List Int)
instance gt_TWire : GoT qS := isoT (pairT (@instList Int instInt) (pairT (@instList Int instInt) (pairT (@instList Int instInt) (@instList Int instInt)))) (fun x => (x.Parent, x.Res, x.Cap, x.Sink)) ⟨[], [], [], []⟩ rfl true (fun h => by cases h)
theorem qbJ {w : World} {S : Nat → Prop} {x : qS} {cs : List Value} (h : GoT.R w S x cs) : ∃ p0 k0 p1 k1 p2 k2 p3 k3, cs = [.slice p0 (x.Parent).length k0, .slice p1 (x.Res).length k1, .slice p2 (x.Cap).length k2, .slice p3 (x.Sink).length k3] ∧ SlR w S x.Parent p0 k0 ∧ SlR w S x.Res p1 k1 ∧ SlR w S x.Cap p2 k2 ∧ SlR w S x.Sink p3 k3 := by
 obtain ⟨_, _, rfl, ⟨p0, k0, rfl, s0⟩, ⟨_, _, rfl, ⟨p1, k1, rfl, s1⟩, ⟨_, _, rfl, ⟨p2, k2, rfl, s2⟩, ⟨p3, k3, rfl, s3⟩⟩⟩⟩ := h
 exact ⟨p0, k0, p1, k1, p2, k2, p3, k3, rfl, s0, s1, s2, s3⟩
theorem qiI {w : World} {S : Nat → Prop} (x : qS) {p0 : Option Addr} {k0 : Nat} {p1 : Option Addr} {k1 : Nat} {p2 : Option Addr} {k2 : Nat} {p3 : Option Addr} {k3 : Nat} (s0 : SlR w S x.Parent p0 k0) (s1 : SlR w S x.Res p1 k1) (s2 : SlR w S x.Cap p2 k2) (s3 : SlR w S x.Sink p3 k3) : GoT.R w S x [.slice p0 (x.Parent).length k0, .slice p1 (x.Res).length k1, .slice p2 (x.Cap).length k2, .slice p3 (x.Sink).length k3] := ⟨[.slice p0 (x.Parent).length k0], [.slice p1 (x.Res).length k1, .slice p2 (x.Cap).length k2, .slice p3 (x.Sink).length k3], rfl, ⟨p0, k0, rfl, s0⟩, ⟨[.slice p1 (x.Res).length k1], [.slice p2 (x.Cap).length k2, .slice p3 (x.Sink).length k3], rfl, ⟨p1, k1, rfl, s1⟩, ⟨[.slice p2 (x.Cap).length k2], [.slice p3 (x.Sink).length k3], rfl, ⟨p2, k2, rfl, s2⟩, ⟨p3, k3, rfl, s3⟩⟩⟩⟩
theorem qoN {w0 w : World} {L : List Ch} {S : Nat → Prop} {x : qS} {p0 : Option Addr} {l0 k0 : Nat} {p1 : Option Addr} {l1 k1 : Nat} {p2 : Option Addr} {l2 k2 : Nat} {p3 : Option Addr} {l3 k3 : Nat} (h : SH w0 w (Ch.own S x [.slice p0 l0 k0, .slice p1 l1 k1, .slice p2 l2 k2, .slice p3 l3 k3] :: L)) : ∃ S0 S1 S2 S3, SH w0 w (Ch.own S3 x.Sink [.slice p3 l3 k3] :: Ch.own S2 x.Cap [.slice p2 l2 k2] :: Ch.own S1 x.Res [.slice p1 l1 k1] :: Ch.own S0 x.Parent [.slice p0 l0 k0] :: L) := by
 obtain ⟨hv, ho⟩ := h.headV
 replace ho : GoT.O w S x _ := ho
 obtain ⟨A0, B0, d0, e0, he, o0, ho, a0, b0⟩ := ho
 obtain ⟨q, m, rfl, s0⟩ := o0
 cases he
 replace hv := hv.push (c := Ch.own A0 x.Parent [_]) (S2 := B0) ⟨_, _, rfl, s0⟩ (fun _ hd => hd.elim) a0 b0
 obtain ⟨A1, B1, d1, e1, he, o1, ho, a1, b1⟩ := ho
 obtain ⟨q, m, rfl, s1⟩ := o1
 cases he
 replace hv := hv.push (c := Ch.own A1 x.Res [_]) (S2 := B1) ⟨_, _, rfl, s1⟩ (fun _ hd => hd.elim) a1 b1
 obtain ⟨A2, B2, d2, e2, he, o2, ho, a2, b2⟩ := ho
 obtain ⟨q, m, rfl, s2⟩ := o2
 cases he
 replace hv := hv.push (c := Ch.own A2 x.Cap [_]) (S2 := B2) ⟨_, _, rfl, s2⟩ (fun _ hd => hd.elim) a2 b2
 obtain ⟨q, m, he, s3⟩ := ho
 cases he
 replace hv := hv.push (c := Ch.own B2 x.Sink [_]) (S2 := (fun _ => False)) ⟨_, _, rfl, s3⟩ (fun _ hd => hd.elim) (fun b hb => ⟨hb, fun h => h⟩) (fun _ h => h.elim)
 exact ⟨A0, A1, A2, B2, hv.sh⟩
theorem qo8 {w0 w : World} {L : List Ch} (x : qS) {I0 I1 I2 I3 : List Nat} {c0 c1 c2 c3 : List Value} (h : SH w0 w L) (h0 : PO w L I0 x.Parent c0) (h1 : PO w L I1 x.Res c1) (h2 : PO w L I2 x.Cap c2) (h3 : PO w L I3 x.Sink c3) (b0 : apartB I0 (I1 ++ (I2 ++ I3)) = true) (b1 : apartB I1 (I2 ++ I3) = true) (b2 : apartB I2 I3 = true) : PO w L (I0 ++ (I1 ++ (I2 ++ I3))) x (c0 ++ (c1 ++ (c2 ++ c3))) :=
 (qcx h h0 (qcx h h1 (qcx h h2 h3 b2) b1) b0)

structure qz where
 Library : qv
 Design : qj
 Wires : (List qS)
instance gt_TBlock : GoT qz := isoT (pairT gt_TLibrary (pairT gt_TDesign (@instList qS gt_TWire))) (fun x => (x.Library, x.Design, x.Wires)) ⟨(⟨[]⟩ : qv), (⟨[], [], []⟩ : qj), []⟩ rfl true (fun h => by cases h)
theorem qaq {w : World} {S : Nat → Prop} {x : qz} {cs : List Value} (h : GoT.R w S x cs) : ∃ p0 k0 p1 k1 p2 k2 p3 k3 p4 k4, cs = [.slice p0 (x.Library.Cells).length k0, .slice p1 (x.Design.Instances).length k1, .slice p2 (x.Design.Nets).length k2, .slice p3 (x.Design.Ports).length k3, .slice p4 (x.Wires).length k4] ∧ SlR w S x.Library.Cells p0 k0 ∧ SlR w S x.Design.Instances p1 k1 ∧ SlR w S x.Design.Nets p2 k2 ∧ SlR w S x.Design.Ports p3 k3 ∧ SlR w S x.Wires p4 k4 := by
 obtain ⟨_, _, rfl, ⟨p0, k0, rfl, s0⟩, ⟨_, _, rfl, ⟨_, _, rfl, ⟨p1, k1, rfl, s1⟩, ⟨_, _, rfl, ⟨p2, k2, rfl, s2⟩, ⟨p3, k3, rfl, s3⟩⟩⟩, ⟨p4, k4, rfl, s4⟩⟩⟩ := h
 exact ⟨p0, k0, p1, k1, p2, k2, p3, k3, p4, k4, rfl, s0, s1, s2, s3, s4⟩
theorem qk8 {w : World} {S : Nat → Prop} (x : qz) {p0 : Option Addr} {k0 : Nat} {p1 : Option Addr} {k1 : Nat} {p2 : Option Addr} {k2 : Nat} {p3 : Option Addr} {k3 : Nat} {p4 : Option Addr} {k4 : Nat} (s0 : SlR w S x.Library.Cells p0 k0) (s1 : SlR w S x.Design.Instances p1 k1) (s2 : SlR w S x.Design.Nets p2 k2) (s3 : SlR w S x.Design.Ports p3 k3) (s4 : SlR w S x.Wires p4 k4) : GoT.R w S x [.slice p0 (x.Library.Cells).length k0, .slice p1 (x.Design.Instances).length k1, .slice p2 (x.Design.Nets).length k2, .slice p3 (x.Design.Ports).length k3, .slice p4 (x.Wires).length k4] := ⟨[.slice p0 (x.Library.Cells).length k0], [.slice p1 (x.Design.Instances).length k1, .slice p2 (x.Design.Nets).length k2, .slice p3 (x.Design.Ports).length k3, .slice p4 (x.Wires).length k4], rfl, ⟨p0, k0, rfl, s0⟩, ⟨[.slice p1 (x.Design.Instances).length k1, .slice p2 (x.Design.Nets).length k2, .slice p3 (x.Design.Ports).length k3], [.slice p4 (x.Wires).length k4], rfl, ⟨[.slice p1 (x.Design.Instances).length k1], [.slice p2 (x.Design.Nets).length k2, .slice p3 (x.Design.Ports).length k3], rfl, ⟨p1, k1, rfl, s1⟩, ⟨[.slice p2 (x.Design.Nets).length k2], [.slice p3 (x.Design.Ports).length k3], rfl, ⟨p2, k2, rfl, s2⟩, ⟨p3, k3, rfl, s3⟩⟩⟩, ⟨p4, k4, rfl, s4⟩⟩⟩
theorem qnq {w0 w : World} {L : List Ch} {S : Nat → Prop} {x : qz} {p0 : Option Addr} {l0 k0 : Nat} {p1 : Option Addr} {l1 k1 : Nat} {p2 : Option Addr} {l2 k2 : Nat} {p3 : Option Addr} {l3 k3 : Nat} {p4 : Option Addr} {l4 k4 : Nat} (h : SH w0 w (Ch.own S x [.slice p0 l0 k0, .slice p1 l1 k1, .slice p2 l2 k2, .slice p3 l3 k3, .slice p4 l4 k4] :: L)) : ∃ S0 S1 S2, SH w0 w (Ch.own S2 x.Wires [.slice p4 l4 k4] :: Ch.own S1 x.Design [.slice p1 l1 k1, .slice p2 l2 k2, .slice p3 l3 k3] :: Ch.own S0 x.Library [.slice p0 l0 k0] :: L) := by
 obtain ⟨hv, ho⟩ := h.headV
 replace ho : GoT.O w S x _ := ho
 obtain ⟨A0, B0, d0, e0, he0, o0, ho, a0, b0⟩ := ho
 have hl0 : d0.length = 1 := GoT.len (GoT.toR o0)
 obtain ⟨rfl, rfl⟩ : d0 = [.slice p0 l0 k0] ∧ e0 = [.slice p1 l1 k1, .slice p2 l2 k2, .slice p3 l3 k3, .slice p4 l4 k4] := by
  have := List.append_inj (show [.slice p0 l0 k0] ++ [.slice p1 l1 k1, .slice p2 l2 k2, .slice p3 l3 k3, .slice p4 l4 k4] = d0 ++ e0 from he0) (by rw [hl0]; rfl)
  exact ⟨this.1.symm, this.2.symm⟩
 replace hv := hv.push (c := Ch.own A0 x.Library [.slice p0 l0 k0]) (S2 := B0) o0 (fun _ hd => hd.elim) a0 b0
 obtain ⟨A1, B1, d1, e1, he1, o1, ho, a1, b1⟩ := ho
 have hl1 : d1.length = 3 := GoT.len (GoT.toR o1)
 obtain ⟨rfl, rfl⟩ : d1 = [.slice p1 l1 k1, .slice p2 l2 k2, .slice p3 l3 k3] ∧ e1 = [.slice p4 l4 k4] := by
  have := List.append_inj (show [.slice p1 l1 k1, .slice p2 l2 k2, .slice p3 l3 k3] ++ [.slice p4 l4 k4] = d1 ++ e1 from he1) (by rw [hl1]; rfl)
  exact ⟨this.1.symm, this.2.symm⟩
 replace hv := hv.push (c := Ch.own A1 x.Design [.slice p1 l1 k1, .slice p2 l2 k2, .slice p3 l3 k3]) (S2 := B1) o1 (fun _ hd => hd.elim) a1 b1
 replace hv := hv.push (c := Ch.own B1 x.Wires [.slice p4 l4 k4]) (S2 := (fun _ => False)) ho (fun _ hd => hd.elim) (fun b hb => ⟨hb, fun h => h⟩) (fun _ h => h.elim)
 exact ⟨A0, A1, B1, hv.sh⟩
theorem qq2 {w0 w : World} {L : List Ch} (x : qz) {I0 I1 I2 : List Nat} {c0 c1 c2 : List Value} (h : SH w0 w L) (h0 : PO w L I0 x.Library c0) (h1 : PO w L I1 x.Design c1) (h2 : PO w L I2 x.Wires c2) (b0 : apartB I0 (I1 ++ I2) = true) (b1 : apartB I1 I2 = true) : PO w L (I0 ++ (I1 ++ I2)) x (c0 ++ (c1 ++ c2)) :=
 (qcx h h0 (qcx h h1 h2 b1) b0)

structure qg where
 Kind : Int
 Value : Int
 From : (List Int)
 Through : (List Int)
 To : (List Int)
instance gt_TException : GoT qg := isoT (pairT instInt (pairT instInt (pairT (@instList Int instInt) (pairT (@instList Int instInt) (@instList Int instInt))))) (fun x => (x.Kind, x.Value, x.From, x.Through, x.To)) ⟨0, 0, [], [], []⟩ rfl true (fun h => by cases h)
theorem qac {w : World} {S : Nat → Prop} {x : qg} {cs : List Value} (h : GoT.R w S x cs) : ∃ p0 k0 p1 k1 p2 k2, cs = [.int .i64 x.Kind, .int .i64 x.Value, .slice p0 (x.From).length k0, .slice p1 (x.Through).length k1, .slice p2 (x.To).length k2] ∧ SlR w S x.From p0 k0 ∧ SlR w S x.Through p1 k1 ∧ SlR w S x.To p2 k2 := by
 obtain ⟨_, _, rfl, rfl, ⟨_, _, rfl, rfl, ⟨_, _, rfl, ⟨p0, k0, rfl, s0⟩, ⟨_, _, rfl, ⟨p1, k1, rfl, s1⟩, ⟨p2, k2, rfl, s2⟩⟩⟩⟩⟩ := h
 exact ⟨p0, k0, p1, k1, p2, k2, rfl, s0, s1, s2⟩
theorem qdS {w : World} {S : Nat → Prop} (x : qg) {p0 : Option Addr} {k0 : Nat} {p1 : Option Addr} {k1 : Nat} {p2 : Option Addr} {k2 : Nat} (s0 : SlR w S x.From p0 k0) (s1 : SlR w S x.Through p1 k1) (s2 : SlR w S x.To p2 k2) : GoT.R w S x [.int .i64 x.Kind, .int .i64 x.Value, .slice p0 (x.From).length k0, .slice p1 (x.Through).length k1, .slice p2 (x.To).length k2] := ⟨[.int .i64 x.Kind], [.int .i64 x.Value, .slice p0 (x.From).length k0, .slice p1 (x.Through).length k1, .slice p2 (x.To).length k2], rfl, rfl, ⟨[.int .i64 x.Value], [.slice p0 (x.From).length k0, .slice p1 (x.Through).length k1, .slice p2 (x.To).length k2], rfl, rfl, ⟨[.slice p0 (x.From).length k0], [.slice p1 (x.Through).length k1, .slice p2 (x.To).length k2], rfl, ⟨p0, k0, rfl, s0⟩, ⟨[.slice p1 (x.Through).length k1], [.slice p2 (x.To).length k2], rfl, ⟨p1, k1, rfl, s1⟩, ⟨p2, k2, rfl, s2⟩⟩⟩⟩⟩
theorem qlJ {w0 w : World} {L : List Ch} {S : Nat → Prop} {x : qg} {p0 : Option Addr} {l0 k0 : Nat} {p1 : Option Addr} {l1 k1 : Nat} {p2 : Option Addr} {l2 k2 : Nat} (h : SH w0 w (Ch.own S x [.int .i64 x.Kind, .int .i64 x.Value, .slice p0 l0 k0, .slice p1 l1 k1, .slice p2 l2 k2] :: L)) : ∃ S0 S1 S2, SH w0 w (Ch.own S2 x.To [.slice p2 l2 k2] :: Ch.own S1 x.Through [.slice p1 l1 k1] :: Ch.own S0 x.From [.slice p0 l0 k0] :: L) := by
 obtain ⟨hv, ho⟩ := h.headV
 replace ho : GoT.O w S x _ := ho
 obtain ⟨A0, B0, d0, e0, he, o0, ho, a0, b0⟩ := ho
 obtain rfl := o0
 cases he
 replace hv := hv.less b0
 obtain ⟨A1, B1, d1, e1, he, o1, ho, a1, b1⟩ := ho
 obtain rfl := o1
 cases he
 replace hv := hv.less b1
 obtain ⟨A2, B2, d2, e2, he, o2, ho, a2, b2⟩ := ho
 obtain ⟨q, m, rfl, s0⟩ := o2
 cases he
 replace hv := hv.push (c := Ch.own A2 x.From [_]) (S2 := B2) ⟨_, _, rfl, s0⟩ (fun _ hd => hd.elim) a2 b2
 obtain ⟨A3, B3, d3, e3, he, o3, ho, a3, b3⟩ := ho
 obtain ⟨q, m, rfl, s1⟩ := o3
 cases he
 replace hv := hv.push (c := Ch.own A3 x.Through [_]) (S2 := B3) ⟨_, _, rfl, s1⟩ (fun _ hd => hd.elim) a3 b3
 obtain ⟨q, m, he, s2⟩ := ho
 cases he
 replace hv := hv.push (c := Ch.own B3 x.To [_]) (S2 := (fun _ => False)) ⟨_, _, rfl, s2⟩ (fun _ hd => hd.elim) (fun b hb => ⟨hb, fun h => h⟩) (fun _ h => h.elim)
 exact ⟨A2, A3, B3, hv.sh⟩
theorem qkP {w0 w : World} {L : List Ch} (x : qg) {I0 I1 I2 I3 I4 : List Nat} {c0 c1 c2 c3 c4 : List Value} (h : SH w0 w L) (h0 : PO w L I0 x.Kind c0) (h1 : PO w L I1 x.Value c1) (h2 : PO w L I2 x.From c2) (h3 : PO w L I3 x.Through c3) (h4 : PO w L I4 x.To c4) (b0 : apartB I0 (I1 ++ (I2 ++ (I3 ++ I4))) = true) (b1 : apartB I1 (I2 ++ (I3 ++ I4)) = true) (b2 : apartB I2 (I3 ++ I4) = true) (b3 : apartB I3 I4 = true) : PO w L (I0 ++ (I1 ++ (I2 ++ (I3 ++ I4)))) x (c0 ++ (c1 ++ (c2 ++ (c3 ++ c4)))) :=
 (qcx h h0 (qcx h h1 (qcx h h2 (qcx h h3 h4 b3) b2) b1) b0)

structure qmC where
 False : Bool
 Cycles : Int
 MaxLimit : Int
 MinLimit : Int
instance gt_TEffect : GoT qmC := isoT (pairT instBool (pairT instInt (pairT instInt instInt))) (fun x => (x.False, x.Cycles, x.MaxLimit, x.MinLimit)) ⟨false, 0, 0, 0⟩ rfl true (fun h => by cases h)
instance fl_TEffect : Flat qmC := qij (pairT instBool (pairT instInt (pairT instInt instInt))) (fun x : qmC => (x.False, x.Cycles, x.MaxLimit, x.MinLimit)) ⟨false, 0, 0, 0⟩ rfl true (fun h => by cases h) (qcj _ _ (inferInstanceAs (Flat Bool)) (qcj _ _ (inferInstanceAs (Flat Int)) (qcj _ _ (inferInstanceAs (Flat Int)) (inferInstanceAs (Flat Int)))))
structure Tplace where
 instance_ : Int
 pin : Int
 net : Int
 drives : Bool
instance gt_Tplace : GoT Tplace := isoT (pairT instInt (pairT instInt (pairT instInt instBool))) (fun x => (x.instance_, x.pin, x.net, x.drives)) ⟨0, 0, 0, false⟩ rfl true (fun h => by cases h)
instance fl_Tplace : Flat Tplace := qij (pairT instInt (pairT instInt (pairT instInt instBool))) (fun x : Tplace => (x.instance_, x.pin, x.net, x.drives)) ⟨0, 0, 0, false⟩ rfl true (fun h => by cases h) (qcj _ _ (inferInstanceAs (Flat Int)) (qcj _ _ (inferInstanceAs (Flat Int)) (qcj _ _ (inferInstanceAs (Flat Int)) (inferInstanceAs (Flat Bool)))))
theorem qdR {w : World} {S : Nat → Prop} {x : Tplace} {cs : List Value} (h : GoT.R w S x cs) : cs = [.int .i64 x.instance_, .int .i64 x.pin, .int .i64 x.net, .bool x.drives] := by
 obtain ⟨_, _, rfl, rfl, ⟨_, _, rfl, rfl, ⟨_, _, rfl, rfl, rfl⟩⟩⟩ := h
 exact rfl
theorem qh9 {w : World} {S : Nat → Prop} (x : Tplace) : GoT.R w S x [.int .i64 x.instance_, .int .i64 x.pin, .int .i64 x.net, .bool x.drives] := ⟨[.int .i64 x.instance_], [.int .i64 x.pin, .int .i64 x.net, .bool x.drives], rfl, rfl, ⟨[.int .i64 x.pin], [.int .i64 x.net, .bool x.drives], rfl, rfl, ⟨[.int .i64 x.net], [.bool x.drives], rfl, rfl, rfl⟩⟩⟩
structure qbo where
 From : Int
 To : Int
 Kind : Int
 Index : Int
instance gt_TLink : GoT qbo := isoT (pairT instInt (pairT instInt (pairT instInt instInt))) (fun x => (x.From, x.To, x.Kind, x.Index)) ⟨0, 0, 0, 0⟩ rfl true (fun h => by cases h)
instance fl_TLink : Flat qbo := qij (pairT instInt (pairT instInt (pairT instInt instInt))) (fun x : qbo => (x.From, x.To, x.Kind, x.Index)) ⟨0, 0, 0, 0⟩ rfl true (fun h => by cases h) (qcj _ _ (inferInstanceAs (Flat Int)) (qcj _ _ (inferInstanceAs (Flat Int)) (qcj _ _ (inferInstanceAs (Flat Int)) (inferInstanceAs (Flat Int)))))
theorem qn7 {w : World} {S : Nat → Prop} (x : qbo) : GoT.R w S x [.int .i64 x.From, .int .i64 x.To, .int .i64 x.Kind, .int .i64 x.Index] := ⟨[.int .i64 x.From], [.int .i64 x.To, .int .i64 x.Kind, .int .i64 x.Index], rfl, rfl, ⟨[.int .i64 x.To], [.int .i64 x.Kind, .int .i64 x.Index], rfl, rfl, ⟨[.int .i64 x.Kind], [.int .i64 x.Index], rfl, rfl, rfl⟩⟩⟩
structure Tview where
 Block : qz
 places : (List Tplace)
 links : (List qbo)
 loads : (List Int)
 delays : (List (List Int))
 extras : (List Int)
instance gt_Tview : GoT Tview := isoT (pairT gt_TBlock (pairT (@instList Tplace gt_Tplace) (pairT (@instList qbo gt_TLink) (pairT (@instList Int instInt) (pairT (@instList (List Int) (@instList Int instInt)) (@instList Int instInt)))))) (fun x => (x.Block, x.places, x.links, x.loads, x.delays, x.extras)) ⟨(⟨(⟨[]⟩ : qv), (⟨[], [], []⟩ : qj), []⟩ : qz), [], [], [], [], []⟩ rfl true (fun h => by cases h)
theorem qjQ {w : World} {S : Nat → Prop} {x : Tview} {cs : List Value} (h : GoT.R w S x cs) : ∃ p0 k0 p1 k1 p2 k2 p3 k3 p4 k4 p5 k5 p6 k6 p7 k7 p8 k8 p9 k9, cs = [.slice p0 (x.Block.Library.Cells).length k0, .slice p1 (x.Block.Design.Instances).length k1, .slice p2 (x.Block.Design.Nets).length k2, .slice p3 (x.Block.Design.Ports).length k3, .slice p4 (x.Block.Wires).length k4, .slice p5 (x.places).length k5, .slice p6 (x.links).length k6, .slice p7 (x.loads).length k7, .slice p8 (x.delays).length k8, .slice p9 (x.extras).length k9] ∧ SlR w S x.Block.Library.Cells p0 k0 ∧ SlR w S x.Block.Design.Instances p1 k1 ∧ SlR w S x.Block.Design.Nets p2 k2 ∧ SlR w S x.Block.Design.Ports p3 k3 ∧ SlR w S x.Block.Wires p4 k4 ∧ SlR w S x.places p5 k5 ∧ SlR w S x.links p6 k6 ∧ SlR w S x.loads p7 k7 ∧ SlR w S x.delays p8 k8 ∧ SlR w S x.extras p9 k9 := by
 obtain ⟨_, _, rfl, ⟨_, _, rfl, ⟨p0, k0, rfl, s0⟩, ⟨_, _, rfl, ⟨_, _, rfl, ⟨p1, k1, rfl, s1⟩, ⟨_, _, rfl, ⟨p2, k2, rfl, s2⟩, ⟨p3, k3, rfl, s3⟩⟩⟩, ⟨p4, k4, rfl, s4⟩⟩⟩, ⟨_, _, rfl, ⟨p5, k5, rfl, s5⟩, ⟨_, _, rfl, ⟨p6, k6, rfl, s6⟩, ⟨_, _, rfl, ⟨p7, k7, rfl, s7⟩, ⟨_, _, rfl, ⟨p8, k8, rfl, s8⟩, ⟨p9, k9, rfl, s9⟩⟩⟩⟩⟩⟩ := h
 exact ⟨p0, k0, p1, k1, p2, k2, p3, k3, p4, k4, p5, k5, p6, k6, p7, k7, p8, k8, p9, k9, rfl, s0, s1, s2, s3, s4, s5, s6, s7, s8, s9⟩
structure Tl05Place where
 instance_ : Int
 pin : Int
 net : Int
 drives : Bool
instance gt_Tl05Place : GoT Tl05Place := isoT (pairT instInt (pairT instInt (pairT instInt instBool))) (fun x => (x.instance_, x.pin, x.net, x.drives)) ⟨0, 0, 0, false⟩ rfl true (fun h => by cases h)
instance fl_Tl05Place : Flat Tl05Place := qij (pairT instInt (pairT instInt (pairT instInt instBool))) (fun x : Tl05Place => (x.instance_, x.pin, x.net, x.drives)) ⟨0, 0, 0, false⟩ rfl true (fun h => by cases h) (qcj _ _ (inferInstanceAs (Flat Int)) (qcj _ _ (inferInstanceAs (Flat Int)) (qcj _ _ (inferInstanceAs (Flat Int)) (inferInstanceAs (Flat Bool)))))
theorem qcE {w : World} {S : Nat → Prop} {x : Tl05Place} {cs : List Value} (h : GoT.R w S x cs) : cs = [.int .i64 x.instance_, .int .i64 x.pin, .int .i64 x.net, .bool x.drives] := by
 obtain ⟨_, _, rfl, rfl, ⟨_, _, rfl, rfl, ⟨_, _, rfl, rfl, rfl⟩⟩⟩ := h
 exact rfl
theorem qgV {w : World} {S : Nat → Prop} (x : Tl05Place) : GoT.R w S x [.int .i64 x.instance_, .int .i64 x.pin, .int .i64 x.net, .bool x.drives] := ⟨[.int .i64 x.instance_], [.int .i64 x.pin, .int .i64 x.net, .bool x.drives], rfl, rfl, ⟨[.int .i64 x.pin], [.int .i64 x.net, .bool x.drives], rfl, rfl, ⟨[.int .i64 x.net], [.bool x.drives], rfl, rfl, rfl⟩⟩⟩
structure qU where
 e0 : Int
 e1 : Int
instance gt_TA2_Int : GoT qU := isoT (pairT instInt instInt) (fun x => (x.e0, x.e1)) ⟨0, 0⟩ rfl true (fun h => by cases h)
instance fl_TA2_Int : Flat qU := qij (pairT instInt instInt) (fun x : qU => (x.e0, x.e1)) ⟨0, 0⟩ rfl true (fun h => by cases h) (qcj _ _ (inferInstanceAs (Flat Int)) (inferInstanceAs (Flat Int)))
theorem qom {w : World} {S : Nat → Prop} {x : qU} {cs : List Value} (h : GoT.R w S x cs) : cs = [.int .i64 x.e0, .int .i64 x.e1] := by
 obtain ⟨_, _, rfl, rfl, rfl⟩ := h
 exact rfl
theorem qdp {w : World} {S : Nat → Prop} (x : qU) : GoT.R w S x [.int .i64 x.e0, .int .i64 x.e1] := ⟨[.int .i64 x.e0], [.int .i64 x.e1], rfl, rfl, rfl⟩
structure qiV where
 Early : Int
 Late : Int
instance gt_TSpan : GoT qiV := isoT (pairT instInt instInt) (fun x => (x.Early, x.Late)) ⟨0, 0⟩ rfl true (fun h => by cases h)
instance fl_TSpan : Flat qiV := qij (pairT instInt instInt) (fun x : qiV => (x.Early, x.Late)) ⟨0, 0⟩ rfl true (fun h => by cases h) (qcj _ _ (inferInstanceAs (Flat Int)) (inferInstanceAs (Flat Int)))
theorem qpW {w : World} {S : Nat → Prop} {x : qiV} {cs : List Value} (h : GoT.R w S x cs) : cs = [.int .i64 x.Early, .int .i64 x.Late] := by
 obtain ⟨_, _, rfl, rfl, rfl⟩ := h
 exact rfl
theorem qn2 {w : World} {S : Nat → Prop} (x : qiV) : GoT.R w S x [.int .i64 x.Early, .int .i64 x.Late] := ⟨[.int .i64 x.Early], [.int .i64 x.Late], rfl, rfl, rfl⟩
def tab : Tab := [
 (2, ⟨.int .i64, 1, 8, some (.int .i64 0), []⟩),
 (3, ⟨.int .i64, 1, 8, some (.int .i64 0), []⟩),
 (4, ⟨.bool, 1, 1, some (.bool false), []⟩),
 (5, ⟨.int .u8, 1, 1, some (.int .u8 0), []⟩),
 (9, ⟨.str, 1, 16, some (.string ByteArray.empty), []⟩),
 (22, ⟨.slice 171, 1, 24, some (.slice none 0 0), []⟩),
 (24, ⟨.struct, 1, 24, some (.agg #[.slice none 0 0]), [(0, 1, some false)]⟩),
 (25, ⟨.slice 174, 1, 24, some (.slice none 0 0), []⟩),
 (26, ⟨.slice 9, 1, 24, some (.slice none 0 0), []⟩),
 (27, ⟨.slice 177, 1, 24, some (.slice none 0 0), []⟩),
 (29, ⟨.struct, 3, 72, some (.agg #[.slice none 0 0, .slice none 0 0, .slice none 0 0]), [(0, 1, some false), (1, 1, some false), (2, 1, some false)]⟩),
 (30, ⟨.slice 122, 1, 24, some (.slice none 0 0), []⟩),
 (32, ⟨.struct, 5, 120, some (.agg #[.slice none 0 0, .slice none 0 0, .slice none 0 0, .slice none 0 0, .slice none 0 0]), [(0, 1, some true), (1, 3, some true), (4, 1, some false)]⟩),
 (33, ⟨.slice 80, 1, 24, some (.slice none 0 0), []⟩),
 (34, ⟨.slice 2, 1, 24, some (.slice none 0 0), []⟩),
 (38, ⟨.struct, 4, 32, some (.agg #[.bool false, .int .i64 0, .int .i64 0, .int .i64 0]), [(0, 1, some false), (1, 1, some false), (2, 1, some false), (3, 1, some false)]⟩),
 (41, ⟨.slice 183, 1, 24, some (.slice none 0 0), []⟩),
 (43, ⟨.struct, 1, 24, some (.agg #[.slice none 0 0]), [(0, 1, some false)]⟩),
 (44, ⟨.slice 185, 1, 24, some (.slice none 0 0), []⟩),
 (45, ⟨.slice 187, 1, 24, some (.slice none 0 0), []⟩),
 (47, ⟨.struct, 3, 72, some (.agg #[.slice none 0 0, .slice none 0 0, .slice none 0 0]), [(0, 1, some false), (1, 1, some false), (2, 1, some false)]⟩),
 (48, ⟨.slice 130, 1, 24, some (.slice none 0 0), []⟩),
 (50, ⟨.struct, 5, 120, some (.agg #[.slice none 0 0, .slice none 0 0, .slice none 0 0, .slice none 0 0, .slice none 0 0]), [(0, 1, some true), (1, 3, some true), (4, 1, some false)]⟩),
 (52, ⟨.slice 87, 1, 24, some (.slice none 0 0), []⟩),
 (70, ⟨.slice 34, 1, 24, some (.slice none 0 0), []⟩),
 (80, ⟨.struct, 5, 88, some (.agg #[.int .i64 0, .int .i64 0, .slice none 0 0, .slice none 0 0, .slice none 0 0]), [(0, 1, some false), (1, 1, some false), (2, 1, some false), (3, 1, some false), (4, 1, some false)]⟩),
 (87, ⟨.struct, 5, 88, some (.agg #[.int .i64 0, .int .i64 0, .slice none 0 0, .slice none 0 0, .slice none 0 0]), [(0, 1, some false), (1, 1, some false), (2, 1, some false), (3, 1, some false), (4, 1, some false)]⟩),
 (89, ⟨.ptr, 1, 8, some (.pointer none), []⟩),
 (104, ⟨.slice 4, 1, 24, some (.slice none 0 0), []⟩),
 (122, ⟨.struct, 4, 96, some (.agg #[.slice none 0 0, .slice none 0 0, .slice none 0 0, .slice none 0 0]), [(0, 1, some false), (1, 1, some false), (2, 1, some false), (3, 1, some false)]⟩),
 (130, ⟨.struct, 4, 96, some (.agg #[.slice none 0 0, .slice none 0 0, .slice none 0 0, .slice none 0 0]), [(0, 1, some false), (1, 1, some false), (2, 1, some false), (3, 1, some false)]⟩),
 (156, ⟨.struct, 4, 32, some (.agg #[.int .i64 0, .int .i64 0, .int .i64 0, .bool false]), [(0, 1, some false), (1, 1, some false), (2, 1, some false), (3, 1, some false)]⟩),
 (157, ⟨.slice 156, 1, 24, some (.slice none 0 0), []⟩),
 (158, ⟨.slice 216, 1, 24, some (.slice none 0 0), []⟩),
 (160, ⟨.struct, 10, 240, some (.agg #[.slice none 0 0, .slice none 0 0, .slice none 0 0, .slice none 0 0, .slice none 0 0, .slice none 0 0, .slice none 0 0, .slice none 0 0, .slice none 0 0, .slice none 0 0]), [(0, 5, some true), (5, 1, some false), (6, 1, some false), (7, 1, some false), (8, 1, some false), (9, 1, some false)]⟩),
 (168, ⟨.slice 257, 1, 24, some (.slice none 0 0), []⟩),
 (169, ⟨.slice 261, 1, 24, some (.slice none 0 0), []⟩),
 (171, ⟨.struct, 7, 112, some (.agg #[.string ByteArray.empty, .int .i64 0, .slice none 0 0, .slice none 0 0, .slice none 0 0, .int .i64 0, .int .i64 0]), [(0, 1, some false), (1, 1, some false), (2, 1, some false), (3, 1, some false), (4, 1, some false), (5, 1, some false), (6, 1, some false)]⟩),
 (174, ⟨.struct, 3, 48, some (.agg #[.string ByteArray.empty, .int .i64 0, .slice none 0 0]), [(0, 1, some false), (1, 1, some false), (2, 1, some false)]⟩),
 (177, ⟨.struct, 3, 32, some (.agg #[.string ByteArray.empty, .int .i64 0, .int .i64 0]), [(0, 1, some false), (1, 1, some false), (2, 1, some false)]⟩),
 (178, ⟨.slice 202, 1, 24, some (.slice none 0 0), []⟩),
 (180, ⟨.slice 238, 1, 24, some (.slice none 0 0), []⟩),
 (181, ⟨.slice 211, 1, 24, some (.slice none 0 0), []⟩),
 (183, ⟨.struct, 7, 112, some (.agg #[.string ByteArray.empty, .int .i64 0, .slice none 0 0, .slice none 0 0, .slice none 0 0, .int .i64 0, .int .i64 0]), [(0, 1, some false), (1, 1, some false), (2, 1, some false), (3, 1, some false), (4, 1, some false), (5, 1, some false), (6, 1, some false)]⟩),
 (185, ⟨.struct, 3, 48, some (.agg #[.string ByteArray.empty, .int .i64 0, .slice none 0 0]), [(0, 1, some false), (1, 1, some false), (2, 1, some false)]⟩),
 (187, ⟨.struct, 3, 32, some (.agg #[.string ByteArray.empty, .int .i64 0, .int .i64 0]), [(0, 1, some false), (1, 1, some false), (2, 1, some false)]⟩),
 (202, ⟨.struct, 4, 32, some (.agg #[.int .i64 0, .int .i64 0, .int .i64 0, .bool false]), [(0, 1, some false), (1, 1, some false), (2, 1, some false), (3, 1, some false)]⟩),
 (209, ⟨.slice 267, 1, 24, some (.slice none 0 0), []⟩),
 (211, ⟨.struct, 6, 80, some (.agg #[.int .i64 0, .int .i64 0, .int .i64 0, .int .i64 0, .slice none 0 0, .slice none 0 0]), [(0, 1, some false), (1, 1, some false), (2, 1, some false), (3, 1, some false), (4, 1, some false), (5, 1, some false)]⟩),
 (216, ⟨.struct, 4, 32, some (.agg #[.int .i64 0, .int .i64 0, .int .i64 0, .int .i64 0]), [(0, 1, some false), (1, 1, some false), (2, 1, some false), (3, 1, some false)]⟩),
 (224, ⟨.slice 3, 1, 24, some (.slice none 0 0), []⟩),
 (236, ⟨.slice 5, 1, 24, some (.slice none 0 0), []⟩),
 (238, ⟨.struct, 4, 40, some (.agg #[.string ByteArray.empty, .int .i64 0, .int .i64 0, .bool false]), [(0, 1, some false), (1, 1, some false), (2, 1, some false), (3, 1, some false)]⟩),
 (246, ⟨.slice 248, 1, 24, some (.slice none 0 0), []⟩),
 (248, ⟨.arr 2 2, 2, 16, some (.agg #[.int .i64 0, .int .i64 0]), []⟩),
 (253, ⟨.int .u64, 1, 8, some (.int .u64 0), []⟩),
 (257, ⟨.struct, 4, 40, some (.agg #[.string ByteArray.empty, .int .i64 0, .int .i64 0, .bool false]), [(0, 1, some false), (1, 1, some false), (2, 1, some false), (3, 1, some false)]⟩),
 (259, ⟨.slice 283, 1, 24, some (.slice none 0 0), []⟩),
 (261, ⟨.struct, 6, 80, some (.agg #[.int .i64 0, .int .i64 0, .int .i64 0, .int .i64 0, .slice none 0 0, .slice none 0 0]), [(0, 1, some false), (1, 1, some false), (2, 1, some false), (3, 1, some false), (4, 1, some false), (5, 1, some false)]⟩),
 (267, ⟨.struct, 3, 72, some (.agg #[.slice none 0 0, .slice none 0 0, .slice none 0 0]), [(0, 1, some false), (1, 1, some false), (2, 1, some false)]⟩),
 (283, ⟨.struct, 3, 72, some (.agg #[.slice none 0 0, .slice none 0 0, .slice none 0 0]), [(0, 1, some false), (1, 1, some false), (2, 1, some false)]⟩),
 (291, ⟨.struct, 2, 16, some (.agg #[.int .i64 0, .int .i64 0]), [(0, 1, some false), (1, 1, some false)]⟩)]
theorem qc : TabOk Tryz.prog tab := TabOk.mk (by kernel_rfl)
theorem rp {n : Nat} {Q : Exit → Act → World → Prop} {k : List It} {e : Env} {w : World} {all : Array Oper} {l : List Oper} {op : Op} {d t : Nat} {ps : String} {af : Array Edge} {v : Value}
  (h : pev tab e op = some v) (hn : Nat.blt d n = true) (hk : Run Tryz.prog n Q (.ops all l :: k) ((d, v) :: e) w) : Run Tryz.prog n Q (.ops all (⟨some d, op, t, ps, af, none⟩ :: l) :: k) e w := r_p qc h hn hk
theorem dp {n : Nat} {Q : Exit → Act → World → Prop} {k : List It} {e : Env} {w : World} {all : Array Oper} {l : List Oper} {op : Op} {d t : Nat} {ps : String} {af : Array Edge} {v : Value}
  (h : pev tab e op = some v) (hn : Nat.blt d n = true) (hk : RunD Tryz.prog n Q k all w l ((d, v) :: e)) : RunD Tryz.prog n Q k all w (⟨some d, op, t, ps, af, none⟩ :: l) e := d_p qc h hn hk
section
variable {P : Program} {n : Nat} {Q : Exit → Act → World → Prop} {k : List It} {e : Env} {w : World}
theorem zSR {i4 : Nat} {o5 : List Oper} {x3 : Code} (h : Run P n Q (.ops o5.toArray o5 :: .code x3 :: k) e w) : Run P n Q (.code (.seq (.region i4 o5.toArray false) x3) :: k) e w := qbq <| qB h
theorem zSSR {i6 : Nat} {o7 : List Oper} {x5 : Code} {x3 : Code} (h : Run P n Q (.ops o7.toArray o7 :: .code x5 :: .code x3 :: k) e w) : Run P n Q (.code (.seq (.seq (.region i6 o7.toArray false) x5) x3) :: k) e w := qbq <| qbq <| qB h
theorem zKSR {i5 : Nat} {o6 : List Oper} {x4 : Code} (h : Run P n Q (.ops o6.toArray o6 :: .code x4 :: k) e w) : Run P n Q (.code .skip :: .code (.seq (.region i5 o6.toArray false) x4) :: k) e w := qdX <| qbq <| qB h
theorem zKSSR {i7 : Nat} {o8 : List Oper} {x6 : Code} {x4 : Code} (h : Run P n Q (.ops o8.toArray o8 :: .code x6 :: .code x4 :: k) e w) : Run P n Q (.code .skip :: .code (.seq (.seq (.region i7 o8.toArray false) x6) x4) :: k) e w := qdX <| qbq <| qbq <| qB h
theorem zNSR {a1 : Array Oper} {i5 : Nat} {o6 : List Oper} {x4 : Code} (h : Run P n Q (.ops o6.toArray o6 :: .code x4 :: k) e w) : Run P n Q (.ops a1 [] :: .code (.seq (.region i5 o6.toArray false) x4) :: k) e w := qb <| qbq <| qB h
theorem zNSSR {a1 : Array Oper} {i7 : Nat} {o8 : List Oper} {x6 : Code} {x4 : Code} (h : Run P n Q (.ops o8.toArray o8 :: .code x6 :: .code x4 :: k) e w) : Run P n Q (.ops a1 [] :: .code (.seq (.seq (.region i7 o8.toArray false) x6) x4) :: k) e w := qb <| qbq <| qbq <| qB h
theorem zKS {x3 : Code} {x4 : Code} (h : Run P n Q (.code x3 :: .code x4 :: k) e w) : Run P n Q (.code .skip :: .code (.seq x3 x4) :: k) e w := qdX <| qbq h
theorem zNS {a1 : Array Oper} {x3 : Code} {x4 : Code} (h : Run P n Q (.code x3 :: .code x4 :: k) e w) : Run P n Q (.ops a1 [] :: .code (.seq x3 x4) :: k) e w := qb <| qbq h
theorem zNSS {a1 : Array Oper} {x5 : Code} {x6 : Code} {x4 : Code} (h : Run P n Q (.code x5 :: .code x6 :: .code x4 :: k) e w) : Run P n Q (.ops a1 [] :: .code (.seq (.seq x5 x6) x4) :: k) e w := qb <| qbq <| qbq h
theorem zBSR {i2 : Nat} {i6 : Nat} {o7 : List Oper} {x5 : Code} (h : Run P n Q (.ops o7.toArray o7 :: .code x5 :: .blk i2 :: k) e w) : Run P n Q (.code (.block i2 (.seq (.region i6 o7.toArray false) x5)) :: k) e w := qw <| qbq <| qB h
theorem zKSB {i5 : Nat} {x6 : Code} {x4 : Code} (h : Run P n Q (.code x6 :: .blk i5 :: .code x4 :: k) e w) : Run P n Q (.code .skip :: .code (.seq (.block i5 x6) x4) :: k) e w := qdX <| qbq <| qw h
theorem zKSBR {i5 : Nat} {i7 : Nat} {o8 : List Oper} {x4 : Code} (h : Run P n Q (.ops o8.toArray o8 :: .blk i5 :: .code x4 :: k) e w) : Run P n Q (.code .skip :: .code (.seq (.block i5 (.region i7 o8.toArray false)) x4) :: k) e w := qdX <| qbq <| qw <| qB h
theorem zKSBSR {i5 : Nat} {i9 : Nat} {o10 : List Oper} {x8 : Code} {x4 : Code} (h : Run P n Q (.ops o10.toArray o10 :: .code x8 :: .blk i5 :: .code x4 :: k) e w) : Run P n Q (.code .skip :: .code (.seq (.block i5 (.seq (.region i9 o10.toArray false) x8)) x4) :: k) e w := qdX <| qbq <| qw <| qbq <| qB h
theorem zKE {i2 : Nat} (h : Run P n Q (k) e w) : Run P n Q (.code .skip :: .blk i2 :: k) e w := qdX <| qgr h
theorem zKER {i4 : Nat} {o5 : List Oper} {i2 : Nat} (h : Run P n Q (.ops o5.toArray o5 :: k) e w) : Run P n Q (.code .skip :: .blk i2 :: .code (.region i4 o5.toArray false) :: k) e w := qdX <| qgr <| qB h
theorem zNE {a1 : Array Oper} {i2 : Nat} (h : Run P n Q (k) e w) : Run P n Q (.ops a1 [] :: .blk i2 :: k) e w := qb <| qgr h
theorem zNER {a1 : Array Oper} {i4 : Nat} {o5 : List Oper} {i2 : Nat} (h : Run P n Q (.ops o5.toArray o5 :: k) e w) : Run P n Q (.ops a1 [] :: .blk i2 :: .code (.region i4 o5.toArray false) :: k) e w := qb <| qgr <| qB h
theorem zNSB {a1 : Array Oper} {i5 : Nat} {x6 : Code} {x4 : Code} (h : Run P n Q (.code x6 :: .blk i5 :: .code x4 :: k) e w) : Run P n Q (.ops a1 [] :: .code (.seq (.block i5 x6) x4) :: k) e w := qb <| qbq <| qw h
theorem zSS {x4 : Code} {x5 : Code} {x3 : Code} (h : Run P n Q (.code x4 :: .code x5 :: .code x3 :: k) e w) : Run P n Q (.code (.seq (.seq x4 x5) x3) :: k) e w := qbq <| qbq h
theorem zKSS {x5 : Code} {x6 : Code} {x4 : Code} (h : Run P n Q (.code x5 :: .code x6 :: .code x4 :: k) e w) : Run P n Q (.code .skip :: .code (.seq (.seq x5 x6) x4) :: k) e w := qdX <| qbq <| qbq h
theorem zKB {i3 : Nat} {x4 : Code} (h : Run P n Q (.code x4 :: .blk i3 :: k) e w) : Run P n Q (.code .skip :: .code (.block i3 x4) :: k) e w := qdX <| qw h
end
section
variable {w0 w : World} {L : List Ch} {n : Nat} {Q : Exit → Act → World → Prop} {k : List It} {e : Env} {all : Array Oper} {l : List Oper}
theorem zp1 {op0 : Op} {d0 t0 : Nat} {s0 : String} {f0 : Array Edge} {v0 : Value} (h : (pev tab (e) op0, Nat.blt d0 n) = (some v0, true)) (hk : Run Tryz.prog n Q (.ops all l :: k) ((d0, v0) :: e) w) : Run Tryz.prog n Q (.ops all (⟨some d0, op0, t0, s0, f0, none⟩ :: l) :: k) e w := by
 have H := h
 simp only [Prod.mk.injEq] at H
 exact rp (H.1) (H.2) (hk)
theorem zd1 {op0 : Op} {d0 t0 : Nat} {s0 : String} {f0 : Array Edge} {v0 : Value} (h : (pev tab (e) op0, Nat.blt d0 n) = (some v0, true)) (hk : RunD Tryz.prog n Q k all w l ((d0, v0) :: e)) : RunD Tryz.prog n Q k all w (⟨some d0, op0, t0, s0, f0, none⟩ :: l) e := by
 have H := h
 simp only [Prod.mk.injEq] at H
 exact dp (H.1) (H.2) (hk)
theorem zp2 {op0 : Op} {d0 t0 : Nat} {s0 : String} {f0 : Array Edge} {v0 : Value} {op1 : Op} {d1 t1 : Nat} {s1 : String} {f1 : Array Edge} {v1 : Value} (h : (pev tab (e) op0, Nat.blt d0 n, pev tab ((d0, v0) :: e) op1, Nat.blt d1 n) = (some v0, true, some v1, true)) (hk : Run Tryz.prog n Q (.ops all l :: k) ((d1, v1) :: (d0, v0) :: e) w) : Run Tryz.prog n Q (.ops all (⟨some d0, op0, t0, s0, f0, none⟩ :: ⟨some d1, op1, t1, s1, f1, none⟩ :: l) :: k) e w := by
 have H := h
 simp only [Prod.mk.injEq] at H
 exact rp (H.1) (H.2.1) (rp (H.2.2.1) (H.2.2.2) (hk))
theorem zd2 {op0 : Op} {d0 t0 : Nat} {s0 : String} {f0 : Array Edge} {v0 : Value} {op1 : Op} {d1 t1 : Nat} {s1 : String} {f1 : Array Edge} {v1 : Value} (h : (pev tab (e) op0, Nat.blt d0 n, pev tab ((d0, v0) :: e) op1, Nat.blt d1 n) = (some v0, true, some v1, true)) (hk : RunD Tryz.prog n Q k all w l ((d1, v1) :: (d0, v0) :: e)) : RunD Tryz.prog n Q k all w (⟨some d0, op0, t0, s0, f0, none⟩ :: ⟨some d1, op1, t1, s1, f1, none⟩ :: l) e := by
 have H := h
 simp only [Prod.mk.injEq] at H
 exact dp (H.1) (H.2.1) (dp (H.2.2.1) (H.2.2.2) (hk))
theorem zp3 {op0 : Op} {d0 t0 : Nat} {s0 : String} {f0 : Array Edge} {v0 : Value} {op1 : Op} {d1 t1 : Nat} {s1 : String} {f1 : Array Edge} {v1 : Value} {op2 : Op} {d2 t2 : Nat} {s2 : String} {f2 : Array Edge} {v2 : Value} (h : (pev tab (e) op0, Nat.blt d0 n, pev tab ((d0, v0) :: e) op1, Nat.blt d1 n, pev tab ((d1, v1) :: (d0, v0) :: e) op2, Nat.blt d2 n) = (some v0, true, some v1, true, some v2, true)) (hk : Run Tryz.prog n Q (.ops all l :: k) ((d2, v2) :: (d1, v1) :: (d0, v0) :: e) w) : Run Tryz.prog n Q (.ops all (⟨some d0, op0, t0, s0, f0, none⟩ :: ⟨some d1, op1, t1, s1, f1, none⟩ :: ⟨some d2, op2, t2, s2, f2, none⟩ :: l) :: k) e w := by
 have H := h
 simp only [Prod.mk.injEq] at H
 exact rp (H.1) (H.2.1) (rp (H.2.2.1) (H.2.2.2.1) (rp (H.2.2.2.2.1) (H.2.2.2.2.2) (hk)))
theorem zd3 {op0 : Op} {d0 t0 : Nat} {s0 : String} {f0 : Array Edge} {v0 : Value} {op1 : Op} {d1 t1 : Nat} {s1 : String} {f1 : Array Edge} {v1 : Value} {op2 : Op} {d2 t2 : Nat} {s2 : String} {f2 : Array Edge} {v2 : Value} (h : (pev tab (e) op0, Nat.blt d0 n, pev tab ((d0, v0) :: e) op1, Nat.blt d1 n, pev tab ((d1, v1) :: (d0, v0) :: e) op2, Nat.blt d2 n) = (some v0, true, some v1, true, some v2, true)) (hk : RunD Tryz.prog n Q k all w l ((d2, v2) :: (d1, v1) :: (d0, v0) :: e)) : RunD Tryz.prog n Q k all w (⟨some d0, op0, t0, s0, f0, none⟩ :: ⟨some d1, op1, t1, s1, f1, none⟩ :: ⟨some d2, op2, t2, s2, f2, none⟩ :: l) e := by
 have H := h
 simp only [Prod.mk.injEq] at H
 exact dp (H.1) (H.2.1) (dp (H.2.2.1) (H.2.2.2.1) (dp (H.2.2.2.2.1) (H.2.2.2.2.2) (hk)))
theorem zp4 {op0 : Op} {d0 t0 : Nat} {s0 : String} {f0 : Array Edge} {v0 : Value} {op1 : Op} {d1 t1 : Nat} {s1 : String} {f1 : Array Edge} {v1 : Value} {op2 : Op} {d2 t2 : Nat} {s2 : String} {f2 : Array Edge} {v2 : Value} {op3 : Op} {d3 t3 : Nat} {s3 : String} {f3 : Array Edge} {v3 : Value} (h : (pev tab (e) op0, Nat.blt d0 n, pev tab ((d0, v0) :: e) op1, Nat.blt d1 n, pev tab ((d1, v1) :: (d0, v0) :: e) op2, Nat.blt d2 n, pev tab ((d2, v2) :: (d1, v1) :: (d0, v0) :: e) op3, Nat.blt d3 n) = (some v0, true, some v1, true, some v2, true, some v3, true)) (hk : Run Tryz.prog n Q (.ops all l :: k) ((d3, v3) :: (d2, v2) :: (d1, v1) :: (d0, v0) :: e) w) : Run Tryz.prog n Q (.ops all (⟨some d0, op0, t0, s0, f0, none⟩ :: ⟨some d1, op1, t1, s1, f1, none⟩ :: ⟨some d2, op2, t2, s2, f2, none⟩ :: ⟨some d3, op3, t3, s3, f3, none⟩ :: l) :: k) e w := by
 have H := h
 simp only [Prod.mk.injEq] at H
 exact rp (H.1) (H.2.1) (rp (H.2.2.1) (H.2.2.2.1) (rp (H.2.2.2.2.1) (H.2.2.2.2.2.1) (rp (H.2.2.2.2.2.2.1) (H.2.2.2.2.2.2.2) (hk))))
theorem zp5 {op0 : Op} {d0 t0 : Nat} {s0 : String} {f0 : Array Edge} {v0 : Value} {op1 : Op} {d1 t1 : Nat} {s1 : String} {f1 : Array Edge} {v1 : Value} {op2 : Op} {d2 t2 : Nat} {s2 : String} {f2 : Array Edge} {v2 : Value} {op3 : Op} {d3 t3 : Nat} {s3 : String} {f3 : Array Edge} {v3 : Value} {op4 : Op} {d4 t4 : Nat} {s4 : String} {f4 : Array Edge} {v4 : Value} (h : (pev tab (e) op0, Nat.blt d0 n, pev tab ((d0, v0) :: e) op1, Nat.blt d1 n, pev tab ((d1, v1) :: (d0, v0) :: e) op2, Nat.blt d2 n, pev tab ((d2, v2) :: (d1, v1) :: (d0, v0) :: e) op3, Nat.blt d3 n, pev tab ((d3, v3) :: (d2, v2) :: (d1, v1) :: (d0, v0) :: e) op4, Nat.blt d4 n) = (some v0, true, some v1, true, some v2, true, some v3, true, some v4, true)) (hk : Run Tryz.prog n Q (.ops all l :: k) ((d4, v4) :: (d3, v3) :: (d2, v2) :: (d1, v1) :: (d0, v0) :: e) w) : Run Tryz.prog n Q (.ops all (⟨some d0, op0, t0, s0, f0, none⟩ :: ⟨some d1, op1, t1, s1, f1, none⟩ :: ⟨some d2, op2, t2, s2, f2, none⟩ :: ⟨some d3, op3, t3, s3, f3, none⟩ :: ⟨some d4, op4, t4, s4, f4, none⟩ :: l) :: k) e w := by
 have H := h
 simp only [Prod.mk.injEq] at H
 exact rp (H.1) (H.2.1) (rp (H.2.2.1) (H.2.2.2.1) (rp (H.2.2.2.2.1) (H.2.2.2.2.2.1) (rp (H.2.2.2.2.2.2.1) (H.2.2.2.2.2.2.2.1) (rp (H.2.2.2.2.2.2.2.2.1) (H.2.2.2.2.2.2.2.2.2) (hk)))))
theorem zn1 {o0 : Oper} {d0 : Nat} (h : (notW (e) all o0, o0.dst, Nat.blt d0 n) = (true, some d0, true)) (hk : Run Tryz.prog n Q (.ops all l :: k) ((d0, undef) :: e) w) : Run Tryz.prog n Q (.ops all (o0 :: l) :: k) e w := by
 have H := h
 simp only [Prod.mk.injEq] at H
 exact qiW (H.1) (H.2.1) (H.2.2) (hk)
theorem zn2 {o0 : Oper} {d0 : Nat} {o1 : Oper} {d1 : Nat} (h : (notW (e) all o0, o0.dst, Nat.blt d0 n, notW ((d0, undef) :: e) all o1, o1.dst, Nat.blt d1 n) = (true, some d0, true, true, some d1, true)) (hk : Run Tryz.prog n Q (.ops all l :: k) ((d1, undef) :: (d0, undef) :: e) w) : Run Tryz.prog n Q (.ops all (o0 :: o1 :: l) :: k) e w := by
 have H := h
 simp only [Prod.mk.injEq] at H
 exact qiW (H.1) (H.2.1) (H.2.2.1) (qiW (H.2.2.2.1) (H.2.2.2.2.1) (H.2.2.2.2.2) (hk))
theorem zn3 {o0 : Oper} {d0 : Nat} {o1 : Oper} {d1 : Nat} {o2 : Oper} {d2 : Nat} (h : (notW (e) all o0, o0.dst, Nat.blt d0 n, notW ((d0, undef) :: e) all o1, o1.dst, Nat.blt d1 n, notW ((d1, undef) :: (d0, undef) :: e) all o2, o2.dst, Nat.blt d2 n) = (true, some d0, true, true, some d1, true, true, some d2, true)) (hk : Run Tryz.prog n Q (.ops all l :: k) ((d2, undef) :: (d1, undef) :: (d0, undef) :: e) w) : Run Tryz.prog n Q (.ops all (o0 :: o1 :: o2 :: l) :: k) e w := by
 have H := h
 simp only [Prod.mk.injEq] at H
 exact qiW (H.1) (H.2.1) (H.2.2.1) (qiW (H.2.2.2.1) (H.2.2.2.2.1) (H.2.2.2.2.2.1) (qiW (H.2.2.2.2.2.2.1) (H.2.2.2.2.2.2.2.1) (H.2.2.2.2.2.2.2.2) (hk)))
theorem zn4 {o0 : Oper} {d0 : Nat} {o1 : Oper} {d1 : Nat} {o2 : Oper} {d2 : Nat} {o3 : Oper} {d3 : Nat} (h : (notW (e) all o0, o0.dst, Nat.blt d0 n, notW ((d0, undef) :: e) all o1, o1.dst, Nat.blt d1 n, notW ((d1, undef) :: (d0, undef) :: e) all o2, o2.dst, Nat.blt d2 n, notW ((d2, undef) :: (d1, undef) :: (d0, undef) :: e) all o3, o3.dst, Nat.blt d3 n) = (true, some d0, true, true, some d1, true, true, some d2, true, true, some d3, true)) (hk : Run Tryz.prog n Q (.ops all l :: k) ((d3, undef) :: (d2, undef) :: (d1, undef) :: (d0, undef) :: e) w) : Run Tryz.prog n Q (.ops all (o0 :: o1 :: o2 :: o3 :: l) :: k) e w := by
 have H := h
 simp only [Prod.mk.injEq] at H
 exact qiW (H.1) (H.2.1) (H.2.2.1) (qiW (H.2.2.2.1) (H.2.2.2.2.1) (H.2.2.2.2.2.1) (qiW (H.2.2.2.2.2.2.1) (H.2.2.2.2.2.2.2.1) (H.2.2.2.2.2.2.2.2.1) (qiW (H.2.2.2.2.2.2.2.2.2.1) (H.2.2.2.2.2.2.2.2.2.2.1) (H.2.2.2.2.2.2.2.2.2.2.2) (hk))))
theorem zn5 {o0 : Oper} {d0 : Nat} {o1 : Oper} {d1 : Nat} {o2 : Oper} {d2 : Nat} {o3 : Oper} {d3 : Nat} {o4 : Oper} {d4 : Nat} (h : (notW (e) all o0, o0.dst, Nat.blt d0 n, notW ((d0, undef) :: e) all o1, o1.dst, Nat.blt d1 n, notW ((d1, undef) :: (d0, undef) :: e) all o2, o2.dst, Nat.blt d2 n, notW ((d2, undef) :: (d1, undef) :: (d0, undef) :: e) all o3, o3.dst, Nat.blt d3 n, notW ((d3, undef) :: (d2, undef) :: (d1, undef) :: (d0, undef) :: e) all o4, o4.dst, Nat.blt d4 n) = (true, some d0, true, true, some d1, true, true, some d2, true, true, some d3, true, true, some d4, true)) (hk : Run Tryz.prog n Q (.ops all l :: k) ((d4, undef) :: (d3, undef) :: (d2, undef) :: (d1, undef) :: (d0, undef) :: e) w) : Run Tryz.prog n Q (.ops all (o0 :: o1 :: o2 :: o3 :: o4 :: l) :: k) e w := by
 have H := h
 simp only [Prod.mk.injEq] at H
 exact qiW (H.1) (H.2.1) (H.2.2.1) (qiW (H.2.2.2.1) (H.2.2.2.2.1) (H.2.2.2.2.2.1) (qiW (H.2.2.2.2.2.2.1) (H.2.2.2.2.2.2.2.1) (H.2.2.2.2.2.2.2.2.1) (qiW (H.2.2.2.2.2.2.2.2.2.1) (H.2.2.2.2.2.2.2.2.2.2.1) (H.2.2.2.2.2.2.2.2.2.2.2.1) (qiW (H.2.2.2.2.2.2.2.2.2.2.2.2.1) (H.2.2.2.2.2.2.2.2.2.2.2.2.2.1) (H.2.2.2.2.2.2.2.2.2.2.2.2.2.2) (hk)))))
theorem zl (i j : Nat) {d t ty : Nat} {x : Operand} {te : TE} {ps : String} {af : Array Edge} {v : Value} {b : Nat} {cs : List Value} {t' : TypeId} (h : SH w0 w L) (hh : (L[i]?, opv e x, tab.get t, ld te cs j, Nat.blt d n) = (some (Ch.box b cs t'), some (.pointer (some ⟨b, 0 + j, none⟩)), some te, some v, true))
  (hk : Run Tryz.prog n Q (.ops all l :: k) ((d, v) :: e) w) : Run Tryz.prog n Q (.ops all (⟨some d, .load t x, ty, ps, af, none⟩ :: l) :: k) e w := by
 simp only [Prod.mk.injEq] at hh
 exact r_v (qbI qc (h.box i hh.1) (j := j) hh.2.1 hh.2.2.1 hh.2.2.2.1) hh.2.2.2.2 hk
theorem zc (j : Nat) {d t ty : Nat} {x : Operand} {te : TE} {ps : String} {af : Array Edge} {v : Value} {b o : Nat} {cs : List Value} (h : CellsAt w b o cs) (hh : (opv e x, tab.get t, ld te cs j, Nat.blt d n) = (some (.pointer (some ⟨b, o + j, none⟩)), some te, some v, true))
  (hk : Run Tryz.prog n Q (.ops all l :: k) ((d, v) :: e) w) : Run Tryz.prog n Q (.ops all (⟨some d, .load t x, ty, ps, af, none⟩ :: l) :: k) e w := by
 simp only [Prod.mk.injEq] at hh
 exact r_v (qbI qc h (j := j) hh.1 hh.2.1 hh.2.2.1) hh.2.2.2 hk
theorem zdl (i j : Nat) {d t ty : Nat} {x : Operand} {te : TE} {ps : String} {af : Array Edge} {v : Value} {b : Nat} {cs : List Value} {t' : TypeId} (h : SH w0 w L) (hh : (L[i]?, opv e x, tab.get t, ld te cs j, Nat.blt d n) = (some (Ch.box b cs t'), some (.pointer (some ⟨b, 0 + j, none⟩)), some te, some v, true))
  (hk : RunD Tryz.prog n Q k all w l ((d, v) :: e)) : RunD Tryz.prog n Q k all w (⟨some d, .load t x, ty, ps, af, none⟩ :: l) e := by
 simp only [Prod.mk.injEq] at hh
 exact d_v (fun _ hb => qbI qc ((h.box i hh.1).below hb) (j := j) hh.2.1 hh.2.2.1 hh.2.2.2.1) hh.2.2.2.2 hk
theorem zdc (j : Nat) {d t ty : Nat} {x : Operand} {te : TE} {ps : String} {af : Array Edge} {v : Value} {b o : Nat} {cs : List Value} (h : CellsAt w b o cs) (hh : (opv e x, tab.get t, ld te cs j, Nat.blt d n) = (some (.pointer (some ⟨b, o + j, none⟩)), some te, some v, true))
  (hk : RunD Tryz.prog n Q k all w l ((d, v) :: e)) : RunD Tryz.prog n Q k all w (⟨some d, .load t x, ty, ps, af, none⟩ :: l) e := by
 simp only [Prod.mk.injEq] at hh
 exact d_v (fun _ hb => qbI qc (h.below hb) (j := j) hh.1 hh.2.1 hh.2.2.1) hh.2.2.2 hk
theorem zx {x i : Operand} {t ty d el m : Nat} {te te1 : TE} {ps : String} {af : Array Edge} {p : Option Addr} {ln c : Nat} {kd : IntKind} {iv : Int} {b o q : Nat} (hp : p = some ⟨b, o, none⟩) (hq : q = o + iv.toNat * m) (hlt : 0 ≤ iv ∧ iv < ln) (hh : (opv e x, opv e i, tab.get t, te.kind, tab.get el, te1.size, Nat.blt d n) = (some (.slice p ln c), some (.int kd iv), some te, TK.slice el, some te1, m, true)) (hk : Run Tryz.prog n Q (.ops all l :: k) ((d, .pointer (some ⟨b, q, none⟩)) :: e) w) : Run Tryz.prog n Q (.ops all (⟨some d, .indexAddr t x i, ty, ps, af, none⟩ :: l) :: k) e w := by
 simp only [Prod.mk.injEq] at hh
 exact r_v (qf6 qc hp hq hlt hh.1 hh.2.1 hh.2.2.1 hh.2.2.2.1 hh.2.2.2.2.1 hh.2.2.2.2.2.1) hh.2.2.2.2.2.2 hk
theorem zxe {x i : Operand} {t ty d el m : Nat} {te te1 : TE} {ps : String} {af : Array Edge} {p : Option Addr} {ln c : Nat} {kd : IntKind} {iv : Int} {b o q : Nat} {α : Prop} (hp : p = some ⟨b, o, none⟩) (hq : q = o + iv.toNat * m) (hlt : 0 ≤ iv ∧ iv < ln ∧ α) (hh : (opv e x, opv e i, tab.get t, te.kind, tab.get el, te1.size, Nat.blt d n) = (some (.slice p ln c), some (.int kd iv), some te, TK.slice el, some te1, m, true)) (hk : Run Tryz.prog n Q (.ops all l :: k) ((d, .pointer (some ⟨b, q, none⟩)) :: e) w) : Run Tryz.prog n Q (.ops all (⟨some d, .indexAddr t x i, ty, ps, af, none⟩ :: l) :: k) e w := zx hp hq ⟨hlt.1, hlt.2.1⟩ hh hk
theorem zdx {x i : Operand} {t ty d el m : Nat} {te te1 : TE} {ps : String} {af : Array Edge} {p : Option Addr} {ln c : Nat} {kd : IntKind} {iv : Int} {b o q : Nat} (hp : p = some ⟨b, o, none⟩) (hq : q = o + iv.toNat * m) (hlt : 0 ≤ iv ∧ iv < ln) (hh : (opv e x, opv e i, tab.get t, te.kind, tab.get el, te1.size, Nat.blt d n) = (some (.slice p ln c), some (.int kd iv), some te, TK.slice el, some te1, m, true)) (hk : RunD Tryz.prog n Q k all w l ((d, .pointer (some ⟨b, q, none⟩)) :: e)) : RunD Tryz.prog n Q k all w (⟨some d, .indexAddr t x i, ty, ps, af, none⟩ :: l) e := by
 simp only [Prod.mk.injEq] at hh
 exact d_v (fun _ _ => qf6 qc hp hq hlt hh.1 hh.2.1 hh.2.2.1 hh.2.2.2.1 hh.2.2.2.2.1 hh.2.2.2.2.2.1) hh.2.2.2.2.2.2 hk
theorem zdxe {x i : Operand} {t ty d el m : Nat} {te te1 : TE} {ps : String} {af : Array Edge} {p : Option Addr} {ln c : Nat} {kd : IntKind} {iv : Int} {b o q : Nat} {α : Prop} (hp : p = some ⟨b, o, none⟩) (hq : q = o + iv.toNat * m) (hlt : 0 ≤ iv ∧ iv < ln ∧ α) (hh : (opv e x, opv e i, tab.get t, te.kind, tab.get el, te1.size, Nat.blt d n) = (some (.slice p ln c), some (.int kd iv), some te, TK.slice el, some te1, m, true)) (hk : RunD Tryz.prog n Q k all w l ((d, .pointer (some ⟨b, q, none⟩)) :: e)) : RunD Tryz.prog n Q k all w (⟨some d, .indexAddr t x i, ty, ps, af, none⟩ :: l) e := zdx hp hq ⟨hlt.1, hlt.2.1⟩ hh hk
theorem zs (i : Nat) {t ty : Nat} {ps : String} {af : Array Edge} {x v : Operand} {te : TE} {b j : Nat} {cs : List Value} {t' : TypeId} {u : Value} (h : SH w0 w L)
  (hh : (L[i]?, opv e x, opv e v, tab.get t, Nat.beq (cellsL u).length te.size, Nat.ble (j + (cellsL u).length) cs.length, ones (cellsL u)) = (some (Ch.box b cs t'), some (.pointer (some ⟨b, j, none⟩)), some u, some te, true, true, true))
  (hk : ∀ w', SH w0 w' (L.set i (Ch.box b (splice cs j (cellsL u)) t')) → Run Tryz.prog n Q (.ops all l :: k) e w') : Run Tryz.prog n Q (.ops all (⟨none, .store t x v, ty, ps, af, none⟩ :: l) :: k) e w := by
 simp only [Prod.mk.injEq] at hh
 exact qsf qc i h hh.1 hh.2.1 hh.2.2.1 hh.2.2.2.1 hh.2.2.2.2.1 hh.2.2.2.2.2.1 hh.2.2.2.2.2.2 hk
theorem zb {b : Bool} (h : ¬ b = true) : b = false := Bool.eq_false_iff.2 h
end
theorem call9 : qn Tryz.prog 9 := ⟨_, Tryz.func9, rfl, by kernel_rfl⟩
theorem call10 : qn Tryz.prog 10 := ⟨_, Tryz.func10, rfl, by kernel_rfl⟩
theorem call12 : qn Tryz.prog 12 := ⟨_, Tryz.func12, rfl, by kernel_rfl⟩
theorem call13 : qn Tryz.prog 13 := ⟨_, Tryz.func13, rfl, by kernel_rfl⟩
theorem call14 : qn Tryz.prog 14 := ⟨_, Tryz.func14, rfl, by kernel_rfl⟩
theorem call17 : qn Tryz.prog 17 := ⟨_, Tryz.func17, rfl, by kernel_rfl⟩
theorem call18 : qn Tryz.prog 18 := ⟨_, Tryz.func18, rfl, by kernel_rfl⟩
theorem call19 : qn Tryz.prog 19 := ⟨_, Tryz.func19, rfl, by kernel_rfl⟩
theorem call22 : qn Tryz.prog 22 := ⟨_, Tryz.func22, rfl, by kernel_rfl⟩
theorem call23 : qn Tryz.prog 23 := ⟨_, Tryz.func23, rfl, by kernel_rfl⟩
theorem call24 : qn Tryz.prog 24 := ⟨_, Tryz.func24, rfl, by kernel_rfl⟩
theorem call25 : qn Tryz.prog 25 := ⟨_, Tryz.func25, rfl, by kernel_rfl⟩
theorem call30 : qn Tryz.prog 30 := ⟨_, Tryz.func30, rfl, by kernel_rfl⟩
theorem call31 : qn Tryz.prog 31 := ⟨_, Tryz.func31, rfl, by kernel_rfl⟩
theorem call37 : qn Tryz.prog 37 := ⟨_, Tryz.func37, rfl, by kernel_rfl⟩
theorem call38 : qn Tryz.prog 38 := ⟨_, Tryz.func38, rfl, by kernel_rfl⟩
theorem call39 : qn Tryz.prog 39 := ⟨_, Tryz.func39, rfl, by kernel_rfl⟩
theorem call40 : qn Tryz.prog 40 := ⟨_, Tryz.func40, rfl, by kernel_rfl⟩
theorem call44 : qn Tryz.prog 44 := ⟨_, Tryz.func44, rfl, by kernel_rfl⟩
theorem call45 : qn Tryz.prog 45 := ⟨_, Tryz.func45, rfl, by kernel_rfl⟩
theorem call46 : qn Tryz.prog 46 := ⟨_, Tryz.func46, rfl, by kernel_rfl⟩
theorem call47 : qn Tryz.prog 47 := ⟨_, Tryz.func47, rfl, by kernel_rfl⟩
theorem call51 : qn Tryz.prog 51 := ⟨_, Tryz.func51, rfl, by kernel_rfl⟩
theorem call52 : qn Tryz.prog 52 := ⟨_, Tryz.func52, rfl, by kernel_rfl⟩
theorem call53 : qn Tryz.prog 53 := ⟨_, Tryz.func53, rfl, by kernel_rfl⟩
theorem call54 : qn Tryz.prog 54 := ⟨_, Tryz.func54, rfl, by kernel_rfl⟩
theorem call55 : qn Tryz.prog 55 := ⟨_, Tryz.func55, rfl, by kernel_rfl⟩
theorem call57 : qn Tryz.prog 57 := ⟨_, Tryz.func57, rfl, by kernel_rfl⟩
theorem call58 : qn Tryz.prog 58 := ⟨_, Tryz.func58, rfl, by kernel_rfl⟩
theorem call59 : qn Tryz.prog 59 := ⟨_, Tryz.func59, rfl, by kernel_rfl⟩
theorem call60 : qn Tryz.prog 60 := ⟨_, Tryz.func60, rfl, by kernel_rfl⟩
theorem call61 : qn Tryz.prog 61 := ⟨_, Tryz.func61, rfl, by kernel_rfl⟩
theorem call62 : qn Tryz.prog 62 := ⟨_, Tryz.func62, rfl, by kernel_rfl⟩
theorem call63 : qn Tryz.prog 63 := ⟨_, Tryz.func63, rfl, by kernel_rfl⟩
theorem call66 : qn Tryz.prog 66 := ⟨_, Tryz.func66, rfl, by kernel_rfl⟩
theorem call67 : qn Tryz.prog 67 := ⟨_, Tryz.func67, rfl, by kernel_rfl⟩
theorem call71 : qn Tryz.prog 71 := ⟨_, Tryz.func71, rfl, by kernel_rfl⟩
theorem call72 : qn Tryz.prog 72 := ⟨_, Tryz.func72, rfl, by kernel_rfl⟩
theorem call73 : qn Tryz.prog 73 := ⟨_, Tryz.func73, rfl, by kernel_rfl⟩
theorem call74 : qn Tryz.prog 74 := ⟨_, Tryz.func74, rfl, by kernel_rfl⟩
theorem call75 : qn Tryz.prog 75 := ⟨_, Tryz.func75, rfl, by kernel_rfl⟩
theorem call76 : qn Tryz.prog 76 := ⟨_, Tryz.func76, rfl, by kernel_rfl⟩
theorem call77 : qn Tryz.prog 77 := ⟨_, Tryz.func77, rfl, by kernel_rfl⟩
theorem call78 : qn Tryz.prog 78 := ⟨_, Tryz.func78, rfl, by kernel_rfl⟩
theorem call79 : qn Tryz.prog 79 := ⟨_, Tryz.func79, rfl, by kernel_rfl⟩
theorem call80 : qn Tryz.prog 80 := ⟨_, Tryz.func80, rfl, by kernel_rfl⟩
theorem call81 : qn Tryz.prog 81 := ⟨_, Tryz.func81, rfl, by kernel_rfl⟩
theorem call82 : qn Tryz.prog 82 := ⟨_, Tryz.func82, rfl, by kernel_rfl⟩
theorem call83 : qn Tryz.prog 83 := ⟨_, Tryz.func83, rfl, by kernel_rfl⟩
theorem call84 : qn Tryz.prog 84 := ⟨_, Tryz.func84, rfl, by kernel_rfl⟩
theorem call86 : qn Tryz.prog 86 := ⟨_, Tryz.func86, rfl, by kernel_rfl⟩
theorem call87 : qn Tryz.prog 87 := ⟨_, Tryz.func87, rfl, by kernel_rfl⟩
theorem call90 : qn Tryz.prog 90 := ⟨_, Tryz.func90, rfl, by kernel_rfl⟩
theorem call92 : qn Tryz.prog 92 := ⟨_, Tryz.func92, rfl, by kernel_rfl⟩
theorem call93 : qn Tryz.prog 93 := ⟨_, Tryz.func93, rfl, by kernel_rfl⟩
theorem call94 : qn Tryz.prog 94 := ⟨_, Tryz.func94, rfl, by kernel_rfl⟩
theorem call95 : qn Tryz.prog 95 := ⟨_, Tryz.func95, rfl, by kernel_rfl⟩
theorem call96 : qn Tryz.prog 96 := ⟨_, Tryz.func96, rfl, by kernel_rfl⟩
theorem call97 : qn Tryz.prog 97 := ⟨_, Tryz.func97, rfl, by kernel_rfl⟩
theorem call98 : qn Tryz.prog 98 := ⟨_, Tryz.func98, rfl, by kernel_rfl⟩
theorem call99 : qn Tryz.prog 99 := ⟨_, Tryz.func99, rfl, by kernel_rfl⟩
theorem call100 : qn Tryz.prog 100 := ⟨_, Tryz.func100, rfl, by kernel_rfl⟩
theorem call101 : qn Tryz.prog 101 := ⟨_, Tryz.func101, rfl, by kernel_rfl⟩
theorem call102 : qn Tryz.prog 102 := ⟨_, Tryz.func102, rfl, by kernel_rfl⟩
theorem call103 : qn Tryz.prog 103 := ⟨_, Tryz.func103, rfl, by kernel_rfl⟩
theorem call104 : qn Tryz.prog 104 := ⟨_, Tryz.func104, rfl, by kernel_rfl⟩
theorem call105 : qn Tryz.prog 105 := ⟨_, Tryz.func105, rfl, by kernel_rfl⟩
theorem call106 : qn Tryz.prog 106 := ⟨_, Tryz.func106, rfl, by kernel_rfl⟩
theorem call108 : qn Tryz.prog 108 := ⟨_, Tryz.func108, rfl, by kernel_rfl⟩
theorem call109 : qn Tryz.prog 109 := ⟨_, Tryz.func109, rfl, by kernel_rfl⟩
theorem call110 : qn Tryz.prog 110 := ⟨_, Tryz.func110, rfl, by kernel_rfl⟩
theorem call111 : qn Tryz.prog 111 := ⟨_, Tryz.func111, rfl, by kernel_rfl⟩
theorem call112 : qn Tryz.prog 112 := ⟨_, Tryz.func112, rfl, by kernel_rfl⟩
theorem call113 : qn Tryz.prog 113 := ⟨_, Tryz.func113, rfl, by kernel_rfl⟩
theorem call114 : qn Tryz.prog 114 := ⟨_, Tryz.func114, rfl, by kernel_rfl⟩
theorem call115 : qn Tryz.prog 115 := ⟨_, Tryz.func115, rfl, by kernel_rfl⟩
theorem call121 : qn Tryz.prog 121 := ⟨_, Tryz.func121, rfl, by kernel_rfl⟩
theorem call122 : qn Tryz.prog 122 := ⟨_, Tryz.func122, rfl, by kernel_rfl⟩
theorem call123 : qn Tryz.prog 123 := ⟨_, Tryz.func123, rfl, by kernel_rfl⟩
theorem call124 : qn Tryz.prog 124 := ⟨_, Tryz.func124, rfl, by kernel_rfl⟩
theorem call125 : qn Tryz.prog 125 := ⟨_, Tryz.func125, rfl, by kernel_rfl⟩
theorem call126 : qn Tryz.prog 126 := ⟨_, Tryz.func126, rfl, by kernel_rfl⟩
theorem call127 : qn Tryz.prog 127 := ⟨_, Tryz.func127, rfl, by kernel_rfl⟩
theorem call129 : qn Tryz.prog 129 := ⟨_, Tryz.func129, rfl, by kernel_rfl⟩
theorem call130 : qn Tryz.prog 130 := ⟨_, Tryz.func130, rfl, by kernel_rfl⟩
theorem call131 : qn Tryz.prog 131 := ⟨_, Tryz.func131, rfl, by kernel_rfl⟩
theorem call132 : qn Tryz.prog 132 := ⟨_, Tryz.func132, rfl, by kernel_rfl⟩
theorem call133 : qn Tryz.prog 133 := ⟨_, Tryz.func133, rfl, by kernel_rfl⟩
theorem call134 : qn Tryz.prog 134 := ⟨_, Tryz.func134, rfl, by kernel_rfl⟩
theorem call135 : qn Tryz.prog 135 := ⟨_, Tryz.func135, rfl, by kernel_rfl⟩
theorem call136 : qn Tryz.prog 136 := ⟨_, Tryz.func136, rfl, by kernel_rfl⟩
theorem call137 : qn Tryz.prog 137 := ⟨_, Tryz.func137, rfl, by kernel_rfl⟩
theorem call138 : qn Tryz.prog 138 := ⟨_, Tryz.func138, rfl, by kernel_rfl⟩
theorem call139 : qn Tryz.prog 139 := ⟨_, Tryz.func139, rfl, by kernel_rfl⟩
theorem call140 : qn Tryz.prog 140 := ⟨_, Tryz.func140, rfl, by kernel_rfl⟩
theorem call141 : qn Tryz.prog 141 := ⟨_, Tryz.func141, rfl, by kernel_rfl⟩
theorem call142 : qn Tryz.prog 142 := ⟨_, Tryz.func142, rfl, by kernel_rfl⟩
theorem call143 : qn Tryz.prog 143 := ⟨_, Tryz.func143, rfl, by kernel_rfl⟩
theorem call144 : qn Tryz.prog 144 := ⟨_, Tryz.func144, rfl, by kernel_rfl⟩
theorem call145 : qn Tryz.prog 145 := ⟨_, Tryz.func145, rfl, by kernel_rfl⟩
theorem call147 : qn Tryz.prog 147 := ⟨_, Tryz.func147, rfl, by kernel_rfl⟩
theorem call148 : qn Tryz.prog 148 := ⟨_, Tryz.func148, rfl, by kernel_rfl⟩
theorem call149 : qn Tryz.prog 149 := ⟨_, Tryz.func149, rfl, by kernel_rfl⟩
theorem call150 : qn Tryz.prog 150 := ⟨_, Tryz.func150, rfl, by kernel_rfl⟩
theorem call151 : qn Tryz.prog 151 := ⟨_, Tryz.func151, rfl, by kernel_rfl⟩
theorem call152 : qn Tryz.prog 152 := ⟨_, Tryz.func152, rfl, by kernel_rfl⟩
theorem call153 : qn Tryz.prog 153 := ⟨_, Tryz.func153, rfl, by kernel_rfl⟩
theorem call154 : qn Tryz.prog 154 := ⟨_, Tryz.func154, rfl, by kernel_rfl⟩
theorem call155 : qn Tryz.prog 155 := ⟨_, Tryz.func155, rfl, by kernel_rfl⟩
theorem call156 : qn Tryz.prog 156 := ⟨_, Tryz.func156, rfl, by kernel_rfl⟩
theorem call157 : qn Tryz.prog 157 := ⟨_, Tryz.func157, rfl, by kernel_rfl⟩
theorem call158 : qn Tryz.prog 158 := ⟨_, Tryz.func158, rfl, by kernel_rfl⟩
theorem call159 : qn Tryz.prog 159 := ⟨_, Tryz.func159, rfl, by kernel_rfl⟩
theorem call160 : qn Tryz.prog 160 := ⟨_, Tryz.func160, rfl, by kernel_rfl⟩
theorem call161 : qn Tryz.prog 161 := ⟨_, Tryz.func161, rfl, by kernel_rfl⟩
theorem call162 : qn Tryz.prog 162 := ⟨_, Tryz.func162, rfl, by kernel_rfl⟩
theorem call163 : qn Tryz.prog 163 := ⟨_, Tryz.func163, rfl, by kernel_rfl⟩
theorem call169 : qn Tryz.prog 169 := ⟨_, Tryz.func169, rfl, by kernel_rfl⟩
theorem call170 : qn Tryz.prog 170 := ⟨_, Tryz.func170, rfl, by kernel_rfl⟩
theorem call171 : qn Tryz.prog 171 := ⟨_, Tryz.func171, rfl, by kernel_rfl⟩
theorem call172 : qn Tryz.prog 172 := ⟨_, Tryz.func172, rfl, by kernel_rfl⟩
theorem call173 : qn Tryz.prog 173 := ⟨_, Tryz.func173, rfl, by kernel_rfl⟩
theorem call174 : qn Tryz.prog 174 := ⟨_, Tryz.func174, rfl, by kernel_rfl⟩
theorem call175 : qn Tryz.prog 175 := ⟨_, Tryz.func175, rfl, by kernel_rfl⟩
theorem call176 : qn Tryz.prog 176 := ⟨_, Tryz.func176, rfl, by kernel_rfl⟩
theorem call177 : qn Tryz.prog 177 := ⟨_, Tryz.func177, rfl, by kernel_rfl⟩
theorem call178 : qn Tryz.prog 178 := ⟨_, Tryz.func178, rfl, by kernel_rfl⟩
theorem call179 : qn Tryz.prog 179 := ⟨_, Tryz.func179, rfl, by kernel_rfl⟩
theorem call180 : qn Tryz.prog 180 := ⟨_, Tryz.func180, rfl, by kernel_rfl⟩
theorem call181 : qn Tryz.prog 181 := ⟨_, Tryz.func181, rfl, by kernel_rfl⟩
theorem call182 : qn Tryz.prog 182 := ⟨_, Tryz.func182, rfl, by kernel_rfl⟩
theorem call183 : qn Tryz.prog 183 := ⟨_, Tryz.func183, rfl, by kernel_rfl⟩
theorem call184 : qn Tryz.prog 184 := ⟨_, Tryz.func184, rfl, by kernel_rfl⟩
theorem call185 : qn Tryz.prog 185 := ⟨_, Tryz.func185, rfl, by kernel_rfl⟩
theorem call186 : qn Tryz.prog 186 := ⟨_, Tryz.func186, rfl, by kernel_rfl⟩
theorem call187 : qn Tryz.prog 187 := ⟨_, Tryz.func187, rfl, by kernel_rfl⟩
theorem call188 : qn Tryz.prog 188 := ⟨_, Tryz.func188, rfl, by kernel_rfl⟩
theorem call189 : qn Tryz.prog 189 := ⟨_, Tryz.func189, rfl, by kernel_rfl⟩
theorem call190 : qn Tryz.prog 190 := ⟨_, Tryz.func190, rfl, by kernel_rfl⟩
theorem call191 : qn Tryz.prog 191 := ⟨_, Tryz.func191, rfl, by kernel_rfl⟩
theorem call192 : qn Tryz.prog 192 := ⟨_, Tryz.func192, rfl, by kernel_rfl⟩
theorem call196 : qn Tryz.prog 196 := ⟨_, Tryz.func196, rfl, by kernel_rfl⟩
theorem call197 : qn Tryz.prog 197 := ⟨_, Tryz.func197, rfl, by kernel_rfl⟩
theorem call198 : qn Tryz.prog 198 := ⟨_, Tryz.func198, rfl, by kernel_rfl⟩
theorem call199 : qn Tryz.prog 199 := ⟨_, Tryz.func199, rfl, by kernel_rfl⟩
theorem call200 : qn Tryz.prog 200 := ⟨_, Tryz.func200, rfl, by kernel_rfl⟩
theorem call201 : qn Tryz.prog 201 := ⟨_, Tryz.func201, rfl, by kernel_rfl⟩
theorem call202 : qn Tryz.prog 202 := ⟨_, Tryz.func202, rfl, by kernel_rfl⟩
theorem call203 : qn Tryz.prog 203 := ⟨_, Tryz.func203, rfl, by kernel_rfl⟩
theorem call204 : qn Tryz.prog 204 := ⟨_, Tryz.func204, rfl, by kernel_rfl⟩
theorem call205 : qn Tryz.prog 205 := ⟨_, Tryz.func205, rfl, by kernel_rfl⟩
theorem call206 : qn Tryz.prog 206 := ⟨_, Tryz.func206, rfl, by kernel_rfl⟩
theorem call207 : qn Tryz.prog 207 := ⟨_, Tryz.func207, rfl, by kernel_rfl⟩
theorem call208 : qn Tryz.prog 208 := ⟨_, Tryz.func208, rfl, by kernel_rfl⟩
theorem call209 : qn Tryz.prog 209 := ⟨_, Tryz.func209, rfl, by kernel_rfl⟩
theorem call212 : qn Tryz.prog 212 := ⟨_, Tryz.func212, rfl, by kernel_rfl⟩
theorem call213 : qn Tryz.prog 213 := ⟨_, Tryz.func213, rfl, by kernel_rfl⟩
theorem call214 : qn Tryz.prog 214 := ⟨_, Tryz.func214, rfl, by kernel_rfl⟩
theorem call215 : qn Tryz.prog 215 := ⟨_, Tryz.func215, rfl, by kernel_rfl⟩
theorem call216 : qn Tryz.prog 216 := ⟨_, Tryz.func216, rfl, by kernel_rfl⟩
theorem call217 : qn Tryz.prog 217 := ⟨_, Tryz.func217, rfl, by kernel_rfl⟩
theorem call218 : qn Tryz.prog 218 := ⟨_, Tryz.func218, rfl, by kernel_rfl⟩
theorem call219 : qn Tryz.prog 219 := ⟨_, Tryz.func219, rfl, by kernel_rfl⟩
theorem call220 : qn Tryz.prog 220 := ⟨_, Tryz.func220, rfl, by kernel_rfl⟩
theorem call221 : qn Tryz.prog 221 := ⟨_, Tryz.func221, rfl, by kernel_rfl⟩
theorem call222 : qn Tryz.prog 222 := ⟨_, Tryz.func222, rfl, by kernel_rfl⟩
theorem call224 : qn Tryz.prog 224 := ⟨_, Tryz.func224, rfl, by kernel_rfl⟩
theorem call225 : qn Tryz.prog 225 := ⟨_, Tryz.func225, rfl, by kernel_rfl⟩
theorem call226 : qn Tryz.prog 226 := ⟨_, Tryz.func226, rfl, by kernel_rfl⟩
theorem call227 : qn Tryz.prog 227 := ⟨_, Tryz.func227, rfl, by kernel_rfl⟩
theorem call228 : qn Tryz.prog 228 := ⟨_, Tryz.func228, rfl, by kernel_rfl⟩
theorem call229 : qn Tryz.prog 229 := ⟨_, Tryz.func229, rfl, by kernel_rfl⟩
theorem call230 : qn Tryz.prog 230 := ⟨_, Tryz.func230, rfl, by kernel_rfl⟩
theorem call231 : qn Tryz.prog 231 := ⟨_, Tryz.func231, rfl, by kernel_rfl⟩
theorem call232 : qn Tryz.prog 232 := ⟨_, Tryz.func232, rfl, by kernel_rfl⟩
theorem call233 : qn Tryz.prog 233 := ⟨_, Tryz.func233, rfl, by kernel_rfl⟩
theorem call234 : qn Tryz.prog 234 := ⟨_, Tryz.func234, rfl, by kernel_rfl⟩
theorem call243 : qn Tryz.prog 243 := ⟨_, Tryz.func243, rfl, by kernel_rfl⟩
theorem call244 : qn Tryz.prog 244 := ⟨_, Tryz.func244, rfl, by kernel_rfl⟩
theorem call245 : qn Tryz.prog 245 := ⟨_, Tryz.func245, rfl, by kernel_rfl⟩
theorem call246 : qn Tryz.prog 246 := ⟨_, Tryz.func246, rfl, by kernel_rfl⟩
theorem call247 : qn Tryz.prog 247 := ⟨_, Tryz.func247, rfl, by kernel_rfl⟩
theorem call248 : qn Tryz.prog 248 := ⟨_, Tryz.func248, rfl, by kernel_rfl⟩
theorem call254 : qn Tryz.prog 254 := ⟨_, Tryz.func254, rfl, by kernel_rfl⟩
theorem call255 : qn Tryz.prog 255 := ⟨_, Tryz.func255, rfl, by kernel_rfl⟩
theorem call256 : qn Tryz.prog 256 := ⟨_, Tryz.func256, rfl, by kernel_rfl⟩
theorem call257 : qn Tryz.prog 257 := ⟨_, Tryz.func257, rfl, by kernel_rfl⟩
theorem call258 : qn Tryz.prog 258 := ⟨_, Tryz.func258, rfl, by kernel_rfl⟩
theorem call259 : qn Tryz.prog 259 := ⟨_, Tryz.func259, rfl, by kernel_rfl⟩
theorem call260 : qn Tryz.prog 260 := ⟨_, Tryz.func260, rfl, by kernel_rfl⟩
theorem call264 : qn Tryz.prog 264 := ⟨_, Tryz.func264, rfl, by kernel_rfl⟩
theorem call265 : qn Tryz.prog 265 := ⟨_, Tryz.func265, rfl, by kernel_rfl⟩

def qbr (_ : Nat) (a : (List Int)) (left : Int) : Option Int :=
 bif decide ((W64 (left - (a.length : Int))) < 0) then
  some (-1)
 else
  some (W64 (left - (a.length : Int)))

theorem qbk {n : Nat} {w : World} {a : (List Int)} {left : Int} {cs1 : List Value} (ha1 : GoT.R w (old w) a cs1) {r : Int} (hF : qbr n a left = some r) : RetV Tryz.prog 76 [GoT.v (List Int) cs1, .int .i64 left] w r := by
 obtain ⟨p1, k1, rfl, s1⟩ := ha1
 refine qe Tryz.func76 rfl (m := 12) rfl rfl (fun h => ?_)
 rw [qbr] at hF
 refine zSR (zp1 rfl (zNSR (zp5 rfl (qb ?_))))
 refine zSSR (zp2 rfl (qb ?_))
 refine qr rfl hF ?_ ?_ <;> intro hF
 ·exact zSR (zp1 rfl (qb (qaA qc h hF ⟨rfl, trivial⟩)))
 exact zKSR (zp2 rfl (qb (qaA qc h hF ⟨rfl, trivial⟩)))

def qhV (_ : Nat) (a : qan) (left : Int) : Option Int :=
 bif decide ((W64 (left - (a.Name.size : Int))) < 0) then
  some (-1)
 else
  some (W64 (left - (a.Name.size : Int)))

theorem qnA {n : Nat} {w : World} {a : qan} {left : Int} {cs1 : List Value} (ha1 : GoT.R w (old w) a cs1) {r : Int} (hF : qhV n a left = some r) : RetV Tryz.prog 196 [GoT.v qan cs1, .int .i64 left] w r := by
 obtain rfl := qa5 ha1
 refine qe Tryz.func196 rfl (m := 13) rfl rfl (fun h => ?_)
 rw [qhV] at hF
 refine zSR (qN h rfl rfl ?_)
 intro w1 bb1 h
 refine zp1 rfl (zNSR (zp2 rfl (zl 0 0 h rfl (zp3 rfl (zNS ?_)))))
 refine zSR (zp2 rfl (qb ?_))
 refine qr rfl hF ?_ ?_ <;> intro hF
 ·exact zSR (zp1 rfl (qb (qaA qc h hF ⟨rfl, trivial⟩)))
 exact zKSR (zp2 rfl (qb (qaA qc h hF ⟨rfl, trivial⟩)))

def qd1 (a : (List qan)) : Nat → Int → Int → Option (Flow Int (Int × Int))
 | 0, _, _ => none
 | n + 1, i1, i2 =>
  bif decide (i2 < (a.length : Int)) then
   (idx a i2).bind fun y1 =>
   (qhV n y1 i1).bind fun r1 =>
   bif decide (r1 < 0) then
    some (.ret (-1))
   else
    qd1 a n r1 (W64 (i2 + 1))
  else
   some (.nxt (i1, i2))

def qjb (n : Nat) (a : (List qan)) (left : Int) : Option Int :=
 bif decide ((W64 (left - (a.length : Int))) < 0) then
  some (-1)
 else
  (qd1 a n (W64 (left - (a.length : Int))) 0).bind fun o => match o with
  | .ret r => some r
  | .nxt (i1, _) =>
   some i1

theorem qmT {n : Nat} {w : World} {a : (List qan)} {left : Int} {cs1 : List Value} (ha1 : GoT.R w (old w) a cs1) {r : Int} (hF : qjb n a left = some r) : RetV Tryz.prog 169 [GoT.v (List qan) cs1, .int .i64 left] w r := by
 obtain ⟨p1, k1, rfl, s1⟩ := ha1
 refine qe Tryz.func169 rfl (m := 27) rfl rfl (fun h => ?_)
 rw [qjb] at hF
 refine zSR (zp1 rfl (zNSR (zp5 rfl (qb ?_))))
 refine zSSR (zp2 rfl (qb ?_))
 refine qr rfl hF ?_ ?_ <;> intro hF
 ·exact zSR (zp1 rfl (qb (qaA qc h hF ⟨rfl, trivial⟩)))
 refine zKSSR (zp1 rfl (qb ?_))
 obtain ⟨o1, hF, hK1⟩ := qd hF
 refine qw (qP [(0, _), (1, _), (5, _)] ⟨rfl, rfl, rfl, trivial⟩ ?_)
 refine qH (fun m e w' => ∃ (i1 : Int) (i2 : Int), qd1 a m i1 i2 = some o1 ∧ e = [(0, .slice p1 a.length k1), (1, .int .i64 i1), (5, .int .i64 i2)] ∧ SH w w' []) n ⟨_, _, hF, rfl, h⟩ ?_
 rintro m1 e1 w1 ⟨i1, i2, hF, rfl, h⟩
 rcases m1 with _ | m1
 ·rw [qd1] at hF
  cases hF
 rw [qd1] at hF
 refine zSSR (zp4 rfl (qb ?_))
 refine qr rfl hF ?_ ?_ <;> intro hF
 ·refine zKSBSR (zp2 rfl ?_)
  obtain ⟨y1, hy1, hF⟩ := qd hF
  have he1 := qf hy1
  obtain ⟨b1, o_1, q1, cs2, hp1, hq1, -, hr1, hc3⟩ := s1.at hy1
  obtain rfl := qa5 hr1
  refine zxe hp1 hq1 he1 rfl (zc 0 (hc3.below h.below) rfl (zp1 rfl ?_))
  obtain ⟨r1, hr2, hF⟩ := qd hF
  refine qR r1 h call196 (qnA (qeg y1) hr2) rfl rfl rfl rfl ?_
  intro w2 h
  refine zp1 rfl (zNSR (zp2 rfl (qb ?_)))
  refine qr rfl hF ?_ ?_ <;> intro hF
  ·refine zSR (zp1 rfl (qb ?_))
   obtain rfl := qh hF; replace hF := hK1
   exact qaA qc h hF ⟨rfl, trivial⟩
  exact zKER (zp3 rfl (qb (qA m1 [(0, _), (1, _), (5, _)] (Nat.lt_succ_self m1) ⟨rfl, rfl, rfl, trivial⟩ ⟨_, _, hF, rfl, h⟩)))
 refine qG rfl ?_
 obtain rfl := qh hF; replace hF := hK1
 exact zSR (zp2 rfl (qb (qaA qc h hF ⟨rfl, trivial⟩)))

def qgD (n : Nat) (a : qF) (left : Int) : Option Int :=
 (qbr n a.Slews left).bind fun r1 =>
 bif decide (r1 < 0) then
  some (-1)
 else
  (qbr n a.Loads r1).bind fun r2 =>
  bif decide (r2 < 0) then
   some (-1)
  else
   (qbr n a.Values r2).bind fun r3 =>
   bif decide (r3 < 0) then
    some (-1)
   else
    some r3

theorem qmq {n : Nat} {w : World} {a : qF} {left : Int} {cs1 : List Value} (ha1 : GoT.R w (old w) a cs1) {r : Int} (hF : qgD n a left = some r) : RetV Tryz.prog 224 [GoT.v qF cs1, .int .i64 left] w r := by
 obtain ⟨p1, k1, p2, k2, p3, k3, rfl, s1, s2, s3⟩ := qbF ha1
 refine qe Tryz.func224 rfl (m := 24) rfl rfl (fun h => ?_)
 rw [qgD] at hF
 refine zSR (qN h rfl rfl ?_)
 intro w1 bb1 h
 refine zp1 rfl (zNSR (zp1 rfl (zl 0 0 h rfl (zp1 rfl ?_))))
 obtain ⟨r1, hr1, hF⟩ := qd hF
 refine qR r1 h call76 (qbk ⟨_, _, rfl, (h.oldS s1)⟩ hr1) rfl rfl rfl rfl ?_
 intro w2 h
 refine zp1 rfl (zNSSR (zp2 rfl (qb ?_)))
 refine qr rfl hF ?_ ?_ <;> intro hF
 ·exact zSR (zp1 rfl (qb (qaA qc h hF ⟨rfl, trivial⟩)))
 refine zKSR (zp1 rfl (zl 0 1 h rfl (zp1 rfl ?_)))
 obtain ⟨r2, hr2, hF⟩ := qd hF
 refine qR r2 h call76 (qbk ⟨_, _, rfl, (h.oldS s2)⟩ hr2) rfl rfl rfl rfl ?_
 intro w3 h
 refine zp1 rfl (zNSSR (zp2 rfl (qb ?_)))
 refine qr rfl hF ?_ ?_ <;> intro hF
 ·exact zSR (zp1 rfl (qb (qaA qc h hF ⟨rfl, trivial⟩)))
 refine zKSR (zp1 rfl (zl 0 2 h rfl (zp1 rfl ?_)))
 obtain ⟨r3, hr3, hF⟩ := qd hF
 refine qR r3 h call76 (qbk ⟨_, _, rfl, (h.oldS s3)⟩ hr3) rfl rfl rfl rfl ?_
 intro w4 h
 refine zp1 rfl (zNSSR (zp2 rfl (qb ?_)))
 refine qr rfl hF ?_ ?_ <;> intro hF
 ·exact zSR (zp1 rfl (qb (qaA qc h hF ⟨rfl, trivial⟩)))
 exact zKSR (zp2 rfl (qb (qaA qc h hF ⟨rfl, trivial⟩)))

def qcT (a : (List qF)) : Nat → Int → Int → Option (Flow Int (Int × Int))
 | 0, _, _ => none
 | n + 1, i1, i2 =>
  bif decide (i2 < (a.length : Int)) then
   (idx a i2).bind fun y1 =>
   (qgD n y1 i1).bind fun r1 =>
   bif decide (r1 < 0) then
    some (.ret (-1))
   else
    qcT a n r1 (W64 (i2 + 1))
  else
   some (.nxt (i1, i2))

def qgI (n : Nat) (a : (List qF)) (left : Int) : Option Int :=
 bif decide ((W64 (left - (a.length : Int))) < 0) then
  some (-1)
 else
  (qcT a n (W64 (left - (a.length : Int))) 0).bind fun o => match o with
  | .ret r => some r
  | .nxt (i1, _) =>
   some i1

theorem qjp {n : Nat} {w : World} {a : (List qF)} {left : Int} {cs1 : List Value} (ha1 : GoT.R w (old w) a cs1) {r : Int} (hF : qgI n a left = some r) : RetV Tryz.prog 212 [GoT.v (List qF) cs1, .int .i64 left] w r := by
 obtain ⟨p1, k1, rfl, s1⟩ := ha1
 refine qe Tryz.func212 rfl (m := 27) rfl rfl (fun h => ?_)
 rw [qgI] at hF
 refine zSR (zp1 rfl (zNSR (zp5 rfl (qb ?_))))
 refine zSSR (zp2 rfl (qb ?_))
 refine qr rfl hF ?_ ?_ <;> intro hF
 ·exact zSR (zp1 rfl (qb (qaA qc h hF ⟨rfl, trivial⟩)))
 refine zKSSR (zp1 rfl (qb ?_))
 obtain ⟨o1, hF, hK1⟩ := qd hF
 refine qw (qP [(0, _), (1, _), (5, _)] ⟨rfl, rfl, rfl, trivial⟩ ?_)
 refine qH (fun m e w' => ∃ (i1 : Int) (i2 : Int), qcT a m i1 i2 = some o1 ∧ e = [(0, .slice p1 a.length k1), (1, .int .i64 i1), (5, .int .i64 i2)] ∧ SH w w' []) n ⟨_, _, hF, rfl, h⟩ ?_
 rintro m1 e1 w1 ⟨i1, i2, hF, rfl, h⟩
 rcases m1 with _ | m1
 ·rw [qcT] at hF
  cases hF
 rw [qcT] at hF
 refine zSSR (zp4 rfl (qb ?_))
 refine qr rfl hF ?_ ?_ <;> intro hF
 ·refine zKSBSR (zp2 rfl ?_)
  obtain ⟨y1, hy1, hF⟩ := qd hF
  have he1 := qf hy1
  obtain ⟨b1, o_1, q1, cs2, hp1, hq1, -, hr1, hc3⟩ := s1.at hy1
  obtain ⟨p2, k2, p3, k3, p4, k4, rfl, s2, s3, s4⟩ := qbF hr1
  refine zxe hp1 hq1 he1 rfl (zc 0 (hc3.below h.below) rfl (zp1 rfl ?_))
  obtain ⟨r1, hr2, hF⟩ := qd hF
  refine qR r1 h call224 (qmq (qh0 y1 (h.oldS s2) (h.oldS s3) (h.oldS s4)) hr2) rfl rfl rfl rfl ?_
  intro w2 h
  refine zp1 rfl (zNSR (zp2 rfl (qb ?_)))
  refine qr rfl hF ?_ ?_ <;> intro hF
  ·refine zSR (zp1 rfl (qb ?_))
   obtain rfl := qh hF; replace hF := hK1
   exact qaA qc h hF ⟨rfl, trivial⟩
  exact zKER (zp3 rfl (qb (qA m1 [(0, _), (1, _), (5, _)] (Nat.lt_succ_self m1) ⟨rfl, rfl, rfl, trivial⟩ ⟨_, _, hF, rfl, h⟩)))
 refine qG rfl ?_
 obtain rfl := qh hF; replace hF := hK1
 exact zSR (zp2 rfl (qb (qaA qc h hF ⟨rfl, trivial⟩)))

def qh7 (n : Nat) (a : qV) (left : Int) : Option Int :=
 (qgI n a.Delay left).bind fun r1 =>
 bif decide (r1 < 0) then
  some (-1)
 else
  (qgI n a.Slew r1).bind fun r2 =>
  bif decide (r2 < 0) then
   some (-1)
  else
   some r2

theorem qnw {n : Nat} {w : World} {a : qV} {left : Int} {cs1 : List Value} (ha1 : GoT.R w (old w) a cs1) {r : Int} (hF : qh7 n a left = some r) : RetV Tryz.prog 197 [GoT.v qV cs1, .int .i64 left] w r := by
 obtain ⟨p1, k1, p2, k2, rfl, s1, s2⟩ := qaH ha1
 refine qe Tryz.func197 rfl (m := 18) rfl rfl (fun h => ?_)
 rw [qh7] at hF
 refine zSR (qN h rfl rfl ?_)
 intro w1 bb1 h
 refine zp1 rfl (zNSR (zp1 rfl (zl 0 4 h rfl (zp1 rfl ?_))))
 obtain ⟨r1, hr1, hF⟩ := qd hF
 refine qR r1 h call212 (qjp ⟨_, _, rfl, (h.oldS s1)⟩ hr1) rfl rfl rfl rfl ?_
 intro w2 h
 refine zp1 rfl (zNSSR (zp2 rfl (qb ?_)))
 refine qr rfl hF ?_ ?_ <;> intro hF
 ·exact zSR (zp1 rfl (qb (qaA qc h hF ⟨rfl, trivial⟩)))
 refine zKSR (zp1 rfl (zl 0 5 h rfl (zp1 rfl ?_)))
 obtain ⟨r2, hr2, hF⟩ := qd hF
 refine qR r2 h call212 (qjp ⟨_, _, rfl, (h.oldS s2)⟩ hr2) rfl rfl rfl rfl ?_
 intro w3 h
 refine zp1 rfl (zNSSR (zp2 rfl (qb ?_)))
 refine qr rfl hF ?_ ?_ <;> intro hF
 ·exact zSR (zp1 rfl (qb (qaA qc h hF ⟨rfl, trivial⟩)))
 exact zKSR (zp2 rfl (qb (qaA qc h hF ⟨rfl, trivial⟩)))

def qdY (a : (List qV)) : Nat → Int → Int → Option (Flow Int (Int × Int))
 | 0, _, _ => none
 | n + 1, i1, i2 =>
  bif decide (i2 < (a.length : Int)) then
   (idx a i2).bind fun y1 =>
   (qh7 n y1 i1).bind fun r1 =>
   bif decide (r1 < 0) then
    some (.ret (-1))
   else
    qdY a n r1 (W64 (i2 + 1))
  else
   some (.nxt (i1, i2))

def qjc (n : Nat) (a : (List qV)) (left : Int) : Option Int :=
 bif decide ((W64 (left - (a.length : Int))) < 0) then
  some (-1)
 else
  (qdY a n (W64 (left - (a.length : Int))) 0).bind fun o => match o with
  | .ret r => some r
  | .nxt (i1, _) =>
   some i1

theorem qni {n : Nat} {w : World} {a : (List qV)} {left : Int} {cs1 : List Value} (ha1 : GoT.R w (old w) a cs1) {r : Int} (hF : qjc n a left = some r) : RetV Tryz.prog 170 [GoT.v (List qV) cs1, .int .i64 left] w r := by
 obtain ⟨p1, k1, rfl, s1⟩ := ha1
 refine qe Tryz.func170 rfl (m := 27) rfl rfl (fun h => ?_)
 rw [qjc] at hF
 refine zSR (zp1 rfl (zNSR (zp5 rfl (qb ?_))))
 refine zSSR (zp2 rfl (qb ?_))
 refine qr rfl hF ?_ ?_ <;> intro hF
 ·exact zSR (zp1 rfl (qb (qaA qc h hF ⟨rfl, trivial⟩)))
 refine zKSSR (zp1 rfl (qb ?_))
 obtain ⟨o1, hF, hK1⟩ := qd hF
 refine qw (qP [(0, _), (1, _), (5, _)] ⟨rfl, rfl, rfl, trivial⟩ ?_)
 refine qH (fun m e w' => ∃ (i1 : Int) (i2 : Int), qdY a m i1 i2 = some o1 ∧ e = [(0, .slice p1 a.length k1), (1, .int .i64 i1), (5, .int .i64 i2)] ∧ SH w w' []) n ⟨_, _, hF, rfl, h⟩ ?_
 rintro m1 e1 w1 ⟨i1, i2, hF, rfl, h⟩
 rcases m1 with _ | m1
 ·rw [qdY] at hF
  cases hF
 rw [qdY] at hF
 refine zSSR (zp4 rfl (qb ?_))
 refine qr rfl hF ?_ ?_ <;> intro hF
 ·refine zKSBSR (zp2 rfl ?_)
  obtain ⟨y1, hy1, hF⟩ := qd hF
  have he1 := qf hy1
  obtain ⟨b1, o_1, q1, cs2, hp1, hq1, -, hr1, hc3⟩ := s1.at hy1
  obtain ⟨p2, k2, p3, k3, rfl, s2, s3⟩ := qaH hr1
  refine zxe hp1 hq1 he1 rfl (zc 0 (hc3.below h.below) rfl (zp1 rfl ?_))
  obtain ⟨r1, hr2, hF⟩ := qd hF
  refine qR r1 h call197 (qnw (qgl y1 (h.oldS s2) (h.oldS s3)) hr2) rfl rfl rfl rfl ?_
  intro w2 h
  refine zp1 rfl (zNSR (zp2 rfl (qb ?_)))
  refine qr rfl hF ?_ ?_ <;> intro hF
  ·refine zSR (zp1 rfl (qb ?_))
   obtain rfl := qh hF; replace hF := hK1
   exact qaA qc h hF ⟨rfl, trivial⟩
  exact zKER (zp3 rfl (qb (qA m1 [(0, _), (1, _), (5, _)] (Nat.lt_succ_self m1) ⟨rfl, rfl, rfl, trivial⟩ ⟨_, _, hF, rfl, h⟩)))
 refine qG rfl ?_
 obtain rfl := qh hF; replace hF := hK1
 exact zSR (zp2 rfl (qb (qaA qc h hF ⟨rfl, trivial⟩)))

def qhg (n : Nat) (a : qC) (left : Int) : Option Int :=
 bif decide ((W64 (left - (a.Name.size : Int))) < 0) then
  some (-1)
 else
  (qjb n a.Pins (W64 (left - (a.Name.size : Int)))).bind fun r1 =>
  bif decide (r1 < 0) then
   some (-1)
  else
   (qjc n a.Arcs r1).bind fun r2 =>
   bif decide (r2 < 0) then
    some (-1)
   else
    (qbr n a.Truth r2).bind fun r3 =>
    bif decide (r3 < 0) then
     some (-1)
    else
     some r3

theorem qnf {n : Nat} {w : World} {a : qC} {left : Int} {cs1 : List Value} (ha1 : GoT.R w (old w) a cs1) {r : Int} (hF : qhg n a left = some r) : RetV Tryz.prog 121 [GoT.v qC cs1, .int .i64 left] w r := by
 obtain ⟨p1, k1, p2, k2, p3, k3, rfl, s1, s2, s3⟩ := qY ha1
 refine qe Tryz.func121 rfl (m := 31) rfl rfl (fun h => ?_)
 rw [qhg] at hF
 refine zSR (qN h rfl rfl ?_)
 intro w1 bb1 h
 refine zp1 rfl (zNSR (zp2 rfl (zl 0 0 h rfl (zp3 rfl (zNS ?_)))))
 refine zSR (zp2 rfl (qb ?_))
 refine qr rfl hF ?_ ?_ <;> intro hF
 ·exact zSR (zp1 rfl (qb (qaA qc h hF ⟨rfl, trivial⟩)))
 refine zKSR (zp1 rfl (zl 0 2 h rfl (zp1 rfl ?_)))
 obtain ⟨r1, hr1, hF⟩ := qd hF
 refine qR r1 h call169 (qmT ⟨_, _, rfl, (h.oldS s1)⟩ hr1) rfl rfl rfl rfl ?_
 intro w2 h
 refine zp1 rfl (zNSSR (zp2 rfl (qb ?_)))
 refine qr rfl hF ?_ ?_ <;> intro hF
 ·exact zSR (zp1 rfl (qb (qaA qc h hF ⟨rfl, trivial⟩)))
 refine zKSR (zp1 rfl (zl 0 3 h rfl (zp1 rfl ?_)))
 obtain ⟨r2, hr2, hF⟩ := qd hF
 refine qR r2 h call170 (qni ⟨_, _, rfl, (h.oldS s2)⟩ hr2) rfl rfl rfl rfl ?_
 intro w3 h
 refine zp1 rfl (zNSSR (zp2 rfl (qb ?_)))
 refine qr rfl hF ?_ ?_ <;> intro hF
 ·exact zSR (zp1 rfl (qb (qaA qc h hF ⟨rfl, trivial⟩)))
 refine zKSR (zp1 rfl (zl 0 4 h rfl (zp1 rfl ?_)))
 obtain ⟨r3, hr3, hF⟩ := qd hF
 refine qR r3 h call76 (qbk ⟨_, _, rfl, (h.oldS s3)⟩ hr3) rfl rfl rfl rfl ?_
 intro w4 h
 refine zp1 rfl (zNSSR (zp2 rfl (qb ?_)))
 refine qr rfl hF ?_ ?_ <;> intro hF
 ·exact zSR (zp1 rfl (qb (qaA qc h hF ⟨rfl, trivial⟩)))
 exact zKSR (zp2 rfl (qb (qaA qc h hF ⟨rfl, trivial⟩)))

def qdr (a : (List qC)) : Nat → Int → Int → Option (Flow Int (Int × Int))
 | 0, _, _ => none
 | n + 1, i1, i2 =>
  bif decide (i2 < (a.length : Int)) then
   (idx a i2).bind fun y1 =>
   (qhg n y1 i1).bind fun r1 =>
   bif decide (r1 < 0) then
    some (.ret (-1))
   else
    qdr a n r1 (W64 (i2 + 1))
  else
   some (.nxt (i1, i2))

def qiE (n : Nat) (a : (List qC)) (left : Int) : Option Int :=
 bif decide ((W64 (left - (a.length : Int))) < 0) then
  some (-1)
 else
  (qdr a n (W64 (left - (a.length : Int))) 0).bind fun o => match o with
  | .ret r => some r
  | .nxt (i1, _) =>
   some i1

theorem qmA {n : Nat} {w : World} {a : (List qC)} {left : Int} {cs1 : List Value} (ha1 : GoT.R w (old w) a cs1) {r : Int} (hF : qiE n a left = some r) : RetV Tryz.prog 71 [GoT.v (List qC) cs1, .int .i64 left] w r := by
 obtain ⟨p1, k1, rfl, s1⟩ := ha1
 refine qe Tryz.func71 rfl (m := 27) rfl rfl (fun h => ?_)
 rw [qiE] at hF
 refine zSR (zp1 rfl (zNSR (zp5 rfl (qb ?_))))
 refine zSSR (zp2 rfl (qb ?_))
 refine qr rfl hF ?_ ?_ <;> intro hF
 ·exact zSR (zp1 rfl (qb (qaA qc h hF ⟨rfl, trivial⟩)))
 refine zKSSR (zp1 rfl (qb ?_))
 obtain ⟨o1, hF, hK1⟩ := qd hF
 refine qw (qP [(0, _), (1, _), (5, _)] ⟨rfl, rfl, rfl, trivial⟩ ?_)
 refine qH (fun m e w' => ∃ (i1 : Int) (i2 : Int), qdr a m i1 i2 = some o1 ∧ e = [(0, .slice p1 a.length k1), (1, .int .i64 i1), (5, .int .i64 i2)] ∧ SH w w' []) n ⟨_, _, hF, rfl, h⟩ ?_
 rintro m1 e1 w1 ⟨i1, i2, hF, rfl, h⟩
 rcases m1 with _ | m1
 ·rw [qdr] at hF
  cases hF
 rw [qdr] at hF
 refine zSSR (zp4 rfl (qb ?_))
 refine qr rfl hF ?_ ?_ <;> intro hF
 ·refine zKSBSR (zp2 rfl ?_)
  obtain ⟨y1, hy1, hF⟩ := qd hF
  have he1 := qf hy1
  obtain ⟨b1, o_1, q1, cs2, hp1, hq1, -, hr1, hc3⟩ := s1.at hy1
  obtain ⟨p2, k2, p3, k3, p4, k4, rfl, s2, s3, s4⟩ := qY hr1
  refine zxe hp1 hq1 he1 rfl (zc 0 (hc3.below h.below) rfl (zp1 rfl ?_))
  obtain ⟨r1, hr2, hF⟩ := qd hF
  refine qR r1 h call121 (qnf (qhd y1 (h.oldS s2) (h.oldS s3) (h.oldS s4)) hr2) rfl rfl rfl rfl ?_
  intro w2 h
  refine zp1 rfl (zNSR (zp2 rfl (qb ?_)))
  refine qr rfl hF ?_ ?_ <;> intro hF
  ·refine zSR (zp1 rfl (qb ?_))
   obtain rfl := qh hF; replace hF := hK1
   exact qaA qc h hF ⟨rfl, trivial⟩
  exact zKER (zp3 rfl (qb (qA m1 [(0, _), (1, _), (5, _)] (Nat.lt_succ_self m1) ⟨rfl, rfl, rfl, trivial⟩ ⟨_, _, hF, rfl, h⟩)))
 refine qG rfl ?_
 obtain rfl := qh hF; replace hF := hK1
 exact zSR (zp2 rfl (qb (qaA qc h hF ⟨rfl, trivial⟩)))

def qgf (n : Nat) (a : qv) (left : Int) : Option Int :=
 (qiE n a.Cells left).bind fun r1 =>
 bif decide (r1 < 0) then
  some (-1)
 else
  some r1

theorem qlp {n : Nat} {w : World} {a : qv} {left : Int} {cs1 : List Value} (ha1 : GoT.R w (old w) a cs1) {r : Int} (hF : qgf n a left = some r) : RetV Tryz.prog 37 [GoT.v qv cs1, .int .i64 left] w r := by
 obtain ⟨p1, k1, rfl, s1⟩ := qbA ha1
 refine qe Tryz.func37 rfl (m := 12) rfl rfl (fun h => ?_)
 rw [qgf] at hF
 refine zSR (qN h rfl rfl ?_)
 intro w1 bb1 h
 refine zp1 rfl (zNSR (zp1 rfl (zl 0 0 h rfl (zp1 rfl ?_))))
 obtain ⟨r1, hr1, hF⟩ := qd hF
 refine qR r1 h call71 (qmA ⟨_, _, rfl, (h.oldS s1)⟩ hr1) rfl rfl rfl rfl ?_
 intro w2 h
 refine zp1 rfl (zNSSR (zp2 rfl (qb ?_)))
 refine qr rfl hF ?_ ?_ <;> intro hF
 ·exact zSR (zp1 rfl (qb (qaA qc h hF ⟨rfl, trivial⟩)))
 exact zKSR (zp2 rfl (qb (qaA qc h hF ⟨rfl, trivial⟩)))

def qeT (n : Nat) (a : qm) (left : Int) : Option Int :=
 bif decide ((W64 (left - (a.Name.size : Int))) < 0) then
  some (-1)
 else
  (qbr n a.Nets (W64 (left - (a.Name.size : Int)))).bind fun r1 =>
  bif decide (r1 < 0) then
   some (-1)
  else
   some r1

theorem qkT {n : Nat} {w : World} {a : qm} {left : Int} {cs1 : List Value} (ha1 : GoT.R w (old w) a cs1) {r : Int} (hF : qeT n a left = some r) : RetV Tryz.prog 122 [GoT.v qm cs1, .int .i64 left] w r := by
 obtain ⟨p1, k1, rfl, s1⟩ := qab ha1
 refine qe Tryz.func122 rfl (m := 19) rfl rfl (fun h => ?_)
 rw [qeT] at hF
 refine zSR (qN h rfl rfl ?_)
 intro w1 bb1 h
 refine zp1 rfl (zNSR (zp2 rfl (zl 0 0 h rfl (zp3 rfl (zNS ?_)))))
 refine zSR (zp2 rfl (qb ?_))
 refine qr rfl hF ?_ ?_ <;> intro hF
 ·exact zSR (zp1 rfl (qb (qaA qc h hF ⟨rfl, trivial⟩)))
 refine zKSR (zp1 rfl (zl 0 2 h rfl (zp1 rfl ?_)))
 obtain ⟨r1, hr1, hF⟩ := qd hF
 refine qR r1 h call76 (qbk ⟨_, _, rfl, (h.oldS s1)⟩ hr1) rfl rfl rfl rfl ?_
 intro w2 h
 refine zp1 rfl (zNSSR (zp2 rfl (qb ?_)))
 refine qr rfl hF ?_ ?_ <;> intro hF
 ·exact zSR (zp1 rfl (qb (qaA qc h hF ⟨rfl, trivial⟩)))
 exact zKSR (zp2 rfl (qb (qaA qc h hF ⟨rfl, trivial⟩)))

def qbV (a : (List qm)) : Nat → Int → Int → Option (Flow Int (Int × Int))
 | 0, _, _ => none
 | n + 1, i1, i2 =>
  bif decide (i2 < (a.length : Int)) then
   (idx a i2).bind fun y1 =>
   (qeT n y1 i1).bind fun r1 =>
   bif decide (r1 < 0) then
    some (.ret (-1))
   else
    qbV a n r1 (W64 (i2 + 1))
  else
   some (.nxt (i1, i2))

def qgy (n : Nat) (a : (List qm)) (left : Int) : Option Int :=
 bif decide ((W64 (left - (a.length : Int))) < 0) then
  some (-1)
 else
  (qbV a n (W64 (left - (a.length : Int))) 0).bind fun o => match o with
  | .ret r => some r
  | .nxt (i1, _) =>
   some i1

theorem qkE {n : Nat} {w : World} {a : (List qm)} {left : Int} {cs1 : List Value} (ha1 : GoT.R w (old w) a cs1) {r : Int} (hF : qgy n a left = some r) : RetV Tryz.prog 72 [GoT.v (List qm) cs1, .int .i64 left] w r := by
 obtain ⟨p1, k1, rfl, s1⟩ := ha1
 refine qe Tryz.func72 rfl (m := 27) rfl rfl (fun h => ?_)
 rw [qgy] at hF
 refine zSR (zp1 rfl (zNSR (zp5 rfl (qb ?_))))
 refine zSSR (zp2 rfl (qb ?_))
 refine qr rfl hF ?_ ?_ <;> intro hF
 ·exact zSR (zp1 rfl (qb (qaA qc h hF ⟨rfl, trivial⟩)))
 refine zKSSR (zp1 rfl (qb ?_))
 obtain ⟨o1, hF, hK1⟩ := qd hF
 refine qw (qP [(0, _), (1, _), (5, _)] ⟨rfl, rfl, rfl, trivial⟩ ?_)
 refine qH (fun m e w' => ∃ (i1 : Int) (i2 : Int), qbV a m i1 i2 = some o1 ∧ e = [(0, .slice p1 a.length k1), (1, .int .i64 i1), (5, .int .i64 i2)] ∧ SH w w' []) n ⟨_, _, hF, rfl, h⟩ ?_
 rintro m1 e1 w1 ⟨i1, i2, hF, rfl, h⟩
 rcases m1 with _ | m1
 ·rw [qbV] at hF
  cases hF
 rw [qbV] at hF
 refine zSSR (zp4 rfl (qb ?_))
 refine qr rfl hF ?_ ?_ <;> intro hF
 ·refine zKSBSR (zp2 rfl ?_)
  obtain ⟨y1, hy1, hF⟩ := qd hF
  have he1 := qf hy1
  obtain ⟨b1, o_1, q1, cs2, hp1, hq1, -, hr1, hc3⟩ := s1.at hy1
  obtain ⟨p2, k2, rfl, s2⟩ := qab hr1
  refine zxe hp1 hq1 he1 rfl (zc 0 (hc3.below h.below) rfl (zp1 rfl ?_))
  obtain ⟨r1, hr2, hF⟩ := qd hF
  refine qR r1 h call122 (qkT (qf3 y1 (h.oldS s2)) hr2) rfl rfl rfl rfl ?_
  intro w2 h
  refine zp1 rfl (zNSR (zp2 rfl (qb ?_)))
  refine qr rfl hF ?_ ?_ <;> intro hF
  ·refine zSR (zp1 rfl (qb ?_))
   obtain rfl := qh hF; replace hF := hK1
   exact qaA qc h hF ⟨rfl, trivial⟩
  exact zKER (zp3 rfl (qb (qA m1 [(0, _), (1, _), (5, _)] (Nat.lt_succ_self m1) ⟨rfl, rfl, rfl, trivial⟩ ⟨_, _, hF, rfl, h⟩)))
 refine qG rfl ?_
 obtain rfl := qh hF; replace hF := hK1
 exact zSR (zp2 rfl (qb (qaA qc h hF ⟨rfl, trivial⟩)))

def qcy (a : (List ByteArray)) : Nat → Int → Int → Option (Flow Int (Int × Int))
 | 0, _, _ => none
 | n + 1, i1, i2 =>
  bif decide (i2 < (a.length : Int)) then
   (idx a i2).bind fun y1 =>
   bif decide ((W64 (i1 - (y1.size : Int))) < 0) then
    some (.ret (-1))
   else
    qcy a n (W64 (i1 - (y1.size : Int))) (W64 (i2 + 1))
  else
   some (.nxt (i1, i2))

def qhp (n : Nat) (a : (List ByteArray)) (left : Int) : Option Int :=
 bif decide ((W64 (left - (a.length : Int))) < 0) then
  some (-1)
 else
  (qcy a n (W64 (left - (a.length : Int))) 0).bind fun o => match o with
  | .ret r => some r
  | .nxt (i1, _) =>
   some i1

theorem qlw {n : Nat} {w : World} {a : (List ByteArray)} {left : Int} {cs1 : List Value} (ha1 : GoT.R w (old w) a cs1) {r : Int} (hF : qhp n a left = some r) : RetV Tryz.prog 73 [GoT.v (List ByteArray) cs1, .int .i64 left] w r := by
 obtain ⟨p1, k1, rfl, s1⟩ := ha1
 refine qe Tryz.func73 rfl (m := 28) rfl rfl (fun h => ?_)
 rw [qhp] at hF
 refine zSR (zp1 rfl (zNSR (zp5 rfl (qb ?_))))
 refine zSSR (zp2 rfl (qb ?_))
 refine qr rfl hF ?_ ?_ <;> intro hF
 ·exact zSR (zp1 rfl (qb (qaA qc h hF ⟨rfl, trivial⟩)))
 refine zKSSR (zp1 rfl (qb ?_))
 obtain ⟨o1, hF, hK1⟩ := qd hF
 refine qw (qP [(0, _), (1, _), (5, _)] ⟨rfl, rfl, rfl, trivial⟩ ?_)
 refine qH (fun m e w' => ∃ (i1 : Int) (i2 : Int), qcy a m i1 i2 = some o1 ∧ e = [(0, .slice p1 a.length k1), (1, .int .i64 i1), (5, .int .i64 i2)] ∧ SH w w' []) n ⟨_, _, hF, rfl, h⟩ ?_
 rintro m1 e1 w1 ⟨i1, i2, hF, rfl, h⟩
 rcases m1 with _ | m1
 ·rw [qcy] at hF
  cases hF
 rw [qcy] at hF
 refine zSSR (zp4 rfl (qb ?_))
 refine qr rfl hF ?_ ?_ <;> intro hF
 ·refine zKSBSR (zp3 rfl ?_)
  obtain ⟨y1, hy1, hF⟩ := qd hF
  have he1 := qf hy1
  obtain ⟨b1, o_1, q1, cs2, hp1, hq1, -, hr1, hc3⟩ := s1.at hy1
  obtain rfl := hr1
  refine zxe hp1 hq1 he1 rfl (zc 0 (hc3.below h.below) rfl (zp3 rfl (zNSR (zp2 rfl (qb ?_)))))
  refine qr rfl hF ?_ ?_ <;> intro hF
  ·refine zSR (zp1 rfl (qb ?_))
   obtain rfl := qh hF; replace hF := hK1
   exact qaA qc h hF ⟨rfl, trivial⟩
  exact zKER (zp3 rfl (qb (qA m1 [(0, _), (1, _), (5, _)] (Nat.lt_succ_self m1) ⟨rfl, rfl, rfl, trivial⟩ ⟨_, _, hF, rfl, h⟩)))
 refine qG rfl ?_
 obtain rfl := qh hF; replace hF := hK1
 exact zSR (zp2 rfl (qb (qaA qc h hF ⟨rfl, trivial⟩)))

def qg5 (_ : Nat) (a : qX) (left : Int) : Option Int :=
 bif decide ((W64 (left - (a.Name.size : Int))) < 0) then
  some (-1)
 else
  some (W64 (left - (a.Name.size : Int)))

theorem qm9 {n : Nat} {w : World} {a : qX} {left : Int} {cs1 : List Value} (ha1 : GoT.R w (old w) a cs1) {r : Int} (hF : qg5 n a left = some r) : RetV Tryz.prog 123 [GoT.v qX cs1, .int .i64 left] w r := by
 obtain rfl := qa8 ha1
 refine qe Tryz.func123 rfl (m := 13) rfl rfl (fun h => ?_)
 rw [qg5] at hF
 refine zSR (qN h rfl rfl ?_)
 intro w1 bb1 h
 refine zp1 rfl (zNSR (zp2 rfl (zl 0 0 h rfl (zp3 rfl (zNS ?_)))))
 refine zSR (zp2 rfl (qb ?_))
 refine qr rfl hF ?_ ?_ <;> intro hF
 ·exact zSR (zp1 rfl (qb (qaA qc h hF ⟨rfl, trivial⟩)))
 exact zKSR (zp2 rfl (qb (qaA qc h hF ⟨rfl, trivial⟩)))

def qdt (a : (List qX)) : Nat → Int → Int → Option (Flow Int (Int × Int))
 | 0, _, _ => none
 | n + 1, i1, i2 =>
  bif decide (i2 < (a.length : Int)) then
   (idx a i2).bind fun y1 =>
   (qg5 n y1 i1).bind fun r1 =>
   bif decide (r1 < 0) then
    some (.ret (-1))
   else
    qdt a n r1 (W64 (i2 + 1))
  else
   some (.nxt (i1, i2))

def qiH (n : Nat) (a : (List qX)) (left : Int) : Option Int :=
 bif decide ((W64 (left - (a.length : Int))) < 0) then
  some (-1)
 else
  (qdt a n (W64 (left - (a.length : Int))) 0).bind fun o => match o with
  | .ret r => some r
  | .nxt (i1, _) =>
   some i1

theorem qma {n : Nat} {w : World} {a : (List qX)} {left : Int} {cs1 : List Value} (ha1 : GoT.R w (old w) a cs1) {r : Int} (hF : qiH n a left = some r) : RetV Tryz.prog 74 [GoT.v (List qX) cs1, .int .i64 left] w r := by
 obtain ⟨p1, k1, rfl, s1⟩ := ha1
 refine qe Tryz.func74 rfl (m := 27) rfl rfl (fun h => ?_)
 rw [qiH] at hF
 refine zSR (zp1 rfl (zNSR (zp5 rfl (qb ?_))))
 refine zSSR (zp2 rfl (qb ?_))
 refine qr rfl hF ?_ ?_ <;> intro hF
 ·exact zSR (zp1 rfl (qb (qaA qc h hF ⟨rfl, trivial⟩)))
 refine zKSSR (zp1 rfl (qb ?_))
 obtain ⟨o1, hF, hK1⟩ := qd hF
 refine qw (qP [(0, _), (1, _), (5, _)] ⟨rfl, rfl, rfl, trivial⟩ ?_)
 refine qH (fun m e w' => ∃ (i1 : Int) (i2 : Int), qdt a m i1 i2 = some o1 ∧ e = [(0, .slice p1 a.length k1), (1, .int .i64 i1), (5, .int .i64 i2)] ∧ SH w w' []) n ⟨_, _, hF, rfl, h⟩ ?_
 rintro m1 e1 w1 ⟨i1, i2, hF, rfl, h⟩
 rcases m1 with _ | m1
 ·rw [qdt] at hF
  cases hF
 rw [qdt] at hF
 refine zSSR (zp4 rfl (qb ?_))
 refine qr rfl hF ?_ ?_ <;> intro hF
 ·refine zKSBSR (zp2 rfl ?_)
  obtain ⟨y1, hy1, hF⟩ := qd hF
  have he1 := qf hy1
  obtain ⟨b1, o_1, q1, cs2, hp1, hq1, -, hr1, hc3⟩ := s1.at hy1
  obtain rfl := qa8 hr1
  refine zxe hp1 hq1 he1 rfl (zc 0 (hc3.below h.below) rfl (zp1 rfl ?_))
  obtain ⟨r1, hr2, hF⟩ := qd hF
  refine qR r1 h call123 (qm9 (qew y1) hr2) rfl rfl rfl rfl ?_
  intro w2 h
  refine zp1 rfl (zNSR (zp2 rfl (qb ?_)))
  refine qr rfl hF ?_ ?_ <;> intro hF
  ·refine zSR (zp1 rfl (qb ?_))
   obtain rfl := qh hF; replace hF := hK1
   exact qaA qc h hF ⟨rfl, trivial⟩
  exact zKER (zp3 rfl (qb (qA m1 [(0, _), (1, _), (5, _)] (Nat.lt_succ_self m1) ⟨rfl, rfl, rfl, trivial⟩ ⟨_, _, hF, rfl, h⟩)))
 refine qG rfl ?_
 obtain rfl := qh hF; replace hF := hK1
 exact zSR (zp2 rfl (qb (qaA qc h hF ⟨rfl, trivial⟩)))

def qgS (n : Nat) (a : qj) (left : Int) : Option Int :=
 (qgy n a.Instances left).bind fun r1 =>
 bif decide (r1 < 0) then
  some (-1)
 else
  (qhp n a.Nets r1).bind fun r2 =>
  bif decide (r2 < 0) then
   some (-1)
  else
   (qiH n a.Ports r2).bind fun r3 =>
   bif decide (r3 < 0) then
    some (-1)
   else
    some r3

theorem qlU {n : Nat} {w : World} {a : qj} {left : Int} {cs1 : List Value} (ha1 : GoT.R w (old w) a cs1) {r : Int} (hF : qgS n a left = some r) : RetV Tryz.prog 38 [GoT.v qj cs1, .int .i64 left] w r := by
 obtain ⟨p1, k1, p2, k2, p3, k3, rfl, s1, s2, s3⟩ := qaE ha1
 refine qe Tryz.func38 rfl (m := 24) rfl rfl (fun h => ?_)
 rw [qgS] at hF
 refine zSR (qN h rfl rfl ?_)
 intro w1 bb1 h
 refine zp1 rfl (zNSR (zp1 rfl (zl 0 0 h rfl (zp1 rfl ?_))))
 obtain ⟨r1, hr1, hF⟩ := qd hF
 refine qR r1 h call72 (qkE ⟨_, _, rfl, (h.oldS s1)⟩ hr1) rfl rfl rfl rfl ?_
 intro w2 h
 refine zp1 rfl (zNSSR (zp2 rfl (qb ?_)))
 refine qr rfl hF ?_ ?_ <;> intro hF
 ·exact zSR (zp1 rfl (qb (qaA qc h hF ⟨rfl, trivial⟩)))
 refine zKSR (zp1 rfl (zl 0 1 h rfl (zp1 rfl ?_)))
 obtain ⟨r2, hr2, hF⟩ := qd hF
 refine qR r2 h call73 (qlw ⟨_, _, rfl, (h.oldS s2)⟩ hr2) rfl rfl rfl rfl ?_
 intro w3 h
 refine zp1 rfl (zNSSR (zp2 rfl (qb ?_)))
 refine qr rfl hF ?_ ?_ <;> intro hF
 ·exact zSR (zp1 rfl (qb (qaA qc h hF ⟨rfl, trivial⟩)))
 refine zKSR (zp1 rfl (zl 0 2 h rfl (zp1 rfl ?_)))
 obtain ⟨r3, hr3, hF⟩ := qd hF
 refine qR r3 h call74 (qma ⟨_, _, rfl, (h.oldS s3)⟩ hr3) rfl rfl rfl rfl ?_
 intro w4 h
 refine zp1 rfl (zNSSR (zp2 rfl (qb ?_)))
 refine qr rfl hF ?_ ?_ <;> intro hF
 ·exact zSR (zp1 rfl (qb (qaA qc h hF ⟨rfl, trivial⟩)))
 exact zKSR (zp2 rfl (qb (qaA qc h hF ⟨rfl, trivial⟩)))

def qhc (n : Nat) (a : qS) (left : Int) : Option Int :=
 (qbr n a.Parent left).bind fun r1 =>
 bif decide (r1 < 0) then
  some (-1)
 else
  (qbr n a.Res r1).bind fun r2 =>
  bif decide (r2 < 0) then
   some (-1)
  else
   (qbr n a.Cap r2).bind fun r3 =>
   bif decide (r3 < 0) then
    some (-1)
   else
    (qbr n a.Sink r3).bind fun r4 =>
    bif decide (r4 < 0) then
     some (-1)
    else
     some r4

theorem qm1 {n : Nat} {w : World} {a : qS} {left : Int} {cs1 : List Value} (ha1 : GoT.R w (old w) a cs1) {r : Int} (hF : qhc n a left = some r) : RetV Tryz.prog 75 [GoT.v qS cs1, .int .i64 left] w r := by
 obtain ⟨p1, k1, p2, k2, p3, k3, p4, k4, rfl, s1, s2, s3, s4⟩ := qbJ ha1
 refine qe Tryz.func75 rfl (m := 30) rfl rfl (fun h => ?_)
 rw [qhc] at hF
 refine zSR (qN h rfl rfl ?_)
 intro w1 bb1 h
 refine zp1 rfl (zNSR (zp1 rfl (zl 0 0 h rfl (zp1 rfl ?_))))
 obtain ⟨r1, hr1, hF⟩ := qd hF
 refine qR r1 h call76 (qbk ⟨_, _, rfl, (h.oldS s1)⟩ hr1) rfl rfl rfl rfl ?_
 intro w2 h
 refine zp1 rfl (zNSSR (zp2 rfl (qb ?_)))
 refine qr rfl hF ?_ ?_ <;> intro hF
 ·exact zSR (zp1 rfl (qb (qaA qc h hF ⟨rfl, trivial⟩)))
 refine zKSR (zp1 rfl (zl 0 1 h rfl (zp1 rfl ?_)))
 obtain ⟨r2, hr2, hF⟩ := qd hF
 refine qR r2 h call76 (qbk ⟨_, _, rfl, (h.oldS s2)⟩ hr2) rfl rfl rfl rfl ?_
 intro w3 h
 refine zp1 rfl (zNSSR (zp2 rfl (qb ?_)))
 refine qr rfl hF ?_ ?_ <;> intro hF
 ·exact zSR (zp1 rfl (qb (qaA qc h hF ⟨rfl, trivial⟩)))
 refine zKSR (zp1 rfl (zl 0 2 h rfl (zp1 rfl ?_)))
 obtain ⟨r3, hr3, hF⟩ := qd hF
 refine qR r3 h call76 (qbk ⟨_, _, rfl, (h.oldS s3)⟩ hr3) rfl rfl rfl rfl ?_
 intro w4 h
 refine zp1 rfl (zNSSR (zp2 rfl (qb ?_)))
 refine qr rfl hF ?_ ?_ <;> intro hF
 ·exact zSR (zp1 rfl (qb (qaA qc h hF ⟨rfl, trivial⟩)))
 refine zKSR (zp1 rfl (zl 0 3 h rfl (zp1 rfl ?_)))
 obtain ⟨r4, hr4, hF⟩ := qd hF
 refine qR r4 h call76 (qbk ⟨_, _, rfl, (h.oldS s4)⟩ hr4) rfl rfl rfl rfl ?_
 intro w5 h
 refine zp1 rfl (zNSSR (zp2 rfl (qb ?_)))
 refine qr rfl hF ?_ ?_ <;> intro hF
 ·exact zSR (zp1 rfl (qb (qaA qc h hF ⟨rfl, trivial⟩)))
 exact zKSR (zp2 rfl (qb (qaA qc h hF ⟨rfl, trivial⟩)))

def qdx (a : (List qS)) : Nat → Int → Int → Option (Flow Int (Int × Int))
 | 0, _, _ => none
 | n + 1, i1, i2 =>
  bif decide (i2 < (a.length : Int)) then
   (idx a i2).bind fun y1 =>
   (qhc n y1 i1).bind fun r1 =>
   bif decide (r1 < 0) then
    some (.ret (-1))
   else
    qdx a n r1 (W64 (i2 + 1))
  else
   some (.nxt (i1, i2))

def qiF (n : Nat) (a : (List qS)) (left : Int) : Option Int :=
 bif decide ((W64 (left - (a.length : Int))) < 0) then
  some (-1)
 else
  (qdx a n (W64 (left - (a.length : Int))) 0).bind fun o => match o with
  | .ret r => some r
  | .nxt (i1, _) =>
   some i1

theorem qmr {n : Nat} {w : World} {a : (List qS)} {left : Int} {cs1 : List Value} (ha1 : GoT.R w (old w) a cs1) {r : Int} (hF : qiF n a left = some r) : RetV Tryz.prog 39 [GoT.v (List qS) cs1, .int .i64 left] w r := by
 obtain ⟨p1, k1, rfl, s1⟩ := ha1
 refine qe Tryz.func39 rfl (m := 27) rfl rfl (fun h => ?_)
 rw [qiF] at hF
 refine zSR (zp1 rfl (zNSR (zp5 rfl (qb ?_))))
 refine zSSR (zp2 rfl (qb ?_))
 refine qr rfl hF ?_ ?_ <;> intro hF
 ·exact zSR (zp1 rfl (qb (qaA qc h hF ⟨rfl, trivial⟩)))
 refine zKSSR (zp1 rfl (qb ?_))
 obtain ⟨o1, hF, hK1⟩ := qd hF
 refine qw (qP [(0, _), (1, _), (5, _)] ⟨rfl, rfl, rfl, trivial⟩ ?_)
 refine qH (fun m e w' => ∃ (i1 : Int) (i2 : Int), qdx a m i1 i2 = some o1 ∧ e = [(0, .slice p1 a.length k1), (1, .int .i64 i1), (5, .int .i64 i2)] ∧ SH w w' []) n ⟨_, _, hF, rfl, h⟩ ?_
 rintro m1 e1 w1 ⟨i1, i2, hF, rfl, h⟩
 rcases m1 with _ | m1
 ·rw [qdx] at hF
  cases hF
 rw [qdx] at hF
 refine zSSR (zp4 rfl (qb ?_))
 refine qr rfl hF ?_ ?_ <;> intro hF
 ·refine zKSBSR (zp2 rfl ?_)
  obtain ⟨y1, hy1, hF⟩ := qd hF
  have he1 := qf hy1
  obtain ⟨b1, o_1, q1, cs2, hp1, hq1, -, hr1, hc3⟩ := s1.at hy1
  obtain ⟨p2, k2, p3, k3, p4, k4, p5, k5, rfl, s2, s3, s4, s5⟩ := qbJ hr1
  refine zxe hp1 hq1 he1 rfl (zc 0 (hc3.below h.below) rfl (zp1 rfl ?_))
  obtain ⟨r1, hr2, hF⟩ := qd hF
  refine qR r1 h call75 (qm1 (qiI y1 (h.oldS s2) (h.oldS s3) (h.oldS s4) (h.oldS s5)) hr2) rfl rfl rfl rfl ?_
  intro w2 h
  refine zp1 rfl (zNSR (zp2 rfl (qb ?_)))
  refine qr rfl hF ?_ ?_ <;> intro hF
  ·refine zSR (zp1 rfl (qb ?_))
   obtain rfl := qh hF; replace hF := hK1
   exact qaA qc h hF ⟨rfl, trivial⟩
  exact zKER (zp3 rfl (qb (qA m1 [(0, _), (1, _), (5, _)] (Nat.lt_succ_self m1) ⟨rfl, rfl, rfl, trivial⟩ ⟨_, _, hF, rfl, h⟩)))
 refine qG rfl ?_
 obtain rfl := qh hF; replace hF := hK1
 exact zSR (zp2 rfl (qb (qaA qc h hF ⟨rfl, trivial⟩)))

def qhs (n : Nat) (a : qz) (left : Int) : Option Int :=
 (qgf n (⟨a.Library.Cells⟩ : qv) left).bind fun r1 =>
 bif decide (r1 < 0) then
  some (-1)
 else
  (qgS n (⟨a.Design.Instances, a.Design.Nets, a.Design.Ports⟩ : qj) r1).bind fun r2 =>
  bif decide (r2 < 0) then
   some (-1)
  else
   (qiF n a.Wires r2).bind fun r3 =>
   bif decide (r3 < 0) then
    some (-1)
   else
    some r3

theorem qmz {n : Nat} {w : World} {a : qz} {left : Int} {cs1 : List Value} (ha1 : GoT.R w (old w) a cs1) {r : Int} (hF : qhs n a left = some r) : RetV Tryz.prog 9 [GoT.v qz cs1, .int .i64 left] w r := by
 obtain ⟨p1, k1, p2, k2, p3, k3, p4, k4, p5, k5, rfl, s1, s2, s3, s4, s5⟩ := qaq ha1
 refine qe Tryz.func9 rfl (m := 24) rfl rfl (fun h => ?_)
 rw [qhs] at hF
 refine zSR (qN h rfl rfl ?_)
 intro w1 bb1 h
 refine zp1 rfl (zNSR (zp1 rfl (zl 0 0 h rfl (zp1 rfl ?_))))
 obtain ⟨r1, hr1, hF⟩ := qd hF
 refine qR r1 h call37 (qlp (qdK (⟨a.Library.Cells⟩ : qv) (h.oldS s1)) hr1) rfl rfl rfl rfl ?_
 intro w2 h
 refine zp1 rfl (zNSSR (zp2 rfl (qb ?_)))
 refine qr rfl hF ?_ ?_ <;> intro hF
 ·exact zSR (zp1 rfl (qb (qaA qc h hF ⟨rfl, trivial⟩)))
 refine zKSR (zp1 rfl (zl 0 1 h rfl (zp1 rfl ?_)))
 obtain ⟨r2, hr2, hF⟩ := qd hF
 refine qR r2 h call38 (qlU (qbd (⟨a.Design.Instances, a.Design.Nets, a.Design.Ports⟩ : qj) (h.oldS s2) (h.oldS s3) (h.oldS s4)) hr2) rfl rfl rfl rfl ?_
 intro w3 h
 refine zp1 rfl (zNSSR (zp2 rfl (qb ?_)))
 refine qr rfl hF ?_ ?_ <;> intro hF
 ·exact zSR (zp1 rfl (qb (qaA qc h hF ⟨rfl, trivial⟩)))
 refine zKSR (zp1 rfl (zl 0 4 h rfl (zp1 rfl ?_)))
 obtain ⟨r3, hr3, hF⟩ := qd hF
 refine qR r3 h call39 (qmr ⟨_, _, rfl, (h.oldS s5)⟩ hr3) rfl rfl rfl rfl ?_
 intro w4 h
 refine zp1 rfl (zNSSR (zp2 rfl (qb ?_)))
 refine qr rfl hF ?_ ?_ <;> intro hF
 ·exact zSR (zp1 rfl (qb (qaA qc h hF ⟨rfl, trivial⟩)))
 exact zKSR (zp2 rfl (qb (qaA qc h hF ⟨rfl, trivial⟩)))

def qdC (a : (List Int)) : Nat → (List Int) → Int → Option ((List Int) × Int)
 | 0, _, _ => none
 | n + 1, x2, i1 =>
  bif decide (i1 < (a.length : Int)) then
   (idx a i1).bind fun y1 =>
   (idx x2 i1).bind fun _ =>
   qdC a n (setS x2 i1 y1) (W64 (i1 + 1))
  else
   some (x2, i1)

def qaK (n : Nat) (a : (List Int)) : Option (List Int) :=
 (mkS (a.length : Int) (0 : Int)).bind fun x1 =>
 (qdC a n x1 0).bind fun o => match o with
 | (x2, _) =>
  some x2

theorem qaG {n : Nat} {w : World} {a : (List Int)} {cs1 : List Value} (ha1 : GoT.R w (old w) a cs1) {r : (List Int)} (hF : qaK n a = some r) : RetV Tryz.prog 14 [GoT.v (List Int) cs1] w r := by
 obtain ⟨p1, k1, rfl, s1⟩ := ha1
 refine qe Tryz.func14 rfl (m := 22) rfl rfl (fun h => ?_)
 rw [qaK] at hF
 refine zSR (zp1 rfl (zNSR (zp2 rfl ?_)))
 obtain ⟨x1, hx1, hF⟩ := qd hF
 obtain ⟨g1, g2, hx1⟩ := qd2 hx1
 refine qe8 qc Int h rfl rfl rfl rfl rfl rfl rfl rfl rfl g1 g2 hx1 rfl ?_
 intro w1 S1 p2 h
 refine zp1 rfl (zNSSR (zp1 rfl (qb ?_)))
 obtain ⟨o1, hF, hK1⟩ := qd hF
 refine qw (qP [(0, _), (3, _), (4, _)] ⟨rfl, rfl, rfl, trivial⟩ ?_)
 refine qH (fun m e w' => ∃ (x2 : (List Int)) (i1 : Int), qdC a m x2 i1 = some o1 ∧ e = [(0, .slice p1 a.length k1), (3, .slice p2 x1.length x1.length), (4, .int .i64 i1)] ∧ SH w w' [Ch.own S1 (x2 : List Int) [.slice p2 x1.length x1.length]]) n ⟨_, _, hF, rfl, h⟩ ?_
 rintro m1 e1 w2 ⟨x2, i1, hF, rfl, h⟩
 rcases m1 with _ | m1
 ·rw [qdC] at hF
  cases hF
 rw [qdC] at hF
 refine zSSR (zp4 rfl (qb ?_))
 refine qr rfl hF ?_ ?_ <;> intro hF
 ·refine zKSBR (zp4 rfl ?_)
  obtain ⟨y1, hy1, hF⟩ := qd hF
  have he1 := qf hy1
  obtain ⟨b1, o_1, q1, cs2, hp1, hq1, -, hr1, hc2⟩ := s1.at hy1
  obtain rfl := hr1
  refine zxe hp1 hq1 he1 rfl (zc 0 (hc2.below h.below) rfl ?_)
  obtain ⟨y2, hy2, hF⟩ := qd hF
  have he2 := qf hy2
  obtain ⟨b2, o_2, q2, cs3, hp2, hq2, -, hr2, hc3⟩ := (h.sl 0 rfl).1.at hy2
  obtain rfl := hr2
  refine zx hp2 hq2 ⟨he2.1, qae he2.2.1 (h.sl 0 rfl).2⟩ rfl (qdj qc 0 0 y1 h rfl hy2 hp2 hq2 rfl hc3 rfl rfl rfl rfl rfl rfl rfl ?_)
  intro w3 h
  exact zNER (zp3 rfl (qb (qA m1 [(0, _), (3, _), (4, _)] (Nat.lt_succ_self m1) ⟨rfl, rfl, rfl, trivial⟩ ⟨_, _, hF, rfl, h⟩)))
 refine qG rfl ?_
 obtain rfl := qh hF; replace hF := hK1
 refine zSR (zp2 rfl (qb ?_))
 obtain rfl := qh hF
 exact qaj qc (ρ := (List Int)) [GoT.v (List Int) [.slice p2 x1.length x1.length]] h ⟨rfl, trivial⟩ (PV.done h (qap (qad 0 h rfl)))

def qh3 (_ : Nat) (a : qan) : Option qan :=
 some (⟨a.Name, a.Dir, a.Cap, a.Clock⟩ : qan)

theorem qnE {n : Nat} {w : World} {a : qan} {cs1 : List Value} (ha1 : GoT.R w (old w) a cs1) {r : qan} (hF : qh3 n a = some r) : RetV Tryz.prog 198 [GoT.v qan cs1] w r := by
 obtain rfl := qa5 ha1
 refine qe Tryz.func198 rfl (m := 17) rfl rfl (fun h => ?_)
 rw [qh3] at hF
 refine zSR (qN h rfl rfl ?_)
 intro w1 bb1 h
 refine qaa qc h rfl rfl rfl ?_
 intro w2 bb2 h
 refine zNSR (qaa qc h rfl rfl rfl ?_)
 intro w3 bb3 h
 refine zNSR (zp1 rfl (zl 2 0 h rfl (zp1 rfl (zs 0 h rfl ?_))))
 intro w4 h
 refine zNSR (zp1 rfl (zl 2 1 h rfl (zp1 rfl (zs 0 h rfl ?_))))
 intro w5 h
 replace h : SH _ _ [Ch.box bb3 [.string a.Name, .int .i64 a.Dir, .int .i64 0, .bool false] 238, Ch.box bb2 [.string ByteArray.empty, .int .i64 0, .int .i64 0, .bool false] 238, Ch.box bb1 [.string a.Name, .int .i64 a.Dir, .int .i64 a.Cap, .bool a.Clock] 257] := h
 refine zNSR (zp1 rfl (zl 2 2 h rfl (zp1 rfl (zs 0 h rfl ?_))))
 intro w6 h
 refine zNSR (zp1 rfl (zl 2 3 h rfl (zp1 rfl (zs 0 h rfl ?_))))
 intro w7 h
 replace h : SH _ _ [Ch.box bb3 [.string a.Name, .int .i64 a.Dir, .int .i64 a.Cap, .bool a.Clock] 238, Ch.box bb2 [.string ByteArray.empty, .int .i64 0, .int .i64 0, .bool false] 238, Ch.box bb1 [.string a.Name, .int .i64 a.Dir, .int .i64 a.Cap, .bool a.Clock] 257] := h
 refine zNSR (zl 0 0 h rfl (zs 1 h rfl ?_))
 intro w8 h
 refine qb ?_
 obtain rfl := qh hF
 exact qaj qc (ρ := qan) [GoT.v qan [.string a.Name, .int .i64 a.Dir, .int .i64 a.Cap, .bool a.Clock]] h ⟨⟨_, _, _, rfl, rfl, h.box 1 rfl, rfl⟩, trivial⟩ (PV.done h (qap (qao (S := fun _ => False) (qeg (⟨a.Name, a.Dir, a.Cap, a.Clock⟩ : qan)))))

def qeC (a : (List qan)) : Nat → (List qan) → Int → Option ((List qan) × Int)
 | 0, _, _ => none
 | n + 1, x2, i1 =>
  bif decide (i1 < (a.length : Int)) then
   (idx a i1).bind fun y1 =>
   (qh3 n y1).bind fun r1 =>
   (idx x2 i1).bind fun _ =>
   qeC a n (setS x2 i1 r1) (W64 (i1 + 1))
  else
   some (x2, i1)

def qis (n : Nat) (a : (List qan)) : Option (List qan) :=
 (mkS (a.length : Int) ((⟨ByteArray.empty, 0, 0, false⟩ : qan) : qan)).bind fun x1 =>
 (qeC a n x1 0).bind fun o => match o with
 | (x2, _) =>
  some x2

theorem qnc {n : Nat} {w : World} {a : (List qan)} {cs1 : List Value} (ha1 : GoT.R w (old w) a cs1) {r : (List qan)} (hF : qis n a = some r) : RetV Tryz.prog 171 [GoT.v (List qan) cs1] w r := by
 obtain ⟨p1, k1, rfl, s1⟩ := ha1
 refine qe Tryz.func171 rfl (m := 23) rfl rfl (fun h => ?_)
 rw [qis] at hF
 refine zSR (zp1 rfl (zNSR (zp2 rfl ?_)))
 obtain ⟨x1, hx1, hF⟩ := qd hF
 obtain ⟨g1, g2, hx1⟩ := qd2 hx1
 refine qe8 qc qan h rfl rfl rfl rfl rfl rfl rfl rfl rfl g1 g2 hx1 rfl ?_
 intro w1 S1 p2 h
 refine zp1 rfl (zNSSR (zp1 rfl (qb ?_)))
 obtain ⟨o1, hF, hK1⟩ := qd hF
 refine qw (qP [(0, _), (3, _), (4, _)] ⟨rfl, rfl, rfl, trivial⟩ ?_)
 refine qH (fun m e w' => ∃ (x2 : (List qan)) (i1 : Int), qeC a m x2 i1 = some o1 ∧ e = [(0, .slice p1 a.length k1), (3, .slice p2 x1.length x1.length), (4, .int .i64 i1)] ∧ SH w w' [Ch.own S1 (x2 : List qan) [.slice p2 x1.length x1.length]]) n ⟨_, _, hF, rfl, h⟩ ?_
 rintro m1 e1 w2 ⟨x2, i1, hF, rfl, h⟩
 rcases m1 with _ | m1
 ·rw [qeC] at hF
  cases hF
 rw [qeC] at hF
 refine zSSR (zp4 rfl (qb ?_))
 refine qr rfl hF ?_ ?_ <;> intro hF
 ·refine zKSBR (zp4 rfl ?_)
  obtain ⟨y1, hy1, hF⟩ := qd hF
  have he1 := qf hy1
  obtain ⟨b1, o_1, q1, cs2, hp1, hq1, -, hr1, hc2⟩ := s1.at hy1
  obtain rfl := qa5 hr1
  refine zxe hp1 hq1 he1 rfl (zc 0 (hc2.below h.below) rfl ?_)
  obtain ⟨r1, hr2, hF⟩ := qd hF
  refine qga r1 h call198 (qnE (qeg y1) hr2) rfl rfl rfl rfl ?_
  intro w3 S2 cs3 h
  obtain rfl := qa5 (h.own 0 rfl)
  obtain ⟨y2, hy2, hF⟩ := qd hF
  have he2 := qf hy2
  obtain ⟨b2, o_2, q2, cs4, hp2, hq2, -, hr3, hc3⟩ := (h.sl 1 rfl).1.at hy2
  obtain rfl := qa5 hr3
  refine zx hp2 hq2 ⟨he2.1, qae he2.2.1 (h.sl 1 rfl).2⟩ rfl (qdj qc 1 0 r1 h rfl hy2 hp2 hq2 (qeg y2) hc3 rfl rfl rfl (qeg r1) rfl rfl rfl ?_)
  intro w4 h
  refine zNER (zp3 rfl (qb ?_))
  replace h := h.pick [1] rfl
  exact qA m1 [(0, _), (3, _), (4, _)] (Nat.lt_succ_self m1) ⟨rfl, rfl, rfl, trivial⟩ ⟨_, _, hF, rfl, h⟩
 refine qG rfl ?_
 obtain rfl := qh hF; replace hF := hK1
 refine zSR (zp2 rfl (qb ?_))
 obtain rfl := qh hF
 exact qaj qc (ρ := (List qan)) [GoT.v (List qan) [.slice p2 x1.length x1.length]] h ⟨rfl, trivial⟩ (PV.done h (qap (qad 0 h rfl)))

def qgv (n : Nat) (a : qF) : Option qF :=
 (qaK n a.Slews).bind fun r1 =>
 (qaK n a.Loads).bind fun r2 =>
 (qaK n a.Values).bind fun r3 =>
 some (⟨r1, r2, r3⟩ : qF)

theorem qmk {n : Nat} {w : World} {a : qF} {cs1 : List Value} (ha1 : GoT.R w (old w) a cs1) {r : qF} (hF : qgv n a = some r) : RetV Tryz.prog 225 [GoT.v qF cs1] w r := by
 obtain ⟨p1, k1, p2, k2, p3, k3, rfl, s1, s2, s3⟩ := qbF ha1
 refine qe Tryz.func225 rfl (m := 17) rfl rfl (fun h => ?_)
 rw [qgv] at hF
 refine zSR (qN h rfl rfl ?_)
 intro w1 bb1 h
 refine qaa qc h rfl rfl rfl ?_
 intro w2 bb2 h
 refine zNSR (qaa qc h rfl rfl rfl ?_)
 intro w3 bb3 h
 refine zNSR (zp1 rfl (zl 2 0 h rfl ?_))
 obtain ⟨r1, hr1, hF⟩ := qd hF
 refine qai r1 h call14 (qaG ⟨_, _, rfl, (h.oldS s1)⟩ hr1) rfl rfl rfl rfl ?_
 intro w4 S1 p4 k4 h
 refine zp1 rfl (zs 1 h rfl ?_)
 intro w5 h
 refine zNSR (zp1 rfl (zl 3 1 h rfl ?_))
 obtain ⟨r2, hr2, hF⟩ := qd hF
 refine qai r2 h call14 (qaG ⟨_, _, rfl, (h.oldS s2)⟩ hr2) rfl rfl rfl rfl ?_
 intro w6 S2 p5 k5 h
 refine zp1 rfl (zs 2 h rfl ?_)
 intro w7 h
 replace h : SH _ _ [Ch.own S2 (r2 : List Int) [.slice p5 r2.length k5], Ch.own S1 (r1 : List Int) [.slice p4 r1.length k4], Ch.box bb3 [.slice p4 r1.length k4, .slice p5 r2.length k5, .slice none 0 0] 267, Ch.box bb2 [.slice none 0 0, .slice none 0 0, .slice none 0 0] 267, Ch.box bb1 [.slice p1 a.Slews.length k1, .slice p2 a.Loads.length k2, .slice p3 a.Values.length k3] 283] := h
 refine zNSR (zp1 rfl (zl 4 2 h rfl ?_))
 obtain ⟨r3, hr3, hF⟩ := qd hF
 refine qai r3 h call14 (qaG ⟨_, _, rfl, (h.oldS s3)⟩ hr3) rfl rfl rfl rfl ?_
 intro w8 S3 p6 k6 h
 refine zp1 rfl (zs 3 h rfl ?_)
 intro w9 h
 refine zNSR (zl 3 0 h rfl (zs 4 h rfl ?_))
 intro w10 h
 replace h : SH _ _ [Ch.own S3 (r3 : List Int) [.slice p6 r3.length k6], Ch.own S2 (r2 : List Int) [.slice p5 r2.length k5], Ch.own S1 (r1 : List Int) [.slice p4 r1.length k4], Ch.box bb3 [.slice p4 r1.length k4, .slice p5 r2.length k5, .slice p6 r3.length k6] 267, Ch.box bb2 [.slice p4 r1.length k4, .slice p5 r2.length k5, .slice p6 r3.length k6] 267, Ch.box bb1 [.slice p1 a.Slews.length k1, .slice p2 a.Loads.length k2, .slice p3 a.Values.length k3] 283] := h
 refine qb ?_
 obtain rfl := qh hF
 exact qaj qc (ρ := qF) [GoT.v qF [.slice p4 r1.length k4, .slice p5 r2.length k5, .slice p6 r3.length k6]] h ⟨⟨_, _, _, rfl, rfl, h.box 4 rfl, rfl⟩, trivial⟩ (PV.done h (qap (qnR (⟨r1, r2, r3⟩ : qF) h (qad 2 h rfl) (qad 1 h rfl) (qad 0 h rfl) (by rfl) (by rfl))))

def qdA (a : (List qF)) : Nat → (List qF) → Int → Option ((List qF) × Int)
 | 0, _, _ => none
 | n + 1, x2, i1 =>
  bif decide (i1 < (a.length : Int)) then
   (idx a i1).bind fun y1 =>
   (qgv n y1).bind fun r1 =>
   (idx x2 i1).bind fun _ =>
   qdA a n (setS x2 i1 r1) (W64 (i1 + 1))
  else
   some (x2, i1)

def qf0 (n : Nat) (a : (List qF)) : Option (List qF) :=
 (mkS (a.length : Int) ((⟨[], [], []⟩ : qF) : qF)).bind fun x1 =>
 (qdA a n x1 0).bind fun o => match o with
 | (x2, _) =>
  some x2

theorem qju {n : Nat} {w : World} {a : (List qF)} {cs1 : List Value} (ha1 : GoT.R w (old w) a cs1) {r : (List qF)} (hF : qf0 n a = some r) : RetV Tryz.prog 213 [GoT.v (List qF) cs1] w r := by
 obtain ⟨p1, k1, rfl, s1⟩ := ha1
 refine qe Tryz.func213 rfl (m := 23) rfl rfl (fun h => ?_)
 rw [qf0] at hF
 refine zSR (zp1 rfl (zNSR (zp2 rfl ?_)))
 obtain ⟨x1, hx1, hF⟩ := qd hF
 obtain ⟨g1, g2, hx1⟩ := qd2 hx1
 refine qe8 qc qF h rfl rfl rfl rfl rfl rfl rfl rfl rfl g1 g2 hx1 rfl ?_
 intro w1 S1 p2 h
 refine zp1 rfl (zNSSR (zp1 rfl (qb ?_)))
 obtain ⟨o1, hF, hK1⟩ := qd hF
 refine qw (qP [(0, _), (3, _), (4, _)] ⟨rfl, rfl, rfl, trivial⟩ ?_)
 refine qH (fun m e w' => ∃ (S2 : Nat → Prop) (x2 : (List qF)) (i1 : Int), qdA a m x2 i1 = some o1 ∧ e = [(0, .slice p1 a.length k1), (3, .slice p2 x1.length x1.length), (4, .int .i64 i1)] ∧ SH w w' [Ch.own S2 (x2 : List qF) [.slice p2 x1.length x1.length]]) n ⟨_, _, _, hF, rfl, h⟩ ?_
 rintro m1 e1 w2 ⟨S2, x2, i1, hF, rfl, h⟩
 rcases m1 with _ | m1
 ·rw [qdA] at hF
  cases hF
 rw [qdA] at hF
 refine zSSR (zp4 rfl (qb ?_))
 refine qr rfl hF ?_ ?_ <;> intro hF
 ·refine zKSBR (zp4 rfl ?_)
  obtain ⟨y1, hy1, hF⟩ := qd hF
  have he1 := qf hy1
  obtain ⟨b1, o_1, q1, cs2, hp1, hq1, -, hr1, hc2⟩ := s1.at hy1
  obtain ⟨p3, k2, p4, k3, p5, k4, rfl, s2, s3, s4⟩ := qbF hr1
  refine zxe hp1 hq1 he1 rfl (zc 0 (hc2.below h.below) rfl ?_)
  obtain ⟨r1, hr2, hF⟩ := qd hF
  refine qga r1 h call225 (qmk (qh0 y1 (h.oldS s2) (h.oldS s3) (h.oldS s4)) hr2) rfl rfl rfl rfl ?_
  intro w3 S3 cs3 h
  obtain ⟨p6, k5, p7, k6, p8, k7, rfl, -, -, -⟩ := qbF (h.own 0 rfl)
  obtain ⟨y2, hy2, hF⟩ := qd hF
  have he2 := qf hy2
  replace h := h.lrn0 1 rfl
  obtain ⟨b2, o_2, q2, cs4, hp2, hq2, -, hr3, hc3⟩ := (qiA (h.lrnO 1 rfl)).1.at hy2
  have hr4 := hr3
  obtain ⟨p9, k8, p10, k9, p11, k10, rfl, s8, s9, s10⟩ := qbF hr3
  replace h := h.lrnAdd 1 rfl hr4
  refine zx hp2 hq2 ⟨he2.1, qae he2.2.1 (qiA (h.lrnO 1 rfl)).2⟩ rfl ?_
  replace h := h.unlrn 1 rfl
  refine qjv qc r1 h hy2 hp2 hq2 rfl rfl rfl rfl rfl ?_
  intro w4 S4 h
  exact zNER (zp3 rfl (qb (qA m1 [(0, _), (3, _), (4, _)] (Nat.lt_succ_self m1) ⟨rfl, rfl, rfl, trivial⟩ ⟨_, _, _, hF, rfl, h⟩)))
 refine qG rfl ?_
 obtain rfl := qh hF; replace hF := hK1
 refine zSR (zp2 rfl (qb ?_))
 obtain rfl := qh hF
 exact qaj qc (ρ := (List qF)) [GoT.v (List qF) [.slice p2 x1.length x1.length]] h ⟨rfl, trivial⟩ (PV.done h (qap (qad 0 h rfl)))

def qh4 (n : Nat) (a : qV) : Option qV :=
 (qf0 n a.Delay).bind fun r1 =>
 (qf0 n a.Slew).bind fun r2 =>
 some (⟨a.Kind, a.From, a.To, a.Sense, r1, r2⟩ : qV)

theorem qnK {n : Nat} {w : World} {a : qV} {cs1 : List Value} (ha1 : GoT.R w (old w) a cs1) {r : qV} (hF : qh4 n a = some r) : RetV Tryz.prog 199 [GoT.v qV cs1] w r := by
 obtain ⟨p1, k1, p2, k2, rfl, s1, s2⟩ := qaH ha1
 refine qe Tryz.func199 rfl (m := 25) rfl rfl (fun h => ?_)
 rw [qh4] at hF
 refine zSR (qN h rfl rfl ?_)
 intro w1 bb1 h
 refine qaa qc h rfl rfl rfl ?_
 intro w2 bb2 h
 refine zNSR (qaa qc h rfl rfl rfl ?_)
 intro w3 bb3 h
 refine zNSR (zp1 rfl (zl 2 0 h rfl (zp1 rfl (zs 0 h rfl ?_))))
 intro w4 h
 refine zNSR (zp1 rfl (zl 2 1 h rfl (zp1 rfl (zs 0 h rfl ?_))))
 intro w5 h
 replace h : SH _ _ [Ch.box bb3 [.int .i64 a.Kind, .int .i64 a.From, .int .i64 0, .int .i64 0, .slice none 0 0, .slice none 0 0] 211, Ch.box bb2 [.int .i64 0, .int .i64 0, .int .i64 0, .int .i64 0, .slice none 0 0, .slice none 0 0] 211, Ch.box bb1 [.int .i64 a.Kind, .int .i64 a.From, .int .i64 a.To, .int .i64 a.Sense, .slice p1 a.Delay.length k1, .slice p2 a.Slew.length k2] 261] := h
 refine zNSR (zp1 rfl (zl 2 2 h rfl (zp1 rfl (zs 0 h rfl ?_))))
 intro w6 h
 refine zNSR (zp1 rfl (zl 2 3 h rfl (zp1 rfl (zs 0 h rfl ?_))))
 intro w7 h
 replace h : SH _ _ [Ch.box bb3 [.int .i64 a.Kind, .int .i64 a.From, .int .i64 a.To, .int .i64 a.Sense, .slice none 0 0, .slice none 0 0] 211, Ch.box bb2 [.int .i64 0, .int .i64 0, .int .i64 0, .int .i64 0, .slice none 0 0, .slice none 0 0] 211, Ch.box bb1 [.int .i64 a.Kind, .int .i64 a.From, .int .i64 a.To, .int .i64 a.Sense, .slice p1 a.Delay.length k1, .slice p2 a.Slew.length k2] 261] := h
 refine zNSR (zp1 rfl (zl 2 4 h rfl ?_))
 obtain ⟨r1, hr1, hF⟩ := qd hF
 refine qai r1 h call213 (qju ⟨_, _, rfl, (h.oldS s1)⟩ hr1) rfl rfl rfl rfl ?_
 intro w8 S1 p3 k3 h
 refine zp1 rfl (zs 1 h rfl ?_)
 intro w9 h
 refine zNSR (zp1 rfl (zl 3 5 h rfl ?_))
 obtain ⟨r2, hr2, hF⟩ := qd hF
 refine qai r2 h call213 (qju ⟨_, _, rfl, (h.oldS s2)⟩ hr2) rfl rfl rfl rfl ?_
 intro w10 S2 p4 k4 h
 refine zp1 rfl (zs 2 h rfl ?_)
 intro w11 h
 replace h : SH _ _ [Ch.own S2 (r2 : List qF) [.slice p4 r2.length k4], Ch.own S1 (r1 : List qF) [.slice p3 r1.length k3], Ch.box bb3 [.int .i64 a.Kind, .int .i64 a.From, .int .i64 a.To, .int .i64 a.Sense, .slice p3 r1.length k3, .slice p4 r2.length k4] 211, Ch.box bb2 [.int .i64 0, .int .i64 0, .int .i64 0, .int .i64 0, .slice none 0 0, .slice none 0 0] 211, Ch.box bb1 [.int .i64 a.Kind, .int .i64 a.From, .int .i64 a.To, .int .i64 a.Sense, .slice p1 a.Delay.length k1, .slice p2 a.Slew.length k2] 261] := h
 refine zNSR (zl 2 0 h rfl (zs 3 h rfl ?_))
 intro w12 h
 refine qb ?_
 obtain rfl := qh hF
 exact qaj qc (ρ := qV) [GoT.v qV [.int .i64 a.Kind, .int .i64 a.From, .int .i64 a.To, .int .i64 a.Sense, .slice p3 r1.length k3, .slice p4 r2.length k4]] h ⟨⟨_, _, _, rfl, rfl, h.box 3 rfl, rfl⟩, trivial⟩ (PV.done h (qap (qqh (⟨a.Kind, a.From, a.To, a.Sense, r1, r2⟩ : qV) h (qao (S := fun _ => False) rfl) (qao (S := fun _ => False) rfl) (qao (S := fun _ => False) rfl) (qao (S := fun _ => False) rfl) (qad 1 h rfl) (qad 0 h rfl) (by rfl) (by rfl) (by rfl) (by rfl) (by rfl))))

def qeM (a : (List qV)) : Nat → (List qV) → Int → Option ((List qV) × Int)
 | 0, _, _ => none
 | n + 1, x2, i1 =>
  bif decide (i1 < (a.length : Int)) then
   (idx a i1).bind fun y1 =>
   (qh4 n y1).bind fun r1 =>
   (idx x2 i1).bind fun _ =>
   qeM a n (setS x2 i1 r1) (W64 (i1 + 1))
  else
   some (x2, i1)

def qig (n : Nat) (a : (List qV)) : Option (List qV) :=
 (mkS (a.length : Int) ((⟨0, 0, 0, 0, [], []⟩ : qV) : qV)).bind fun x1 =>
 (qeM a n x1 0).bind fun o => match o with
 | (x2, _) =>
  some x2

theorem qnh {n : Nat} {w : World} {a : (List qV)} {cs1 : List Value} (ha1 : GoT.R w (old w) a cs1) {r : (List qV)} (hF : qig n a = some r) : RetV Tryz.prog 172 [GoT.v (List qV) cs1] w r := by
 obtain ⟨p1, k1, rfl, s1⟩ := ha1
 refine qe Tryz.func172 rfl (m := 23) rfl rfl (fun h => ?_)
 rw [qig] at hF
 refine zSR (zp1 rfl (zNSR (zp2 rfl ?_)))
 obtain ⟨x1, hx1, hF⟩ := qd hF
 obtain ⟨g1, g2, hx1⟩ := qd2 hx1
 refine qe8 qc qV h rfl rfl rfl rfl rfl rfl rfl rfl rfl g1 g2 hx1 rfl ?_
 intro w1 S1 p2 h
 refine zp1 rfl (zNSSR (zp1 rfl (qb ?_)))
 obtain ⟨o1, hF, hK1⟩ := qd hF
 refine qw (qP [(0, _), (3, _), (4, _)] ⟨rfl, rfl, rfl, trivial⟩ ?_)
 refine qH (fun m e w' => ∃ (S2 : Nat → Prop) (x2 : (List qV)) (i1 : Int), qeM a m x2 i1 = some o1 ∧ e = [(0, .slice p1 a.length k1), (3, .slice p2 x1.length x1.length), (4, .int .i64 i1)] ∧ SH w w' [Ch.own S2 (x2 : List qV) [.slice p2 x1.length x1.length]]) n ⟨_, _, _, hF, rfl, h⟩ ?_
 rintro m1 e1 w2 ⟨S2, x2, i1, hF, rfl, h⟩
 rcases m1 with _ | m1
 ·rw [qeM] at hF
  cases hF
 rw [qeM] at hF
 refine zSSR (zp4 rfl (qb ?_))
 refine qr rfl hF ?_ ?_ <;> intro hF
 ·refine zKSBR (zp4 rfl ?_)
  obtain ⟨y1, hy1, hF⟩ := qd hF
  have he1 := qf hy1
  obtain ⟨b1, o_1, q1, cs2, hp1, hq1, -, hr1, hc2⟩ := s1.at hy1
  obtain ⟨p3, k2, p4, k3, rfl, s2, s3⟩ := qaH hr1
  refine zxe hp1 hq1 he1 rfl (zc 0 (hc2.below h.below) rfl ?_)
  obtain ⟨r1, hr2, hF⟩ := qd hF
  refine qga r1 h call199 (qnK (qgl y1 (h.oldS s2) (h.oldS s3)) hr2) rfl rfl rfl rfl ?_
  intro w3 S3 cs3 h
  obtain ⟨p5, k4, p6, k5, rfl, -, -⟩ := qaH (h.own 0 rfl)
  obtain ⟨y2, hy2, hF⟩ := qd hF
  have he2 := qf hy2
  replace h := h.lrn0 1 rfl
  obtain ⟨b2, o_2, q2, cs4, hp2, hq2, -, hr3, hc3⟩ := (qiA (h.lrnO 1 rfl)).1.at hy2
  have hr4 := hr3
  obtain ⟨p7, k6, p8, k7, rfl, s6, s7⟩ := qaH hr3
  replace h := h.lrnAdd 1 rfl hr4
  refine zx hp2 hq2 ⟨he2.1, qae he2.2.1 (qiA (h.lrnO 1 rfl)).2⟩ rfl ?_
  replace h := h.unlrn 1 rfl
  refine qjv qc r1 h hy2 hp2 hq2 rfl rfl rfl rfl rfl ?_
  intro w4 S4 h
  exact zNER (zp3 rfl (qb (qA m1 [(0, _), (3, _), (4, _)] (Nat.lt_succ_self m1) ⟨rfl, rfl, rfl, trivial⟩ ⟨_, _, _, hF, rfl, h⟩)))
 refine qG rfl ?_
 obtain rfl := qh hF; replace hF := hK1
 refine zSR (zp2 rfl (qb ?_))
 obtain rfl := qh hF
 exact qaj qc (ρ := (List qV)) [GoT.v (List qV) [.slice p2 x1.length x1.length]] h ⟨rfl, trivial⟩ (PV.done h (qap (qad 0 h rfl)))

def qhe (n : Nat) (a : qC) : Option qC :=
 (qis n a.Pins).bind fun r1 =>
 (qig n a.Arcs).bind fun r2 =>
 (qaK n a.Truth).bind fun r3 =>
 some (⟨a.Name, a.Kind, r1, r2, r3, a.Leak, a.Energy⟩ : qC)

theorem qmZ {n : Nat} {w : World} {a : qC} {cs1 : List Value} (ha1 : GoT.R w (old w) a cs1) {r : qC} (hF : qhe n a = some r) : RetV Tryz.prog 125 [GoT.v qC cs1] w r := by
 obtain ⟨p1, k1, p2, k2, p3, k3, rfl, s1, s2, s3⟩ := qY ha1
 refine qe Tryz.func125 rfl (m := 29) rfl rfl (fun h => ?_)
 rw [qhe] at hF
 refine zSR (qN h rfl rfl ?_)
 intro w1 bb1 h
 refine qaa qc h rfl rfl rfl ?_
 intro w2 bb2 h
 refine zNSR (qaa qc h rfl rfl rfl ?_)
 intro w3 bb3 h
 refine zNSR (zp1 rfl (zl 2 0 h rfl (zp1 rfl (zs 0 h rfl ?_))))
 intro w4 h
 refine zNSR (zp1 rfl (zl 2 1 h rfl (zp1 rfl (zs 0 h rfl ?_))))
 intro w5 h
 replace h : SH _ _ [Ch.box bb3 [.string a.Name, .int .i64 a.Kind, .slice none 0 0, .slice none 0 0, .slice none 0 0, .int .i64 0, .int .i64 0] 183, Ch.box bb2 [.string ByteArray.empty, .int .i64 0, .slice none 0 0, .slice none 0 0, .slice none 0 0, .int .i64 0, .int .i64 0] 183, Ch.box bb1 [.string a.Name, .int .i64 a.Kind, .slice p1 a.Pins.length k1, .slice p2 a.Arcs.length k2, .slice p3 a.Truth.length k3, .int .i64 a.Leak, .int .i64 a.Energy] 171] := h
 refine zNSR (zp1 rfl (zl 2 2 h rfl ?_))
 obtain ⟨r1, hr1, hF⟩ := qd hF
 refine qai r1 h call171 (qnc ⟨_, _, rfl, (h.oldS s1)⟩ hr1) rfl rfl rfl rfl ?_
 intro w6 S1 p4 k4 h
 refine zp1 rfl (zs 1 h rfl ?_)
 intro w7 h
 refine zNSR (zp1 rfl (zl 3 3 h rfl ?_))
 obtain ⟨r2, hr2, hF⟩ := qd hF
 refine qai r2 h call172 (qnh ⟨_, _, rfl, (h.oldS s2)⟩ hr2) rfl rfl rfl rfl ?_
 intro w8 S2 p5 k5 h
 refine zp1 rfl (zs 2 h rfl ?_)
 intro w9 h
 replace h : SH _ _ [Ch.own S2 (r2 : List qV) [.slice p5 r2.length k5], Ch.own S1 (r1 : List qan) [.slice p4 r1.length k4], Ch.box bb3 [.string a.Name, .int .i64 a.Kind, .slice p4 r1.length k4, .slice p5 r2.length k5, .slice none 0 0, .int .i64 0, .int .i64 0] 183, Ch.box bb2 [.string ByteArray.empty, .int .i64 0, .slice none 0 0, .slice none 0 0, .slice none 0 0, .int .i64 0, .int .i64 0] 183, Ch.box bb1 [.string a.Name, .int .i64 a.Kind, .slice p1 a.Pins.length k1, .slice p2 a.Arcs.length k2, .slice p3 a.Truth.length k3, .int .i64 a.Leak, .int .i64 a.Energy] 171] := h
 refine zNSR (zp1 rfl (zl 4 4 h rfl ?_))
 obtain ⟨r3, hr3, hF⟩ := qd hF
 refine qai r3 h call14 (qaG ⟨_, _, rfl, (h.oldS s3)⟩ hr3) rfl rfl rfl rfl ?_
 intro w10 S3 p6 k6 h
 refine zp1 rfl (zs 3 h rfl ?_)
 intro w11 h
 refine zNSR (zp1 rfl (zl 5 5 h rfl (zp1 rfl (zs 3 h rfl ?_))))
 intro w12 h
 replace h : SH _ _ [Ch.own S3 (r3 : List Int) [.slice p6 r3.length k6], Ch.own S2 (r2 : List qV) [.slice p5 r2.length k5], Ch.own S1 (r1 : List qan) [.slice p4 r1.length k4], Ch.box bb3 [.string a.Name, .int .i64 a.Kind, .slice p4 r1.length k4, .slice p5 r2.length k5, .slice p6 r3.length k6, .int .i64 a.Leak, .int .i64 0] 183, Ch.box bb2 [.string ByteArray.empty, .int .i64 0, .slice none 0 0, .slice none 0 0, .slice none 0 0, .int .i64 0, .int .i64 0] 183, Ch.box bb1 [.string a.Name, .int .i64 a.Kind, .slice p1 a.Pins.length k1, .slice p2 a.Arcs.length k2, .slice p3 a.Truth.length k3, .int .i64 a.Leak, .int .i64 a.Energy] 171] := h
 refine zNSR (zp1 rfl (zl 5 6 h rfl (zp1 rfl (zs 3 h rfl ?_))))
 intro w13 h
 refine zNSR (zl 3 0 h rfl (zs 4 h rfl ?_))
 intro w14 h
 replace h : SH _ _ [Ch.own S3 (r3 : List Int) [.slice p6 r3.length k6], Ch.own S2 (r2 : List qV) [.slice p5 r2.length k5], Ch.own S1 (r1 : List qan) [.slice p4 r1.length k4], Ch.box bb3 [.string a.Name, .int .i64 a.Kind, .slice p4 r1.length k4, .slice p5 r2.length k5, .slice p6 r3.length k6, .int .i64 a.Leak, .int .i64 a.Energy] 183, Ch.box bb2 [.string a.Name, .int .i64 a.Kind, .slice p4 r1.length k4, .slice p5 r2.length k5, .slice p6 r3.length k6, .int .i64 a.Leak, .int .i64 a.Energy] 183, Ch.box bb1 [.string a.Name, .int .i64 a.Kind, .slice p1 a.Pins.length k1, .slice p2 a.Arcs.length k2, .slice p3 a.Truth.length k3, .int .i64 a.Leak, .int .i64 a.Energy] 171] := h
 refine qb ?_
 obtain rfl := qh hF
 exact qaj qc (ρ := qC) [GoT.v qC [.string a.Name, .int .i64 a.Kind, .slice p4 r1.length k4, .slice p5 r2.length k5, .slice p6 r3.length k6, .int .i64 a.Leak, .int .i64 a.Energy]] h ⟨⟨_, _, _, rfl, rfl, h.box 4 rfl, rfl⟩, trivial⟩ (PV.done h (qap (qo2 (⟨a.Name, a.Kind, r1, r2, r3, a.Leak, a.Energy⟩ : qC) h (qao (S := fun _ => False) rfl) (qao (S := fun _ => False) rfl) (qad 2 h rfl) (qad 1 h rfl) (qad 0 h rfl) (qao (S := fun _ => False) rfl) (qao (S := fun _ => False) rfl) (by rfl) (by rfl) (by rfl) (by rfl) (by rfl) (by rfl))))

def qea (a : (List qC)) : Nat → (List qC) → Int → Option ((List qC) × Int)
 | 0, _, _ => none
 | n + 1, x2, i1 =>
  bif decide (i1 < (a.length : Int)) then
   (idx a i1).bind fun y1 =>
   (qhe n y1).bind fun r1 =>
   (idx x2 i1).bind fun _ =>
   qea a n (setS x2 i1 r1) (W64 (i1 + 1))
  else
   some (x2, i1)

def qhM (n : Nat) (a : (List qC)) : Option (List qC) :=
 (mkS (a.length : Int) ((⟨ByteArray.empty, 0, [], [], [], 0, 0⟩ : qC) : qC)).bind fun x1 =>
 (qea a n x1 0).bind fun o => match o with
 | (x2, _) =>
  some x2

theorem qme {n : Nat} {w : World} {a : (List qC)} {cs1 : List Value} (ha1 : GoT.R w (old w) a cs1) {r : (List qC)} (hF : qhM n a = some r) : RetV Tryz.prog 80 [GoT.v (List qC) cs1] w r := by
 obtain ⟨p1, k1, rfl, s1⟩ := ha1
 refine qe Tryz.func80 rfl (m := 23) rfl rfl (fun h => ?_)
 rw [qhM] at hF
 refine zSR (zp1 rfl (zNSR (zp2 rfl ?_)))
 obtain ⟨x1, hx1, hF⟩ := qd hF
 obtain ⟨g1, g2, hx1⟩ := qd2 hx1
 refine qe8 qc qC h rfl rfl rfl rfl rfl rfl rfl rfl rfl g1 g2 hx1 rfl ?_
 intro w1 S1 p2 h
 refine zp1 rfl (zNSSR (zp1 rfl (qb ?_)))
 obtain ⟨o1, hF, hK1⟩ := qd hF
 refine qw (qP [(0, _), (3, _), (4, _)] ⟨rfl, rfl, rfl, trivial⟩ ?_)
 refine qH (fun m e w' => ∃ (S2 : Nat → Prop) (x2 : (List qC)) (i1 : Int), qea a m x2 i1 = some o1 ∧ e = [(0, .slice p1 a.length k1), (3, .slice p2 x1.length x1.length), (4, .int .i64 i1)] ∧ SH w w' [Ch.own S2 (x2 : List qC) [.slice p2 x1.length x1.length]]) n ⟨_, _, _, hF, rfl, h⟩ ?_
 rintro m1 e1 w2 ⟨S2, x2, i1, hF, rfl, h⟩
 rcases m1 with _ | m1
 ·rw [qea] at hF
  cases hF
 rw [qea] at hF
 refine zSSR (zp4 rfl (qb ?_))
 refine qr rfl hF ?_ ?_ <;> intro hF
 ·refine zKSBR (zp4 rfl ?_)
  obtain ⟨y1, hy1, hF⟩ := qd hF
  have he1 := qf hy1
  obtain ⟨b1, o_1, q1, cs2, hp1, hq1, -, hr1, hc2⟩ := s1.at hy1
  obtain ⟨p3, k2, p4, k3, p5, k4, rfl, s2, s3, s4⟩ := qY hr1
  refine zxe hp1 hq1 he1 rfl (zc 0 (hc2.below h.below) rfl ?_)
  obtain ⟨r1, hr2, hF⟩ := qd hF
  refine qga r1 h call125 (qmZ (qhd y1 (h.oldS s2) (h.oldS s3) (h.oldS s4)) hr2) rfl rfl rfl rfl ?_
  intro w3 S3 cs3 h
  obtain ⟨p6, k5, p7, k6, p8, k7, rfl, -, -, -⟩ := qY (h.own 0 rfl)
  obtain ⟨y2, hy2, hF⟩ := qd hF
  have he2 := qf hy2
  replace h := h.lrn0 1 rfl
  obtain ⟨b2, o_2, q2, cs4, hp2, hq2, -, hr3, hc3⟩ := (qiA (h.lrnO 1 rfl)).1.at hy2
  have hr4 := hr3
  obtain ⟨p9, k8, p10, k9, p11, k10, rfl, s8, s9, s10⟩ := qY hr3
  replace h := h.lrnAdd 1 rfl hr4
  refine zx hp2 hq2 ⟨he2.1, qae he2.2.1 (qiA (h.lrnO 1 rfl)).2⟩ rfl ?_
  replace h := h.unlrn 1 rfl
  refine qjv qc r1 h hy2 hp2 hq2 rfl rfl rfl rfl rfl ?_
  intro w4 S4 h
  exact zNER (zp3 rfl (qb (qA m1 [(0, _), (3, _), (4, _)] (Nat.lt_succ_self m1) ⟨rfl, rfl, rfl, trivial⟩ ⟨_, _, _, hF, rfl, h⟩)))
 refine qG rfl ?_
 obtain rfl := qh hF; replace hF := hK1
 refine zSR (zp2 rfl (qb ?_))
 obtain rfl := qh hF
 exact qaj qc (ρ := (List qC)) [GoT.v (List qC) [.slice p2 x1.length x1.length]] h ⟨rfl, trivial⟩ (PV.done h (qap (qad 0 h rfl)))

def qgm (n : Nat) (a : qv) : Option qv :=
 (qhM n a.Cells).bind fun r1 =>
 some (⟨r1⟩ : qv)

theorem qlr {n : Nat} {w : World} {a : qv} {cs1 : List Value} (ha1 : GoT.R w (old w) a cs1) {r : qv} (hF : qgm n a = some r) : RetV Tryz.prog 44 [GoT.v qv cs1] w r := by
 obtain ⟨p1, k1, rfl, s1⟩ := qbA ha1
 refine qe Tryz.func44 rfl (m := 9) rfl rfl (fun h => ?_)
 rw [qgm] at hF
 refine zSR (qN h rfl rfl ?_)
 intro w1 bb1 h
 refine qaa qc h rfl rfl rfl ?_
 intro w2 bb2 h
 refine zNSR (qaa qc h rfl rfl rfl ?_)
 intro w3 bb3 h
 refine zNSR (zp1 rfl (zl 2 0 h rfl ?_))
 obtain ⟨r1, hr1, hF⟩ := qd hF
 refine qai r1 h call80 (qme ⟨_, _, rfl, (h.oldS s1)⟩ hr1) rfl rfl rfl rfl ?_
 intro w4 S1 p2 k2 h
 refine zp1 rfl (zs 1 h rfl ?_)
 intro w5 h
 refine zNSR (zl 1 0 h rfl (zs 2 h rfl ?_))
 intro w6 h
 replace h : SH _ _ [Ch.own S1 (r1 : List qC) [.slice p2 r1.length k2], Ch.box bb3 [.slice p2 r1.length k2] 43, Ch.box bb2 [.slice p2 r1.length k2] 43, Ch.box bb1 [.slice p1 a.Cells.length k1] 24] := h
 refine qb ?_
 obtain rfl := qh hF
 exact qaj qc (ρ := qv) [GoT.v qv [.slice p2 r1.length k2]] h ⟨⟨_, _, _, rfl, rfl, h.box 2 rfl, rfl⟩, trivial⟩ (PV.done h (qap (qoS (⟨r1⟩ : qv) h (qad 0 h rfl))))

def qeS (n : Nat) (a : qm) : Option qm :=
 (qaK n a.Nets).bind fun r1 =>
 some (⟨a.Name, a.Cell, r1⟩ : qm)

theorem qk1 {n : Nat} {w : World} {a : qm} {cs1 : List Value} (ha1 : GoT.R w (old w) a cs1) {r : qm} (hF : qeS n a = some r) : RetV Tryz.prog 126 [GoT.v qm cs1] w r := by
 obtain ⟨p1, k1, rfl, s1⟩ := qab ha1
 refine qe Tryz.func126 rfl (m := 15) rfl rfl (fun h => ?_)
 rw [qeS] at hF
 refine zSR (qN h rfl rfl ?_)
 intro w1 bb1 h
 refine qaa qc h rfl rfl rfl ?_
 intro w2 bb2 h
 refine zNSR (qaa qc h rfl rfl rfl ?_)
 intro w3 bb3 h
 refine zNSR (zp1 rfl (zl 2 0 h rfl (zp1 rfl (zs 0 h rfl ?_))))
 intro w4 h
 refine zNSR (zp1 rfl (zl 2 1 h rfl (zp1 rfl (zs 0 h rfl ?_))))
 intro w5 h
 replace h : SH _ _ [Ch.box bb3 [.string a.Name, .int .i64 a.Cell, .slice none 0 0] 185, Ch.box bb2 [.string ByteArray.empty, .int .i64 0, .slice none 0 0] 185, Ch.box bb1 [.string a.Name, .int .i64 a.Cell, .slice p1 a.Nets.length k1] 174] := h
 refine zNSR (zp1 rfl (zl 2 2 h rfl ?_))
 obtain ⟨r1, hr1, hF⟩ := qd hF
 refine qai r1 h call14 (qaG ⟨_, _, rfl, (h.oldS s1)⟩ hr1) rfl rfl rfl rfl ?_
 intro w6 S1 p2 k2 h
 refine zp1 rfl (zs 1 h rfl ?_)
 intro w7 h
 refine zNSR (zl 1 0 h rfl (zs 2 h rfl ?_))
 intro w8 h
 replace h : SH _ _ [Ch.own S1 (r1 : List Int) [.slice p2 r1.length k2], Ch.box bb3 [.string a.Name, .int .i64 a.Cell, .slice p2 r1.length k2] 185, Ch.box bb2 [.string a.Name, .int .i64 a.Cell, .slice p2 r1.length k2] 185, Ch.box bb1 [.string a.Name, .int .i64 a.Cell, .slice p1 a.Nets.length k1] 174] := h
 refine qb ?_
 obtain rfl := qh hF
 exact qaj qc (ρ := qm) [GoT.v qm [.string a.Name, .int .i64 a.Cell, .slice p2 r1.length k2]] h ⟨⟨_, _, _, rfl, rfl, h.box 2 rfl, rfl⟩, trivial⟩ (PV.done h (qap (qly (⟨a.Name, a.Cell, r1⟩ : qm) h (qao (S := fun _ => False) rfl) (qao (S := fun _ => False) rfl) (qad 0 h rfl) (by rfl) (by rfl))))

def qcs (a : (List qm)) : Nat → (List qm) → Int → Option ((List qm) × Int)
 | 0, _, _ => none
 | n + 1, x2, i1 =>
  bif decide (i1 < (a.length : Int)) then
   (idx a i1).bind fun y1 =>
   (qeS n y1).bind fun r1 =>
   (idx x2 i1).bind fun _ =>
   qcs a n (setS x2 i1 r1) (W64 (i1 + 1))
  else
   some (x2, i1)

def qfn (n : Nat) (a : (List qm)) : Option (List qm) :=
 (mkS (a.length : Int) ((⟨ByteArray.empty, 0, []⟩ : qm) : qm)).bind fun x1 =>
 (qcs a n x1 0).bind fun o => match o with
 | (x2, _) =>
  some x2

theorem qkJ {n : Nat} {w : World} {a : (List qm)} {cs1 : List Value} (ha1 : GoT.R w (old w) a cs1) {r : (List qm)} (hF : qfn n a = some r) : RetV Tryz.prog 81 [GoT.v (List qm) cs1] w r := by
 obtain ⟨p1, k1, rfl, s1⟩ := ha1
 refine qe Tryz.func81 rfl (m := 23) rfl rfl (fun h => ?_)
 rw [qfn] at hF
 refine zSR (zp1 rfl (zNSR (zp2 rfl ?_)))
 obtain ⟨x1, hx1, hF⟩ := qd hF
 obtain ⟨g1, g2, hx1⟩ := qd2 hx1
 refine qe8 qc qm h rfl rfl rfl rfl rfl rfl rfl rfl rfl g1 g2 hx1 rfl ?_
 intro w1 S1 p2 h
 refine zp1 rfl (zNSSR (zp1 rfl (qb ?_)))
 obtain ⟨o1, hF, hK1⟩ := qd hF
 refine qw (qP [(0, _), (3, _), (4, _)] ⟨rfl, rfl, rfl, trivial⟩ ?_)
 refine qH (fun m e w' => ∃ (S2 : Nat → Prop) (x2 : (List qm)) (i1 : Int), qcs a m x2 i1 = some o1 ∧ e = [(0, .slice p1 a.length k1), (3, .slice p2 x1.length x1.length), (4, .int .i64 i1)] ∧ SH w w' [Ch.own S2 (x2 : List qm) [.slice p2 x1.length x1.length]]) n ⟨_, _, _, hF, rfl, h⟩ ?_
 rintro m1 e1 w2 ⟨S2, x2, i1, hF, rfl, h⟩
 rcases m1 with _ | m1
 ·rw [qcs] at hF
  cases hF
 rw [qcs] at hF
 refine zSSR (zp4 rfl (qb ?_))
 refine qr rfl hF ?_ ?_ <;> intro hF
 ·refine zKSBR (zp4 rfl ?_)
  obtain ⟨y1, hy1, hF⟩ := qd hF
  have he1 := qf hy1
  obtain ⟨b1, o_1, q1, cs2, hp1, hq1, -, hr1, hc2⟩ := s1.at hy1
  obtain ⟨p3, k2, rfl, s2⟩ := qab hr1
  refine zxe hp1 hq1 he1 rfl (zc 0 (hc2.below h.below) rfl ?_)
  obtain ⟨r1, hr2, hF⟩ := qd hF
  refine qga r1 h call126 (qk1 (qf3 y1 (h.oldS s2)) hr2) rfl rfl rfl rfl ?_
  intro w3 S3 cs3 h
  obtain ⟨p4, k3, rfl, -⟩ := qab (h.own 0 rfl)
  obtain ⟨y2, hy2, hF⟩ := qd hF
  have he2 := qf hy2
  replace h := h.lrn0 1 rfl
  obtain ⟨b2, o_2, q2, cs4, hp2, hq2, -, hr3, hc3⟩ := (qiA (h.lrnO 1 rfl)).1.at hy2
  have hr4 := hr3
  obtain ⟨p5, k4, rfl, s4⟩ := qab hr3
  replace h := h.lrnAdd 1 rfl hr4
  refine zx hp2 hq2 ⟨he2.1, qae he2.2.1 (qiA (h.lrnO 1 rfl)).2⟩ rfl ?_
  replace h := h.unlrn 1 rfl
  refine qjv qc r1 h hy2 hp2 hq2 rfl rfl rfl rfl rfl ?_
  intro w4 S4 h
  exact zNER (zp3 rfl (qb (qA m1 [(0, _), (3, _), (4, _)] (Nat.lt_succ_self m1) ⟨rfl, rfl, rfl, trivial⟩ ⟨_, _, _, hF, rfl, h⟩)))
 refine qG rfl ?_
 obtain rfl := qh hF; replace hF := hK1
 refine zSR (zp2 rfl (qb ?_))
 obtain rfl := qh hF
 exact qaj qc (ρ := (List qm)) [GoT.v (List qm) [.slice p2 x1.length x1.length]] h ⟨rfl, trivial⟩ (PV.done h (qap (qad 0 h rfl)))

def qde (a : (List ByteArray)) : Nat → (List ByteArray) → Int → Option ((List ByteArray) × Int)
 | 0, _, _ => none
 | n + 1, x2, i1 =>
  bif decide (i1 < (a.length : Int)) then
   (idx a i1).bind fun y1 =>
   (idx x2 i1).bind fun _ =>
   qde a n (setS x2 i1 y1) (W64 (i1 + 1))
  else
   some (x2, i1)

def qgd (n : Nat) (a : (List ByteArray)) : Option (List ByteArray) :=
 (mkS (a.length : Int) (ByteArray.empty : ByteArray)).bind fun x1 =>
 (qde a n x1 0).bind fun o => match o with
 | (x2, _) =>
  some x2

theorem qle {n : Nat} {w : World} {a : (List ByteArray)} {cs1 : List Value} (ha1 : GoT.R w (old w) a cs1) {r : (List ByteArray)} (hF : qgd n a = some r) : RetV Tryz.prog 82 [GoT.v (List ByteArray) cs1] w r := by
 obtain ⟨p1, k1, rfl, s1⟩ := ha1
 refine qe Tryz.func82 rfl (m := 22) rfl rfl (fun h => ?_)
 rw [qgd] at hF
 refine zSR (zp1 rfl (zNSR (zp2 rfl ?_)))
 obtain ⟨x1, hx1, hF⟩ := qd hF
 obtain ⟨g1, g2, hx1⟩ := qd2 hx1
 refine qe8 qc ByteArray h rfl rfl rfl rfl rfl rfl rfl rfl rfl g1 g2 hx1 rfl ?_
 intro w1 S1 p2 h
 refine zp1 rfl (zNSSR (zp1 rfl (qb ?_)))
 obtain ⟨o1, hF, hK1⟩ := qd hF
 refine qw (qP [(0, _), (3, _), (4, _)] ⟨rfl, rfl, rfl, trivial⟩ ?_)
 refine qH (fun m e w' => ∃ (x2 : (List ByteArray)) (i1 : Int), qde a m x2 i1 = some o1 ∧ e = [(0, .slice p1 a.length k1), (3, .slice p2 x1.length x1.length), (4, .int .i64 i1)] ∧ SH w w' [Ch.own S1 (x2 : List ByteArray) [.slice p2 x1.length x1.length]]) n ⟨_, _, hF, rfl, h⟩ ?_
 rintro m1 e1 w2 ⟨x2, i1, hF, rfl, h⟩
 rcases m1 with _ | m1
 ·rw [qde] at hF
  cases hF
 rw [qde] at hF
 refine zSSR (zp4 rfl (qb ?_))
 refine qr rfl hF ?_ ?_ <;> intro hF
 ·refine zKSBR (zp4 rfl ?_)
  obtain ⟨y1, hy1, hF⟩ := qd hF
  have he1 := qf hy1
  obtain ⟨b1, o_1, q1, cs2, hp1, hq1, -, hr1, hc2⟩ := s1.at hy1
  obtain rfl := hr1
  refine zxe hp1 hq1 he1 rfl (zc 0 (hc2.below h.below) rfl ?_)
  obtain ⟨y2, hy2, hF⟩ := qd hF
  have he2 := qf hy2
  obtain ⟨b2, o_2, q2, cs3, hp2, hq2, -, hr2, hc3⟩ := (h.sl 0 rfl).1.at hy2
  obtain rfl := hr2
  refine zx hp2 hq2 ⟨he2.1, qae he2.2.1 (h.sl 0 rfl).2⟩ rfl (qdj qc 0 0 y1 h rfl hy2 hp2 hq2 rfl hc3 rfl rfl rfl rfl rfl rfl rfl ?_)
  intro w3 h
  exact zNER (zp3 rfl (qb (qA m1 [(0, _), (3, _), (4, _)] (Nat.lt_succ_self m1) ⟨rfl, rfl, rfl, trivial⟩ ⟨_, _, hF, rfl, h⟩)))
 refine qG rfl ?_
 obtain rfl := qh hF; replace hF := hK1
 refine zSR (zp2 rfl (qb ?_))
 obtain rfl := qh hF
 exact qaj qc (ρ := (List ByteArray)) [GoT.v (List ByteArray) [.slice p2 x1.length x1.length]] h ⟨rfl, trivial⟩ (PV.done h (qap (qad 0 h rfl)))

def qhf (_ : Nat) (a : qX) : Option qX :=
 some (⟨a.Name, a.Dir, a.Net⟩ : qX)

theorem qnd {n : Nat} {w : World} {a : qX} {cs1 : List Value} (ha1 : GoT.R w (old w) a cs1) {r : qX} (hF : qhf n a = some r) : RetV Tryz.prog 127 [GoT.v qX cs1] w r := by
 obtain rfl := qa8 ha1
 refine qe Tryz.func127 rfl (m := 14) rfl rfl (fun h => ?_)
 rw [qhf] at hF
 refine zSR (qN h rfl rfl ?_)
 intro w1 bb1 h
 refine qaa qc h rfl rfl rfl ?_
 intro w2 bb2 h
 refine zNSR (qaa qc h rfl rfl rfl ?_)
 intro w3 bb3 h
 refine zNSR (zp1 rfl (zl 2 0 h rfl (zp1 rfl (zs 0 h rfl ?_))))
 intro w4 h
 refine zNSR (zp1 rfl (zl 2 1 h rfl (zp1 rfl (zs 0 h rfl ?_))))
 intro w5 h
 replace h : SH _ _ [Ch.box bb3 [.string a.Name, .int .i64 a.Dir, .int .i64 0] 187, Ch.box bb2 [.string ByteArray.empty, .int .i64 0, .int .i64 0] 187, Ch.box bb1 [.string a.Name, .int .i64 a.Dir, .int .i64 a.Net] 177] := h
 refine zNSR (zp1 rfl (zl 2 2 h rfl (zp1 rfl (zs 0 h rfl ?_))))
 intro w6 h
 refine zNSR (zl 0 0 h rfl (zs 1 h rfl ?_))
 intro w7 h
 replace h : SH _ _ [Ch.box bb3 [.string a.Name, .int .i64 a.Dir, .int .i64 a.Net] 187, Ch.box bb2 [.string a.Name, .int .i64 a.Dir, .int .i64 a.Net] 187, Ch.box bb1 [.string a.Name, .int .i64 a.Dir, .int .i64 a.Net] 177] := h
 refine qb ?_
 obtain rfl := qh hF
 exact qaj qc (ρ := qX) [GoT.v qX [.string a.Name, .int .i64 a.Dir, .int .i64 a.Net]] h ⟨⟨_, _, _, rfl, rfl, h.box 1 rfl, rfl⟩, trivial⟩ (PV.done h (qap (qao (S := fun _ => False) (qew (⟨a.Name, a.Dir, a.Net⟩ : qX)))))

def qef (a : (List qX)) : Nat → (List qX) → Int → Option ((List qX) × Int)
 | 0, _, _ => none
 | n + 1, x2, i1 =>
  bif decide (i1 < (a.length : Int)) then
   (idx a i1).bind fun y1 =>
   (qhf n y1).bind fun r1 =>
   (idx x2 i1).bind fun _ =>
   qef a n (setS x2 i1 r1) (W64 (i1 + 1))
  else
   some (x2, i1)

def qhm (n : Nat) (a : (List qX)) : Option (List qX) :=
 (mkS (a.length : Int) ((⟨ByteArray.empty, 0, 0⟩ : qX) : qX)).bind fun x1 =>
 (qef a n x1 0).bind fun o => match o with
 | (x2, _) =>
  some x2

theorem qmx {n : Nat} {w : World} {a : (List qX)} {cs1 : List Value} (ha1 : GoT.R w (old w) a cs1) {r : (List qX)} (hF : qhm n a = some r) : RetV Tryz.prog 83 [GoT.v (List qX) cs1] w r := by
 obtain ⟨p1, k1, rfl, s1⟩ := ha1
 refine qe Tryz.func83 rfl (m := 23) rfl rfl (fun h => ?_)
 rw [qhm] at hF
 refine zSR (zp1 rfl (zNSR (zp2 rfl ?_)))
 obtain ⟨x1, hx1, hF⟩ := qd hF
 obtain ⟨g1, g2, hx1⟩ := qd2 hx1
 refine qe8 qc qX h rfl rfl rfl rfl rfl rfl rfl rfl rfl g1 g2 hx1 rfl ?_
 intro w1 S1 p2 h
 refine zp1 rfl (zNSSR (zp1 rfl (qb ?_)))
 obtain ⟨o1, hF, hK1⟩ := qd hF
 refine qw (qP [(0, _), (3, _), (4, _)] ⟨rfl, rfl, rfl, trivial⟩ ?_)
 refine qH (fun m e w' => ∃ (x2 : (List qX)) (i1 : Int), qef a m x2 i1 = some o1 ∧ e = [(0, .slice p1 a.length k1), (3, .slice p2 x1.length x1.length), (4, .int .i64 i1)] ∧ SH w w' [Ch.own S1 (x2 : List qX) [.slice p2 x1.length x1.length]]) n ⟨_, _, hF, rfl, h⟩ ?_
 rintro m1 e1 w2 ⟨x2, i1, hF, rfl, h⟩
 rcases m1 with _ | m1
 ·rw [qef] at hF
  cases hF
 rw [qef] at hF
 refine zSSR (zp4 rfl (qb ?_))
 refine qr rfl hF ?_ ?_ <;> intro hF
 ·refine zKSBR (zp4 rfl ?_)
  obtain ⟨y1, hy1, hF⟩ := qd hF
  have he1 := qf hy1
  obtain ⟨b1, o_1, q1, cs2, hp1, hq1, -, hr1, hc2⟩ := s1.at hy1
  obtain rfl := qa8 hr1
  refine zxe hp1 hq1 he1 rfl (zc 0 (hc2.below h.below) rfl ?_)
  obtain ⟨r1, hr2, hF⟩ := qd hF
  refine qga r1 h call127 (qnd (qew y1) hr2) rfl rfl rfl rfl ?_
  intro w3 S2 cs3 h
  obtain rfl := qa8 (h.own 0 rfl)
  obtain ⟨y2, hy2, hF⟩ := qd hF
  have he2 := qf hy2
  obtain ⟨b2, o_2, q2, cs4, hp2, hq2, -, hr3, hc3⟩ := (h.sl 1 rfl).1.at hy2
  obtain rfl := qa8 hr3
  refine zx hp2 hq2 ⟨he2.1, qae he2.2.1 (h.sl 1 rfl).2⟩ rfl (qdj qc 1 0 r1 h rfl hy2 hp2 hq2 (qew y2) hc3 rfl rfl rfl (qew r1) rfl rfl rfl ?_)
  intro w4 h
  refine zNER (zp3 rfl (qb ?_))
  replace h := h.pick [1] rfl
  exact qA m1 [(0, _), (3, _), (4, _)] (Nat.lt_succ_self m1) ⟨rfl, rfl, rfl, trivial⟩ ⟨_, _, hF, rfl, h⟩
 refine qG rfl ?_
 obtain rfl := qh hF; replace hF := hK1
 refine zSR (zp2 rfl (qb ?_))
 obtain rfl := qh hF
 exact qaj qc (ρ := (List qX)) [GoT.v (List qX) [.slice p2 x1.length x1.length]] h ⟨rfl, trivial⟩ (PV.done h (qap (qad 0 h rfl)))

def qgQ (n : Nat) (a : qj) : Option qj :=
 (qfn n a.Instances).bind fun r1 =>
 (qgd n a.Nets).bind fun r2 =>
 (qhm n a.Ports).bind fun r3 =>
 some (⟨r1, r2, r3⟩ : qj)

theorem qlY {n : Nat} {w : World} {a : qj} {cs1 : List Value} (ha1 : GoT.R w (old w) a cs1) {r : qj} (hF : qgQ n a = some r) : RetV Tryz.prog 45 [GoT.v qj cs1] w r := by
 obtain ⟨p1, k1, p2, k2, p3, k3, rfl, s1, s2, s3⟩ := qaE ha1
 refine qe Tryz.func45 rfl (m := 17) rfl rfl (fun h => ?_)
 rw [qgQ] at hF
 refine zSR (qN h rfl rfl ?_)
 intro w1 bb1 h
 refine qaa qc h rfl rfl rfl ?_
 intro w2 bb2 h
 refine zNSR (qaa qc h rfl rfl rfl ?_)
 intro w3 bb3 h
 refine zNSR (zp1 rfl (zl 2 0 h rfl ?_))
 obtain ⟨r1, hr1, hF⟩ := qd hF
 refine qai r1 h call81 (qkJ ⟨_, _, rfl, (h.oldS s1)⟩ hr1) rfl rfl rfl rfl ?_
 intro w4 S1 p4 k4 h
 refine zp1 rfl (zs 1 h rfl ?_)
 intro w5 h
 refine zNSR (zp1 rfl (zl 3 1 h rfl ?_))
 obtain ⟨r2, hr2, hF⟩ := qd hF
 refine qai r2 h call82 (qle ⟨_, _, rfl, (h.oldS s2)⟩ hr2) rfl rfl rfl rfl ?_
 intro w6 S2 p5 k5 h
 refine zp1 rfl (zs 2 h rfl ?_)
 intro w7 h
 replace h : SH _ _ [Ch.own S2 (r2 : List ByteArray) [.slice p5 r2.length k5], Ch.own S1 (r1 : List qm) [.slice p4 r1.length k4], Ch.box bb3 [.slice p4 r1.length k4, .slice p5 r2.length k5, .slice none 0 0] 47, Ch.box bb2 [.slice none 0 0, .slice none 0 0, .slice none 0 0] 47, Ch.box bb1 [.slice p1 a.Instances.length k1, .slice p2 a.Nets.length k2, .slice p3 a.Ports.length k3] 29] := h
 refine zNSR (zp1 rfl (zl 4 2 h rfl ?_))
 obtain ⟨r3, hr3, hF⟩ := qd hF
 refine qai r3 h call83 (qmx ⟨_, _, rfl, (h.oldS s3)⟩ hr3) rfl rfl rfl rfl ?_
 intro w8 S3 p6 k6 h
 refine zp1 rfl (zs 3 h rfl ?_)
 intro w9 h
 refine zNSR (zl 3 0 h rfl (zs 4 h rfl ?_))
 intro w10 h
 replace h : SH _ _ [Ch.own S3 (r3 : List qX) [.slice p6 r3.length k6], Ch.own S2 (r2 : List ByteArray) [.slice p5 r2.length k5], Ch.own S1 (r1 : List qm) [.slice p4 r1.length k4], Ch.box bb3 [.slice p4 r1.length k4, .slice p5 r2.length k5, .slice p6 r3.length k6] 47, Ch.box bb2 [.slice p4 r1.length k4, .slice p5 r2.length k5, .slice p6 r3.length k6] 47, Ch.box bb1 [.slice p1 a.Instances.length k1, .slice p2 a.Nets.length k2, .slice p3 a.Ports.length k3] 29] := h
 refine qb ?_
 obtain rfl := qh hF
 exact qaj qc (ρ := qj) [GoT.v qj [.slice p4 r1.length k4, .slice p5 r2.length k5, .slice p6 r3.length k6]] h ⟨⟨_, _, _, rfl, rfl, h.box 4 rfl, rfl⟩, trivial⟩ (PV.done h (qap (qqd (⟨r1, r2, r3⟩ : qj) h (qad 2 h rfl) (qad 1 h rfl) (qad 0 h rfl) (by rfl) (by rfl))))

def qg9 (n : Nat) (a : qS) : Option qS :=
 (qaK n a.Parent).bind fun r1 =>
 (qaK n a.Res).bind fun r2 =>
 (qaK n a.Cap).bind fun r3 =>
 (qaK n a.Sink).bind fun r4 =>
 some (⟨r1, r2, r3, r4⟩ : qS)

theorem qnj {n : Nat} {w : World} {a : qS} {cs1 : List Value} (ha1 : GoT.R w (old w) a cs1) {r : qS} (hF : qg9 n a = some r) : RetV Tryz.prog 84 [GoT.v qS cs1] w r := by
 obtain ⟨p1, k1, p2, k2, p3, k3, p4, k4, rfl, s1, s2, s3, s4⟩ := qbJ ha1
 refine qe Tryz.func84 rfl (m := 21) rfl rfl (fun h => ?_)
 rw [qg9] at hF
 refine zSR (qN h rfl rfl ?_)
 intro w1 bb1 h
 refine qaa qc h rfl rfl rfl ?_
 intro w2 bb2 h
 refine zNSR (qaa qc h rfl rfl rfl ?_)
 intro w3 bb3 h
 refine zNSR (zp1 rfl (zl 2 0 h rfl ?_))
 obtain ⟨r1, hr1, hF⟩ := qd hF
 refine qai r1 h call14 (qaG ⟨_, _, rfl, (h.oldS s1)⟩ hr1) rfl rfl rfl rfl ?_
 intro w4 S1 p5 k5 h
 refine zp1 rfl (zs 1 h rfl ?_)
 intro w5 h
 refine zNSR (zp1 rfl (zl 3 1 h rfl ?_))
 obtain ⟨r2, hr2, hF⟩ := qd hF
 refine qai r2 h call14 (qaG ⟨_, _, rfl, (h.oldS s2)⟩ hr2) rfl rfl rfl rfl ?_
 intro w6 S2 p6 k6 h
 refine zp1 rfl (zs 2 h rfl ?_)
 intro w7 h
 replace h : SH _ _ [Ch.own S2 (r2 : List Int) [.slice p6 r2.length k6], Ch.own S1 (r1 : List Int) [.slice p5 r1.length k5], Ch.box bb3 [.slice p5 r1.length k5, .slice p6 r2.length k6, .slice none 0 0, .slice none 0 0] 130, Ch.box bb2 [.slice none 0 0, .slice none 0 0, .slice none 0 0, .slice none 0 0] 130, Ch.box bb1 [.slice p1 a.Parent.length k1, .slice p2 a.Res.length k2, .slice p3 a.Cap.length k3, .slice p4 a.Sink.length k4] 122] := h
 refine zNSR (zp1 rfl (zl 4 2 h rfl ?_))
 obtain ⟨r3, hr3, hF⟩ := qd hF
 refine qai r3 h call14 (qaG ⟨_, _, rfl, (h.oldS s3)⟩ hr3) rfl rfl rfl rfl ?_
 intro w8 S3 p7 k7 h
 refine zp1 rfl (zs 3 h rfl ?_)
 intro w9 h
 refine zNSR (zp1 rfl (zl 5 3 h rfl ?_))
 obtain ⟨r4, hr4, hF⟩ := qd hF
 refine qai r4 h call14 (qaG ⟨_, _, rfl, (h.oldS s4)⟩ hr4) rfl rfl rfl rfl ?_
 intro w10 S4 p8 k8 h
 refine zp1 rfl (zs 4 h rfl ?_)
 intro w11 h
 replace h : SH _ _ [Ch.own S4 (r4 : List Int) [.slice p8 r4.length k8], Ch.own S3 (r3 : List Int) [.slice p7 r3.length k7], Ch.own S2 (r2 : List Int) [.slice p6 r2.length k6], Ch.own S1 (r1 : List Int) [.slice p5 r1.length k5], Ch.box bb3 [.slice p5 r1.length k5, .slice p6 r2.length k6, .slice p7 r3.length k7, .slice p8 r4.length k8] 130, Ch.box bb2 [.slice none 0 0, .slice none 0 0, .slice none 0 0, .slice none 0 0] 130, Ch.box bb1 [.slice p1 a.Parent.length k1, .slice p2 a.Res.length k2, .slice p3 a.Cap.length k3, .slice p4 a.Sink.length k4] 122] := h
 refine zNSR (zl 4 0 h rfl (zs 5 h rfl ?_))
 intro w12 h
 refine qb ?_
 obtain rfl := qh hF
 exact qaj qc (ρ := qS) [GoT.v qS [.slice p5 r1.length k5, .slice p6 r2.length k6, .slice p7 r3.length k7, .slice p8 r4.length k8]] h ⟨⟨_, _, _, rfl, rfl, h.box 5 rfl, rfl⟩, trivial⟩ (PV.done h (qap (qo8 (⟨r1, r2, r3, r4⟩ : qS) h (qad 3 h rfl) (qad 2 h rfl) (qad 1 h rfl) (qad 0 h rfl) (by rfl) (by rfl) (by rfl))))

def qed (a : (List qS)) : Nat → (List qS) → Int → Option ((List qS) × Int)
 | 0, _, _ => none
 | n + 1, x2, i1 =>
  bif decide (i1 < (a.length : Int)) then
   (idx a i1).bind fun y1 =>
   (qg9 n y1).bind fun r1 =>
   (idx x2 i1).bind fun _ =>
   qed a n (setS x2 i1 r1) (W64 (i1 + 1))
  else
   some (x2, i1)

def qhH (n : Nat) (a : (List qS)) : Option (List qS) :=
 (mkS (a.length : Int) ((⟨[], [], [], []⟩ : qS) : qS)).bind fun x1 =>
 (qed a n x1 0).bind fun o => match o with
 | (x2, _) =>
  some x2

theorem ql9 {n : Nat} {w : World} {a : (List qS)} {cs1 : List Value} (ha1 : GoT.R w (old w) a cs1) {r : (List qS)} (hF : qhH n a = some r) : RetV Tryz.prog 46 [GoT.v (List qS) cs1] w r := by
 obtain ⟨p1, k1, rfl, s1⟩ := ha1
 refine qe Tryz.func46 rfl (m := 23) rfl rfl (fun h => ?_)
 rw [qhH] at hF
 refine zSR (zp1 rfl (zNSR (zp2 rfl ?_)))
 obtain ⟨x1, hx1, hF⟩ := qd hF
 obtain ⟨g1, g2, hx1⟩ := qd2 hx1
 refine qe8 qc qS h rfl rfl rfl rfl rfl rfl rfl rfl rfl g1 g2 hx1 rfl ?_
 intro w1 S1 p2 h
 refine zp1 rfl (zNSSR (zp1 rfl (qb ?_)))
 obtain ⟨o1, hF, hK1⟩ := qd hF
 refine qw (qP [(0, _), (3, _), (4, _)] ⟨rfl, rfl, rfl, trivial⟩ ?_)
 refine qH (fun m e w' => ∃ (S2 : Nat → Prop) (x2 : (List qS)) (i1 : Int), qed a m x2 i1 = some o1 ∧ e = [(0, .slice p1 a.length k1), (3, .slice p2 x1.length x1.length), (4, .int .i64 i1)] ∧ SH w w' [Ch.own S2 (x2 : List qS) [.slice p2 x1.length x1.length]]) n ⟨_, _, _, hF, rfl, h⟩ ?_
 rintro m1 e1 w2 ⟨S2, x2, i1, hF, rfl, h⟩
 rcases m1 with _ | m1
 ·rw [qed] at hF
  cases hF
 rw [qed] at hF
 refine zSSR (zp4 rfl (qb ?_))
 refine qr rfl hF ?_ ?_ <;> intro hF
 ·refine zKSBR (zp4 rfl ?_)
  obtain ⟨y1, hy1, hF⟩ := qd hF
  have he1 := qf hy1
  obtain ⟨b1, o_1, q1, cs2, hp1, hq1, -, hr1, hc2⟩ := s1.at hy1
  obtain ⟨p3, k2, p4, k3, p5, k4, p6, k5, rfl, s2, s3, s4, s5⟩ := qbJ hr1
  refine zxe hp1 hq1 he1 rfl (zc 0 (hc2.below h.below) rfl ?_)
  obtain ⟨r1, hr2, hF⟩ := qd hF
  refine qga r1 h call84 (qnj (qiI y1 (h.oldS s2) (h.oldS s3) (h.oldS s4) (h.oldS s5)) hr2) rfl rfl rfl rfl ?_
  intro w3 S3 cs3 h
  obtain ⟨p7, k6, p8, k7, p9, k8, p10, k9, rfl, -, -, -, -⟩ := qbJ (h.own 0 rfl)
  obtain ⟨y2, hy2, hF⟩ := qd hF
  have he2 := qf hy2
  replace h := h.lrn0 1 rfl
  obtain ⟨b2, o_2, q2, cs4, hp2, hq2, -, hr3, hc3⟩ := (qiA (h.lrnO 1 rfl)).1.at hy2
  have hr4 := hr3
  obtain ⟨p11, k10, p12, k11, p13, k12, p14, k13, rfl, s10, s11, s12, s13⟩ := qbJ hr3
  replace h := h.lrnAdd 1 rfl hr4
  refine zx hp2 hq2 ⟨he2.1, qae he2.2.1 (qiA (h.lrnO 1 rfl)).2⟩ rfl ?_
  replace h := h.unlrn 1 rfl
  refine qjv qc r1 h hy2 hp2 hq2 rfl rfl rfl rfl rfl ?_
  intro w4 S4 h
  exact zNER (zp3 rfl (qb (qA m1 [(0, _), (3, _), (4, _)] (Nat.lt_succ_self m1) ⟨rfl, rfl, rfl, trivial⟩ ⟨_, _, _, hF, rfl, h⟩)))
 refine qG rfl ?_
 obtain rfl := qh hF; replace hF := hK1
 refine zSR (zp2 rfl (qb ?_))
 obtain rfl := qh hF
 exact qaj qc (ρ := (List qS)) [GoT.v (List qS) [.slice p2 x1.length x1.length]] h ⟨rfl, trivial⟩ (PV.done h (qap (qad 0 h rfl)))

def qe4 (n : Nat) (a : qz) : Option qz :=
 (qgm n (⟨a.Library.Cells⟩ : qv)).bind fun r1 =>
 (qgQ n (⟨a.Design.Instances, a.Design.Nets, a.Design.Ports⟩ : qj)).bind fun r2 =>
 (qhH n a.Wires).bind fun r3 =>
 some (⟨r1, r2, r3⟩ : qz)

theorem qgZ {n : Nat} {w : World} {a : qz} {cs1 : List Value} (ha1 : GoT.R w (old w) a cs1) {r : qz} (hF : qe4 n a = some r) : RetV Tryz.prog 12 [GoT.v qz cs1] w r := by
 obtain ⟨p1, k1, p2, k2, p3, k3, p4, k4, p5, k5, rfl, s1, s2, s3, s4, s5⟩ := qaq ha1
 refine qe Tryz.func12 rfl (m := 17) rfl rfl (fun h => ?_)
 rw [qe4] at hF
 refine zSR (qN h rfl rfl ?_)
 intro w1 bb1 h
 refine qaa qc h rfl rfl rfl ?_
 intro w2 bb2 h
 refine zNSR (qaa qc h rfl rfl rfl ?_)
 intro w3 bb3 h
 refine zNSR (zp1 rfl (zl 2 0 h rfl ?_))
 obtain ⟨r1, hr1, hF⟩ := qd hF
 refine qga r1 h call44 (qlr (qdK (⟨a.Library.Cells⟩ : qv) (h.oldS s1)) hr1) rfl rfl rfl rfl ?_
 intro w4 S1 cs2 h
 obtain ⟨p6, k6, rfl, -⟩ := qbA (h.own 0 rfl)
 refine zp1 rfl (zs 1 h rfl ?_)
 intro w5 h
 refine zNSR (zp1 rfl (zl 3 1 h rfl ?_))
 obtain ⟨r2, hr2, hF⟩ := qd hF
 refine qga r2 h call45 (qlY (qbd (⟨a.Design.Instances, a.Design.Nets, a.Design.Ports⟩ : qj) (h.oldS s2) (h.oldS s3) (h.oldS s4)) hr2) rfl rfl rfl rfl ?_
 intro w6 S2 cs3 h
 obtain ⟨p7, k7, p8, k8, p9, k9, rfl, -, -, -⟩ := qaE (h.own 0 rfl)
 refine zp1 rfl (zs 2 h rfl ?_)
 intro w7 h
 replace h : SH _ _ [Ch.own S2 (r2 : qj) [.slice p7 r2.Instances.length k7, .slice p8 r2.Nets.length k8, .slice p9 r2.Ports.length k9], Ch.own S1 (r1 : qv) [.slice p6 r1.Cells.length k6], Ch.box bb3 [.slice p6 r1.Cells.length k6, .slice p7 r2.Instances.length k7, .slice p8 r2.Nets.length k8, .slice p9 r2.Ports.length k9, .slice none 0 0] 50, Ch.box bb2 [.slice none 0 0, .slice none 0 0, .slice none 0 0, .slice none 0 0, .slice none 0 0] 50, Ch.box bb1 [.slice p1 a.Library.Cells.length k1, .slice p2 a.Design.Instances.length k2, .slice p3 a.Design.Nets.length k3, .slice p4 a.Design.Ports.length k4, .slice p5 a.Wires.length k5] 32] := h
 refine zNSR (zp1 rfl (zl 4 4 h rfl ?_))
 obtain ⟨r3, hr3, hF⟩ := qd hF
 refine qai r3 h call46 (ql9 ⟨_, _, rfl, (h.oldS s5)⟩ hr3) rfl rfl rfl rfl ?_
 intro w8 S3 p10 k10 h
 refine zp1 rfl (zs 3 h rfl ?_)
 intro w9 h
 refine zNSR (zl 3 0 h rfl (zs 4 h rfl ?_))
 intro w10 h
 replace h : SH _ _ [Ch.own S3 (r3 : List qS) [.slice p10 r3.length k10], Ch.own S2 (r2 : qj) [.slice p7 r2.Instances.length k7, .slice p8 r2.Nets.length k8, .slice p9 r2.Ports.length k9], Ch.own S1 (r1 : qv) [.slice p6 r1.Cells.length k6], Ch.box bb3 [.slice p6 r1.Cells.length k6, .slice p7 r2.Instances.length k7, .slice p8 r2.Nets.length k8, .slice p9 r2.Ports.length k9, .slice p10 r3.length k10] 50, Ch.box bb2 [.slice p6 r1.Cells.length k6, .slice p7 r2.Instances.length k7, .slice p8 r2.Nets.length k8, .slice p9 r2.Ports.length k9, .slice p10 r3.length k10] 50, Ch.box bb1 [.slice p1 a.Library.Cells.length k1, .slice p2 a.Design.Instances.length k2, .slice p3 a.Design.Nets.length k3, .slice p4 a.Design.Ports.length k4, .slice p5 a.Wires.length k5] 32] := h
 refine qb ?_
 obtain rfl := qh hF
 exact qaj qc (ρ := qz) [GoT.v qz [.slice p6 r1.Cells.length k6, .slice p7 r2.Instances.length k7, .slice p8 r2.Nets.length k8, .slice p9 r2.Ports.length k9, .slice p10 r3.length k10]] h ⟨⟨_, _, _, rfl, rfl, h.box 4 rfl, rfl⟩, trivial⟩ (PV.done h (qap (qq2 (⟨r1, r2, r3⟩ : qz) h (qad 2 h rfl) (qad 1 h rfl) (qad 0 h rfl) (by rfl) (by rfl))))

end Go.Fw
