/- Plain laws: the places of a design, one by one. -/
import Derived.Test.YtihkipojhdehnaaGreatDoorB7
import Derived.Test.YtihkipojhdehnaaGreatDoorFw34

namespace Go.Fw
open Go
set_option maxRecDepth 100000

def off (d : ql) (i : Nat) : Nat := (plI d i).length
def place1 (d : ql) (i k : Nat) : Tplace := ⟨(i : Int), (k : Int), at0 (gt d.Instances i).Nets k, decide (k + 1 = (gt d.Instances i).Nets.length)⟩
def place2 (d : ql) (i : Nat) : Tplace := ⟨-1, (i : Int), (gt d.Ports i).Net, (gt d.Ports i).Dir == 1⟩

theorem qmo {d : ql} {i : Nat} : off d (i + 1) = off d i + (gt d.Instances i).Nets.length := by
  unfold off; rw [qjp, List.length_append, qlE]
theorem qje {d : ql} : (places d).length = off d d.Instances.length + d.Ports.length := by
  unfold places off; rw [List.length_append, qlG]
theorem qrJ {d : ql} {n i k : Nat} (hi : i < n) (hk : k < (gt d.Instances i).Nets.length) : off d i + k < off d n ∧ gt (plI d n) (off d i + k) = place1 d i k := by
  induction n with
  | zero => omega
  | succ n ih =>
    rw [qjp, qk2]
    rcases Nat.lt_succ_iff_lt_or_eq.1 hi with h | rfl
    · obtain ⟨h1, h2⟩ := ih h
      refine ⟨by rw [qmo]; omega, ?_⟩
      rw [if_pos (show off d i + k < (plI d n).length from h1), h2]
    · refine ⟨by rw [qmo]; omega, ?_⟩
      rw [if_neg (by unfold off; omega), show off d i + k - (plI d i).length = k by unfold off; omega]
      exact qoq hk
theorem qpy {d : ql} {i k : Nat} (hi : i < d.Instances.length) (hk : k < (gt d.Instances i).Nets.length) : off d i + k < (places d).length ∧ gt (places d) (off d i + k) = place1 d i k := by
  obtain ⟨h1, h2⟩ := qrJ hi hk
  refine ⟨by rw [qje]; omega, ?_⟩
  unfold places
  rw [qk2, if_pos (show off d i + k < (plI d d.Instances.length).length from h1), h2]
theorem qpE {d : ql} {i : Nat} (hi : i < d.Ports.length) : off d d.Instances.length + i < (places d).length ∧ gt (places d) (off d d.Instances.length + i) = place2 d i := by
  refine ⟨by rw [qje]; omega, ?_⟩
  unfold places
  rw [qk2, if_neg (by unfold off; omega), show off d d.Instances.length + i - (plI d d.Instances.length).length = i by unfold off; omega]
  exact qoq hi
theorem qpK {d : ql} {n j : Nat} (hj : j < off d n) : ∃ i k, i < n ∧ k < (gt d.Instances i).Nets.length ∧ j = off d i + k := by
  induction n with
  | zero => exact absurd hj (Nat.not_lt_zero _)
  | succ n ih =>
    by_cases h : j < off d n
    · obtain ⟨i, k, h1, h2, h3⟩ := ih h
      exact ⟨i, k, by omega, h2, h3⟩
    · rw [qmo] at hj
      exact ⟨n, j - off d n, by omega, by omega, by omega⟩
/-- Every place is a pin of an instance or a port. -/
theorem qn2 {d : ql} {j : Nat} (hj : j < (places d).length) :
    (∃ i k, i < d.Instances.length ∧ k < (gt d.Instances i).Nets.length ∧ j = off d i + k ∧ gt (places d) j = place1 d i k) ∨
    (∃ i, i < d.Ports.length ∧ j = off d d.Instances.length + i ∧ gt (places d) j = place2 d i) := by
  rw [qje] at hj
  by_cases h : j < off d d.Instances.length
  · obtain ⟨i, k, h1, h2, rfl⟩ := qpK h
    exact .inl ⟨i, k, h1, h2, rfl, (qpy h1 h2).2⟩
  · refine .inr ⟨j - off d d.Instances.length, by omega, by omega, ?_⟩
    have := (qpE (d := d) (i := j - off d d.Instances.length) (by omega)).2
    rwa [show off d d.Instances.length + (j - off d d.Instances.length) = j by omega] at this

/-! ### Drivers -/

/-! ### Cells of instances -/

theorem qmW {l : qz} {d : ql} (h : designB l d = true) {i : Nat} (hi : i < d.Instances.length) :
    (0 ≤ (gt d.Instances i).Cell ∧ (gt d.Instances i).Cell < l.Cells.length) ∧ (gt d.Instances i).Nets.length = (gt l.Cells (gt d.Instances i).Cell.toNat).Pins.length ∧ cellB (gt l.Cells (gt d.Instances i).Cell.toNat) = true := by
  unfold designB libB at h
  simp only [Bool.and_eq_true] at h
  obtain ⟨⟨⟨hc, _⟩, _⟩, hI, _⟩ := h
  rw [qhu, qbh] at hI hc
  have := hI i hi
  unfold instB at this
  simp only [Bool.and_eq_true, qdT, beq_iff_eq] at this
  exact ⟨⟨this.1.1, by omega⟩, by omega, hc _ (by omega)⟩
theorem qoO {c : qB} (h : cellB c = true) : c.Arcs.length ≤ 8 := by
  unfold cellB at h
  simp only [Bool.and_eq_true, decide_eq_true_eq] at h
  exact h.2.2.1.2
theorem qd9 {b : qF} (h : blockB b = true) : designB b.Library b.Design = true := by
  unfold blockB at h; simp only [Bool.and_eq_true] at h; exact h.1.1
end Go.Fw


namespace Go.Fw
open Go Go.Proofs
open Go.RowKit (Below)
set_option maxRecDepth 100000
set_option maxHeartbeats 1600000
def qdD (_ : Nat) (a : qY) : Option (List qS) :=
 bif (a.Kind == 2) then
  some ([(⟨0, 0⟩ : qS), (⟨0, 1⟩ : qS)] : List qS)
 else
  bif (a.Kind == 3) then
   some ([(⟨1, 0⟩ : qS), (⟨1, 1⟩ : qS)] : List qS)
  else
   bif (a.Kind != 1) then
    some []
   else
    bif (a.Sense == 1) then
     some ([(⟨0, 0⟩ : qS), (⟨1, 1⟩ : qS)] : List qS)
    else
     bif (a.Sense == 2) then
      some ([(⟨0, 1⟩ : qS), (⟨1, 0⟩ : qS)] : List qS)
     else
      some ([(⟨0, 0⟩ : qS), (⟨0, 1⟩ : qS), (⟨1, 0⟩ : qS), (⟨1, 1⟩ : qS)] : List qS)

theorem qiF {n : Nat} {w : World} {a : qY} {cs1 : List Value} (ha1 : GoT.R w (old w) a cs1) {r : (List qS)} (hF : qdD n a = some r) : RetV Tryz.prog 186 [GoT.v qY cs1] w r := by
 obtain ⟨p1, k1, p2, k2, rfl, s1, s2⟩ := qaQ ha1
 refine qe Tryz.func186 rfl (m := 44) rfl rfl (fun h => ?_)
 rw [qdD] at hF
 refine zSR (qO h rfl rfl ?_)
 intro w1 bb1 h
 refine zp1 rfl (zNSR (r_v (qft qc [0, 1] [.const (.int .i64 (0)), .const (.int .i64 (0))] rfl rfl rfl rfl rfl rfl rfl rfl rfl) rfl (r_v (qft qc [0, 1] [.const (.int .i64 (1)), .const (.int .i64 (1))] rfl rfl rfl rfl rfl rfl rfl rfl rfl) rfl (qaB qc [.tmp 5, .tmp 6] _ ([(⟨0, 0⟩ : qS), (⟨1, 1⟩ : qS)] : List qS) h rfl rfl rfl rfl rfl rfl rfl rfl rfl ⟨(qc0 (⟨0, 0⟩ : qS)), (qc0 (⟨1, 1⟩ : qS)), trivial⟩ rfl ?_))))
 intro w2 p3 S1 h
 refine zp1 rfl (zNSR (r_v (qft qc [0, 1] [.const (.int .i64 (0)), .const (.int .i64 (1))] rfl rfl rfl rfl rfl rfl rfl rfl rfl) rfl (r_v (qft qc [0, 1] [.const (.int .i64 (1)), .const (.int .i64 (0))] rfl rfl rfl rfl rfl rfl rfl rfl rfl) rfl (qaB qc [.tmp 8, .tmp 9] _ ([(⟨0, 1⟩ : qS), (⟨1, 0⟩ : qS)] : List qS) h rfl rfl rfl rfl rfl rfl rfl rfl rfl ⟨(qc0 (⟨0, 1⟩ : qS)), (qc0 (⟨1, 0⟩ : qS)), trivial⟩ rfl ?_))))
 intro w3 p4 S2 h
 refine zp1 rfl (zNSB (zSR (zp1 rfl (zl 2 0 h rfl (zp2 rfl (qb ?_))))))
 refine qr rfl hF ?_ ?_ <;> intro hF
 ·refine zSR (r_v (qft qc [0, 1] [.const (.int .i64 (0)), .const (.int .i64 (0))] rfl rfl rfl rfl rfl rfl rfl rfl rfl) rfl (r_v (qft qc [0, 1] [.const (.int .i64 (0)), .const (.int .i64 (1))] rfl rfl rfl rfl rfl rfl rfl rfl rfl) rfl (qaB qc [.tmp 15, .tmp 16] _ ([(⟨0, 0⟩ : qS), (⟨0, 1⟩ : qS)] : List qS) h rfl rfl rfl rfl rfl rfl rfl rfl rfl ⟨(qc0 (⟨0, 0⟩ : qS)), (qc0 (⟨0, 1⟩ : qS)), trivial⟩ rfl ?_)))
  intro w4 p5 S3 h
  refine zp1 rfl (qb ?_)
  obtain rfl := qh hF
  exact qav qc (ρ := (List qS)) [GoT.v (List qS) [.slice p5 2 2]] h ⟨rfl, trivial⟩ (PV.done h (qaG (qab 0 h rfl)))
 refine zSR (zp1 rfl (zl 2 0 h rfl (zp2 rfl (qb ?_))))
 refine qr rfl hF ?_ ?_ <;> intro hF
 ·refine zSR (r_v (qft qc [0, 1] [.const (.int .i64 (1)), .const (.int .i64 (0))] rfl rfl rfl rfl rfl rfl rfl rfl rfl) rfl (r_v (qft qc [0, 1] [.const (.int .i64 (1)), .const (.int .i64 (1))] rfl rfl rfl rfl rfl rfl rfl rfl rfl) rfl (qaB qc [.tmp 22, .tmp 23] _ ([(⟨1, 0⟩ : qS), (⟨1, 1⟩ : qS)] : List qS) h rfl rfl rfl rfl rfl rfl rfl rfl rfl ⟨(qc0 (⟨1, 0⟩ : qS)), (qc0 (⟨1, 1⟩ : qS)), trivial⟩ rfl ?_)))
  intro w5 p6 S4 h
  refine zp1 rfl (qb ?_)
  obtain rfl := qh hF
  exact qav qc (ρ := (List qS)) [GoT.v (List qS) [.slice p6 2 2]] h ⟨rfl, trivial⟩ (PV.done h (qaG (qab 0 h rfl)))
 refine zSR (zp1 rfl (zl 2 0 h rfl (zp2 rfl (qb ?_))))
 refine qr rfl hF ?_ ?_ <;> intro hF
 ·refine zSR (zp1 rfl (qb ?_))
  obtain rfl := qh hF
  exact qav qc (ρ := (List qS)) [GoT.v (List qS) [.slice none 0 0]] h ⟨rfl, trivial⟩ (PV.done h (qaG qne))
 refine zSR (zp1 rfl (zl 2 3 h rfl (zp2 rfl (qb ?_))))
 refine qr rfl hF ?_ ?_ <;> intro hF
 ·refine zSR (zp2 rfl (qb ?_))
  obtain rfl := qh hF
  exact qav qc (ρ := (List qS)) [GoT.v (List qS) [.slice p3 2 2]] h ⟨rfl, trivial⟩ (PV.done h (qaG (qab 1 h rfl)))
 refine zSR (zp1 rfl (zl 2 3 h rfl (zp2 rfl (qb ?_))))
 refine qr rfl hF ?_ ?_ <;> intro hF
 ·refine zSR (zp2 rfl (qb ?_))
  obtain rfl := qh hF
  exact qav qc (ρ := (List qS)) [GoT.v (List qS) [.slice p4 2 2]] h ⟨rfl, trivial⟩ (PV.done h (qaG (qab 0 h rfl)))
 refine zKE (zSR (r_v (qft qc [0, 1] [.const (.int .i64 (0)), .const (.int .i64 (0))] rfl rfl rfl rfl rfl rfl rfl rfl rfl) rfl (r_v (qft qc [0, 1] [.const (.int .i64 (0)), .const (.int .i64 (1))] rfl rfl rfl rfl rfl rfl rfl rfl rfl) rfl (r_v (qft qc [0, 1] [.const (.int .i64 (1)), .const (.int .i64 (0))] rfl rfl rfl rfl rfl rfl rfl rfl rfl) rfl (r_v (qft qc [0, 1] [.const (.int .i64 (1)), .const (.int .i64 (1))] rfl rfl rfl rfl rfl rfl rfl rfl rfl) rfl (qaB qc [.tmp 39, .tmp 40, .tmp 41, .tmp 42] _ ([(⟨0, 0⟩ : qS), (⟨0, 1⟩ : qS), (⟨1, 0⟩ : qS), (⟨1, 1⟩ : qS)] : List qS) h rfl rfl rfl rfl rfl rfl rfl rfl rfl ⟨(qc0 (⟨0, 0⟩ : qS)), (qc0 (⟨0, 1⟩ : qS)), (qc0 (⟨1, 0⟩ : qS)), (qc0 (⟨1, 1⟩ : qS)), trivial⟩ rfl ?_))))))
 intro w6 p7 S5 h
 refine zp1 rfl (qb ?_)
 obtain rfl := qh hF
 exact qav qc (ρ := (List qS)) [GoT.v (List qS) [.slice p7 4 4]] h ⟨rfl, trivial⟩ (PV.done h (qaG (qab 0 h rfl)))

def qa0 (first : Int) (i1 : Int) (y2 : qY) (r1 : (List qS)) : Nat → (List qbd) → Int → Option ((List qbd) × Int)
 | 0, _, _ => none
 | n + 1, x2, i2 =>
  bif decide (i2 < (r1.length : Int)) then
   (idx r1 i2).bind fun y3 =>
   (appS x2 ([(⟨W64 ((W64 (2 * (W64 (first + y2.From)))) + y3.e0), W64 ((W64 (2 * (W64 (first + y2.To)))) + y3.e1), 1, i1⟩ : qbd)] : List qbd)).bind fun x3 =>
   qa0 first i1 y2 r1 n x3 (W64 (i2 + 1))
  else
   some (x2, i2)

def qa3 (first : Int) (y1 : qB) : Nat → (List qbd) → Int → Option ((List qbd) × Int)
 | 0, _, _ => none
 | n + 1, x1, i1 =>
  bif decide (i1 < (y1.Arcs.length : Int)) then
   (idx y1.Arcs i1).bind fun y2 =>
   (qdD n y2).bind fun r1 =>
   (qa0 first i1 y2 r1 n x1 0).bind fun o => match o with
   | (x2, _) =>
    qa3 first y1 n x2 (W64 (i1 + 1))
  else
   some (x1, i1)

def qdC (n : Nat) (b : qF) (x : qk) (first : Int) : Option (List qbd) :=
 (idx b.Library.Cells x.Cell).bind fun y1 =>
 (qa3 first y1 n ([] : List qbd) 0).bind fun o => match o with
 | (x1, _) =>
  some x1

theorem qiM {n : Nat} {w : World} {b : qF} {x : qk} {first : Int} {cs1 : List Value} (ha1 : GoT.R w (old w) b cs1) {cs2 : List Value} (ha2 : GoT.R w (old w) x cs2) {r : (List qbd)} (hF : qdC n b x first = some r) : RetV Tryz.prog 150 [GoT.v qF cs1, GoT.v qk cs2, .int .i64 first] w r := by
 obtain ⟨p1, k1, p2, k2, p3, k3, p4, k4, p5, k5, rfl, s1, s2, s3, s4, s5⟩ := qar ha1
 obtain ⟨p6, k6, rfl, s6⟩ := qad ha2
 refine qe Tryz.func150 rfl (m := 57) rfl rfl (fun h => ?_)
 rw [qdC] at hF
 refine zSR (qO h rfl rfl ?_)
 intro w1 bb1 h
 refine qO h rfl rfl ?_
 intro w2 bb2 h
 refine zp1 rfl (zNSR (zp1 rfl (zNSSR (zp2 rfl (zl 1 0 h rfl ?_)))))
 refine zp1 rfl (zl 0 1 h rfl ?_)
 obtain ⟨y1, hy1, hF⟩ := qd hF
 have he1 := qg hy1
 obtain ⟨b1, o_1, q1, cs3, hp1, hq1, -, hr1, hc1⟩ := s1.at hy1
 obtain ⟨p7, k7, p8, k8, p9, k9, rfl, s7, s8, s9⟩ := qai hr1
 refine zxe hp1 hq1 he1 rfl (zp1 rfl (zc 3 (hc1.below h.below) rfl (zp2 rfl (qb ?_))))
 replace h := h.nil (α := qbd)
 obtain ⟨o1, hF, hK1⟩ := qd hF
 refine qv ?_
 replace h := h.pick [0] rfl
 refine qR [(2, _), (7, _), (19, _), (20, _), (21, _)] ⟨rfl, rfl, rfl, rfl, rfl, trivial⟩ ?_
 refine qI (fun m e w' => ∃ (S1 : Nat → Prop) (p10 : Option Addr) (ln1 : Nat) (k10 : Nat) (x1 : (List qbd)) (i1 : Int), qa3 first y1 m x1 i1 = some o1 ∧ e = [(2, .int .i64 first), (7, .slice p10 ln1 k10), (19, .slice p8 y1.Arcs.length k8), (20, .int .i64 (y1.Arcs.length : Int)), (21, .int .i64 i1)] ∧ SH w w' [Ch.own S1 (x1 : List qbd) [.slice p10 ln1 k10]]) n ⟨_, _, _, _, _, _, hF, rfl, h⟩ ?_
 rintro m1 e1 w3 ⟨S1, p10, ln1, k10, x1, i1, hF, rfl, h⟩
 obtain rfl := (h.sl 0 rfl).2
 rcases m1 with _ | m1
 ·rw [qa3] at hF
  cases hF
 rw [qa3] at hF
 refine zSR (zp1 rfl (zNS ?_))
 refine qr rfl hF ?_ ?_ <;> intro hF
 ·refine zKSBSR (zp1 rfl ?_)
  obtain ⟨y2, hy2, hF⟩ := qd hF
  have he2 := qg hy2
  obtain ⟨b2, o_2, q2, cs4, hp2, hq2, -, hr2, hc3⟩ := s8.at hy2
  obtain ⟨p11, k11, p12, k12, rfl, s10, s11⟩ := qaQ hr2
  refine zxe hp2 hq2 he2 rfl (zc 0 (hc3.below h.below) rfl (qah qc h rfl rfl rfl ?_))
  intro w4 bb3 h
  refine zp1 rfl (zs 0 h rfl ?_)
  intro w5 h
  replace h : SH _ _ [Ch.box bb3 [.int .i64 y2.Kind, .int .i64 y2.From, .int .i64 y2.To, .int .i64 y2.Sense, .slice p11 y2.Delay.length k11, .slice p12 y2.Slew.length k12] 211, Ch.own S1 (x1 : List qbd) [.slice p10 x1.length k10]] := h
  refine zNSR (zl 0 0 h rfl ?_)
  obtain ⟨r1, hr3, hF⟩ := qd hF
  refine qat r1 h call186 (qiF (qgg y2 (h.oldS s10) (h.oldS s11)) hr3) rfl rfl rfl rfl ?_
  intro w6 S2 p13 k13 h
  refine zp2 rfl (qb ?_)
  obtain ⟨o2, hF, hK2⟩ := qd hF
  refine qv (qR [(2, _), (7, _), (8, _), (9, _), (19, _), (20, _), (21, _), (27, _), (28, _), (29, _)] ⟨rfl, rfl, rfl, rfl, rfl, rfl, rfl, rfl, rfl, rfl, trivial⟩ ?_)
  refine qI (fun m e w' => ∃ (S3 : Nat → Prop) (p14 : Option Addr) (ln2 : Nat) (k14 : Nat) (x2 : (List qbd)) (i2 : Int), qa0 first i1 y2 r1 m x2 i2 = some o2 ∧ e = [(2, .int .i64 first), (7, .slice p14 ln2 k14), (8, .int .i64 i1), (9, .pointer (some ⟨bb3, 0, none⟩)), (19, .slice p8 y1.Arcs.length k8), (20, .int .i64 (y1.Arcs.length : Int)), (21, .int .i64 i1), (27, .slice p13 r1.length k13), (28, .int .i64 (r1.length : Int)), (29, .int .i64 i2)] ∧ SH w w' [Ch.own S2 (r1 : List qS) [.slice p13 r1.length k13], Ch.box bb3 [.int .i64 y2.Kind, .int .i64 y2.From, .int .i64 y2.To, .int .i64 y2.Sense, .slice p11 y2.Delay.length k11, .slice p12 y2.Slew.length k12] 211, Ch.own S3 (x2 : List qbd) [.slice p14 ln2 k14]]) m1 ⟨_, _, _, _, _, _, hF, rfl, h⟩ ?_
  rintro m2 e2 w7 ⟨S3, p14, ln2, k14, x2, i2, hF, rfl, h⟩
  obtain rfl := (h.sl 2 rfl).2
  rcases m2 with _ | m2
  ·rw [qa0] at hF
   cases hF
  rw [qa0] at hF
  refine zSR (zp1 rfl (zNS ?_))
  refine qr rfl hF ?_ ?_ <;> intro hF
  ·refine zKSBSR ?_
   obtain ⟨y3, hy3, hF⟩ := qd hF
   have he3 := qg hy3
   obtain ⟨b3, o_3, q3, cs5, hp3, hq3, -, hr4, hc5⟩ := (h.sl 0 rfl).1.at hy3
   obtain rfl := qnB hr4
   refine zx hp3 hq3 ⟨he3.1, qae he3.2.1 (h.sl 0 rfl).2⟩ rfl (zc 0 hc5 rfl (qah qc h rfl rfl rfl ?_))
   intro w8 bb4 h
   refine zs 0 h rfl ?_
   intro w9 h
   refine qb (qy (zp3 rfl (zl 2 1 h rfl (zp2 rfl ?_))))
   refine r_v (qrB (iv := 0) qc rfl rfl (by decide) ⟨rfl, rfl⟩ rfl rfl) rfl ?_
   refine zl 0 0 h rfl (zp3 rfl (zl 2 2 h rfl (zp2 rfl ?_)))
   refine r_v (qrB (iv := 1) qc rfl rfl (by decide) ⟨rfl, rfl⟩ rfl rfl) rfl ?_
   refine zl 0 1 h rfl (zp2 rfl (r_v (qh1 qc [0, 1, 2, 3] [.tmp 41, .tmp 49, .const (.int .i64 (1)), .tmp 50] rfl rfl rfl rfl rfl rfl rfl rfl) rfl (qaB qc [.tmp 51] _ ([(⟨W64 ((W64 (2 * (W64 (first + y2.From)))) + y3.e0), W64 ((W64 (2 * (W64 (first + y2.To)))) + y3.e1), 1, i1⟩ : qbd)] : List qbd) h rfl rfl rfl rfl rfl rfl rfl rfl rfl ⟨(qnd (⟨W64 ((W64 (2 * (W64 (first + y2.From)))) + y3.e0), W64 ((W64 (2 * (W64 (first + y2.To)))) + y3.e1), 1, i1⟩ : qbd)), trivial⟩ rfl ?_)))
   intro w10 p15 S4 h
   obtain ⟨x3, hx1, hF⟩ := qd hF
   obtain ⟨g1, hx1⟩ := qa8 hx1
   refine qee qc 4 h rfl (h.sl 0 rfl).1 (h.sl 0 rfl).2 rfl rfl rfl rfl rfl rfl rfl rfl rfl g1 hx1 rfl ?_
   intro w11 p16 k15 S5 h
   refine zp1 rfl (zNER (zp2 rfl (qb ?_)))
   replace h := h.pick [2, 3, 4] rfl
   exact qA m2 [(2, _), (7, _), (8, _), (9, _), (19, _), (20, _), (21, _), (27, _), (28, _), (29, _)] (Nat.lt_succ_self m2) ⟨rfl, rfl, rfl, rfl, rfl, rfl, rfl, rfl, rfl, rfl, trivial⟩ ⟨_, _, _, _, _, _, hF, rfl, h⟩
  refine qH rfl ?_
  obtain rfl := qh hF; replace hF := hK2
  refine qf2 (qy (zp2 rfl (qb ?_)))
  replace h := h.pick [2] rfl
  exact qA m1 [(2, _), (7, _), (19, _), (20, _), (21, _)] (Nat.lt_succ_self m1) ⟨rfl, rfl, rfl, rfl, rfl, trivial⟩ ⟨_, _, _, _, _, _, hF, rfl, h⟩
 refine qH rfl ?_
 obtain rfl := qh hF; replace hF := hK1
 refine zSR (zp2 rfl (qb ?_))
 obtain rfl := qh hF
 exact qav qc (ρ := (List qbd)) [GoT.v (List qbd) [.slice p10 x1.length k10]] h ⟨rfl, trivial⟩ (PV.done h (qaG (qab 0 h rfl)))

def qgq (_ : Nat) (s : (List Int)) : Option (List Int) :=
 appS ([] : List Int) s

theorem qja {n : Nat} {w : World} {s : (List Int)} {cs1 : List Value} (ha1 : GoT.R w (old w) s cs1) {r : (List Int)} (hF : qgq n s = some r) : RetV Tryz.prog 97 [GoT.v (List Int) cs1] w r := by
 obtain ⟨p, k, rfl, s1⟩ := ha1
 obtain ⟨g1, hx⟩ := qa8 (show appS ([] : List Int) s = some r from hF)
 cases p with
 | none =>
  obtain rfl := qon s1
  obtain rfl : [] = r := hx
  refine qe Tryz.func97 rfl (m := 8) rfl rfl (fun h => ?_)
  refine zSR (zp1 rfl (zNSSR (zp1 rfl (r_v (qnS qc rfl rfl rfl rfl rfl) rfl (qb (qeR rfl rfl (qbr ?_)))))))
  exact qy (zp1 rfl (qb (qav qc (ρ := (List Int)) [GoT.v (List Int) [.slice none 0 0]] h ⟨rfl, trivial⟩ (PV.done h (qaG qne)))))
 | some a =>
  refine qe Tryz.func97 rfl (m := 8) rfl rfl (fun h => ?_)
  refine zSR (zp1 rfl (zNSSR (zp1 rfl (r_v (qnS qc rfl rfl rfl rfl rfl) rfl (qb (qel rfl rfl (qdH ?_)))))))
  refine zSR (qaB qc [] _ ([] : List Int) h rfl rfl rfl rfl rfl rfl rfl rfl rfl trivial rfl ?_)
  intro w1 p1 S1 h
  refine zp1 rfl (qrA qc 0 h rfl (h.oldS s1) rfl rfl rfl rfl rfl rfl rfl rfl rfl rfl g1 rfl ?_)
  intro w2 p2 k2 S2 h
  rw [hx] at h
  exact zp1 rfl (qb (qav qc (ρ := (List Int)) [GoT.v (List Int) [.slice p2 (([] : List Int).length + s.length) k2]] h ⟨rfl, trivial⟩ (PV.done h (qaG (qab 0 h rfl)))))

def qaE (net : Int) (r1 : (List Tplace)) : Nat → (List Int) → Int → Option ((List Int) × Int)
 | 0, _, _ => none
 | n + 1, x1, i1 =>
  bif decide (i1 < (r1.length : Int)) then
   (idx r1 i1).bind fun y1 =>
   bif (y1.net == net) then
    bif (!y1.drives) then
     (appS x1 ([i1] : List Int)).bind fun x2 =>
     qaE net r1 n x2 (W64 (i1 + 1))
    else
     qaE net r1 n x1 (W64 (i1 + 1))
   else
    qaE net r1 n x1 (W64 (i1 + 1))
  else
   some (x1, i1)

def qeD (n : Nat) (d : ql) (net : Int) : Option (List Int) :=
 (qbQ n d).bind fun r1 =>
 (qaE net r1 n ([] : List Int) 0).bind fun o => match o with
 | (x1, _) =>
  some x1

theorem qjs {n : Nat} {w : World} {d : ql} {net : Int} {cs1 : List Value} (ha1 : GoT.R w (old w) d cs1) {r : (List Int)} (hF : qeD n d net = some r) : RetV Tryz.prog 187 [GoT.v ql cs1, .int .i64 net] w r := by
 obtain ⟨p1, k1, p2, k2, p3, k3, rfl, s1, s2, s3⟩ := qaS ha1
 refine qe Tryz.func187 rfl (m := 31) rfl rfl (fun h => ?_)
 rw [qeD] at hF
 refine zSR (qO h rfl rfl ?_)
 intro w1 bb1 h
 refine zp1 rfl (zNSR (zp1 rfl (zNSSR (zl 0 0 h rfl ?_))))
 obtain ⟨r1, hr1, hF⟩ := qd hF
 refine qat r1 h call148 (qem (h.old ha1) hr1) rfl rfl rfl rfl ?_
 intro w2 S1 p4 k4 h
 refine zp2 rfl (qb ?_)
 replace h := h.nil (α := Int)
 obtain ⟨o1, hF, hK1⟩ := qd hF
 refine qv ?_
 replace h := h.pick [0, 1] rfl
 refine qR [(1, _), (5, _), (9, _), (10, _), (11, _)] ⟨rfl, rfl, rfl, rfl, rfl, trivial⟩ ?_
 refine qI (fun m e w' => ∃ (S2 : Nat → Prop) (p5 : Option Addr) (ln1 : Nat) (k5 : Nat) (x1 : (List Int)) (i1 : Int), qaE net r1 m x1 i1 = some o1 ∧ e = [(1, .int .i64 net), (5, .slice p5 ln1 k5), (9, .slice p4 r1.length k4), (10, .int .i64 (r1.length : Int)), (11, .int .i64 i1)] ∧ SH w w' [Ch.own S2 (x1 : List Int) [.slice p5 ln1 k5], Ch.own S1 (r1 : List Tplace) [.slice p4 r1.length k4]]) n ⟨_, _, _, _, _, _, hF, rfl, h⟩ ?_
 rintro m1 e1 w3 ⟨S2, p5, ln1, k5, x1, i1, hF, rfl, h⟩
 obtain rfl := (h.sl 0 rfl).2
 rcases m1 with _ | m1
 ·rw [qaE] at hF
  cases hF
 rw [qaE] at hF
 refine zSR (zp1 rfl (zNS ?_))
 refine qr rfl hF ?_ ?_ <;> intro hF
 ·refine zKSBSR (zp1 rfl ?_)
  obtain ⟨y1, hy1, hF⟩ := qd hF
  have he1 := qg hy1
  obtain ⟨b1, o_1, q1, cs2, hp1, hq1, -, hr2, hc2⟩ := (h.sl 1 rfl).1.at hy1
  obtain rfl := qhK hr2
  refine zx hp1 hq1 ⟨he1.1, qae he1.2.1 (h.sl 1 rfl).2⟩ rfl (zc 0 hc2 rfl (qah qc h rfl rfl rfl ?_))
  intro w4 bb2 h
  refine zp1 rfl (zs 0 h rfl ?_)
  intro w5 h
  replace h : SH _ _ [Ch.box bb2 [.int .i64 y1.instance_, .int .i64 y1.pin, .int .i64 y1.net, .bool y1.drives] 156, Ch.own S2 (x1 : List Int) [.slice p5 x1.length k5], Ch.own S1 (r1 : List Tplace) [.slice p4 r1.length k4]] := h
  refine zNSR (zp1 rfl (zl 0 2 h rfl (zp3 rfl ?_)))
  by_cases hc3 : (y1.net == net) = true
  ·replace hF := bifT hc3 hF
   refine qD hc3 (t := 20) rfl (qa rfl (zp1 rfl (qa rfl (zl 0 3 h rfl (qa rfl (zp2 rfl (qb ?_)))))))
   refine qr rfl hF ?_ ?_ <;> intro hF
   ·refine qy (zp2 rfl (qaB qc [.tmp 26] _ ([i1] : List Int) h rfl rfl rfl rfl rfl rfl rfl rfl rfl ⟨rfl, trivial⟩ rfl ?_))
    intro w6 p6 S3 h
    obtain ⟨x2, hx1, hF⟩ := qd hF
    obtain ⟨g1, hx1⟩ := qa8 hx1
    refine qee qc 2 h rfl (h.sl 0 rfl).1 (h.sl 0 rfl).2 rfl rfl rfl rfl rfl rfl rfl rfl rfl g1 hx1 rfl ?_
    intro w7 p7 k6 S4 h
    refine zp1 rfl (zNER (zp2 rfl (qb ?_)))
    replace h := h.pick [2, 3] rfl
    exact qA m1 [(1, _), (5, _), (9, _), (10, _), (11, _)] (Nat.lt_succ_self m1) ⟨rfl, rfl, rfl, rfl, rfl, trivial⟩ ⟨_, _, _, _, _, _, hF, rfl, h⟩
   refine zKER (zp2 rfl (qb ?_))
   replace h := h.pick [1, 2] rfl
   exact qA m1 [(1, _), (5, _), (9, _), (10, _), (11, _)] (Nat.lt_succ_self m1) ⟨rfl, rfl, rfl, rfl, rfl, trivial⟩ ⟨_, _, _, _, _, _, hF, rfl, h⟩
  replace hc3 := zb hc3
  replace hF := bifF hc3 hF
  refine qE hc3 (t := 20) rfl (zn3 rfl (zp1 rfl (qb (qel rfl rfl (zKER (zp2 rfl ?_))))))
  refine qb ?_
  replace h := h.pick [1, 2] rfl
  exact qA m1 [(1, _), (5, _), (9, _), (10, _), (11, _)] (Nat.lt_succ_self m1) ⟨rfl, rfl, rfl, rfl, rfl, trivial⟩ ⟨_, _, _, _, _, _, hF, rfl, h⟩
 refine qH rfl ?_
 obtain rfl := qh hF; replace hF := hK1
 refine zSR (zp2 rfl (qb ?_))
 obtain rfl := qh hF
 exact qav qc (ρ := (List Int)) [GoT.v (List Int) [.slice p5 x1.length k5]] h ⟨rfl, trivial⟩ (PV.done h (qaG (qab 0 h rfl)))

def qey (_ : Nat) (d : ql) (l : qz) (p : Tplace) : Option Int :=
 bif decide (p.instance_ < 0) then
  some 0
 else
  (idx d.Instances p.instance_).bind fun y1 =>
  (idx l.Cells y1.Cell).bind fun y2 =>
  (idx y2.Pins p.pin).bind fun y3 =>
  some y3.Cap

theorem qjG {n : Nat} {w : World} {d : ql} {l : qz} {p : Tplace} {cs1 : List Value} (ha1 : GoT.R w (old w) d cs1) {cs2 : List Value} (ha2 : GoT.R w (old w) l cs2) {cs3 : List Value} (ha3 : GoT.R w (old w) p cs3) {r : Int} (hF : qey n d l p = some r) : RetV Tryz.prog 188 [GoT.v ql cs1, GoT.v qz cs2, GoT.v Tplace cs3] w r := by
 obtain ⟨p1, k1, p2, k2, p3, k3, rfl, s1, s2, s3⟩ := qaS ha1
 obtain ⟨p4, k4, rfl, s4⟩ := qb3 ha2
 obtain rfl := qhK ha3
 refine qe Tryz.func188 rfl (m := 27) rfl rfl (fun h => ?_)
 rw [qey] at hF
 refine zSR (qO h rfl rfl ?_)
 intro w1 bb1 h
 refine qO h rfl rfl ?_
 intro w2 bb2 h
 refine qO h rfl rfl ?_
 intro w3 bb3 h
 refine zp1 rfl (zNSSR (zp1 rfl (zl 0 0 h rfl (zp1 rfl (qb ?_)))))
 refine qr rfl hF ?_ ?_ <;> intro hF
 ·exact zSR (zp1 rfl (qb (qap qc h hF ⟨rfl, trivial⟩)))
 refine zKS ?_
 refine qc7 rfl (by kernel_rfl) ?_
 refine zd1 rfl ?_
 refine zdl 1 0 h rfl ?_
 refine zd1 rfl ?_
 refine zdl 2 0 h rfl ?_
 refine zd1 rfl ?_
 refine zdl 0 0 h rfl ?_
 obtain ⟨y1, hy1, hF⟩ := qd hF
 have he1 := qg hy1
 obtain ⟨b1, o_1, q1, cs4, hp1, hq1, -, hr1, hc2⟩ := s1.at hy1
 obtain ⟨p5, k5, rfl, s5⟩ := qad hr1
 refine zdxe hp1 hq1 he1 rfl ?_
 refine zd1 rfl ?_
 refine zdc 1 (hc2.below h.below) rfl ?_
 obtain ⟨y2, hy2, hF⟩ := qd hF
 have he2 := qg hy2
 obtain ⟨b2, o_2, q2, cs5, hp2, hq2, -, hr2, hc3⟩ := s4.at hy2
 obtain ⟨p6, k6, p7, k7, p8, k8, rfl, s6, s7, s8⟩ := qai hr2
 refine zdxe hp2 hq2 he2 rfl ?_
 refine zd1 rfl ?_
 refine zdc 2 (hc3.below h.below) rfl ?_
 refine zd1 rfl ?_
 refine zdl 0 1 h rfl ?_
 obtain ⟨y3, hy3, hF⟩ := qd hF
 have he3 := qg hy3
 obtain ⟨b3, o_3, q3, cs6, hp3, hq3, -, hr3, hc4⟩ := s6.at hy3
 obtain rfl := qa7 hr3
 refine zdxe hp3 hq3 he3 rfl ?_
 refine zd1 rfl ?_
 refine zdc 2 (hc4.below h.below) rfl ?_
 refine zd1 rfl ?_
 refine qbm (fun w4 hb => ?_)
 replace h := h.ext hb
 clear hb
 exact qap qc h hF ⟨rfl, trivial⟩

def qa1 (y1 : qP) : Nat → (List Int) → Int → Option ((List Int) × Int)
 | 0, _, _ => none
 | n + 1, x2, i2 =>
  bif decide (i2 > 0) then
   (idx y1.Parent i2).bind fun y7 =>
   (idx x2 y7).bind fun y8 =>
   (idx x2 i2).bind fun y9 =>
   (idx x2 y7).bind fun _ =>
   qa1 y1 n (setS x2 y7 (W64 (y8 + y9))) (W64 (i2 - 1))
  else
   some (x2, i2)

def qa2 (a_0 : qF) (y1 : qP) (r2 : (List Tplace)) (r3 : (List Int)) : Nat → (List Int) → Int → Option ((List Int) × Int)
 | 0, _, _ => none
 | n + 1, x1, i1 =>
  bif decide (i1 < (r3.length : Int)) then
   (idx r3 i1).bind fun y2 =>
   (idx y1.Sink i1).bind fun y3 =>
   (idx x1 y3).bind fun y4 =>
   (idx r2 y2).bind fun y5 =>
   (qey n (⟨a_0.Design.Instances, a_0.Design.Nets, a_0.Design.Ports⟩ : ql) (⟨a_0.Library.Cells⟩ : qz) y5).bind fun r4 =>
   (idx x1 y3).bind fun _ =>
   qa2 a_0 y1 r2 r3 n (setS x1 y3 (W64 (y4 + r4))) (W64 (i1 + 1))
  else
   some (x1, i1)

def qcw (n : Nat) (a_0 : qF) (a_1 : Int) : Option (List Int) :=
 (idx a_0.Wires a_1).bind fun y1 =>
 (qgq n y1.Cap).bind fun r1 =>
 (qbQ n (⟨a_0.Design.Instances, a_0.Design.Nets, a_0.Design.Ports⟩ : ql)).bind fun r2 =>
 (qeD n (⟨a_0.Design.Instances, a_0.Design.Nets, a_0.Design.Ports⟩ : ql) a_1).bind fun r3 =>
 (qa2 a_0 y1 r2 r3 n r1 0).bind fun o => match o with
 | (x1, _) =>
  (qa1 y1 n x1 (W64 ((r1.length : Int) - 1))).bind fun o => match o with
  | (x2, _) =>
   some x2

theorem qe3 {n : Nat} {w : World} {a_0 : qF} {a_1 : Int} {cs1 : List Value} (ha1 : GoT.R w (old w) a_0 cs1) {r : (List Int)} (hF : qcw n a_0 a_1 = some r) : RetV Tryz.prog 151 [GoT.v qF cs1, .int .i64 a_1] w r := by
 obtain ⟨p1, k1, p2, k2, p3, k3, p4, k4, p5, k5, rfl, s1, s2, s3, s4, s5⟩ := qar ha1
 refine qe Tryz.func151 rfl (m := 74) rfl rfl (fun h => ?_)
 rw [qcw] at hF
 refine zSR (qO h rfl rfl ?_)
 intro w1 bb1 h
 refine zp1 rfl (zNSR (zp1 rfl (zl 0 4 h rfl (zp1 rfl ?_))))
 obtain ⟨y1, hy1, hF⟩ := qd hF
 have he1 := qg hy1
 obtain ⟨b1, o_1, q1, cs2, hp1, hq1, -, hr1, hc1⟩ := s5.at hy1
 obtain ⟨p6, k6, p7, k7, p8, k8, p9, k9, rfl, s6, s7, s8, s9⟩ := qbw hr1
 refine zxe hp1 hq1 he1 rfl (zc 0 (hc1.below h.below) rfl (qah qc h rfl rfl rfl ?_))
 intro w2 bb2 h
 refine zs 0 h rfl ?_
 intro w3 h
 refine zNSR (zp1 rfl (zl 0 2 h rfl ?_))
 obtain ⟨r1, hr2, hF⟩ := qd hF
 refine qat r1 h call97 (qja ⟨_, _, rfl, (h.oldS s8)⟩ hr2) rfl rfl rfl rfl ?_
 intro w4 S1 p10 k10 h
 refine zp1 rfl (zNSR (zp1 rfl (zl 2 1 h rfl ?_)))
 obtain ⟨r2, hr3, hF⟩ := qd hF
 refine qat r2 h call148 (qem (qco (⟨a_0.Design.Instances, a_0.Design.Nets, a_0.Design.Ports⟩ : ql) (h.oldS s2) (h.oldS s3) (h.oldS s4)) hr3) rfl rfl rfl rfl ?_
 intro w5 S2 p11 k11 h
 refine zp1 rfl (zNSSR (zp1 rfl (zl 3 1 h rfl (zp1 rfl ?_))))
 obtain ⟨r3, hr4, hF⟩ := qd hF
 refine qat r3 h call187 (qjs (qco (⟨a_0.Design.Instances, a_0.Design.Nets, a_0.Design.Ports⟩ : ql) (h.oldS s2) (h.oldS s3) (h.oldS s4)) hr4) rfl rfl rfl rfl ?_
 intro w6 S3 p12 k12 h
 refine zp2 rfl (qb ?_)
 obtain ⟨o1, hF, hK1⟩ := qd hF
 refine qv (qR [(2, _), (5, _), (6, _), (7, _), (25, _), (26, _), (27, _)] ⟨rfl, rfl, rfl, rfl, rfl, rfl, rfl, trivial⟩ ?_)
 refine qI (fun m e w' => ∃ (x1 : (List Int)) (i1 : Int), qa2 a_0 y1 r2 r3 m x1 i1 = some o1 ∧ e = [(2, .pointer (some ⟨bb1, 0, none⟩)), (5, .pointer (some ⟨bb2, 0, none⟩)), (6, .slice p10 r1.length k10), (7, .slice p11 r2.length k11), (25, .slice p12 r3.length k12), (26, .int .i64 (r3.length : Int)), (27, .int .i64 i1)] ∧ SH w w' [Ch.own S3 (r3 : List Int) [.slice p12 r3.length k12], Ch.own S2 (r2 : List Tplace) [.slice p11 r2.length k11], Ch.own S1 (x1 : List Int) [.slice p10 r1.length k10], Ch.box bb2 [.slice p6 y1.Parent.length k6, .slice p7 y1.Res.length k7, .slice p8 y1.Cap.length k8, .slice p9 y1.Sink.length k9] 130, Ch.box bb1 [.slice p1 a_0.Library.Cells.length k1, .slice p2 a_0.Design.Instances.length k2, .slice p3 a_0.Design.Nets.length k3, .slice p4 a_0.Design.Ports.length k4, .slice p5 a_0.Wires.length k5] 50]) n ⟨_, _, hF, rfl, h⟩ ?_
 rintro m1 e1 w7 ⟨x1, i1, hF, rfl, h⟩
 rcases m1 with _ | m1
 ·rw [qa2] at hF
  cases hF
 rw [qa2] at hF
 refine zSR (zp1 rfl (zNS ?_))
 refine qr rfl hF ?_ ?_ <;> intro hF
 ·refine zKSBSR (zp1 rfl ?_)
  obtain ⟨y2, hy2, hF⟩ := qd hF
  have he2 := qg hy2
  obtain ⟨b2, o_2, q2, cs3, hp2, hq2, -, hr5, hc3⟩ := (h.sl 0 rfl).1.at hy2
  obtain rfl := hr5
  refine zx hp2 hq2 ⟨he2.1, qae he2.2.1 (h.sl 0 rfl).2⟩ rfl (zc 0 hc3 rfl (zp2 rfl (qb ?_)))
  refine qhV [19] (fun w' => SH w w' [Ch.own S2 (r2 : List Tplace) [.slice p11 r2.length k11], Ch.own S1 (x1 : List Int) [.slice p10 r1.length k10], Ch.box bb2 [.slice p6 y1.Parent.length k6, .slice p7 y1.Res.length k7, .slice p8 y1.Cap.length k8, .slice p9 y1.Sink.length k9] 130, Ch.box bb1 [.slice p1 a_0.Library.Cells.length k1, .slice p2 a_0.Design.Instances.length k2, .slice p3 a_0.Design.Nets.length k3, .slice p4 a_0.Design.Ports.length k4, .slice p5 a_0.Wires.length k5] 50]) rfl 20 rfl #[ff, ff, ff, ff, ff, ff, ff, ff, ff, ff, ff, ff, ff, ff, ff, ff, ff, ff, ff, ff] (by kernel_rfl) (fun w8 hb => ?_)
  replace h := h.ext hb
  clear hb
  refine qp 0 rfl #[tt, ff, ff, ff, ff, ff, ff, ff, ff, ff, ff, ff, ff, ff, ff, ff, ff, ff, ff, ff] (by kernel_rfl) (by kernel_rfl) (fun w' hw => v_p qc rfl w') (h.pick [1, 2, 3, 4] rfl) rfl ?_
  refine qp 1 rfl #[tt, tt, ff, ff, ff, ff, ff, ff, ff, ff, ff, ff, ff, ff, ff, ff, ff, ff, ff, ff] (by kernel_rfl) (by kernel_rfl) (fun w' hw => v_p qc rfl w') (h.pick [1, 2, 3, 4] rfl) rfl ?_
  refine qp 2 rfl #[tt, tt, tt, ff, ff, ff, ff, ff, ff, ff, ff, ff, ff, ff, ff, ff, ff, ff, ff, ff] (by kernel_rfl) (by kernel_rfl) (fun w' hw => qda qc (hw.box 2 rfl) (j := 3) rfl rfl rfl) (h.pick [1, 2, 3, 4] rfl) rfl ?_
  refine qp 3 rfl #[tt, tt, tt, tt, ff, ff, ff, ff, ff, ff, ff, ff, ff, ff, ff, ff, ff, ff, ff, ff] (by kernel_rfl) (by kernel_rfl) (fun w' hw => v_p qc rfl w') (h.pick [1, 2, 3, 4] rfl) rfl ?_
  obtain ⟨y3, hy3, hF⟩ := qd hF
  have he3 := qg hy3
  obtain ⟨b3, o_3, q3, cs4, hp3, hq3, -, hr6, hc4⟩ := s9.at hy3
  obtain rfl := hr6
  refine qp 4 rfl #[tt, tt, tt, tt, tt, ff, ff, ff, ff, ff, ff, ff, ff, ff, ff, ff, ff, ff, ff, ff] (by kernel_rfl) (by kernel_rfl) (fun w' hw => qhn qc hp3 hq3 ⟨he3.1, he3.2.1⟩ rfl rfl rfl rfl rfl rfl) (h.pick [1, 2, 3, 4] rfl) rfl ?_
  refine qp 5 rfl #[tt, tt, tt, tt, tt, tt, ff, ff, ff, ff, ff, ff, ff, ff, ff, ff, ff, ff, ff, ff] (by kernel_rfl) (by kernel_rfl) (fun w' hw => qda qc (hc4.below hw.below) (j := 0) rfl rfl rfl) (h.pick [1, 2, 3, 4] rfl) rfl ?_
  obtain ⟨y4, hy4, hF⟩ := qd hF
  have he4 := qg hy4
  obtain ⟨b4, o_4, q4, cs5, hp4, hq4, -, hr7, hc5⟩ := (h.sl 2 rfl).1.at hy4
  obtain rfl := hr7
  refine qp 6 rfl #[tt, tt, tt, tt, tt, tt, tt, ff, ff, ff, ff, ff, ff, ff, ff, ff, ff, ff, ff, ff] (by kernel_rfl) (by kernel_rfl) (fun w' hw => qhn qc hp4 hq4 ⟨he4.1, qae he4.2.1 (h.sl 2 rfl).2⟩ rfl rfl rfl rfl rfl rfl) (h.pick [1, 2, 3, 4] rfl) rfl ?_
  refine qp 7 rfl #[tt, tt, tt, tt, tt, tt, tt, tt, ff, ff, ff, ff, ff, ff, ff, ff, ff, ff, ff, ff] (by kernel_rfl) (by kernel_rfl) (fun w' hw => qda qc (qhr (w1 := w) (S1 := fun _ => False) hw 1 rfl hy4 hp4 hq4 rfl) (j := 0) rfl rfl rfl) (h.pick [1, 2, 3, 4] rfl) rfl ?_
  refine qp 8 rfl #[tt, tt, tt, tt, tt, tt, tt, tt, tt, ff, ff, ff, ff, ff, ff, ff, ff, ff, ff, ff] (by kernel_rfl) (by kernel_rfl) (fun w' hw => v_p qc rfl w') (h.pick [1, 2, 3, 4] rfl) rfl ?_
  refine qp 9 rfl #[tt, tt, tt, tt, tt, tt, tt, tt, tt, tt, ff, ff, ff, ff, ff, ff, ff, ff, ff, ff] (by kernel_rfl) (by kernel_rfl) (fun w' hw => qda qc (hw.box 3 rfl) (j := 1) rfl rfl rfl) (h.pick [1, 2, 3, 4] rfl) rfl ?_
  refine qp 10 rfl #[tt, tt, tt, tt, tt, tt, tt, tt, tt, tt, tt, ff, ff, ff, ff, ff, ff, ff, ff, ff] (by kernel_rfl) (by kernel_rfl) (fun w' hw => v_p qc rfl w') (h.pick [1, 2, 3, 4] rfl) rfl ?_
  refine qp 11 rfl #[tt, tt, tt, tt, tt, tt, tt, tt, tt, tt, tt, tt, ff, ff, ff, ff, ff, ff, ff, ff] (by kernel_rfl) (by kernel_rfl) (fun w' hw => qda qc (hw.box 3 rfl) (j := 0) rfl rfl rfl) (h.pick [1, 2, 3, 4] rfl) rfl ?_
  refine qp 12 rfl #[tt, tt, tt, tt, tt, tt, tt, tt, tt, tt, tt, tt, tt, ff, ff, ff, ff, ff, ff, ff] (by kernel_rfl) (by kernel_rfl) (fun w' hw => v_p qc rfl w') (h.pick [1, 2, 3, 4] rfl) rfl ?_
  refine qp 13 rfl #[tt, tt, tt, tt, tt, tt, tt, tt, tt, tt, tt, tt, tt, tt, ff, ff, ff, ff, ff, ff] (by kernel_rfl) (by kernel_rfl) (fun w' hw => v_p qc rfl w') (h.pick [1, 2, 3, 4] rfl) rfl ?_
  obtain ⟨y5, hy5, hF⟩ := qd hF
  have he5 := qg hy5
  obtain ⟨b5, o_5, q5, cs6, hp5, hq5, -, hr8, hc6⟩ := (h.sl 1 rfl).1.at hy5
  obtain rfl := qhK hr8
  refine qp 14 rfl #[tt, tt, tt, tt, tt, tt, tt, tt, tt, tt, tt, tt, tt, tt, tt, ff, ff, ff, ff, ff] (by kernel_rfl) (by kernel_rfl) (fun w' hw => qhn qc hp5 hq5 ⟨he5.1, qae he5.2.1 (h.sl 1 rfl).2⟩ rfl rfl rfl rfl rfl rfl) (h.pick [1, 2, 3, 4] rfl) rfl ?_
  refine qp 15 rfl #[tt, tt, tt, tt, tt, tt, tt, tt, tt, tt, tt, tt, tt, tt, tt, tt, ff, ff, ff, ff] (by kernel_rfl) (by kernel_rfl) (fun w' hw => qda qc (qhr hw 0 rfl hy5 hp5 hq5 (qiV (w := w) (S := fun _ => False) y5)) (j := 0) rfl rfl rfl) (h.pick [1, 2, 3, 4] rfl) rfl ?_
  refine qbi 16 rfl #[tt, tt, tt, tt, tt, tt, tt, tt, tt, tt, tt, tt, tt, tt, tt, tt, tt, ff, ff, ff] (by kernel_rfl) (by kernel_rfl) ?_
  obtain ⟨r4, hr9, hF⟩ := qd hF
  refine qT r4 h call188 (qjG (qco (⟨a_0.Design.Instances, a_0.Design.Nets, a_0.Design.Ports⟩ : ql) (h.oldS s2) (h.oldS s3) (h.oldS s4)) (qfl (⟨a_0.Library.Cells⟩ : qz) (h.oldS s1)) (qiV y5) hr9) rfl rfl rfl rfl ?_
  intro w9 h
  refine qbf (fun _ => (h.pick [1, 2, 3, 4] rfl)) ?_
  refine qp 17 rfl #[tt, tt, tt, tt, tt, tt, tt, tt, tt, tt, tt, tt, tt, tt, tt, tt, tt, tt, ff, ff] (by kernel_rfl) (by kernel_rfl) (fun w' hw => v_p qc rfl w') (h.pick [1, 2, 3, 4] rfl) rfl ?_
  obtain ⟨y6, hy6, hF⟩ := qd hF
  have he6 := qg hy6
  obtain ⟨b6, o_6, q6, cs7, hp6, hq6, -, hr10, hc7⟩ := (h.sl 2 rfl).1.at hy6
  obtain rfl := hr10
  refine qp 18 rfl #[tt, tt, tt, tt, tt, tt, tt, tt, tt, tt, tt, tt, tt, tt, tt, tt, tt, tt, tt, ff] (by kernel_rfl) (by kernel_rfl) (fun w' hw => qhn qc hp6 hq6 ⟨he6.1, qae he6.2.1 (h.sl 2 rfl).2⟩ rfl rfl rfl rfl rfl rfl) (h.pick [1, 2, 3, 4] rfl) rfl ?_
  refine qbi 19 rfl #[tt, tt, tt, tt, tt, tt, tt, tt, tt, tt, tt, tt, tt, tt, tt, tt, tt, tt, tt, tt] (by kernel_rfl) (by kernel_rfl) ?_
  refine qcS qc 2 0 (W64 (y4 + r4)) h rfl hy6 hp6 hq6 rfl hc7 rfl rfl rfl rfl rfl rfl rfl ?_
  intro w10 h
  refine qbf (fun hs => absurd (hs 19 (by decide)) (by decide)) ?_
  refine qf4 (by kernel_rfl) ?_
  exact qf2 (qy (zp2 rfl (qb (qA m1 [(2, _), (5, _), (6, _), (7, _), (25, _), (26, _), (27, _)] (Nat.lt_succ_self m1) ⟨rfl, rfl, rfl, rfl, rfl, rfl, rfl, trivial⟩ ⟨_, _, hF, rfl, h⟩))))
 refine qH rfl ?_
 obtain rfl := qh hF; replace hF := hK1
 refine zSSR (zp4 rfl (qb ?_))
 obtain ⟨o2, hF, hK2⟩ := qd hF
 refine qv ?_
 replace h := h.pick [2, 3] rfl
 refine qR [(5, _), (6, _), (10, _)] ⟨rfl, rfl, rfl, trivial⟩ ?_
 refine qI (fun m e w' => ∃ (x2 : (List Int)) (i2 : Int), qa1 y1 m x2 i2 = some o2 ∧ e = [(5, .pointer (some ⟨bb2, 0, none⟩)), (6, .slice p10 r1.length k10), (10, .int .i64 i2)] ∧ SH w w' [Ch.own S1 (x2 : List Int) [.slice p10 r1.length k10], Ch.box bb2 [.slice p6 y1.Parent.length k6, .slice p7 y1.Res.length k7, .slice p8 y1.Cap.length k8, .slice p9 y1.Sink.length k9] 130]) n ⟨_, _, hF, rfl, h⟩ ?_
 rintro m2 e2 w11 ⟨x2, i2, hF, rfl, h⟩
 rcases m2 with _ | m2
 ·rw [qa1] at hF
  cases hF
 rw [qa1] at hF
 refine zSSR (zp2 rfl (qb ?_))
 refine qr rfl hF ?_ ?_ <;> intro hF
 ·refine zKSB ?_
  refine qhV [14] (fun w' => SH w w' [Ch.own S1 (x2 : List Int) [.slice p10 r1.length k10], Ch.box bb2 [.slice p6 y1.Parent.length k6, .slice p7 y1.Res.length k7, .slice p8 y1.Cap.length k8, .slice p9 y1.Sink.length k9] 130]) rfl 15 rfl #[ff, ff, ff, ff, ff, ff, ff, ff, ff, ff, ff, ff, ff, ff, ff] (by kernel_rfl) (fun w12 hb => ?_)
  replace h := h.ext hb
  clear hb
  refine qp 0 rfl #[tt, ff, ff, ff, ff, ff, ff, ff, ff, ff, ff, ff, ff, ff, ff] (by kernel_rfl) (by kernel_rfl) (fun w' hw => v_p qc rfl w') (h.pick [0, 1] rfl) rfl ?_
  refine qp 1 rfl #[tt, tt, ff, ff, ff, ff, ff, ff, ff, ff, ff, ff, ff, ff, ff] (by kernel_rfl) (by kernel_rfl) (fun w' hw => v_p qc rfl w') (h.pick [0, 1] rfl) rfl ?_
  refine qp 2 rfl #[tt, tt, tt, ff, ff, ff, ff, ff, ff, ff, ff, ff, ff, ff, ff] (by kernel_rfl) (by kernel_rfl) (fun w' hw => qda qc (hw.box 1 rfl) (j := 0) rfl rfl rfl) (h.pick [0, 1] rfl) rfl ?_
  refine qp 3 rfl #[tt, tt, tt, tt, ff, ff, ff, ff, ff, ff, ff, ff, ff, ff, ff] (by kernel_rfl) (by kernel_rfl) (fun w' hw => v_p qc rfl w') (h.pick [0, 1] rfl) rfl ?_
  obtain ⟨y7, hy7, hF⟩ := qd hF
  have he7 := qg hy7
  obtain ⟨b7, o_7, q7, cs8, hp7, hq7, -, hr11, hc9⟩ := s6.at hy7
  obtain rfl := hr11
  refine qp 4 rfl #[tt, tt, tt, tt, tt, ff, ff, ff, ff, ff, ff, ff, ff, ff, ff] (by kernel_rfl) (by kernel_rfl) (fun w' hw => qhn qc hp7 hq7 ⟨he7.1, he7.2.1⟩ rfl rfl rfl rfl rfl rfl) (h.pick [0, 1] rfl) rfl ?_
  refine qp 5 rfl #[tt, tt, tt, tt, tt, tt, ff, ff, ff, ff, ff, ff, ff, ff, ff] (by kernel_rfl) (by kernel_rfl) (fun w' hw => qda qc (hc9.below hw.below) (j := 0) rfl rfl rfl) (h.pick [0, 1] rfl) rfl ?_
  obtain ⟨y8, hy8, hF⟩ := qd hF
  have he8 := qg hy8
  obtain ⟨b8, o_8, q8, cs9, hp8, hq8, -, hr12, hc10⟩ := (h.sl 0 rfl).1.at hy8
  obtain rfl := hr12
  refine qp 6 rfl #[tt, tt, tt, tt, tt, tt, tt, ff, ff, ff, ff, ff, ff, ff, ff] (by kernel_rfl) (by kernel_rfl) (fun w' hw => qhn qc hp8 hq8 ⟨he8.1, qae he8.2.1 (h.sl 0 rfl).2⟩ rfl rfl rfl rfl rfl rfl) (h.pick [0, 1] rfl) rfl ?_
  refine qp 7 rfl #[tt, tt, tt, tt, tt, tt, tt, tt, ff, ff, ff, ff, ff, ff, ff] (by kernel_rfl) (by kernel_rfl) (fun w' hw => qda qc (qhr (w1 := w) (S1 := fun _ => False) hw 0 rfl hy8 hp8 hq8 rfl) (j := 0) rfl rfl rfl) (h.pick [0, 1] rfl) rfl ?_
  refine qp 8 rfl #[tt, tt, tt, tt, tt, tt, tt, tt, tt, ff, ff, ff, ff, ff, ff] (by kernel_rfl) (by kernel_rfl) (fun w' hw => v_p qc rfl w') (h.pick [0, 1] rfl) rfl ?_
  refine qp 9 rfl #[tt, tt, tt, tt, tt, tt, tt, tt, tt, tt, ff, ff, ff, ff, ff] (by kernel_rfl) (by kernel_rfl) (fun w' hw => v_p qc rfl w') (h.pick [0, 1] rfl) rfl ?_
  obtain ⟨y9, hy9, hF⟩ := qd hF
  have he9 := qg hy9
  obtain ⟨b9, o_9, q9, cs10, hp9, hq9, -, hr13, hc11⟩ := (h.sl 0 rfl).1.at hy9
  obtain rfl := hr13
  refine qp 10 rfl #[tt, tt, tt, tt, tt, tt, tt, tt, tt, tt, tt, ff, ff, ff, ff] (by kernel_rfl) (by kernel_rfl) (fun w' hw => qhn qc hp9 hq9 ⟨he9.1, qae he9.2.1 (h.sl 0 rfl).2⟩ rfl rfl rfl rfl rfl rfl) (h.pick [0, 1] rfl) rfl ?_
  refine qp 11 rfl #[tt, tt, tt, tt, tt, tt, tt, tt, tt, tt, tt, tt, ff, ff, ff] (by kernel_rfl) (by kernel_rfl) (fun w' hw => qda qc (qhr (w1 := w) (S1 := fun _ => False) hw 0 rfl hy9 hp9 hq9 rfl) (j := 0) rfl rfl rfl) (h.pick [0, 1] rfl) rfl ?_
  refine qp 12 rfl #[tt, tt, tt, tt, tt, tt, tt, tt, tt, tt, tt, tt, tt, ff, ff] (by kernel_rfl) (by kernel_rfl) (fun w' hw => v_p qc rfl w') (h.pick [0, 1] rfl) rfl ?_
  obtain ⟨y10, hy10, hF⟩ := qd hF
  have he10 := qg hy10
  obtain ⟨b10, o_10, q10, cs11, hp10, hq10, -, hr14, hc12⟩ := (h.sl 0 rfl).1.at hy10
  obtain rfl := hr14
  refine qp 13 rfl #[tt, tt, tt, tt, tt, tt, tt, tt, tt, tt, tt, tt, tt, tt, ff] (by kernel_rfl) (by kernel_rfl) (fun w' hw => qhn qc hp10 hq10 ⟨he10.1, qae he10.2.1 (h.sl 0 rfl).2⟩ rfl rfl rfl rfl rfl rfl) (h.pick [0, 1] rfl) rfl ?_
  refine qbi 14 rfl #[tt, tt, tt, tt, tt, tt, tt, tt, tt, tt, tt, tt, tt, tt, tt] (by kernel_rfl) (by kernel_rfl) ?_
  refine qcS qc 0 0 (W64 (y8 + y9)) h rfl hy10 hp10 hq10 rfl hc12 rfl rfl rfl rfl rfl rfl rfl ?_
  intro w13 h
  refine qbf (fun hs => absurd (hs 14 (by decide)) (by decide)) ?_
  refine qf4 (by kernel_rfl) ?_
  exact qf2 (qy (zp3 rfl (qb (qA m2 [(5, _), (6, _), (10, _)] (Nat.lt_succ_self m2) ⟨rfl, rfl, rfl, trivial⟩ ⟨_, _, hF, rfl, h⟩))))
 refine qH rfl ?_
 obtain rfl := qh hF; replace hF := hK2
 refine zSR (zp2 rfl (qb ?_))
 obtain rfl := qh hF
 exact qav qc (ρ := (List Int)) [GoT.v (List Int) [.slice p10 r1.length k10]] h ⟨rfl, trivial⟩ (PV.done h (qaG (qab 0 h rfl)))

def qaU (y1 : qP) (r1 : (List Int)) (x1 : (List Int)) : Nat → (List Int) → Int → Option ((List Int) × Int)
 | 0, _, _ => none
 | n + 1, x2, i1 =>
  bif decide (i1 < (x1.length : Int)) then
   (idx y1.Parent i1).bind fun y2 =>
   (idx x2 y2).bind fun y3 =>
   (idx y1.Res i1).bind fun y4 =>
   (idx r1 i1).bind fun y5 =>
   (idx x2 i1).bind fun _ =>
   qaU y1 r1 x1 n (setS x2 i1 (W64 (y3 + (W64 (y4 * y5))))) (W64 (i1 + 1))
  else
   some (x2, i1)

def qej (n : Nat) (b : qF) (net : Int) : Option (List Int) :=
 (idx b.Wires net).bind fun y1 =>
 (qcw n b net).bind fun r1 =>
 (mkS (r1.length : Int) (0 : Int)).bind fun x1 =>
 (qaU y1 r1 x1 n x1 1).bind fun o => match o with
 | (x2, _) =>
  some x2

theorem qiz {n : Nat} {w : World} {b : qF} {net : Int} {cs1 : List Value} (ha1 : GoT.R w (old w) b cs1) {r : (List Int)} (hF : qej n b net = some r) : RetV Tryz.prog 189 [GoT.v qF cs1, .int .i64 net] w r := by
 obtain ⟨p1, k1, p2, k2, p3, k3, p4, k4, p5, k5, rfl, s1, s2, s3, s4, s5⟩ := qar ha1
 refine qe Tryz.func189 rfl (m := 49) rfl rfl (fun h => ?_)
 rw [qej] at hF
 refine zSR (qO h rfl rfl ?_)
 intro w1 bb1 h
 refine zp1 rfl (zNS ?_)
 refine qhV [] (fun w' => SH w w' [Ch.box bb1 [.slice p1 b.Library.Cells.length k1, .slice p2 b.Design.Instances.length k2, .slice p3 b.Design.Nets.length k3, .slice p4 b.Design.Ports.length k4, .slice p5 b.Wires.length k5] 50]) rfl 11 rfl #[ff, ff, ff, ff, ff, ff, ff, ff, ff, ff, ff] (by kernel_rfl) (fun w2 hb => ?_)
 replace h := h.ext hb
 clear hb
 refine qp 0 rfl #[tt, ff, ff, ff, ff, ff, ff, ff, ff, ff, ff] (by kernel_rfl) (by kernel_rfl) (fun w' hw => v_p qc rfl w') (h.pick [0] rfl) rfl ?_
 refine qp 1 rfl #[tt, tt, ff, ff, ff, ff, ff, ff, ff, ff, ff] (by kernel_rfl) (by kernel_rfl) (fun w' hw => qda qc (hw.box 0 rfl) (j := 4) rfl rfl rfl) (h.pick [0] rfl) rfl ?_
 refine qp 2 rfl #[tt, tt, tt, ff, ff, ff, ff, ff, ff, ff, ff] (by kernel_rfl) (by kernel_rfl) (fun w' hw => v_p qc rfl w') (h.pick [0] rfl) rfl ?_
 obtain ⟨y1, hy1, hF⟩ := qd hF
 have he1 := qg hy1
 obtain ⟨b1, o_1, q1, cs2, hp1, hq1, -, hr1, hc1⟩ := s5.at hy1
 obtain ⟨p6, k6, p7, k7, p8, k8, p9, k9, rfl, s6, s7, s8, s9⟩ := qbw hr1
 refine qp 3 rfl #[tt, tt, tt, tt, ff, ff, ff, ff, ff, ff, ff] (by kernel_rfl) (by kernel_rfl) (fun w' hw => qhn qc hp1 hq1 ⟨he1.1, he1.2.1⟩ rfl rfl rfl rfl rfl rfl) (h.pick [0] rfl) rfl ?_
 refine qp 4 rfl #[tt, tt, tt, tt, tt, ff, ff, ff, ff, ff, ff] (by kernel_rfl) (by kernel_rfl) (fun w' hw => qda qc (hc1.below hw.below) (j := 0) rfl rfl rfl) (h.pick [0] rfl) rfl ?_
 refine qp 5 rfl #[tt, tt, tt, tt, tt, tt, ff, ff, ff, ff, ff] (by kernel_rfl) (by kernel_rfl) (fun w' hw => qda qc (hw.box 0 rfl) (j := 0) rfl rfl rfl) (h.pick [0] rfl) rfl ?_
 refine qp 6 rfl #[tt, tt, tt, tt, tt, tt, tt, ff, ff, ff, ff] (by kernel_rfl) (by kernel_rfl) (fun w' hw => v_p qc rfl w') (h.pick [0] rfl) rfl ?_
 obtain ⟨r1, hr2, hF⟩ := qd hF
 refine qrv (fun e w' => ∃ (bb8 : Nat) (S7 : Nat → Prop) (p16 : Option Addr) (k16 : Nat), e = [(5, .pointer (some ⟨bb8, 0, none⟩)), (6, .slice p16 r1.length k16)] ∧ SH w w' [Ch.box bb8 [.slice p6 y1.Parent.length k6, .slice p7 y1.Res.length k7, .slice p8 y1.Cap.length k8, .slice p9 y1.Sink.length k9] 130, Ch.own S7 (r1 : List Int) [.slice p16 r1.length k16], Ch.box bb1 [.slice p1 b.Library.Cells.length k1, .slice p2 b.Design.Instances.length k2, .slice p3 b.Design.Nets.length k3, .slice p4 b.Design.Ports.length k4, .slice p5 b.Wires.length k5] 50]) 0 #[tt, tt, tt, tt, tt, tt, tt, tt, tt, tt, tt] ?_ ?_
 ·intro K
  refine qrU 7 8 rfl rfl #[tt, tt, tt, tt, tt, tt, tt, tt, ff, ff, ff] #[tt, tt, tt, tt, tt, tt, tt, ff, tt, ff, ff] (by kernel_rfl) (by kernel_rfl) (by kernel_rfl) ?_ ?_
  ·refine qat r1 h call151 (qe3 (h.old ha1) hr2) rfl rfl rfl rfl ?_
   intro w13 S5 p14 k14 h
   refine qbf (fun _ => (h.pick [1] rfl)) ?_
   refine qbi 8 rfl #[tt, tt, tt, tt, tt, tt, tt, tt, tt, ff, ff] (by kernel_rfl) (by kernel_rfl) ?_
   refine qah qc h rfl rfl rfl ?_
   intro w14 bb6 h
   refine qbf (fun _ => (h.pick [2] rfl)) ?_
   refine qbi 9 rfl #[tt, tt, tt, tt, tt, tt, tt, tt, tt, tt, ff] (by kernel_rfl) (by kernel_rfl) ?_
   refine zs 0 h rfl ?_
   intro w15 h
   refine qbf (fun _ => (h.pick [2] rfl)) ?_
   refine qp 10 rfl #[tt, tt, tt, tt, tt, tt, tt, tt, tt, tt, tt] (by kernel_rfl) (by kernel_rfl) (fun w' hw => v_p qc rfl w') (h.pick [2] rfl) rfl ?_
   exact qry [(5, _), (6, _)] ⟨rfl, rfl, trivial⟩ (K _ _ ⟨_, _, _, _, rfl, h⟩)
  refine qah qc h rfl rfl rfl ?_
  intro w16 bb7 h
  refine qbf (fun _ => (h.pick [1] rfl)) ?_
  refine qbi 7 rfl #[tt, tt, tt, tt, tt, tt, tt, tt, tt, ff, ff] (by kernel_rfl) (by kernel_rfl) ?_
  refine qat r1 h call151 (qe3 (h.old ha1) hr2) rfl rfl rfl rfl ?_
  intro w17 S6 p15 k15 h
  refine qbf (fun _ => (h.pick [2] rfl)) ?_
  refine qbi 9 rfl #[tt, tt, tt, tt, tt, tt, tt, tt, tt, tt, ff] (by kernel_rfl) (by kernel_rfl) ?_
  refine zs 1 h rfl ?_
  intro w18 h
  replace h : SH _ _ [Ch.own S6 (r1 : List Int) [.slice p15 r1.length k15], Ch.box bb7 [.slice p6 y1.Parent.length k6, .slice p7 y1.Res.length k7, .slice p8 y1.Cap.length k8, .slice p9 y1.Sink.length k9] 130, Ch.box bb1 [.slice p1 b.Library.Cells.length k1, .slice p2 b.Design.Instances.length k2, .slice p3 b.Design.Nets.length k3, .slice p4 b.Design.Ports.length k4, .slice p5 b.Wires.length k5] 50] := h
  refine qbf (fun _ => (h.pick [2] rfl)) ?_
  refine qp 10 rfl #[tt, tt, tt, tt, tt, tt, tt, tt, tt, tt, tt] (by kernel_rfl) (by kernel_rfl) (fun w' hw => v_p qc rfl w') (h.pick [2] rfl) rfl ?_
  replace h := h.pick [1, 0, 2] rfl
  exact qry [(5, _), (6, _)] ⟨rfl, rfl, trivial⟩ (K _ _ ⟨_, _, _, _, rfl, h⟩)
 rintro e2 w19 ⟨bb8, S7, p16, k16, rfl, h⟩
 refine qf4 (by kernel_rfl) ?_
 refine zSR (zp2 rfl ?_)
 obtain ⟨x1, hx1, hF⟩ := qd hF
 obtain ⟨g1, g2, hx1⟩ := qdz hx1
 refine qeA qc Int h rfl rfl rfl rfl rfl rfl rfl rfl rfl g1 g2 hx1 rfl ?_
 intro w20 S8 p17 h
 refine zp1 rfl (zNSSR (zp1 rfl (qb ?_)))
 obtain ⟨o1, hF, hK1⟩ := qd hF
 refine qv ?_
 replace h := h.pick [0, 1, 2] rfl
 refine qR [(5, _), (6, _), (7, _), (8, _)] ⟨rfl, rfl, rfl, rfl, trivial⟩ ?_
 refine qI (fun m e w' => ∃ (x2 : (List Int)) (i1 : Int), qaU y1 r1 x1 m x2 i1 = some o1 ∧ e = [(5, .pointer (some ⟨bb8, 0, none⟩)), (6, .slice p16 r1.length k16), (7, .slice p17 x1.length x1.length), (8, .int .i64 i1)] ∧ SH w w' [Ch.own S8 (x2 : List Int) [.slice p17 x1.length x1.length], Ch.box bb8 [.slice p6 y1.Parent.length k6, .slice p7 y1.Res.length k7, .slice p8 y1.Cap.length k8, .slice p9 y1.Sink.length k9] 130, Ch.own S7 (r1 : List Int) [.slice p16 r1.length k16]]) n ⟨_, _, hF, rfl, h⟩ ?_
 rintro m1 e3 w21 ⟨x2, i1, hF, rfl, h⟩
 rcases m1 with _ | m1
 ·rw [qaU] at hF
  cases hF
 rw [qaU] at hF
 refine zSSR (zp4 rfl (qb ?_))
 refine qr rfl hF ?_ ?_ <;> intro hF
 ·refine zKSB ?_
  refine qhV [22] (fun w' => SH w w' [Ch.own S8 (x2 : List Int) [.slice p17 x1.length x1.length], Ch.box bb8 [.slice p6 y1.Parent.length k6, .slice p7 y1.Res.length k7, .slice p8 y1.Cap.length k8, .slice p9 y1.Sink.length k9] 130, Ch.own S7 (r1 : List Int) [.slice p16 r1.length k16]]) rfl 23 rfl #[ff, ff, ff, ff, ff, ff, ff, ff, ff, ff, ff, ff, ff, ff, ff, ff, ff, ff, ff, ff, ff, ff, ff] (by kernel_rfl) (fun w22 hb => ?_)
  replace h := h.ext hb
  clear hb
  refine qp 0 rfl #[tt, ff, ff, ff, ff, ff, ff, ff, ff, ff, ff, ff, ff, ff, ff, ff, ff, ff, ff, ff, ff, ff, ff] (by kernel_rfl) (by kernel_rfl) (fun w' hw => v_p qc rfl w') (h.pick [0, 1, 2] rfl) rfl ?_
  refine qp 1 rfl #[tt, tt, ff, ff, ff, ff, ff, ff, ff, ff, ff, ff, ff, ff, ff, ff, ff, ff, ff, ff, ff, ff, ff] (by kernel_rfl) (by kernel_rfl) (fun w' hw => v_p qc rfl w') (h.pick [0, 1, 2] rfl) rfl ?_
  refine qp 2 rfl #[tt, tt, tt, ff, ff, ff, ff, ff, ff, ff, ff, ff, ff, ff, ff, ff, ff, ff, ff, ff, ff, ff, ff] (by kernel_rfl) (by kernel_rfl) (fun w' hw => v_p qc rfl w') (h.pick [0, 1, 2] rfl) rfl ?_
  refine qp 3 rfl #[tt, tt, tt, tt, ff, ff, ff, ff, ff, ff, ff, ff, ff, ff, ff, ff, ff, ff, ff, ff, ff, ff, ff] (by kernel_rfl) (by kernel_rfl) (fun w' hw => v_p qc rfl w') (h.pick [0, 1, 2] rfl) rfl ?_
  refine qp 4 rfl #[tt, tt, tt, tt, tt, ff, ff, ff, ff, ff, ff, ff, ff, ff, ff, ff, ff, ff, ff, ff, ff, ff, ff] (by kernel_rfl) (by kernel_rfl) (fun w' hw => qda qc (hw.box 1 rfl) (j := 0) rfl rfl rfl) (h.pick [0, 1, 2] rfl) rfl ?_
  refine qp 5 rfl #[tt, tt, tt, tt, tt, tt, ff, ff, ff, ff, ff, ff, ff, ff, ff, ff, ff, ff, ff, ff, ff, ff, ff] (by kernel_rfl) (by kernel_rfl) (fun w' hw => v_p qc rfl w') (h.pick [0, 1, 2] rfl) rfl ?_
  obtain ⟨y2, hy2, hF⟩ := qd hF
  have he2 := qg hy2
  obtain ⟨b2, o_2, q2, cs3, hp2, hq2, -, hr3, hc3⟩ := s6.at hy2
  obtain rfl := hr3
  refine qp 6 rfl #[tt, tt, tt, tt, tt, tt, tt, ff, ff, ff, ff, ff, ff, ff, ff, ff, ff, ff, ff, ff, ff, ff, ff] (by kernel_rfl) (by kernel_rfl) (fun w' hw => qhn qc hp2 hq2 ⟨he2.1, he2.2.1⟩ rfl rfl rfl rfl rfl rfl) (h.pick [0, 1, 2] rfl) rfl ?_
  refine qp 7 rfl #[tt, tt, tt, tt, tt, tt, tt, tt, ff, ff, ff, ff, ff, ff, ff, ff, ff, ff, ff, ff, ff, ff, ff] (by kernel_rfl) (by kernel_rfl) (fun w' hw => qda qc (hc3.below hw.below) (j := 0) rfl rfl rfl) (h.pick [0, 1, 2] rfl) rfl ?_
  obtain ⟨y3, hy3, hF⟩ := qd hF
  have he3 := qg hy3
  obtain ⟨b3, o_3, q3, cs4, hp3, hq3, -, hr4, hc4⟩ := (h.sl 0 rfl).1.at hy3
  obtain rfl := hr4
  refine qp 8 rfl #[tt, tt, tt, tt, tt, tt, tt, tt, tt, ff, ff, ff, ff, ff, ff, ff, ff, ff, ff, ff, ff, ff, ff] (by kernel_rfl) (by kernel_rfl) (fun w' hw => qhn qc hp3 hq3 ⟨he3.1, qae he3.2.1 (h.sl 0 rfl).2⟩ rfl rfl rfl rfl rfl rfl) (h.pick [0, 1, 2] rfl) rfl ?_
  refine qp 9 rfl #[tt, tt, tt, tt, tt, tt, tt, tt, tt, tt, ff, ff, ff, ff, ff, ff, ff, ff, ff, ff, ff, ff, ff] (by kernel_rfl) (by kernel_rfl) (fun w' hw => qda qc (qhr (w1 := w) (S1 := fun _ => False) hw 0 rfl hy3 hp3 hq3 rfl) (j := 0) rfl rfl rfl) (h.pick [0, 1, 2] rfl) rfl ?_
  refine qp 10 rfl #[tt, tt, tt, tt, tt, tt, tt, tt, tt, tt, tt, ff, ff, ff, ff, ff, ff, ff, ff, ff, ff, ff, ff] (by kernel_rfl) (by kernel_rfl) (fun w' hw => v_p qc rfl w') (h.pick [0, 1, 2] rfl) rfl ?_
  refine qp 11 rfl #[tt, tt, tt, tt, tt, tt, tt, tt, tt, tt, tt, tt, ff, ff, ff, ff, ff, ff, ff, ff, ff, ff, ff] (by kernel_rfl) (by kernel_rfl) (fun w' hw => qda qc (hw.box 1 rfl) (j := 1) rfl rfl rfl) (h.pick [0, 1, 2] rfl) rfl ?_
  refine qp 12 rfl #[tt, tt, tt, tt, tt, tt, tt, tt, tt, tt, tt, tt, tt, ff, ff, ff, ff, ff, ff, ff, ff, ff, ff] (by kernel_rfl) (by kernel_rfl) (fun w' hw => v_p qc rfl w') (h.pick [0, 1, 2] rfl) rfl ?_
  obtain ⟨y4, hy4, hF⟩ := qd hF
  have he4 := qg hy4
  obtain ⟨b4, o_4, q4, cs5, hp4, hq4, -, hr5, hc5⟩ := s7.at hy4
  obtain rfl := hr5
  refine qp 13 rfl #[tt, tt, tt, tt, tt, tt, tt, tt, tt, tt, tt, tt, tt, tt, ff, ff, ff, ff, ff, ff, ff, ff, ff] (by kernel_rfl) (by kernel_rfl) (fun w' hw => qhn qc hp4 hq4 ⟨he4.1, he4.2.1⟩ rfl rfl rfl rfl rfl rfl) (h.pick [0, 1, 2] rfl) rfl ?_
  refine qp 14 rfl #[tt, tt, tt, tt, tt, tt, tt, tt, tt, tt, tt, tt, tt, tt, tt, ff, ff, ff, ff, ff, ff, ff, ff] (by kernel_rfl) (by kernel_rfl) (fun w' hw => qda qc (hc5.below hw.below) (j := 0) rfl rfl rfl) (h.pick [0, 1, 2] rfl) rfl ?_
  refine qp 15 rfl #[tt, tt, tt, tt, tt, tt, tt, tt, tt, tt, tt, tt, tt, tt, tt, tt, ff, ff, ff, ff, ff, ff, ff] (by kernel_rfl) (by kernel_rfl) (fun w' hw => v_p qc rfl w') (h.pick [0, 1, 2] rfl) rfl ?_
  refine qp 16 rfl #[tt, tt, tt, tt, tt, tt, tt, tt, tt, tt, tt, tt, tt, tt, tt, tt, tt, ff, ff, ff, ff, ff, ff] (by kernel_rfl) (by kernel_rfl) (fun w' hw => v_p qc rfl w') (h.pick [0, 1, 2] rfl) rfl ?_
  obtain ⟨y5, hy5, hF⟩ := qd hF
  have he5 := qg hy5
  obtain ⟨b5, o_5, q5, cs6, hp5, hq5, -, hr6, hc6⟩ := (h.sl 2 rfl).1.at hy5
  obtain rfl := hr6
  refine qp 17 rfl #[tt, tt, tt, tt, tt, tt, tt, tt, tt, tt, tt, tt, tt, tt, tt, tt, tt, tt, ff, ff, ff, ff, ff] (by kernel_rfl) (by kernel_rfl) (fun w' hw => qhn qc hp5 hq5 ⟨he5.1, qae he5.2.1 (h.sl 2 rfl).2⟩ rfl rfl rfl rfl rfl rfl) (h.pick [0, 1, 2] rfl) rfl ?_
  refine qp 18 rfl #[tt, tt, tt, tt, tt, tt, tt, tt, tt, tt, tt, tt, tt, tt, tt, tt, tt, tt, tt, ff, ff, ff, ff] (by kernel_rfl) (by kernel_rfl) (fun w' hw => qda qc (qhr (w1 := w) (S1 := fun _ => False) hw 2 rfl hy5 hp5 hq5 rfl) (j := 0) rfl rfl rfl) (h.pick [0, 1, 2] rfl) rfl ?_
  refine qp 19 rfl #[tt, tt, tt, tt, tt, tt, tt, tt, tt, tt, tt, tt, tt, tt, tt, tt, tt, tt, tt, tt, ff, ff, ff] (by kernel_rfl) (by kernel_rfl) (fun w' hw => v_p qc rfl w') (h.pick [0, 1, 2] rfl) rfl ?_
  refine qp 20 rfl #[tt, tt, tt, tt, tt, tt, tt, tt, tt, tt, tt, tt, tt, tt, tt, tt, tt, tt, tt, tt, tt, ff, ff] (by kernel_rfl) (by kernel_rfl) (fun w' hw => v_p qc rfl w') (h.pick [0, 1, 2] rfl) rfl ?_
  obtain ⟨y6, hy6, hF⟩ := qd hF
  have he6 := qg hy6
  obtain ⟨b6, o_6, q6, cs7, hp6, hq6, -, hr7, hc7⟩ := (h.sl 0 rfl).1.at hy6
  obtain rfl := hr7
  refine qp 21 rfl #[tt, tt, tt, tt, tt, tt, tt, tt, tt, tt, tt, tt, tt, tt, tt, tt, tt, tt, tt, tt, tt, tt, ff] (by kernel_rfl) (by kernel_rfl) (fun w' hw => qhn qc hp6 hq6 ⟨he6.1, qae he6.2.1 (h.sl 0 rfl).2⟩ rfl rfl rfl rfl rfl rfl) (h.pick [0, 1, 2] rfl) rfl ?_
  refine qbi 22 rfl #[tt, tt, tt, tt, tt, tt, tt, tt, tt, tt, tt, tt, tt, tt, tt, tt, tt, tt, tt, tt, tt, tt, tt] (by kernel_rfl) (by kernel_rfl) ?_
  refine qcS qc 0 0 (W64 (y3 + (W64 (y4 * y5)))) h rfl hy6 hp6 hq6 rfl hc7 rfl rfl rfl rfl rfl rfl rfl ?_
  intro w23 h
  refine qbf (fun hs => absurd (hs 22 (by decide)) (by decide)) ?_
  refine qf4 (by kernel_rfl) ?_
  exact qf2 (qy (zp3 rfl (qb (qA m1 [(5, _), (6, _), (7, _), (8, _)] (Nat.lt_succ_self m1) ⟨rfl, rfl, rfl, rfl, trivial⟩ ⟨_, _, hF, rfl, h⟩))))
 refine qH rfl ?_
 obtain rfl := qh hF; replace hF := hK1
 refine zSR (zp2 rfl (qb ?_))
 obtain rfl := qh hF
 exact qav qc (ρ := (List Int)) [GoT.v (List Int) [.slice p17 x1.length x1.length]] h ⟨rfl, trivial⟩ (PV.done h (qaG (qab 0 h rfl)))

def qaM (r1 : (List Int)) (y1 : qP) : Nat → (List Int) → Int → Option ((List Int) × Int)
 | 0, _, _ => none
 | n + 1, x1, i1 =>
  bif decide (i1 < (y1.Sink.length : Int)) then
   (idx y1.Sink i1).bind fun y2 =>
   (idx r1 y2).bind fun y3 =>
   (appS x1 ([y3] : List Int)).bind fun x2 =>
   qaM r1 y1 n x2 (W64 (i1 + 1))
  else
   some (x1, i1)

def qcT (n : Nat) (b : qF) (net : Int) : Option (List Int) :=
 (qej n b net).bind fun r1 =>
 (idx b.Wires net).bind fun y1 =>
 (qaM r1 y1 n ([] : List Int) 0).bind fun o => match o with
 | (x1, _) =>
  some x1

theorem qin {n : Nat} {w : World} {b : qF} {net : Int} {cs1 : List Value} (ha1 : GoT.R w (old w) b cs1) {r : (List Int)} (hF : qcT n b net = some r) : RetV Tryz.prog 152 [GoT.v qF cs1, .int .i64 net] w r := by
 obtain ⟨p1, k1, p2, k2, p3, k3, p4, k4, p5, k5, rfl, s1, s2, s3, s4, s5⟩ := qar ha1
 refine qe Tryz.func152 rfl (m := 32) rfl rfl (fun h => ?_)
 rw [qcT] at hF
 refine zSR (qO h rfl rfl ?_)
 intro w1 bb1 h
 refine zp1 rfl (zNSR (zl 0 0 h rfl (zp1 rfl ?_)))
 obtain ⟨r1, hr1, hF⟩ := qd hF
 refine qat r1 h call189 (qiz (h.old ha1) hr1) rfl rfl rfl rfl ?_
 intro w2 S1 p6 k6 h
 refine zp1 rfl (zNSR (zp1 rfl (zNSSR (zp1 rfl (zl 1 4 h rfl (zp1 rfl ?_))))))
 obtain ⟨y1, hy1, hF⟩ := qd hF
 have he1 := qg hy1
 obtain ⟨b1, o_1, q1, cs2, hp1, hq1, -, hr2, hc1⟩ := s5.at hy1
 obtain ⟨p7, k7, p8, k8, p9, k9, p10, k10, rfl, s6, s7, s8, s9⟩ := qbw hr2
 refine zxe hp1 hq1 he1 rfl (zp1 rfl (zc 3 (hc1.below h.below) rfl (zp2 rfl (qb ?_))))
 replace h := h.nil (α := Int)
 obtain ⟨o1, hF, hK1⟩ := qd hF
 refine qv ?_
 replace h := h.pick [0, 1] rfl
 refine qR [(5, _), (6, _), (17, _), (18, _), (19, _)] ⟨rfl, rfl, rfl, rfl, rfl, trivial⟩ ?_
 refine qI (fun m e w' => ∃ (S2 : Nat → Prop) (p11 : Option Addr) (ln1 : Nat) (k11 : Nat) (x1 : (List Int)) (i1 : Int), qaM r1 y1 m x1 i1 = some o1 ∧ e = [(5, .slice p6 r1.length k6), (6, .slice p11 ln1 k11), (17, .slice p10 y1.Sink.length k10), (18, .int .i64 (y1.Sink.length : Int)), (19, .int .i64 i1)] ∧ SH w w' [Ch.own S2 (x1 : List Int) [.slice p11 ln1 k11], Ch.own S1 (r1 : List Int) [.slice p6 r1.length k6]]) n ⟨_, _, _, _, _, _, hF, rfl, h⟩ ?_
 rintro m1 e1 w3 ⟨S2, p11, ln1, k11, x1, i1, hF, rfl, h⟩
 obtain rfl := (h.sl 0 rfl).2
 rcases m1 with _ | m1
 ·rw [qaM] at hF
  cases hF
 rw [qaM] at hF
 refine zSR (zp1 rfl (zNS ?_))
 refine qr rfl hF ?_ ?_ <;> intro hF
 ·refine zKSBSR ?_
  obtain ⟨y2, hy2, hF⟩ := qd hF
  have he2 := qg hy2
  obtain ⟨b2, o_2, q2, cs3, hp2, hq2, -, hr3, hc3⟩ := s9.at hy2
  obtain rfl := hr3
  refine zxe hp2 hq2 he2 rfl (zc 0 (hc3.below h.below) rfl (zp1 rfl (qb (qy (zp3 rfl ?_)))))
  obtain ⟨y3, hy3, hF⟩ := qd hF
  have he3 := qg hy3
  obtain ⟨b3, o_3, q3, cs4, hp3, hq3, -, hr4, hc4⟩ := (h.sl 1 rfl).1.at hy3
  obtain rfl := hr4
  refine zx hp3 hq3 ⟨he3.1, qae he3.2.1 (h.sl 1 rfl).2⟩ rfl (zc 0 hc4 rfl (qaB qc [.tmp 27] _ ([y3] : List Int) h rfl rfl rfl rfl rfl rfl rfl rfl rfl ⟨rfl, trivial⟩ rfl ?_))
  intro w4 p12 S3 h
  obtain ⟨x2, hx1, hF⟩ := qd hF
  obtain ⟨g1, hx1⟩ := qa8 hx1
  refine qee qc 1 h rfl (h.sl 0 rfl).1 (h.sl 0 rfl).2 rfl rfl rfl rfl rfl rfl rfl rfl rfl g1 hx1 rfl ?_
  intro w5 p13 k12 S4 h
  refine zp1 rfl (zNER (zp2 rfl (qb ?_)))
  replace h := h.pick [1, 2] rfl
  exact qA m1 [(5, _), (6, _), (17, _), (18, _), (19, _)] (Nat.lt_succ_self m1) ⟨rfl, rfl, rfl, rfl, rfl, trivial⟩ ⟨_, _, _, _, _, _, hF, rfl, h⟩
 refine qH rfl ?_
 obtain rfl := qh hF; replace hF := hK1
 refine zSR (zp2 rfl (qb ?_))
 obtain rfl := qh hF
 exact qav qc (ρ := (List Int)) [GoT.v (List Int) [.slice p11 x1.length k11]] h ⟨rfl, trivial⟩ (PV.done h (qaG (qab 0 h rfl)))

def qcs (x6 : (List Int)) (i4 : Int) (i5 : Int) (y7 : Int) : Nat → (List qbd) → Int → Option ((List qbd) × Int)
 | 0, _, _ => none
 | n + 1, x14, i6 =>
  bif decide (i6 < 2) then
   (idx x6 i4).bind fun y8 =>
   (appS x14 ([(⟨W64 ((W64 (2 * y8)) + i6), W64 ((W64 (2 * y7)) + i6), 2, i5⟩ : qbd)] : List qbd)).bind fun x15 =>
   qcs x6 i4 i5 y7 n x15 (W64 (i6 + 1))
  else
   some (x14, i6)

def qcv (x6 : (List Int)) (i4 : Int) (y6 : (List Int)) : Nat → (List qbd) → Int → Option ((List qbd) × Int)
 | 0, _, _ => none
 | n + 1, x13, i5 =>
  bif decide (i5 < (y6.length : Int)) then
   (idx y6 i5).bind fun y7 =>
   (qcs x6 i4 i5 y7 n x13 0).bind fun o => match o with
   | (x14, _) =>
    qcv x6 i4 y6 n x14 (W64 (i5 + 1))
  else
   some (x13, i5)

def qcX (a_0 : qF) (x5 : (List (List Int))) (x6 : (List Int)) : Nat → (List (List Int)) → (List Int) → (List qbd) → Int → Option ((List (List Int)) × (List Int) × (List qbd) × Int)
 | 0, _, _, _, _ => none
 | n + 1, x8, x9, x10, i4 =>
  bif decide (i4 < (a_0.Wires.length : Int)) then
   (qcw n a_0 i4).bind fun r4 =>
   (idx r4 0).bind fun y5 =>
   (appS x9 ([y5] : List Int)).bind fun x11 =>
   (qcT n a_0 i4).bind fun r5 =>
   (appS x8 ([r5] : List (List Int))).bind fun x12 =>
   (idx x5 i4).bind fun y6 =>
   (qcv x6 i4 y6 n x10 0).bind fun o => match o with
   | (x13, _) =>
    qcX a_0 x5 x6 n x12 x11 x13 (W64 (i4 + 1))
  else
   some (x8, x9, x10, i4)

def qb0 (r1 : (List Tplace)) : Nat → (List (List Int)) → (List Int) → Int → Option ((List (List Int)) × (List Int) × Int)
 | 0, _, _, _ => none
 | n + 1, x5, x6, i3 =>
  bif decide (i3 < (r1.length : Int)) then
   (idx r1 i3).bind fun y2 =>
   bif y2.drives then
    (idx x6 y2.net).bind fun _ =>
    qb0 r1 n x5 (setS x6 y2.net i3) (W64 (i3 + 1))
   else
    (idx x5 y2.net).bind fun y4 =>
    (appS y4 ([i3] : List Int)).bind fun x7 =>
    qb0 r1 n (setS x5 y2.net x7) x6 (W64 (i3 + 1))
  else
   some (x5, x6, i3)

def qc6 (a_0 : qF) : Nat → (List qbd) → Int → Int → Option ((List qbd) × Int × Int)
 | 0, _, _, _ => none
 | n + 1, x1, i1, i2 =>
  bif decide (i2 < (a_0.Design.Instances.length : Int)) then
   (idx a_0.Design.Instances i2).bind fun y1 =>
   (qdC n a_0 y1 i1).bind fun r2 =>
   (appS x1 r2).bind fun x2 =>
   (qaH n y1.Nets).bind fun r3 =>
   qc6 a_0 n x2 (W64 (i1 + r3)) (W64 (i2 + 1))
  else
   some (x1, i1, i2)

def qgX (n : Nat) (a_0 : qF) : Option (Option Tview) :=
 (qbQ n (⟨a_0.Design.Instances, a_0.Design.Nets, a_0.Design.Ports⟩ : ql)).bind fun r1 =>
 (qc6 a_0 n ([] : List qbd) 0 0).bind fun o => match o with
 | (x1, _, _) =>
  (mkS (a_0.Wires.length : Int) (0 : Int)).bind fun x3 =>
  (mkS (a_0.Wires.length : Int) ([] : (List Int))).bind fun x4 =>
  (qb0 r1 n x4 x3 0).bind fun o => match o with
  | (x5, x6, _) =>
   (qcX a_0 x5 x6 n ([] : List (List Int)) ([] : List Int) x1 0).bind fun o => match o with
   | (x8, x9, x10, _) =>
    some (some (⟨(⟨(⟨a_0.Library.Cells⟩ : qz), (⟨a_0.Design.Instances, a_0.Design.Nets, a_0.Design.Ports⟩ : ql), a_0.Wires⟩ : qF), r1, x10, x9, x8, []⟩ : Tview))

theorem qlA {n : Nat} {w : World} {A : Nat → Prop} (hA : ∀ b, A b → old w b) {a_0 : qF} {cs1 : List Value} (ha1 : GoT.R w A a_0 cs1) {r : (Option Tview)} (hF : qgX n a_0 = some r) : RetG Tryz.prog 109 [GoT.v qF cs1] w A r := by
 obtain ⟨p1, k1, p2, k2, p3, k3, p4, k4, p5, k5, rfl, s1, s2, s3, s4, s5⟩ := qar ha1
 have hg := Rg.start hA
 refine qjC Tryz.func109 rfl (m := 156) rfl rfl (fun h => ?_)
 rw [qgX] at hF
 refine zSR (qO h rfl rfl ?_)
 intro w1 bb1 h
 refine zp1 rfl (zNS ?_)
 refine qhV [] (fun w' => SH w w' [Ch.box bb1 [.slice p1 a_0.Library.Cells.length k1, .slice p2 a_0.Design.Instances.length k2, .slice p3 a_0.Design.Nets.length k3, .slice p4 a_0.Design.Ports.length k4, .slice p5 a_0.Wires.length k5] 50]) rfl 7 rfl #[ff, ff, ff, ff, ff, ff, ff] (by kernel_rfl) (fun w2 hb => ?_)
 replace h := h.ext hb
 clear hb
 refine qp 0 rfl #[tt, ff, ff, ff, ff, ff, ff] (by kernel_rfl) (by kernel_rfl) (fun w' hw => qda qc (hw.box 0 rfl) (j := 0) rfl rfl rfl) (h.pick [0] rfl) rfl ?_
 refine qp 1 rfl #[tt, tt, ff, ff, ff, ff, ff] (by kernel_rfl) (by kernel_rfl) (fun w' hw => v_p qc rfl w') (h.pick [0] rfl) rfl ?_
 refine qp 2 rfl #[tt, tt, tt, ff, ff, ff, ff] (by kernel_rfl) (by kernel_rfl) (fun w' hw => qda qc (hw.box 0 rfl) (j := 1) rfl rfl rfl) (h.pick [0] rfl) rfl ?_
 refine qbi 3 rfl #[tt, tt, tt, tt, ff, ff, ff] (by kernel_rfl) (by kernel_rfl) ?_
 obtain ⟨r1, hr1, hF⟩ := qd hF
 refine qat r1 h call148 (qem (qco (⟨a_0.Design.Instances, a_0.Design.Nets, a_0.Design.Ports⟩ : ql) (h.oldS (s2.mono hg.old)) (h.oldS (s3.mono hg.old)) (h.oldS (s4.mono hg.old))) hr1) rfl rfl rfl rfl ?_
 intro w3 S1 p6 k6 h
 refine qbf (fun _ => (h.pick [1] rfl)) ?_
 refine qp 4 rfl #[tt, tt, tt, tt, tt, ff, ff] (by kernel_rfl) (by kernel_rfl) (fun w' hw => qh1 qc [0, 1] [.tmp 15, .tmp 18] rfl rfl rfl rfl rfl rfl rfl rfl) (h.pick [1] rfl) rfl ?_
 refine qbi 5 rfl #[tt, tt, tt, tt, tt, tt, ff] (by kernel_rfl) (by kernel_rfl) ?_
 refine qO h rfl rfl ?_
 intro w4 bb2 h
 refine qbf (fun _ => (h.pick [2] rfl)) ?_
 refine qp 6 rfl #[tt, tt, tt, tt, tt, tt, tt] (by kernel_rfl) (by kernel_rfl) (fun w' hw => v_p qc rfl w') (h.pick [2] rfl) rfl ?_
 refine qf4 (by kernel_rfl) ?_
 refine zSR (zp1 rfl (zNSSR (zp2 rfl (zl 2 1 h rfl (zp2 rfl ?_)))))
 refine qb ?_
 replace h := h.nil (α := qbd)
 obtain ⟨o1, hF, hK1⟩ := qd hF
 refine qv (qR [(1, _), (3, _), (4, _), (23, _), (24, _), (25, _)] ⟨rfl, rfl, rfl, rfl, rfl, rfl, trivial⟩ ?_)
 refine qI (fun m e w' => ∃ (S2 : Nat → Prop) (p7 : Option Addr) (ln1 : Nat) (k7 : Nat) (x1 : (List qbd)) (i1 : Int) (i2 : Int), qc6 a_0 m x1 i1 i2 = some o1 ∧ e = [(1, .pointer (some ⟨bb1, 0, none⟩)), (3, .pointer (some ⟨bb2, 0, none⟩)), (4, .int .i64 i1), (23, .slice p2 a_0.Design.Instances.length k2), (24, .int .i64 (a_0.Design.Instances.length : Int)), (25, .int .i64 i2)] ∧ SH w w' [Ch.own S2 (x1 : List qbd) [.slice p7 ln1 k7], Ch.box bb2 [.slice p1 a_0.Library.Cells.length k1, .slice p2 a_0.Design.Instances.length k2, .slice p3 a_0.Design.Nets.length k3, .slice p4 a_0.Design.Ports.length k4, .slice p5 a_0.Wires.length k5, .slice p6 r1.length k6, .slice p7 ln1 k7, .slice none 0 0, .slice none 0 0, .slice none 0 0] 160, Ch.own S1 (r1 : List Tplace) [.slice p6 r1.length k6], Ch.box bb1 [.slice p1 a_0.Library.Cells.length k1, .slice p2 a_0.Design.Instances.length k2, .slice p3 a_0.Design.Nets.length k3, .slice p4 a_0.Design.Ports.length k4, .slice p5 a_0.Wires.length k5] 50]) n ⟨_, _, _, _, _, _, _, hF, rfl, h⟩ ?_
 rintro m1 e1 w5 ⟨S2, p7, ln1, k7, x1, i1, i2, hF, rfl, h⟩
 obtain rfl := (h.sl 0 rfl).2
 rcases m1 with _ | m1
 ·rw [qc6] at hF
  cases hF
 rw [qc6] at hF
 refine zSR (zp1 rfl (zNS ?_))
 refine qr rfl hF ?_ ?_ <;> intro hF
 ·refine zKSBSR ?_
  obtain ⟨y1, hy1, hF⟩ := qd hF
  have he1 := qg hy1
  obtain ⟨b1, o_1, q1, cs2, hp1, hq1, -, hr2, hc2⟩ := s2.at hy1
  obtain ⟨p8, k8, rfl, s6⟩ := qad hr2
  refine zxe hp1 hq1 he1 rfl (zc 0 (hc2.below h.below) rfl (qah qc h rfl rfl rfl ?_))
  intro w6 bb3 h
  refine zs 0 h rfl ?_
  intro w7 h
  replace h : SH _ _ [Ch.box bb3 [.string y1.Name, .int .i64 y1.Cell, .slice p8 y1.Nets.length k8] 185, Ch.own S2 (x1 : List qbd) [.slice p7 x1.length k7], Ch.box bb2 [.slice p1 a_0.Library.Cells.length k1, .slice p2 a_0.Design.Instances.length k2, .slice p3 a_0.Design.Nets.length k3, .slice p4 a_0.Design.Ports.length k4, .slice p5 a_0.Wires.length k5, .slice p6 r1.length k6, .slice p7 x1.length k7, .slice none 0 0, .slice none 0 0, .slice none 0 0] 160, Ch.own S1 (r1 : List Tplace) [.slice p6 r1.length k6], Ch.box bb1 [.slice p1 a_0.Library.Cells.length k1, .slice p2 a_0.Design.Instances.length k2, .slice p3 a_0.Design.Nets.length k3, .slice p4 a_0.Design.Ports.length k4, .slice p5 a_0.Wires.length k5] 50] := h
  refine zNS ?_
  refine qhV [12] (fun w' => SH w w' [Ch.box bb3 [.string y1.Name, .int .i64 y1.Cell, .slice p8 y1.Nets.length k8] 185, Ch.box bb2 [.slice p1 a_0.Library.Cells.length k1, .slice p2 a_0.Design.Instances.length k2, .slice p3 a_0.Design.Nets.length k3, .slice p4 a_0.Design.Ports.length k4, .slice p5 a_0.Wires.length k5, .slice p6 r1.length k6, .slice p7 x1.length k7, .slice none 0 0, .slice none 0 0, .slice none 0 0] 160, Ch.box bb1 [.slice p1 a_0.Library.Cells.length k1, .slice p2 a_0.Design.Instances.length k2, .slice p3 a_0.Design.Nets.length k3, .slice p4 a_0.Design.Ports.length k4, .slice p5 a_0.Wires.length k5] 50]) rfl 13 rfl #[ff, ff, ff, ff, ff, ff, ff, ff, ff, ff, ff, ff, ff] (by kernel_rfl) (fun w8 hb => ?_)
  replace h := h.ext hb
  clear hb
  refine qp 0 rfl #[tt, ff, ff, ff, ff, ff, ff, ff, ff, ff, ff, ff, ff] (by kernel_rfl) (by kernel_rfl) (fun w' hw => v_p qc rfl w') (h.pick [0, 2, 4] rfl) rfl ?_
  refine qp 1 rfl #[tt, tt, ff, ff, ff, ff, ff, ff, ff, ff, ff, ff, ff] (by kernel_rfl) (by kernel_rfl) (fun w' hw => v_p qc rfl w') (h.pick [0, 2, 4] rfl) rfl ?_
  refine qp 2 rfl #[tt, tt, tt, ff, ff, ff, ff, ff, ff, ff, ff, ff, ff] (by kernel_rfl) (by kernel_rfl) (fun w' hw => v_p qc rfl w') (h.pick [0, 2, 4] rfl) rfl ?_
  refine qp 3 rfl #[tt, tt, tt, tt, ff, ff, ff, ff, ff, ff, ff, ff, ff] (by kernel_rfl) (by kernel_rfl) (fun w' hw => v_p qc rfl w') (h.pick [0, 2, 4] rfl) rfl ?_
  refine qp 4 rfl #[tt, tt, tt, tt, tt, ff, ff, ff, ff, ff, ff, ff, ff] (by kernel_rfl) (by kernel_rfl) (fun w' hw => qda qc (hw.box 1 rfl) (j := 6) rfl rfl rfl) (h.pick [0, 2, 4] rfl) rfl ?_
  refine qp 5 rfl #[tt, tt, tt, tt, tt, tt, ff, ff, ff, ff, ff, ff, ff] (by kernel_rfl) (by kernel_rfl) (fun w' hw => qda qc (hw.box 2 rfl) (j := 0) rfl rfl rfl) (h.pick [0, 2, 4] rfl) rfl ?_
  refine qp 6 rfl #[tt, tt, tt, tt, tt, tt, tt, ff, ff, ff, ff, ff, ff] (by kernel_rfl) (by kernel_rfl) (fun w' hw => qda qc (hw.box 0 rfl) (j := 0) rfl rfl rfl) (h.pick [0, 2, 4] rfl) rfl ?_
  refine qp 7 rfl #[tt, tt, tt, tt, tt, tt, tt, tt, ff, ff, ff, ff, ff] (by kernel_rfl) (by kernel_rfl) (fun w' hw => v_p qc rfl w') (h.pick [0, 2, 4] rfl) rfl ?_
  refine qbi 8 rfl #[tt, tt, tt, tt, tt, tt, tt, tt, tt, ff, ff, ff, ff] (by kernel_rfl) (by kernel_rfl) ?_
  obtain ⟨r2, hr3, hF⟩ := qd hF
  refine qat r2 h call150 (qiM (h.old (GoT.mono ha1 hg.old)) (qfu y1 (h.oldS (s6.mono hg.old))) hr3) rfl rfl rfl rfl ?_
  intro w9 S3 p9 k9 h
  refine qbf (fun _ => (h.pick [1, 3, 5] rfl)) ?_
  refine qbi 9 rfl #[tt, tt, tt, tt, tt, tt, tt, tt, tt, tt, ff, ff, ff] (by kernel_rfl) (by kernel_rfl) ?_
  obtain ⟨x2, hx1, hF⟩ := qd hF
  obtain ⟨g1, hx1⟩ := qa8 hx1
  refine qee qc 2 h rfl (h.sl 0 rfl).1 (h.sl 0 rfl).2 rfl rfl rfl rfl rfl rfl rfl rfl rfl g1 hx1 rfl ?_
  intro w10 p10 k10 S4 h
  refine qbf (fun _ => (h.pick [1, 3, 5] rfl)) ?_
  refine qbi 10 rfl #[tt, tt, tt, tt, tt, tt, tt, tt, tt, tt, tt, ff, ff] (by kernel_rfl) (by kernel_rfl) ?_
  refine zp1 rfl ?_
  refine qbf (fun _ => (h.pick [1, 3, 5] rfl)) ?_
  refine qp 11 rfl #[tt, tt, tt, tt, tt, tt, tt, tt, tt, tt, tt, tt, ff] (by kernel_rfl) (by kernel_rfl) (fun w' hw => v_p qc rfl w') (h.pick [1, 3, 5] rfl) rfl ?_
  refine qbi 12 rfl #[tt, tt, tt, tt, tt, tt, tt, tt, tt, tt, tt, tt, tt] (by kernel_rfl) (by kernel_rfl) ?_
  refine zs 3 h rfl ?_
  intro w11 h
  replace h : SH _ _ [Ch.own S3 (r2 : List qbd) [.slice p9 r2.length k9], Ch.box bb3 [.string y1.Name, .int .i64 y1.Cell, .slice p8 y1.Nets.length k8] 185, Ch.own S4 (x2 : List qbd) [.slice p10 x2.length k10], Ch.box bb2 [.slice p1 a_0.Library.Cells.length k1, .slice p2 a_0.Design.Instances.length k2, .slice p3 a_0.Design.Nets.length k3, .slice p4 a_0.Design.Ports.length k4, .slice p5 a_0.Wires.length k5, .slice p6 r1.length k6, .slice p10 x2.length k10, .slice none 0 0, .slice none 0 0, .slice none 0 0] 160, Ch.own S1 (r1 : List Tplace) [.slice p6 r1.length k6], Ch.box bb1 [.slice p1 a_0.Library.Cells.length k1, .slice p2 a_0.Design.Instances.length k2, .slice p3 a_0.Design.Nets.length k3, .slice p4 a_0.Design.Ports.length k4, .slice p5 a_0.Wires.length k5] 50] := h
  refine qbf (fun hs => absurd (hs 12 (by decide)) (by decide)) ?_
  refine qf4 (by kernel_rfl) ?_
  refine qy (zp2 rfl (zl 1 2 h rfl ?_))
  obtain ⟨r3, hr4, hF⟩ := qd hF
  refine qT r3 h call87 (qbW ⟨_, _, rfl, (h.oldS (s6.mono hg.old))⟩ hr4) rfl rfl rfl rfl ?_
  intro w12 h
  refine zp2 rfl (zNER (zp2 rfl (qb ?_)))
  replace h := h.pick [2, 3, 4, 5] rfl
  exact qA m1 [(1, _), (3, _), (4, _), (23, _), (24, _), (25, _)] (Nat.lt_succ_self m1) ⟨rfl, rfl, rfl, rfl, rfl, rfl, trivial⟩ ⟨_, _, _, _, _, _, _, hF, rfl, h⟩
 refine qH rfl ?_
 obtain rfl := qh hF; replace hF := hK1
 refine zSR (zp1 rfl (zl 3 4 h rfl (zp1 rfl ?_)))
 obtain ⟨x3, hx2, hF⟩ := qd hF
 obtain ⟨g2, g3, hx2⟩ := qdz hx2
 refine qeA qc Int h rfl rfl rfl rfl rfl rfl rfl rfl rfl g2 g3 hx2 rfl ?_
 intro w13 S5 p11 h
 refine zp1 rfl (zNSR (zp1 rfl (zl 4 4 h rfl (zp1 rfl ?_))))
 obtain ⟨x4, hx3, hF⟩ := qd hF
 obtain ⟨g4, g5, hx3⟩ := qdz hx3
 refine qeA qc (List Int) h rfl rfl rfl rfl rfl rfl rfl rfl rfl g4 g5 hx3 rfl ?_
 intro w14 S6 p12 h
 refine zp1 rfl (zNSSR (zp3 rfl (zl 3 5 h rfl (zp2 rfl (qb ?_)))))
 obtain ⟨o2, hF, hK2⟩ := qd hF
 refine qv (qR [(1, _), (3, _), (7, _), (8, _), (58, _), (59, _), (60, _)] ⟨rfl, rfl, rfl, rfl, rfl, rfl, rfl, trivial⟩ ?_)
 refine qI (fun m e w' => ∃ (S7 : Nat → Prop) (x5 : (List (List Int))) (x6 : (List Int)) (i3 : Int), qb0 r1 m x5 x6 i3 = some o2 ∧ e = [(1, .pointer (some ⟨bb1, 0, none⟩)), (3, .pointer (some ⟨bb2, 0, none⟩)), (7, .slice p11 x3.length x3.length), (8, .slice p12 x4.length x4.length), (58, .slice p6 r1.length k6), (59, .int .i64 (r1.length : Int)), (60, .int .i64 i3)] ∧ SH w w' [Ch.own S7 (x5 : List (List Int)) [.slice p12 x4.length x4.length], Ch.own S5 (x6 : List Int) [.slice p11 x3.length x3.length], Ch.own S2 (x1 : List qbd) [.slice p7 x1.length k7], Ch.box bb2 [.slice p1 a_0.Library.Cells.length k1, .slice p2 a_0.Design.Instances.length k2, .slice p3 a_0.Design.Nets.length k3, .slice p4 a_0.Design.Ports.length k4, .slice p5 a_0.Wires.length k5, .slice p6 r1.length k6, .slice p7 x1.length k7, .slice none 0 0, .slice none 0 0, .slice none 0 0] 160, Ch.own S1 (r1 : List Tplace) [.slice p6 r1.length k6], Ch.box bb1 [.slice p1 a_0.Library.Cells.length k1, .slice p2 a_0.Design.Instances.length k2, .slice p3 a_0.Design.Nets.length k3, .slice p4 a_0.Design.Ports.length k4, .slice p5 a_0.Wires.length k5] 50]) n ⟨_, _, _, _, hF, rfl, h⟩ ?_
 rintro m2 e2 w15 ⟨S7, x5, x6, i3, hF, rfl, h⟩
 rcases m2 with _ | m2
 ·rw [qb0] at hF
  cases hF
 rw [qb0] at hF
 refine zSR (zp1 rfl (zNS ?_))
 refine qr rfl hF ?_ ?_ <;> intro hF
 ·refine zKSBSR (zp1 rfl ?_)
  obtain ⟨y2, hy2, hF⟩ := qd hF
  have he2 := qg hy2
  obtain ⟨b2, o_2, q2, cs3, hp2, hq2, -, hr5, hc4⟩ := (h.sl 4 rfl).1.at hy2
  obtain rfl := qhK hr5
  refine zx hp2 hq2 ⟨he2.1, qae he2.2.1 (h.sl 4 rfl).2⟩ rfl (zc 0 hc4 rfl (qah qc h rfl rfl rfl ?_))
  intro w16 bb4 h
  refine zp1 rfl (zs 0 h rfl ?_)
  intro w17 h
  refine zNSR (zp1 rfl (zl 0 3 h rfl (qb ?_)))
  refine qr rfl hF ?_ ?_ <;> intro hF
  ·refine qy (zp2 rfl (zl 0 2 h rfl (zp1 rfl ?_)))
   obtain ⟨y3, hy3, hF⟩ := qd hF
   have he3 := qg hy3
   obtain ⟨b3, o_3, q3, cs4, hp3, hq3, -, hr6, hc6⟩ := (h.sl 2 rfl).1.at hy3
   obtain rfl := hr6
   refine zx hp3 hq3 ⟨he3.1, qae he3.2.1 (h.sl 2 rfl).2⟩ rfl (qcS qc 2 0 i3 h rfl hy3 hp3 hq3 rfl hc6 rfl rfl rfl rfl rfl rfl rfl ?_)
   intro w18 h
   refine zNER (zp2 rfl (qb ?_))
   replace h := h.pick [1, 2, 3, 4, 5, 6] rfl
   exact qA m2 [(1, _), (3, _), (7, _), (8, _), (58, _), (59, _), (60, _)] (Nat.lt_succ_self m2) ⟨rfl, rfl, rfl, rfl, rfl, rfl, rfl, trivial⟩ ⟨_, _, _, _, hF, rfl, h⟩
  obtain ⟨y4, hy4, hF⟩ := qd hF
  have he4 := qg hy4
  replace h := h.pick [1, 0, 2, 3, 4, 5, 6] rfl
  obtain ⟨S8, S9, cs5, h⟩ := h.take hy4
  obtain ⟨p13, k11, rfl, -⟩ := h.own 0 rfl
  refine qhV [12] (fun w' => SH w w' [Ch.hole S9 (x5 : List (List Int)) p12 x4.length x4.length (y2.net).toNat [.slice p13 y4.length k11], Ch.box bb4 [.int .i64 y2.instance_, .int .i64 y2.pin, .int .i64 y2.net, .bool y2.drives] 156]) rfl 13 rfl #[ff, ff, ff, ff, ff, ff, ff, ff, ff, ff, ff, ff, ff] (by kernel_rfl) (fun w19 hb => ?_)
  replace h := h.ext hb
  clear hb
  refine qp 0 rfl #[tt, ff, ff, ff, ff, ff, ff, ff, ff, ff, ff, ff, ff] (by kernel_rfl) (by kernel_rfl) (fun w' hw => v_p qc rfl w') (h.pick [1, 2] rfl) rfl ?_
  refine qp 1 rfl #[tt, tt, ff, ff, ff, ff, ff, ff, ff, ff, ff, ff, ff] (by kernel_rfl) (by kernel_rfl) (fun w' hw => v_p qc rfl w') (h.pick [1, 2] rfl) rfl ?_
  refine qp 2 rfl #[tt, tt, tt, ff, ff, ff, ff, ff, ff, ff, ff, ff, ff] (by kernel_rfl) (by kernel_rfl) (fun w' hw => qda qc (hw.box 1 rfl) (j := 2) rfl rfl rfl) (h.pick [1, 2] rfl) rfl ?_
  refine qp 3 rfl #[tt, tt, tt, tt, ff, ff, ff, ff, ff, ff, ff, ff, ff] (by kernel_rfl) (by kernel_rfl) (fun w' hw => v_p qc rfl w') (h.pick [1, 2] rfl) rfl ?_
  refine qp 4 rfl #[tt, tt, tt, tt, tt, ff, ff, ff, ff, ff, ff, ff, ff] (by kernel_rfl) (by kernel_rfl) (fun w' hw => v_p qc rfl w') (h.pick [1, 2] rfl) rfl ?_
  refine qp 5 rfl #[tt, tt, tt, tt, tt, tt, ff, ff, ff, ff, ff, ff, ff] (by kernel_rfl) (by kernel_rfl) (fun w' hw => qda qc (hw.box 1 rfl) (j := 2) rfl rfl rfl) (h.pick [1, 2] rfl) rfl ?_
  obtain ⟨b4, hp4, -, -, hl2⟩ := h.holeAt 1 rfl
  obtain ⟨q4, hq4⟩ : ∃ q, q = 0 + (y2.net).toNat * GoT.k (List Int) := ⟨_, rfl⟩
  refine qp 6 rfl #[tt, tt, tt, tt, tt, tt, tt, ff, ff, ff, ff, ff, ff] (by kernel_rfl) (by kernel_rfl) (fun w' hw => qhn qc hp4 hq4 ⟨he4.1, qae he4.2.1 hl2⟩ rfl rfl rfl rfl rfl rfl) (h.pick [1, 2] rfl) rfl ?_
  refine qp 7 rfl #[tt, tt, tt, tt, tt, tt, tt, tt, ff, ff, ff, ff, ff] (by kernel_rfl) (by kernel_rfl) (fun w' hw => qda qc (qbR hw 0 rfl hp4 hq4) (j := 0) rfl rfl rfl) (h.pick [1, 2] rfl) rfl ?_
  refine qp 8 rfl #[tt, tt, tt, tt, tt, tt, tt, tt, tt, ff, ff, ff, ff] (by kernel_rfl) (by kernel_rfl) (fun w' hw => v_p qc rfl w') (h.pick [1, 2] rfl) rfl ?_
  refine qbi 9 rfl #[tt, tt, tt, tt, tt, tt, tt, tt, tt, tt, ff, ff, ff] (by kernel_rfl) (by kernel_rfl) ?_
  refine qaB qc [.tmp 80] _ ([i3] : List Int) h rfl rfl rfl rfl rfl rfl rfl rfl rfl ⟨rfl, trivial⟩ rfl ?_
  intro w20 p14 S10 h
  refine qbf (fun _ => (h.pick [2, 3] rfl)) ?_
  refine qbi 10 rfl #[tt, tt, tt, tt, tt, tt, tt, tt, tt, tt, tt, ff, ff] (by kernel_rfl) (by kernel_rfl) ?_
  obtain ⟨x7, hx4, hF⟩ := qd hF
  obtain ⟨g6, hx4⟩ := qa8 hx4
  refine qee qc 1 h rfl (h.sl 0 rfl).1 (h.sl 0 rfl).2 rfl rfl rfl rfl rfl rfl rfl rfl rfl g6 hx4 rfl ?_
  intro w21 p15 k12 S11 h
  refine qbf (fun _ => (h.pick [2, 3] rfl)) ?_
  obtain ⟨b5, hp5, -, -, hl4⟩ := h.holeAt 2 rfl
  obtain ⟨q5, hq5⟩ : ∃ q, q = 0 + (y2.net).toNat * GoT.k (List Int) := ⟨_, rfl⟩
  refine qp 11 rfl #[tt, tt, tt, tt, tt, tt, tt, tt, tt, tt, tt, tt, ff] (by kernel_rfl) (by kernel_rfl) (fun w' hw => qhn qc hp5 hq5 ⟨he4.1, qae he4.2.1 hl4⟩ rfl rfl rfl rfl rfl rfl) (h.pick [2, 3] rfl) rfl ?_
  refine qbi 12 rfl #[tt, tt, tt, tt, tt, tt, tt, tt, tt, tt, tt, tt, tt] (by kernel_rfl) (by kernel_rfl) ?_
  refine qeZ qc 2 0 h rfl hp5 hq5 rfl rfl rfl rfl rfl rfl ?_
  intro w22 h
  refine qbf (fun hs => absurd (hs 12 (by decide)) (by decide)) ?_
  refine qf4 (by kernel_rfl) ?_
  refine qf2 (qy (zp2 rfl (qb ?_)))
  replace h := h.pick [1, 2, 0, 3, 4, 5, 6, 7, 8] rfl
  replace h := h.put
  obtain ⟨S12, h⟩ := qko (S := _) h
  replace h := h.pick [0, 3, 4, 5, 6, 7] rfl
  exact qA m2 [(1, _), (3, _), (7, _), (8, _), (58, _), (59, _), (60, _)] (Nat.lt_succ_self m2) ⟨rfl, rfl, rfl, rfl, rfl, rfl, rfl, trivial⟩ ⟨_, _, _, _, hF, rfl, h⟩
 refine qH rfl ?_
 obtain rfl := qh hF; replace hF := hK2
 refine zSSR (zp1 rfl (zl 5 4 h rfl (zp2 rfl (qb ?_))))
 replace h := h.nil (α := Int)
 replace h := h.nil (α := (List Int))
 obtain ⟨o3, hF, hK3⟩ := qd hF
 refine qv (qR [(1, _), (3, _), (7, _), (8, _), (87, _), (88, _)] ⟨rfl, rfl, rfl, rfl, rfl, rfl, trivial⟩ ?_)
 refine qI (fun m e w' => ∃ (S13 : Nat → Prop) (p16 : Option Addr) (ln2 : Nat) (k13 : Nat) (x8 : (List (List Int))) (S14 : Nat → Prop) (p17 : Option Addr) (ln3 : Nat) (k14 : Nat) (x9 : (List Int)) (S15 : Nat → Prop) (p18 : Option Addr) (ln4 : Nat) (k15 : Nat) (x10 : (List qbd)) (i4 : Int), qcX a_0 x5 x6 m x8 x9 x10 i4 = some o3 ∧ e = [(1, .pointer (some ⟨bb1, 0, none⟩)), (3, .pointer (some ⟨bb2, 0, none⟩)), (7, .slice p11 x3.length x3.length), (8, .slice p12 x4.length x4.length), (87, .int .i64 (a_0.Wires.length : Int)), (88, .int .i64 i4)] ∧ SH w w' [Ch.own S13 (x8 : List (List Int)) [.slice p16 ln2 k13], Ch.own S14 (x9 : List Int) [.slice p17 ln3 k14], Ch.own S7 (x5 : List (List Int)) [.slice p12 x4.length x4.length], Ch.own S5 (x6 : List Int) [.slice p11 x3.length x3.length], Ch.own S15 (x10 : List qbd) [.slice p18 ln4 k15], Ch.box bb2 [.slice p1 a_0.Library.Cells.length k1, .slice p2 a_0.Design.Instances.length k2, .slice p3 a_0.Design.Nets.length k3, .slice p4 a_0.Design.Ports.length k4, .slice p5 a_0.Wires.length k5, .slice p6 r1.length k6, .slice p18 ln4 k15, .slice p17 ln3 k14, .slice p16 ln2 k13, .slice none 0 0] 160, Ch.own S1 (r1 : List Tplace) [.slice p6 r1.length k6], Ch.box bb1 [.slice p1 a_0.Library.Cells.length k1, .slice p2 a_0.Design.Instances.length k2, .slice p3 a_0.Design.Nets.length k3, .slice p4 a_0.Design.Ports.length k4, .slice p5 a_0.Wires.length k5] 50]) n ⟨_, _, _, _, _, _, _, _, _, _, _, _, _, _, _, _, hF, rfl, h⟩ ?_
 rintro m3 e3 w23 ⟨S13, p16, ln2, k13, x8, S14, p17, ln3, k14, x9, S15, p18, ln4, k15, x10, i4, hF, rfl, h⟩
 obtain rfl := (h.sl 0 rfl).2
 obtain rfl := (h.sl 1 rfl).2
 obtain rfl := (h.sl 4 rfl).2
 rcases m3 with _ | m3
 ·rw [qcX] at hF
  cases hF
 rw [qcX] at hF
 refine zSR (zp1 rfl (zNS ?_))
 refine qr rfl hF ?_ ?_ <;> intro hF
 ·refine zKSBSR (zp2 rfl (zNS ?_))
  refine qhV [14] (fun w' => SH w w' [Ch.box bb2 [.slice p1 a_0.Library.Cells.length k1, .slice p2 a_0.Design.Instances.length k2, .slice p3 a_0.Design.Nets.length k3, .slice p4 a_0.Design.Ports.length k4, .slice p5 a_0.Wires.length k5, .slice p6 r1.length k6, .slice p18 x10.length k15, .slice p17 x9.length k14, .slice p16 x8.length k13, .slice none 0 0] 160, Ch.box bb1 [.slice p1 a_0.Library.Cells.length k1, .slice p2 a_0.Design.Instances.length k2, .slice p3 a_0.Design.Nets.length k3, .slice p4 a_0.Design.Ports.length k4, .slice p5 a_0.Wires.length k5] 50]) rfl 15 rfl #[ff, ff, ff, ff, ff, ff, ff, ff, ff, ff, ff, ff, ff, ff, ff] (by kernel_rfl) (fun w24 hb => ?_)
  replace h := h.ext hb
  clear hb
  refine qp 0 rfl #[tt, ff, ff, ff, ff, ff, ff, ff, ff, ff, ff, ff, ff, ff, ff] (by kernel_rfl) (by kernel_rfl) (fun w' hw => v_p qc rfl w') (h.pick [5, 7] rfl) rfl ?_
  refine qp 1 rfl #[tt, tt, ff, ff, ff, ff, ff, ff, ff, ff, ff, ff, ff, ff, ff] (by kernel_rfl) (by kernel_rfl) (fun w' hw => v_p qc rfl w') (h.pick [5, 7] rfl) rfl ?_
  refine qp 2 rfl #[tt, tt, tt, ff, ff, ff, ff, ff, ff, ff, ff, ff, ff, ff, ff] (by kernel_rfl) (by kernel_rfl) (fun w' hw => v_p qc rfl w') (h.pick [5, 7] rfl) rfl ?_
  refine qp 3 rfl #[tt, tt, tt, tt, ff, ff, ff, ff, ff, ff, ff, ff, ff, ff, ff] (by kernel_rfl) (by kernel_rfl) (fun w' hw => v_p qc rfl w') (h.pick [5, 7] rfl) rfl ?_
  refine qp 4 rfl #[tt, tt, tt, tt, tt, ff, ff, ff, ff, ff, ff, ff, ff, ff, ff] (by kernel_rfl) (by kernel_rfl) (fun w' hw => qda qc (hw.box 0 rfl) (j := 7) rfl rfl rfl) (h.pick [5, 7] rfl) rfl ?_
  refine qp 5 rfl #[tt, tt, tt, tt, tt, tt, ff, ff, ff, ff, ff, ff, ff, ff, ff] (by kernel_rfl) (by kernel_rfl) (fun w' hw => qda qc (hw.box 1 rfl) (j := 0) rfl rfl rfl) (h.pick [5, 7] rfl) rfl ?_
  refine qp 6 rfl #[tt, tt, tt, tt, tt, tt, tt, ff, ff, ff, ff, ff, ff, ff, ff] (by kernel_rfl) (by kernel_rfl) (fun w' hw => v_p qc rfl w') (h.pick [5, 7] rfl) rfl ?_
  refine qbi 7 rfl #[tt, tt, tt, tt, tt, tt, tt, tt, ff, ff, ff, ff, ff, ff, ff] (by kernel_rfl) (by kernel_rfl) ?_
  obtain ⟨r4, hr7, hF⟩ := qd hF
  refine qat r4 h call151 (qe3 (h.old (GoT.mono ha1 hg.old)) hr7) rfl rfl rfl rfl ?_
  intro w25 S16 p19 k16 h
  refine qbf (fun _ => (h.pick [6, 8] rfl)) ?_
  obtain ⟨y5, hy5, hF⟩ := qd hF
  have he5 := qg hy5
  obtain ⟨b6, o_4, q6, cs6, hp6, hq6, -, hr8, hc8⟩ := (h.sl 0 rfl).1.at hy5
  obtain rfl := hr8
  refine qp 8 rfl #[tt, tt, tt, tt, tt, tt, tt, tt, tt, ff, ff, ff, ff, ff, ff] (by kernel_rfl) (by kernel_rfl) (fun w' hw => qhn qc hp6 hq6 ⟨he5.1, qae he5.2.1 (h.sl 0 rfl).2⟩ rfl rfl rfl rfl rfl rfl) (h.pick [6, 8] rfl) rfl ?_
  refine qbi 9 rfl #[tt, tt, tt, tt, tt, tt, tt, tt, tt, tt, ff, ff, ff, ff, ff] (by kernel_rfl) (by kernel_rfl) ?_
  refine zc 0 hc8 rfl ?_
  refine qbf (fun _ => (h.pick [6, 8] rfl)) ?_
  refine qbi 10 rfl #[tt, tt, tt, tt, tt, tt, tt, tt, tt, tt, tt, ff, ff, ff, ff] (by kernel_rfl) (by kernel_rfl) ?_
  refine qaB qc [.tmp 100] _ ([y5] : List Int) h rfl rfl rfl rfl rfl rfl rfl rfl rfl ⟨rfl, trivial⟩ rfl ?_
  intro w26 p20 S17 h
  refine qbf (fun _ => (h.pick [7, 9] rfl)) ?_
  refine qbi 11 rfl #[tt, tt, tt, tt, tt, tt, tt, tt, tt, tt, tt, tt, ff, ff, ff] (by kernel_rfl) (by kernel_rfl) ?_
  obtain ⟨x11, hx5, hF⟩ := qd hF
  obtain ⟨g7, hx5⟩ := qa8 hx5
  refine qee qc 3 h rfl (h.sl 0 rfl).1 (h.sl 0 rfl).2 rfl rfl rfl rfl rfl rfl rfl rfl rfl g7 hx5 rfl ?_
  intro w27 p21 k17 S18 h
  refine qbf (fun _ => (h.pick [7, 9] rfl)) ?_
  refine qbi 12 rfl #[tt, tt, tt, tt, tt, tt, tt, tt, tt, tt, tt, tt, tt, ff, ff] (by kernel_rfl) (by kernel_rfl) ?_
  refine zp1 rfl ?_
  refine qbf (fun _ => (h.pick [7, 9] rfl)) ?_
  refine qp 13 rfl #[tt, tt, tt, tt, tt, tt, tt, tt, tt, tt, tt, tt, tt, tt, ff] (by kernel_rfl) (by kernel_rfl) (fun w' hw => v_p qc rfl w') (h.pick [7, 9] rfl) rfl ?_
  refine qbi 14 rfl #[tt, tt, tt, tt, tt, tt, tt, tt, tt, tt, tt, tt, tt, tt, tt] (by kernel_rfl) (by kernel_rfl) ?_
  refine zs 7 h rfl ?_
  intro w28 h
  refine qbf (fun hs => absurd (hs 14 (by decide)) (by decide)) ?_
  refine qf4 (by kernel_rfl) ?_
  refine qbr ?_
  refine qhV [12] (fun w' => SH w w' [Ch.box bb2 [.slice p1 a_0.Library.Cells.length k1, .slice p2 a_0.Design.Instances.length k2, .slice p3 a_0.Design.Nets.length k3, .slice p4 a_0.Design.Ports.length k4, .slice p5 a_0.Wires.length k5, .slice p6 r1.length k6, .slice p18 x10.length k15, .slice p21 x11.length k17, .slice p16 x8.length k13, .slice none 0 0] 160, Ch.box bb1 [.slice p1 a_0.Library.Cells.length k1, .slice p2 a_0.Design.Instances.length k2, .slice p3 a_0.Design.Nets.length k3, .slice p4 a_0.Design.Ports.length k4, .slice p5 a_0.Wires.length k5] 50]) rfl 13 rfl #[ff, ff, ff, ff, ff, ff, ff, ff, ff, ff, ff, ff, ff] (by kernel_rfl) (fun w29 hb => ?_)
  replace h := h.ext hb
  clear hb
  refine qp 0 rfl #[tt, ff, ff, ff, ff, ff, ff, ff, ff, ff, ff, ff, ff] (by kernel_rfl) (by kernel_rfl) (fun w' hw => v_p qc rfl w') (h.pick [7, 9] rfl) rfl ?_
  refine qp 1 rfl #[tt, tt, ff, ff, ff, ff, ff, ff, ff, ff, ff, ff, ff] (by kernel_rfl) (by kernel_rfl) (fun w' hw => v_p qc rfl w') (h.pick [7, 9] rfl) rfl ?_
  refine qp 2 rfl #[tt, tt, tt, ff, ff, ff, ff, ff, ff, ff, ff, ff, ff] (by kernel_rfl) (by kernel_rfl) (fun w' hw => v_p qc rfl w') (h.pick [7, 9] rfl) rfl ?_
  refine qp 3 rfl #[tt, tt, tt, tt, ff, ff, ff, ff, ff, ff, ff, ff, ff] (by kernel_rfl) (by kernel_rfl) (fun w' hw => v_p qc rfl w') (h.pick [7, 9] rfl) rfl ?_
  refine qp 4 rfl #[tt, tt, tt, tt, tt, ff, ff, ff, ff, ff, ff, ff, ff] (by kernel_rfl) (by kernel_rfl) (fun w' hw => qda qc (hw.box 0 rfl) (j := 8) rfl rfl rfl) (h.pick [7, 9] rfl) rfl ?_
  refine qp 5 rfl #[tt, tt, tt, tt, tt, tt, ff, ff, ff, ff, ff, ff, ff] (by kernel_rfl) (by kernel_rfl) (fun w' hw => qda qc (hw.box 1 rfl) (j := 0) rfl rfl rfl) (h.pick [7, 9] rfl) rfl ?_
  refine qp 6 rfl #[tt, tt, tt, tt, tt, tt, tt, ff, ff, ff, ff, ff, ff] (by kernel_rfl) (by kernel_rfl) (fun w' hw => v_p qc rfl w') (h.pick [7, 9] rfl) rfl ?_
  refine qbi 7 rfl #[tt, tt, tt, tt, tt, tt, tt, tt, ff, ff, ff, ff, ff] (by kernel_rfl) (by kernel_rfl) ?_
  obtain ⟨r5, hr9, hF⟩ := qd hF
  refine qat r5 h call152 (qin (h.old (GoT.mono ha1 hg.old)) hr9) rfl rfl rfl rfl ?_
  intro w30 S19 p22 k18 h
  refine qbf (fun _ => (h.pick [8, 10] rfl)) ?_
  refine qbi 8 rfl #[tt, tt, tt, tt, tt, tt, tt, tt, tt, ff, ff, ff, ff] (by kernel_rfl) (by kernel_rfl) ?_
  refine qpD qc [.tmp 112] _ ([r5] : List (List Int)) [1, 2, 3, 4, 5, 6, 7, 8, 9, 10] h rfl rfl rfl rfl rfl rfl rfl rfl rfl (qqq (qab 0 h rfl) qrn rfl) rfl rfl ?_
  intro w31 p23 S20 h
  refine qbf (fun _ => (h.pick [8, 10] rfl)) ?_
  refine qbi 9 rfl #[tt, tt, tt, tt, tt, tt, tt, tt, tt, tt, ff, ff, ff] (by kernel_rfl) (by kernel_rfl) ?_
  obtain ⟨x12, hx6, hF⟩ := qd hF
  obtain ⟨g8, hx6⟩ := qa8 hx6
  replace h := h.pick [0, 3, 1, 2, 4, 5, 6, 7, 8, 9, 10] rfl
  refine qrc qc h rfl rfl rfl rfl rfl rfl rfl rfl rfl g8 hx6 rfl ?_
  intro w32 p24 k19 S21 h
  refine qbf (fun _ => (h.pick [7, 9] rfl)) ?_
  refine qbi 10 rfl #[tt, tt, tt, tt, tt, tt, tt, tt, tt, tt, tt, ff, ff] (by kernel_rfl) (by kernel_rfl) ?_
  refine zp1 rfl ?_
  refine qbf (fun _ => (h.pick [7, 9] rfl)) ?_
  refine qp 11 rfl #[tt, tt, tt, tt, tt, tt, tt, tt, tt, tt, tt, tt, ff] (by kernel_rfl) (by kernel_rfl) (fun w' hw => v_p qc rfl w') (h.pick [7, 9] rfl) rfl ?_
  refine qbi 12 rfl #[tt, tt, tt, tt, tt, tt, tt, tt, tt, tt, tt, tt, tt] (by kernel_rfl) (by kernel_rfl) ?_
  refine zs 7 h rfl ?_
  intro w33 h
  refine qbf (fun hs => absurd (hs 12 (by decide)) (by decide)) ?_
  refine qf4 (by kernel_rfl) ?_
  refine zSR (zp2 rfl ?_)
  obtain ⟨y6, hy6, hF⟩ := qd hF
  have he6 := qg hy6
  replace h := h.lrn0 4 rfl
  obtain ⟨b7, o_5, q7, cs7, hp7, hq7, -, hr10, hc9⟩ := (qhY (h.lrnO 4 rfl)).1.at hy6
  have hr11 := hr10
  obtain ⟨p25, k20, rfl, s7⟩ := hr10
  replace h := h.lrnAdd 4 rfl hr11
  refine zx hp7 hq7 ⟨he6.1, qae he6.2.1 (qhY (h.lrnO 4 rfl)).2⟩ rfl (zc 0 hc9 rfl (zp2 rfl (qb ?_)))
  obtain ⟨o4, hF, hK4⟩ := qd hF
  refine qv ?_
  replace h := h.pick [0, 3, 4, 5, 6, 7, 8, 9] rfl
  refine qR [(1, _), (3, _), (7, _), (8, _), (11, _), (87, _), (88, _), (120, _), (121, _), (122, _)] ⟨rfl, rfl, rfl, rfl, rfl, rfl, rfl, rfl, rfl, rfl, trivial⟩ ?_
  refine qI (fun m e w' => ∃ (S22 : Nat → Prop) (p26 : Option Addr) (ln5 : Nat) (k21 : Nat) (x13 : (List qbd)) (i5 : Int), qcv x6 i4 y6 m x13 i5 = some o4 ∧ e = [(1, .pointer (some ⟨bb1, 0, none⟩)), (3, .pointer (some ⟨bb2, 0, none⟩)), (7, .slice p11 x3.length x3.length), (8, .slice p12 x4.length x4.length), (11, .int .i64 i4), (87, .int .i64 (a_0.Wires.length : Int)), (88, .int .i64 i4), (120, .slice p25 y6.length k20), (121, .int .i64 (y6.length : Int)), (122, .int .i64 i5)] ∧ SH w w' [Ch.own S21 (x12 : List (List Int)) [.slice p24 x12.length k19], Ch.own S18 (x11 : List Int) [.slice p21 x11.length k17], Ch.lrn S7 (x5 : List (List Int)) [.slice p12 x4.length x4.length] [fct (y6 : (List Int)) [.slice p25 y6.length k20]], Ch.own S5 (x6 : List Int) [.slice p11 x3.length x3.length], Ch.own S22 (x13 : List qbd) [.slice p26 ln5 k21], Ch.box bb2 [.slice p1 a_0.Library.Cells.length k1, .slice p2 a_0.Design.Instances.length k2, .slice p3 a_0.Design.Nets.length k3, .slice p4 a_0.Design.Ports.length k4, .slice p5 a_0.Wires.length k5, .slice p6 r1.length k6, .slice p26 ln5 k21, .slice p21 x11.length k17, .slice p24 x12.length k19, .slice none 0 0] 160, Ch.own S1 (r1 : List Tplace) [.slice p6 r1.length k6], Ch.box bb1 [.slice p1 a_0.Library.Cells.length k1, .slice p2 a_0.Design.Instances.length k2, .slice p3 a_0.Design.Nets.length k3, .slice p4 a_0.Design.Ports.length k4, .slice p5 a_0.Wires.length k5] 50]) m3 ⟨_, _, _, _, _, _, hF, rfl, h⟩ ?_
  rintro m4 e4 w34 ⟨S22, p26, ln5, k21, x13, i5, hF, rfl, h⟩
  obtain rfl := (h.sl 4 rfl).2
  rcases m4 with _ | m4
  ·rw [qcv] at hF
   cases hF
  rw [qcv] at hF
  refine zSR (zp1 rfl (zNS ?_))
  refine qr rfl hF ?_ ?_ <;> intro hF
  ·refine zKSBSR (zp1 rfl ?_)
   obtain ⟨y7, hy7, hF⟩ := qd hF
   have he7 := qg hy7
   obtain ⟨b8, o_6, q8, cs8, hp8, hq8, -, hr12, hc11⟩ := (qhY (GoT.mono (h.lrnS 2 0 rfl rfl) (h.lrnB 2 rfl))).1.at hy7
   obtain rfl := hr12
   refine zx hp8 hq8 ⟨he7.1, qae he7.2.1 (qhY (GoT.mono (h.lrnS 2 0 rfl rfl) (h.lrnB 2 rfl))).2⟩ rfl (zc 0 hc11 rfl (zp2 rfl (zNSR (zp1 rfl (qb ?_)))))
   obtain ⟨o5, hF, hK5⟩ := qd hF
   refine qv (qR [(1, _), (3, _), (7, _), (8, _), (11, _), (12, _), (13, _), (87, _), (88, _), (120, _), (121, _), (122, _), (127, _)] ⟨rfl, rfl, rfl, rfl, rfl, rfl, rfl, rfl, rfl, rfl, rfl, rfl, rfl, trivial⟩ ?_)
   refine qI (fun m e w' => ∃ (S23 : Nat → Prop) (p27 : Option Addr) (ln6 : Nat) (k22 : Nat) (x14 : (List qbd)) (i6 : Int), qcs x6 i4 i5 y7 m x14 i6 = some o5 ∧ e = [(1, .pointer (some ⟨bb1, 0, none⟩)), (3, .pointer (some ⟨bb2, 0, none⟩)), (7, .slice p11 x3.length x3.length), (8, .slice p12 x4.length x4.length), (11, .int .i64 i4), (12, .int .i64 i5), (13, .int .i64 y7), (87, .int .i64 (a_0.Wires.length : Int)), (88, .int .i64 i4), (120, .slice p25 y6.length k20), (121, .int .i64 (y6.length : Int)), (122, .int .i64 i5), (127, .int .i64 i6)] ∧ SH w w' [Ch.own S21 (x12 : List (List Int)) [.slice p24 x12.length k19], Ch.own S18 (x11 : List Int) [.slice p21 x11.length k17], Ch.lrn S7 (x5 : List (List Int)) [.slice p12 x4.length x4.length] [fct (y6 : (List Int)) [.slice p25 y6.length k20]], Ch.own S5 (x6 : List Int) [.slice p11 x3.length x3.length], Ch.own S23 (x14 : List qbd) [.slice p27 ln6 k22], Ch.box bb2 [.slice p1 a_0.Library.Cells.length k1, .slice p2 a_0.Design.Instances.length k2, .slice p3 a_0.Design.Nets.length k3, .slice p4 a_0.Design.Ports.length k4, .slice p5 a_0.Wires.length k5, .slice p6 r1.length k6, .slice p27 ln6 k22, .slice p21 x11.length k17, .slice p24 x12.length k19, .slice none 0 0] 160, Ch.own S1 (r1 : List Tplace) [.slice p6 r1.length k6], Ch.box bb1 [.slice p1 a_0.Library.Cells.length k1, .slice p2 a_0.Design.Instances.length k2, .slice p3 a_0.Design.Nets.length k3, .slice p4 a_0.Design.Ports.length k4, .slice p5 a_0.Wires.length k5] 50]) m4 ⟨_, _, _, _, _, _, hF, rfl, h⟩ ?_
   rintro m5 e5 w35 ⟨S23, p27, ln6, k22, x14, i6, hF, rfl, h⟩
   obtain rfl := (h.sl 4 rfl).2
   rcases m5 with _ | m5
   ·rw [qcs] at hF
    cases hF
   rw [qcs] at hF
   refine zSR (zp1 rfl (zNS ?_))
   refine qr rfl hF ?_ ?_ <;> intro hF
   ·refine zKSBSR (zp2 rfl (qb ?_))
    refine qhV [22] (fun w' => SH w w' [Ch.own S5 (x6 : List Int) [.slice p11 x3.length x3.length], Ch.box bb2 [.slice p1 a_0.Library.Cells.length k1, .slice p2 a_0.Design.Instances.length k2, .slice p3 a_0.Design.Nets.length k3, .slice p4 a_0.Design.Ports.length k4, .slice p5 a_0.Wires.length k5, .slice p6 r1.length k6, .slice p27 x14.length k22, .slice p21 x11.length k17, .slice p24 x12.length k19, .slice none 0 0] 160]) rfl 23 rfl #[ff, ff, ff, ff, ff, ff, ff, ff, ff, ff, ff, ff, ff, ff, ff, ff, ff, ff, ff, ff, ff, ff, ff] (by kernel_rfl) (fun w36 hb => ?_)
    replace h := h.ext hb
    clear hb
    refine qp 0 rfl #[tt, ff, ff, ff, ff, ff, ff, ff, ff, ff, ff, ff, ff, ff, ff, ff, ff, ff, ff, ff, ff, ff, ff] (by kernel_rfl) (by kernel_rfl) (fun w' hw => v_p qc rfl w') (h.pick [3, 5] rfl) rfl ?_
    refine qp 1 rfl #[tt, tt, ff, ff, ff, ff, ff, ff, ff, ff, ff, ff, ff, ff, ff, ff, ff, ff, ff, ff, ff, ff, ff] (by kernel_rfl) (by kernel_rfl) (fun w' hw => v_p qc rfl w') (h.pick [3, 5] rfl) rfl ?_
    refine qp 2 rfl #[tt, tt, tt, ff, ff, ff, ff, ff, ff, ff, ff, ff, ff, ff, ff, ff, ff, ff, ff, ff, ff, ff, ff] (by kernel_rfl) (by kernel_rfl) (fun w' hw => v_p qc rfl w') (h.pick [3, 5] rfl) rfl ?_
    refine qp 3 rfl #[tt, tt, tt, tt, ff, ff, ff, ff, ff, ff, ff, ff, ff, ff, ff, ff, ff, ff, ff, ff, ff, ff, ff] (by kernel_rfl) (by kernel_rfl) (fun w' hw => v_p qc rfl w') (h.pick [3, 5] rfl) rfl ?_
    refine qp 4 rfl #[tt, tt, tt, tt, tt, ff, ff, ff, ff, ff, ff, ff, ff, ff, ff, ff, ff, ff, ff, ff, ff, ff, ff] (by kernel_rfl) (by kernel_rfl) (fun w' hw => qda qc (hw.box 1 rfl) (j := 6) rfl rfl rfl) (h.pick [3, 5] rfl) rfl ?_
    refine qp 5 rfl #[tt, tt, tt, tt, tt, tt, ff, ff, ff, ff, ff, ff, ff, ff, ff, ff, ff, ff, ff, ff, ff, ff, ff] (by kernel_rfl) (by kernel_rfl) (fun w' hw => v_p qc rfl w') (h.pick [3, 5] rfl) rfl ?_
    refine qp 6 rfl #[tt, tt, tt, tt, tt, tt, tt, ff, ff, ff, ff, ff, ff, ff, ff, ff, ff, ff, ff, ff, ff, ff, ff] (by kernel_rfl) (by kernel_rfl) (fun w' hw => v_p qc rfl w') (h.pick [3, 5] rfl) rfl ?_
    obtain ⟨y8, hy8, hF⟩ := qd hF
    have he8 := qg hy8
    obtain ⟨b9, o_7, q9, cs9, hp9, hq9, -, hr13, hc13⟩ := (h.sl 3 rfl).1.at hy8
    obtain rfl := hr13
    refine qp 7 rfl #[tt, tt, tt, tt, tt, tt, tt, tt, ff, ff, ff, ff, ff, ff, ff, ff, ff, ff, ff, ff, ff, ff, ff] (by kernel_rfl) (by kernel_rfl) (fun w' hw => qhn qc hp9 hq9 ⟨he8.1, qae he8.2.1 (h.sl 3 rfl).2⟩ rfl rfl rfl rfl rfl rfl) (h.pick [3, 5] rfl) rfl ?_
    refine qp 8 rfl #[tt, tt, tt, tt, tt, tt, tt, tt, tt, ff, ff, ff, ff, ff, ff, ff, ff, ff, ff, ff, ff, ff, ff] (by kernel_rfl) (by kernel_rfl) (fun w' hw => qda qc (qhr (w1 := w) (S1 := fun _ => False) hw 0 rfl hy8 hp9 hq9 rfl) (j := 0) rfl rfl rfl) (h.pick [3, 5] rfl) rfl ?_
    refine qp 9 rfl #[tt, tt, tt, tt, tt, tt, tt, tt, tt, tt, ff, ff, ff, ff, ff, ff, ff, ff, ff, ff, ff, ff, ff] (by kernel_rfl) (by kernel_rfl) (fun w' hw => v_p qc rfl w') (h.pick [3, 5] rfl) rfl ?_
    refine qp 10 rfl #[tt, tt, tt, tt, tt, tt, tt, tt, tt, tt, tt, ff, ff, ff, ff, ff, ff, ff, ff, ff, ff, ff, ff] (by kernel_rfl) (by kernel_rfl) (fun w' hw => v_p qc rfl w') (h.pick [3, 5] rfl) rfl ?_
    refine qp 11 rfl #[tt, tt, tt, tt, tt, tt, tt, tt, tt, tt, tt, tt, ff, ff, ff, ff, ff, ff, ff, ff, ff, ff, ff] (by kernel_rfl) (by kernel_rfl) (fun w' hw => v_p qc rfl w') (h.pick [3, 5] rfl) rfl ?_
    refine qp 12 rfl #[tt, tt, tt, tt, tt, tt, tt, tt, tt, tt, tt, tt, tt, ff, ff, ff, ff, ff, ff, ff, ff, ff, ff] (by kernel_rfl) (by kernel_rfl) (fun w' hw => v_p qc rfl w') (h.pick [3, 5] rfl) rfl ?_
    refine qp 13 rfl #[tt, tt, tt, tt, tt, tt, tt, tt, tt, tt, tt, tt, tt, tt, ff, ff, ff, ff, ff, ff, ff, ff, ff] (by kernel_rfl) (by kernel_rfl) (fun w' hw => v_p qc rfl w') (h.pick [3, 5] rfl) rfl ?_
    refine qp 14 rfl #[tt, tt, tt, tt, tt, tt, tt, tt, tt, tt, tt, tt, tt, tt, tt, ff, ff, ff, ff, ff, ff, ff, ff] (by kernel_rfl) (by kernel_rfl) (fun w' hw => v_p qc rfl w') (h.pick [3, 5] rfl) rfl ?_
    refine qp 15 rfl #[tt, tt, tt, tt, tt, tt, tt, tt, tt, tt, tt, tt, tt, tt, tt, tt, ff, ff, ff, ff, ff, ff, ff] (by kernel_rfl) (by kernel_rfl) (fun w' hw => v_p qc rfl w') (h.pick [3, 5] rfl) rfl ?_
    refine qp 16 rfl #[tt, tt, tt, tt, tt, tt, tt, tt, tt, tt, tt, tt, tt, tt, tt, tt, tt, ff, ff, ff, ff, ff, ff] (by kernel_rfl) (by kernel_rfl) (fun w' hw => v_p qc rfl w') (h.pick [3, 5] rfl) rfl ?_
    refine qp 17 rfl #[tt, tt, tt, tt, tt, tt, tt, tt, tt, tt, tt, tt, tt, tt, tt, tt, tt, tt, ff, ff, ff, ff, ff] (by kernel_rfl) (by kernel_rfl) (fun w' hw => qh1 qc [0, 1, 2, 3] [.tmp 141, .tmp 145, .const (.int .i64 (2)), .tmp 146] rfl rfl rfl rfl rfl rfl rfl rfl) (h.pick [3, 5] rfl) rfl ?_
    refine qbi 18 rfl #[tt, tt, tt, tt, tt, tt, tt, tt, tt, tt, tt, tt, tt, tt, tt, tt, tt, tt, tt, ff, ff, ff, ff] (by kernel_rfl) (by kernel_rfl) ?_
    refine qaB qc [.tmp 147] _ ([(⟨W64 ((W64 (2 * y8)) + i6), W64 ((W64 (2 * y7)) + i6), 2, i5⟩ : qbd)] : List qbd) h rfl rfl rfl rfl rfl rfl rfl rfl rfl ⟨(qnd (⟨W64 ((W64 (2 * y8)) + i6), W64 ((W64 (2 * y7)) + i6), 2, i5⟩ : qbd)), trivial⟩ rfl ?_
    intro w37 p28 S24 h
    refine qbf (fun _ => (h.pick [4, 6] rfl)) ?_
    refine qbi 19 rfl #[tt, tt, tt, tt, tt, tt, tt, tt, tt, tt, tt, tt, tt, tt, tt, tt, tt, tt, tt, tt, ff, ff, ff] (by kernel_rfl) (by kernel_rfl) ?_
    obtain ⟨x15, hx7, hF⟩ := qd hF
    obtain ⟨g9, hx7⟩ := qa8 hx7
    refine qee qc 5 h rfl (h.sl 0 rfl).1 (h.sl 0 rfl).2 rfl rfl rfl rfl rfl rfl rfl rfl rfl g9 hx7 rfl ?_
    intro w38 p29 k23 S25 h
    refine qbf (fun _ => (h.pick [4, 6] rfl)) ?_
    refine qbi 20 rfl #[tt, tt, tt, tt, tt, tt, tt, tt, tt, tt, tt, tt, tt, tt, tt, tt, tt, tt, tt, tt, tt, ff, ff] (by kernel_rfl) (by kernel_rfl) ?_
    refine zp1 rfl ?_
    refine qbf (fun _ => (h.pick [4, 6] rfl)) ?_
    refine qp 21 rfl #[tt, tt, tt, tt, tt, tt, tt, tt, tt, tt, tt, tt, tt, tt, tt, tt, tt, tt, tt, tt, tt, tt, ff] (by kernel_rfl) (by kernel_rfl) (fun w' hw => v_p qc rfl w') (h.pick [4, 6] rfl) rfl ?_
    refine qbi 22 rfl #[tt, tt, tt, tt, tt, tt, tt, tt, tt, tt, tt, tt, tt, tt, tt, tt, tt, tt, tt, tt, tt, tt, tt] (by kernel_rfl) (by kernel_rfl) ?_
    refine zs 6 h rfl ?_
    intro w39 h
    refine qbf (fun hs => absurd (hs 22 (by decide)) (by decide)) ?_
    refine qf4 (by kernel_rfl) ?_
    refine qf2 (qy (zp2 rfl (qb ?_)))
    replace h := h.pick [1, 2, 3, 4, 5, 6, 7, 8] rfl
    exact qA m5 [(1, _), (3, _), (7, _), (8, _), (11, _), (12, _), (13, _), (87, _), (88, _), (120, _), (121, _), (122, _), (127, _)] (Nat.lt_succ_self m5) ⟨rfl, rfl, rfl, rfl, rfl, rfl, rfl, rfl, rfl, rfl, rfl, rfl, rfl, trivial⟩ ⟨_, _, _, _, _, _, hF, rfl, h⟩
   refine qH rfl ?_
   obtain rfl := qh hF; replace hF := hK5
   exact qf2 (qy (zp2 rfl (qb (qA m4 [(1, _), (3, _), (7, _), (8, _), (11, _), (87, _), (88, _), (120, _), (121, _), (122, _)] (Nat.lt_succ_self m4) ⟨rfl, rfl, rfl, rfl, rfl, rfl, rfl, rfl, rfl, rfl, trivial⟩ ⟨_, _, _, _, _, _, hF, rfl, h⟩))))
  refine qH rfl ?_
  obtain rfl := qh hF; replace hF := hK4
  refine qf2 (qy (zp2 rfl (qb ?_)))
  replace h := h.unlrn 2 rfl
  exact qA m3 [(1, _), (3, _), (7, _), (8, _), (87, _), (88, _)] (Nat.lt_succ_self m3) ⟨rfl, rfl, rfl, rfl, rfl, rfl, trivial⟩ ⟨_, _, _, _, _, _, _, _, _, _, _, _, _, _, _, _, hF, rfl, h⟩
 refine qH rfl ?_
 obtain rfl := qh hF; replace hF := hK3
 refine zSR (zp2 rfl (qb ?_))
 obtain rfl := qh hF
 have hv1 : GoRs.Rs (ρ := (Option Tview)) h.wc (reg A w h.wc) (some (⟨(⟨(⟨a_0.Library.Cells⟩ : qz), (⟨a_0.Design.Instances, a_0.Design.Nets, a_0.Design.Ports⟩ : ql), a_0.Wires⟩ : qF), r1, x10, x9, x8, []⟩ : Tview)) [GoT.v (Option Tview) [.pointer (some ⟨bb2, 0, none⟩)]] := ⟨_, rfl, (hg.outR h (Rg.boxR (x := (⟨(⟨(⟨a_0.Library.Cells⟩ : qz), (⟨a_0.Design.Instances, a_0.Design.Nets, a_0.Design.Ports⟩ : ql), a_0.Wires⟩ : qF), r1, x10, x9, x8, []⟩ : Tview)) 5 h rfl (⟨[.slice p1 a_0.Library.Cells.length k1, .slice p2 a_0.Design.Instances.length k2, .slice p3 a_0.Design.Nets.length k3, .slice p4 a_0.Design.Ports.length k4, .slice p5 a_0.Wires.length k5], [.slice p6 r1.length k6, .slice p18 x10.length k15, .slice p17 x9.length k14, .slice p16 x8.length k13, .slice none 0 0], rfl, ⟨[.slice p1 a_0.Library.Cells.length k1], [.slice p2 a_0.Design.Instances.length k2, .slice p3 a_0.Design.Nets.length k3, .slice p4 a_0.Design.Ports.length k4, .slice p5 a_0.Wires.length k5], rfl, ⟨_, _, rfl, (hg.inS h s1)⟩, ⟨[.slice p2 a_0.Design.Instances.length k2, .slice p3 a_0.Design.Nets.length k3, .slice p4 a_0.Design.Ports.length k4], [.slice p5 a_0.Wires.length k5], rfl, ⟨[.slice p2 a_0.Design.Instances.length k2], [.slice p3 a_0.Design.Nets.length k3, .slice p4 a_0.Design.Ports.length k4], rfl, ⟨_, _, rfl, (hg.inS h s2)⟩, ⟨[.slice p3 a_0.Design.Nets.length k3], [.slice p4 a_0.Design.Ports.length k4], rfl, ⟨_, _, rfl, (hg.inS h s3)⟩, ⟨_, _, rfl, (hg.inS h s4)⟩⟩⟩, ⟨_, _, rfl, (hg.inS h s5)⟩⟩⟩, ⟨[.slice p6 r1.length k6], [.slice p18 x10.length k15, .slice p17 x9.length k14, .slice p16 x8.length k13, .slice none 0 0], rfl, (Rg.ownR 6 h rfl), ⟨[.slice p18 x10.length k15], [.slice p17 x9.length k14, .slice p16 x8.length k13, .slice none 0 0], rfl, (Rg.ownR 4 h rfl), ⟨[.slice p17 x9.length k14], [.slice p16 x8.length k13, .slice none 0 0], rfl, (Rg.ownR 1 h rfl), ⟨[.slice p16 x8.length k13], [.slice none 0 0], rfl, (Rg.ownR 0 h rfl), ⟨_, _, rfl, qq1⟩⟩⟩⟩⟩⟩)))⟩
 exact qjj qc (ρ := (Option Tview)) (r := (some (⟨(⟨(⟨a_0.Library.Cells⟩ : qz), (⟨a_0.Design.Instances, a_0.Design.Nets, a_0.Design.Ports⟩ : ql), a_0.Wires⟩ : qF), r1, x10, x9, x8, []⟩ : Tview))) [GoT.v (Option Tview) [.pointer (some ⟨bb2, 0, none⟩)]] h ⟨rfl, trivial⟩ hv1

end Go.Fw


namespace Go.Fw
open Go Go.Proofs
open Go.RowKit (Below)
set_option maxRecDepth 100000
set_option maxHeartbeats 1600000
end Go.Fw


namespace Go.Fw
open Go
set_option maxRecDepth 100000

theorem qpW {d : ql} {k : Int} {n i : Nat} (hi : i < (sinksL d k n).length) : ∃ y : Nat, y < n ∧ idx (sinksL d k n) (i : Int) = some (y : Int) ∧ snkQ d k y = true := by
  rw [qgN hi]
  have hm : (sinksL d k n)[i] ∈ sinksL d k n := List.getElem_mem hi
  generalize (sinksL d k n)[i] = z at hm
  unfold sinksL at hm
  obtain ⟨y, hy, rfl⟩ := List.mem_map.1 hm
  obtain ⟨h1, h2⟩ := List.mem_filter.1 hy
  exact ⟨y, List.mem_range.1 h1, rfl, h2⟩

theorem qmx {d : ql} {k : Int} (h : smallD d) : Ev (fun n => qeD n d k) (sinksL d k (places d).length) := by
  have hl := qeN h
  have hL : Ev (fun n => qaE k (places d) n ([] : List Int) 0) (sinksL d k (places d).length, ((places d).length : Int)) := by
    refine loopF (Lf := qaE k (places d)) (S := fun j => sinksL d k j) (len := (places d).length) (fun n => ?_) (fun j hj X hX => ?_)
    · simp only [qaE, qu (Nat.le_refl _), cond_false]
    · have hc : (sinksL d k j).length + [(j : Int)].length ≤ 2147483648 := by
        rw [qhi]
        have : cntP (snkQ d k) j ≤ j := qfC
        simp; omega
      simp only [qaE, qt hj, cond_true, qaC hj, Option.bind_some, qq (show j < 9223372036854775807 by omega)]
      rw [qjf] at hX
      unfold snkQ at hX
      cases h1 : ((gt (places d) j).net == k)
      · rw [h1] at hX
        simp only [Bool.false_and, cond_false, List.append_nil] at hX ⊢
        exact hX
      · cases h2 : (gt (places d) j).drives
        · rw [h1, h2] at hX
          simp only [Bool.not_false, Bool.and_self, cond_true, qeI hc, Option.bind_some] at hX ⊢
          exact hX
        · rw [h1, h2] at hX
          simp only [Bool.not_true, Bool.and_false, cond_false, List.append_nil, cond_true] at hX ⊢
          exact hX
  unfold qeD
  exact Ev.bind (qjK h) (Ev.bind hL .done)

/-- What a valid block says of a wire. -/
structure wireOk (b : qF) (i : Nat) : Prop where
  lo : 1 ≤ (gt b.Wires i).Parent.length
  hi : (gt b.Wires i).Parent.length ≤ 8
  res : (gt b.Wires i).Res.length = (gt b.Wires i).Parent.length
  cap : (gt b.Wires i).Cap.length = (gt b.Wires i).Parent.length
  par : ∀ j, 0 < j → j < (gt b.Wires i).Parent.length → 0 ≤ at0 (gt b.Wires i).Parent j ∧ at0 (gt b.Wires i).Parent j < j
  snk : (gt b.Wires i).Sink.length = (sinksL b.Design (i : Int) (places b.Design).length).length
  sin : ∀ j, j < (gt b.Wires i).Sink.length → 0 ≤ at0 (gt b.Wires i).Sink j ∧ at0 (gt b.Wires i).Sink j < (gt b.Wires i).Parent.length
theorem qjA {b : qF} (h : blockB b = true) {i : Nat} (hi : i < b.Wires.length) : wireOk b i := by
  unfold blockB at h
  rw [Bool.and_eq_true, qbh] at h
  have := h.2 i hi
  unfold wireB lenB at this
  simp only [Bool.and_eq_true, decide_eq_true_eq, beq_iff_eq] at this
  obtain ⟨⟨h1, h2⟩, h3, h4, h5, _, _, h6, h7⟩ := this
  refine ⟨h1, h2, by omega, by omega, fun j hj0 hj => ?_, ?_, fun j hj => ?_⟩
  · have := qbh.1 h5 j hj
    unfold treeB at this
    rw [show decide (j = 0) = false by simp; omega] at this
    simp only [cond_false, qdT] at this
    omega
  · rw [qhi]
    unfold snkN at h6
    omega
  · rw [qg1 (d := 0), qbh] at h7
    have := h7 j hj
    rw [qdT] at this
    unfold at0
    omega
theorem qoQ {b : qF} (h : blockB b = true) : b.Wires.length = b.Design.Nets.length := by
  unfold blockB at h
  simp only [Bool.and_eq_true, beq_iff_eq] at h
  omega

theorem qqo {b : qF} (h : blockB b = true) {j : Nat} (hj : j < (places b.Design).length) : ∃ c, ∀ n, qey n b.Design b.Library (gt (places b.Design) j) = some c := by
  have hd := qd9 h
  rcases qn2 hj with ⟨i, k, hi, hk, _, e⟩ | ⟨i, hi, _, e⟩
  · rw [e]
    obtain ⟨⟨c0, c1⟩, hn, _⟩ := qmW hd hi
    refine ⟨(gt (gt b.Library.Cells (gt b.Design.Instances i).Cell.toNat).Pins k).Cap, fun n => ?_⟩
    unfold place1
    simp only [qey, show decide ((i : Int) < 0) = false by simp, cond_false, qaC hi, Option.bind_some, qhj c0 c1, qaC (show k < (gt b.Library.Cells (gt b.Design.Instances i).Cell.toNat).Pins.length by omega)]
  · rw [e]
    exact ⟨0, fun n => rfl⟩

theorem qkC {b : qF} (h : blockB b = true) {i : Nat} (hi : i < b.Wires.length) : ∃ r : List Int, r.length = (gt b.Wires i).Parent.length ∧ Ev (fun n => qcw n b (i : Int)) r := by
  have hw := qjA h hi
  have hs := qcq (qd9 h)
  have hlo := hw.lo
  have hhi := hw.hi
  have hcap := hw.cap
  have hl := qeN hs
  obtain ⟨x1, i1, e1⟩ := loopE (Lf := qa2 b (gt b.Wires i) (places b.Design) (sinksL b.Design (i : Int) (places b.Design).length)) (fin := fun t => (t, ((sinksL b.Design (i : Int) (places b.Design).length).length : Int))) (fun _ t => t.length = (gt b.Wires i).Parent.length) (len := (sinksL b.Design (i : Int) (places b.Design).length).length)
    (fun n t => by simp only [qa2, qu (Nat.le_refl _), cond_false])
    (fun j t hj ht => by
      obtain ⟨y, hy, ey, _⟩ := qpW hj
      obtain ⟨c, hc⟩ := qqo h hy
      have hjs : j < (gt b.Wires i).Sink.length := by rw [hw.snk]; exact hj
      have hsn := hw.sin j hjs
      have hb : j < 9223372036854775807 := by
        rw [qhi] at hj
        have : cntP (snkQ b.Design (i : Int)) (places b.Design).length ≤ (places b.Design).length := qfC
        omega
      refine ⟨setS t (at0 (gt b.Wires i).Sink j) (W64 (gt t (at0 (gt b.Wires i).Sink j).toNat + c)), by rw [qhJ]; exact ht, fun X hX => ?_⟩
      simp only [qa2, qt hj, cond_true, ey, Option.bind_some, qb9 hjs, qhj hsn.1 (show at0 (gt b.Wires i).Sink j < (t.length : Int) by omega), qaC hy, qq hb]
      exact Ev.bind ⟨0, fun n _ => hc n⟩ hX) 0 (Nat.zero_le _) (gt b.Wires i).Cap hcap
  obtain ⟨x2, i2, e2⟩ := loopDn (Lf := qa1 (gt b.Wires i)) (fin := fun t => (t, (0 : Int))) (fun t => t.length = (gt b.Wires i).Parent.length) ((gt b.Wires i).Parent.length - 1)
    (fun n t => by simp only [qa1, show decide ((0 : Int) > 0) = false from rfl, cond_false])
    (fun j t h0 hj ht => by
      have hp := hw.par j h0 (by omega)
      refine ⟨setS t (at0 (gt b.Wires i).Parent j) (W64 (gt t (at0 (gt b.Wires i).Parent j).toNat + gt t j)), by rw [qhJ]; exact ht, fun X hX => ?_⟩
      simp only [qa1, show decide ((j : Int) > 0) = true by simp; omega, cond_true, qb9 (show j < (gt b.Wires i).Parent.length by omega), Option.bind_some, qhj hp.1 (show at0 (gt b.Wires i).Parent j < (t.length : Int) by omega), qaC (show j < t.length by omega), show (j : Int) - 1 = ((j - 1 : Nat) : Int) by omega, qbo (show -9223372036854775808 ≤ ((j - 1 : Nat) : Int) by omega) (by omega)]
      exact hX) x1 i1
  refine ⟨x2, i2, ?_⟩
  unfold qcw qgq
  rw [qaC hi]
  simp only [Option.bind_some, qeI (show ([] : List Int).length + (gt b.Wires i).Cap.length ≤ 2147483648 by simp; omega), List.nil_append]
  refine Ev.bind (qjK hs) (Ev.bind (qmx hs) (Ev.bind e1 ?_))
  rw [qc8 (show (gt b.Wires i).Cap.length ≤ 9223372036854775807 by omega), show ((gt b.Wires i).Cap.length : Int) - 1 = (((gt b.Wires i).Parent.length - 1 : Nat) : Int) by omega]
  exact Ev.bind e2 .done

theorem qlX {b : qF} (h : blockB b = true) {i : Nat} (hi : i < b.Wires.length) : ∃ r : List Int, r.length = (gt b.Wires i).Sink.length ∧ Ev (fun n => qcT n b (i : Int)) r := by
  have hw := qjA h hi
  have hs := qcq (qd9 h)
  have hlo := hw.lo
  have hhi := hw.hi
  have hres := hw.res
  have hl := qeN hs
  have hsl : (gt b.Wires i).Sink.length ≤ 78 := by
    rw [hw.snk, qhi]
    have : cntP (snkQ b.Design (i : Int)) (places b.Design).length ≤ (places b.Design).length := qfC
    omega
  obtain ⟨r1, l1, e1⟩ := qkC h hi
  have hmk : mkS (r1.length : Int) (0 : Int) = some (List.replicate r1.length 0) := qgY (by omega)
  obtain ⟨x2, i2, e2⟩ := loopE (Lf := qaU (gt b.Wires i) r1 (List.replicate r1.length 0)) (fin := fun t => (t, (r1.length : Int))) (fun j t => 1 ≤ j ∧ t.length = (gt b.Wires i).Parent.length) (len := r1.length)
    (fun n t => by simp only [qaU, List.length_replicate, qu (Nat.le_refl _), cond_false])
    (fun j t hj ht => by
      obtain ⟨h1, ht⟩ := ht
      have hp := hw.par j (by omega) (by omega)
      refine ⟨setS t (j : Int) (W64 (gt t (at0 (gt b.Wires i).Parent j).toNat + W64 (at0 (gt b.Wires i).Res j * gt r1 j))), ⟨by omega, by rw [qhJ]; exact ht⟩, fun X hX => ?_⟩
      simp only [qaU, List.length_replicate, qt hj, cond_true, qb9 (show j < (gt b.Wires i).Parent.length by omega), Option.bind_some, qhj hp.1 (show at0 (gt b.Wires i).Parent j < (t.length : Int) by omega), qb9 (show j < (gt b.Wires i).Res.length by omega), qaC hj, qaC (show j < t.length by omega), qq (show j < 9223372036854775807 by omega)]
      exact hX) 1 (by omega) (List.replicate r1.length 0) ⟨Nat.le_refl _, by rw [List.length_replicate]; exact l1⟩
  obtain ⟨x3, i3, e3⟩ := loopE (Lf := qaM x2 (gt b.Wires i)) (fin := fun t => (t, ((gt b.Wires i).Sink.length : Int))) (fun j t => t.length = j) (len := (gt b.Wires i).Sink.length)
    (fun n t => by simp only [qaM, qu (Nat.le_refl _), cond_false])
    (fun j t hj ht => by
      have hsn := hw.sin j hj
      have hx2 := i2.2
      refine ⟨t ++ [gt x2 (at0 (gt b.Wires i).Sink j).toNat], by simp [ht], fun X hX => ?_⟩
      simp only [qaM, qt hj, cond_true, qb9 hj, Option.bind_some, qhj hsn.1 (show at0 (gt b.Wires i).Sink j < (x2.length : Int) by omega), qeI (show t.length + [gt x2 (at0 (gt b.Wires i).Sink j).toNat].length ≤ 2147483648 by simp; omega), qq (show j < 9223372036854775807 by omega)]
      exact hX) 0 (Nat.zero_le _) [] rfl
  refine ⟨x3, i3, ?_⟩
  unfold qcT qej
  rw [qaC hi]
  simp only [Option.bind_some]
  refine Ev.bind (b := x2) (Ev.bind e1 ?_) (Ev.bind e3 .done)
  rw [hmk]
  simp only [Option.bind_some]
  exact Ev.bind e2 .done
end Go.Fw


namespace Go.Fw
open Go
set_option maxRecDepth 100000

instance : Inhabited qbd := ⟨⟨0, 0, 0, 0⟩⟩
instance : Inhabited qS := ⟨⟨0, 0⟩⟩

theorem qpm {α : Type} {m : Nat} {z : α} (h : m ≤ 2147483648) : mkS (m : Int) z = some (List.replicate m z) := by
  unfold mkS big
  rw [if_pos ⟨by omega, by omega⟩, Int.toNat_natCast]
theorem qpt {α : Type} [Inhabited α] {xs : List α} {a k : Nat} {y : α} (h : k ≠ a) : gt (xs.set a y) k = gt xs k := by
  unfold gt
  rw [List.getD_eq_getElem?_getD, List.getElem?_set_ne (by omega), ← List.getD_eq_getElem?_getD]
theorem qoi {α : Type} [Inhabited α] {xs : List α} {a : Nat} {y : α} (h : a < xs.length) : gt (xs.set a y) a = y := by
  rw [qjh (by rw [List.length_set]; exact h), List.getElem_set_self]
theorem qqt {a : qY} : ∃ r : List qS, r.length ≤ 4 ∧ ∀ n, qdD n a = some r := by
  unfold qdD
  simp only [bne, qbO]
  cases (a.Kind == 2)
  · cases (a.Kind == 3)
    · cases (a.Kind == 1)
      · exact ⟨_, by decide, fun _ => rfl⟩
      · cases (a.Sense == 1)
        · cases (a.Sense == 2)
          · exact ⟨[⟨0, 0⟩, ⟨0, 1⟩, ⟨1, 0⟩, ⟨1, 1⟩], by decide, fun _ => rfl⟩
          · exact ⟨[⟨0, 1⟩, ⟨1, 0⟩], by decide, fun _ => rfl⟩
        · exact ⟨[⟨0, 0⟩, ⟨1, 1⟩], by decide, fun _ => rfl⟩
    · exact ⟨[⟨1, 0⟩, ⟨1, 1⟩], by decide, fun _ => rfl⟩
  · exact ⟨[⟨0, 0⟩, ⟨0, 1⟩], by decide, fun _ => rfl⟩

theorem qnk {b : qF} {first : Int} (h : blockB b = true) {i : Nat} (hi : i < b.Design.Instances.length) : ∃ r : List qbd, r.length ≤ 32 ∧ Ev (fun n => qdC n b (gt b.Design.Instances i) first) r := by
  obtain ⟨⟨c0, c1⟩, _, hcb⟩ := qmW (qd9 h) hi
  have ha := qoO hcb
  obtain ⟨x1, i1, e1⟩ := loopE (Lf := qa3 first (gt b.Library.Cells (gt b.Design.Instances i).Cell.toNat)) (fin := fun t => (t, ((gt b.Library.Cells (gt b.Design.Instances i).Cell.toNat).Arcs.length : Int))) (fun j t => t.length ≤ 4 * j) (len := (gt b.Library.Cells (gt b.Design.Instances i).Cell.toNat).Arcs.length)
    (fun n t => by simp only [qa3, qu (Nat.le_refl _), cond_false])
    (fun j t hj ht => by
      obtain ⟨r, hr, er⟩ := qqt (a := gt (gt b.Library.Cells (gt b.Design.Instances i).Cell.toNat).Arcs j)
      obtain ⟨x2, i2, e2⟩ := loopE (Lf := qa0 first (j : Int) (gt (gt b.Library.Cells (gt b.Design.Instances i).Cell.toNat).Arcs j) r) (fin := fun t => (t, (r.length : Int))) (fun k t' => t'.length = t.length + k) (len := r.length)
        (fun n t => by simp only [qa0, qu (Nat.le_refl _), cond_false])
        (fun k t' hk ht' => ⟨t' ++ [_], by rw [List.length_append, ht', List.length_singleton]; omega, fun X hX => by
          simp only [qa0, qt hk, cond_true, qaC hk, Option.bind_some, qq (show k < 9223372036854775807 by omega)]
          rw [qeI (by rw [List.length_singleton]; omega)]
          exact hX⟩) 0 (Nat.zero_le _) t rfl
      refine ⟨x2, by omega, fun X hX => ?_⟩
      simp only [qa3, qt hj, cond_true, qaC hj, Option.bind_some, er, qq (show j < 9223372036854775807 by omega)]
      exact Ev.bind e2 hX) 0 (Nat.zero_le _) [] (Nat.le_refl _)
  refine ⟨x1, by omega, ?_⟩
  unfold qdC
  rw [qhj c0 c1]
  simp only [Option.bind_some]
  exact Ev.bind e1 .done

theorem qou {b : qF} (h : blockB b = true) : ∃ ls lo de, Ev (fun n => qgX n b) (some ⟨b, places b.Design, ls, lo, de, []⟩) := by
  have hd := qd9 h
  have hs := qcq hd
  have hl := qeN hs
  have hni := hs.ni
  have hnn := hs.nn
  have hwl := qoQ h
  obtain ⟨⟨x1, z1⟩, i1, e1⟩ := loopE (τ := List qbd × Int) (Lf := fun n t j => qc6 b n t.1 t.2 j) (fin := fun t => (t.1, t.2, (b.Design.Instances.length : Int))) (fun j t => t.1.length ≤ 32 * j) (len := b.Design.Instances.length)
    (fun n t => by simp only [qc6, qu (Nat.le_refl _), cond_false])
    (fun j t hj ht => by
      obtain ⟨r, hr, er⟩ := qnk (first := t.2) h hj
      refine ⟨(t.1 ++ r, W64 (t.2 + ((gt b.Design.Instances j).Nets.length : Int))), by rw [List.length_append]; omega, fun X hX => ?_⟩
      simp only [qc6, qt hj, cond_true, qaC hj, Option.bind_some, qaH, qq (show j < 9223372036854775807 by omega)]
      have ht' : t.1.length ≤ 32 * j := ht
      refine Ev.bind er ?_
      rw [qeI (show t.1.length + r.length ≤ 2147483648 by omega)]
      exact hX) 0 (Nat.zero_le _) ([], 0) (Nat.le_refl _)
  have hm1 : mkS (b.Wires.length : Int) (0 : Int) = some (List.replicate b.Wires.length 0) := qpm (by omega)
  have hm2 : mkS (b.Wires.length : Int) ([] : List Int) = some (List.replicate b.Wires.length []) := qpm (by omega)
  obtain ⟨⟨x5, x6⟩, ⟨i5, i6, i56⟩, e2⟩ := loopE (τ := List (List Int) × List Int) (Lf := fun n t j => qb0 (places b.Design) n t.1 t.2 j) (fin := fun t => (t.1, t.2, ((places b.Design).length : Int))) (fun j t => t.1.length = b.Wires.length ∧ t.2.length = b.Wires.length ∧ ∀ k, (gt t.1 k).length ≤ j) (len := (places b.Design).length)
    (fun n t => by simp only [qb0, qu (Nat.le_refl _), cond_false])
    (fun j t hj ht => by
      obtain ⟨h1, h2, h3⟩ := ht
      obtain ⟨n0, n1⟩ := ql0 hd hj
      cases hdr : (gt (places b.Design) j).drives
      · refine ⟨(setS t.1 (gt (places b.Design) j).net (gt t.1 (gt (places b.Design) j).net.toNat ++ [(j : Int)]), t.2), ⟨by rw [qhJ]; exact h1, h2, fun k => ?_⟩, fun X hX => ?_⟩
        · show (gt (t.1.set _ _) k).length ≤ j + 1
          by_cases hk : k = (gt (places b.Design) j).net.toNat
          · subst hk
            rw [qoi (by omega), List.length_append, List.length_singleton]
            have := h3 (gt (places b.Design) j).net.toNat
            omega
          · rw [qpt hk]
            have := h3 k
            omega
        · have := h3 (gt (places b.Design) j).net.toNat
          simp only [qb0, qt hj, cond_true, qaC hj, Option.bind_some, hdr, cond_false, qhj n0 (show (gt (places b.Design) j).net < (t.1.length : Int) by omega), qq (show j < 9223372036854775807 by omega)]
          rw [qeI (by rw [List.length_singleton]; omega)]
          exact hX
      · refine ⟨(t.1, setS t.2 (gt (places b.Design) j).net (j : Int)), ⟨h1, by rw [qhJ]; exact h2, fun k => Nat.le_succ_of_le (h3 k)⟩, fun X hX => ?_⟩
        simp only [qb0, qt hj, cond_true, qaC hj, Option.bind_some, hdr, qhj n0 (show (gt (places b.Design) j).net < (t.2.length : Int) by omega), qq (show j < 9223372036854775807 by omega)]
        exact hX) 0 (Nat.zero_le _) (List.replicate b.Wires.length [], List.replicate b.Wires.length 0) ⟨by simp, by simp, fun k => by
      have : gt (List.replicate b.Wires.length ([] : List Int)) k = [] := by
        unfold gt
        rw [List.getD_eq_getElem?_getD, List.getElem?_replicate]
        by_cases hk : k < b.Wires.length <;> simp [hk] <;> rfl
      rw [this]; exact Nat.le_refl _⟩
  have i5 : x5.length = b.Wires.length := i5
  have i6 : x6.length = b.Wires.length := i6
  have i56 : ∀ k, (gt x5 k).length ≤ (places b.Design).length := i56
  have hL5 : ∀ (i4 i5 y7 : Int) (y8 : Int) (t : List qbd), idx x6 i4 = some y8 → t.length ≤ 1000000 → ∃ t', t'.length = t.length + 2 ∧ Ev (fun n => qcs x6 i4 i5 y7 n t 0) (t', 2) := by
    intro i4 i5 y7 y8 t hy ht
    obtain ⟨t', h1, h2⟩ := loopE (Lf := qcs x6 i4 i5 y7) (fin := fun t => (t, (2 : Int))) (fun k t' => t'.length = t.length + k) (len := 2)
      (fun n t => by simp only [qcs]; rfl)
      (fun k t' hk ht' => ⟨t' ++ [_], by rw [List.length_append, ht', List.length_singleton]; omega, fun X hX => by
        simp only [qcs, show decide ((k : Int) < 2) = true by simp; omega, cond_true, hy, Option.bind_some, qq (show k < 9223372036854775807 by omega)]
        rw [qeI (by rw [List.length_singleton]; omega)]
        exact hX⟩) 0 (Nat.zero_le _) t rfl
    exact ⟨t', h1, h2⟩
  have hL4 : ∀ (i4 y8 : Int) (y6 : List Int) (t : List qbd), idx x6 i4 = some y8 → y6.length ≤ 78 → t.length ≤ 900000 → ∃ t', t'.length = t.length + 2 * y6.length ∧ Ev (fun n => qcv x6 i4 y6 n t 0) (t', (y6.length : Int)) := by
    intro i4 y8 y6 t hy hy6 ht
    obtain ⟨t', h1, h2⟩ := loopE (Lf := qcv x6 i4 y6) (fin := fun t => (t, (y6.length : Int))) (fun k t' => t'.length = t.length + 2 * k) (len := y6.length)
      (fun n t => by simp only [qcv, qu (Nat.le_refl _), cond_false])
      (fun k t' hk ht' => by
        obtain ⟨t2, q1, q2⟩ := hL5 i4 (k : Int) (gt y6 k) y8 t' hy (by omega)
        refine ⟨t2, by omega, fun X hX => ?_⟩
        simp only [qcv, qt hk, cond_true, qaC hk, Option.bind_some, qq (show k < 9223372036854775807 by omega)]
        exact Ev.bind q2 hX) 0 (Nat.zero_le _) t rfl
    exact ⟨t', h1, h2⟩
  obtain ⟨⟨x8, x9, x10⟩, _, e3⟩ := loopE (τ := List (List Int) × List Int × List qbd) (Lf := fun n t j => qcX b x5 x6 n t.1 t.2.1 t.2.2 j) (fin := fun t => (t.1, t.2.1, t.2.2, (b.Wires.length : Int))) (fun j t => t.1.length = j ∧ t.2.1.length = j ∧ t.2.2.length ≤ 448 + 156 * j) (len := b.Wires.length)
    (fun n t => by simp only [qcX, qu (Nat.le_refl _), cond_false])
    (fun j t hj ht => by
      obtain ⟨h1, h2, h3⟩ := ht
      have h1 : t.1.length = j := h1
      have h2 : t.2.1.length = j := h2
      have h3 : t.2.2.length ≤ 448 + 156 * j := h3
      have hw := qjA h hj
      have hlo := hw.lo
      obtain ⟨r4, l4, e4⟩ := qkC h hj
      obtain ⟨r5, l5, e5⟩ := qlX h hj
      have h6 := i56 j
      have hy8 : idx x6 (j : Int) = some (gt x6 j) := qaC (by omega)
      obtain ⟨t', q1, q2⟩ := hL4 (j : Int) (gt x6 j) (gt x5 j) t.2.2 hy8 (by omega) (by omega)
      refine ⟨(t.1 ++ [r5], t.2.1 ++ [gt r4 0], t'), ⟨by simp [h1], by simp [h2], ?_⟩, fun X hX => ?_⟩
      · show t'.length ≤ _
        omega
      · simp only [qcX, qt hj, cond_true, qq (show j < 9223372036854775807 by omega)]
        refine Ev.bind e4 ?_
        rw [show idx r4 (0 : Int) = some (gt r4 0) from qaC (j := 0) (by omega)]
        simp only [Option.bind_some]
        rw [qeI (by rw [List.length_singleton]; omega)]
        simp only [Option.bind_some]
        refine Ev.bind e5 ?_
        rw [qeI (by rw [List.length_singleton]; omega), qaC (show j < x5.length by omega)]
        simp only [Option.bind_some]
        exact Ev.bind q2 hX) 0 (Nat.zero_le _) ([], [], x1) ⟨rfl, rfl, by show x1.length ≤ _; have : x1.length ≤ 32 * b.Design.Instances.length := i1; omega⟩
  refine ⟨x10, x9, x8, ?_⟩
  unfold qgX
  refine Ev.bind (qjK hs) (Ev.bind e1 ?_)
  rw [hm1, hm2]
  simp only [Option.bind_some]
  exact Ev.bind e2 (Ev.bind e3 .done)
end Go.Fw


namespace Go.Fw
open Go
set_option maxRecDepth 100000

/-! ### Successors -/

def inPl (b : qF) (x : Int) : Bool := inI x 0 (((places b.Design).length : Int) - 1)
end Go.Fw


namespace Go.Fw
open Go Go.Proofs
open Go.RowKit (Below)
set_option maxRecDepth 100000
set_option maxHeartbeats 1600000
def qdV (n : Nat) (b : qF) : Option Int :=
 (qe6 n (⟨b.Design.Instances, b.Design.Nets, b.Design.Ports⟩ : ql)).bind fun r1 =>
 some (r1.length : Int)

theorem qiR {n : Nat} {w : World} {b : qF} {cs1 : List Value} (ha1 : GoT.R w (old w) b cs1) {r : Int} (hF : qdV n b = some r) : RetV Tryz.prog 78 [GoT.v qF cs1] w r := by
 obtain ⟨p1, k1, p2, k2, p3, k3, p4, k4, p5, k5, rfl, s1, s2, s3, s4, s5⟩ := qar ha1
 refine qe Tryz.func78 rfl (m := 7) rfl rfl (fun h => ?_)
 rw [qdV] at hF
 refine zSR (qO h rfl rfl ?_)
 intro w1 bb1 h
 refine zp1 rfl (zNSR (zp1 rfl (zl 0 1 h rfl ?_)))
 obtain ⟨r1, hr1, hF⟩ := qd hF
 refine qat r1 h call124 (qit (qco (⟨b.Design.Instances, b.Design.Nets, b.Design.Ports⟩ : ql) (h.oldS s2) (h.oldS s3) (h.oldS s4)) hr1) rfl rfl rfl rfl ?_
 intro w2 S1 p6 k6 h
 exact zp2 rfl (qb (qap qc h hF ⟨rfl, trivial⟩))

def qbn (b : qF) (list : (List Int)) (sorted : Bool) : Nat → Int → Option (Flow Bool Int)
 | 0, _ => none
 | n + 1, i1 =>
  bif decide (i1 < (list.length : Int)) then
   (idx list i1).bind fun y1 =>
   (qdV n b).bind fun r1 =>
   (qas n y1 0 (W64 (r1 - 1))).bind fun r2 =>
   bif (!r2) then
    some (.ret false)
   else
    bif sorted then
     bif decide (i1 > 0) then
      (idx list (W64 (i1 - 1))).bind fun y2 =>
      (idx list i1).bind fun y3 =>
      bif decide (y2 ≥ y3) then
       some (.ret false)
      else
       qbn b list sorted n (W64 (i1 + 1))
     else
      qbn b list sorted n (W64 (i1 + 1))
    else
     qbn b list sorted n (W64 (i1 + 1))
  else
   some (.nxt i1)

def qed (n : Nat) (b : qF) (list : (List Int)) (sorted : Bool) : Option Bool :=
 (qbn b list sorted n 0).bind fun o => match o with
 | .ret r => some r
 | .nxt _ =>
  some (decide ((list.length : Int) ≤ 4))

theorem qgO {n : Nat} {w : World} {b : qF} {list : (List Int)} {sorted : Bool} {cs1 : List Value} (ha1 : GoT.R w (old w) b cs1) {cs2 : List Value} (ha2 : GoT.R w (old w) list cs2) {r : Bool} (hF : qed n b list sorted = some r) : RetV Tryz.prog 139 [GoT.v qF cs1, GoT.v (List Int) cs2, .bool sorted] w r := by
 obtain ⟨p1, k1, p2, k2, p3, k3, p4, k4, p5, k5, rfl, s1, s2, s3, s4, s5⟩ := qar ha1
 obtain ⟨p6, k6, rfl, s6⟩ := ha2
 refine qe Tryz.func139 rfl (m := 45) rfl rfl (fun h => ?_)
 rw [qed] at hF
 refine zSR (qO h rfl rfl ?_)
 intro w1 bb1 h
 refine zp1 rfl (zNSSR (zp1 rfl (qb ?_)))
 obtain ⟨o1, hF, hK1⟩ := qd hF
 refine qv (qR [(1, _), (2, _), (3, _), (7, _)] ⟨rfl, rfl, rfl, rfl, trivial⟩ ?_)
 refine qI (fun m e w' => ∃ (i1 : Int), qbn b list sorted m i1 = some o1 ∧ e = [(1, .slice p6 list.length k6), (2, .bool sorted), (3, .pointer (some ⟨bb1, 0, none⟩)), (7, .int .i64 i1)] ∧ SH w w' [Ch.box bb1 [.slice p1 b.Library.Cells.length k1, .slice p2 b.Design.Instances.length k2, .slice p3 b.Design.Nets.length k3, .slice p4 b.Design.Ports.length k4, .slice p5 b.Wires.length k5] 50]) n ⟨_, hF, rfl, h⟩ ?_
 rintro m1 e1 w2 ⟨i1, hF, rfl, h⟩
 rcases m1 with _ | m1
 ·rw [qbn] at hF
  cases hF
 rw [qbn] at hF
 refine zSSR (zp4 rfl (qb ?_))
 refine qr rfl hF ?_ ?_ <;> intro hF
 ·refine zKSB (qbr ?_)
  refine qc7 rfl (by kernel_rfl) ?_
  refine zd2 rfl ?_
  obtain ⟨y1, hy1, hF⟩ := qd hF
  have he1 := qg hy1
  obtain ⟨b1, o_1, q1, cs3, hp1, hq1, -, hr1, hc2⟩ := s6.at hy1
  obtain rfl := hr1
  refine zdxe hp1 hq1 he1 rfl ?_
  refine zdc 0 (hc2.below h.below) rfl ?_
  refine zdl 0 0 h rfl ?_
  obtain ⟨r1, hr2, hF⟩ := qd hF
  refine qcI r1 (vsI _) call78 (fun _ hb => qiR ((h.ext hb).old ha1) hr2) rfl rfl rfl rfl ?_
  refine zd1 rfl ?_
  obtain ⟨r2, hr3, hF⟩ := qd hF
  refine qcI r2 (vsB _) call77 (fun _ hb => qag  hr3) rfl rfl rfl rfl ?_
  refine zd2 rfl ?_
  by_cases hc3 : (!r2) = true
  ·replace hF := bifT hc3 hF
   refine qdg hc3 (t := 23) rfl (qj rfl rfl rfl (qj rfl rfl rfl (qj rfl rfl rfl (qj rfl rfl rfl (qj rfl rfl rfl (qj rfl rfl rfl (qj rfl rfl rfl (qj rfl rfl rfl (qj rfl rfl rfl (qj rfl rfl rfl (qj rfl rfl rfl ?_)))))))))))
   refine qj rfl rfl rfl (qj rfl rfl rfl (qj rfl rfl rfl (qj rfl rfl rfl (qj rfl rfl rfl (qj rfl rfl rfl (zd1 rfl ?_))))))
   refine qbm (fun w3 hb => ?_)
   replace h := h.ext hb
   clear hb
   refine qeR rfl rfl (zSR (zp1 rfl (qb ?_)))
   obtain rfl := qh hF; replace hF := hK1
   exact qw qc h hF ⟨rfl, trivial⟩
  replace hc3 := zb hc3
  replace hF := bifF hc3 hF
  refine qdm hc3 (t := 23) rfl (qi rfl (zd1 rfl (qi rfl (zd1 rfl ?_))))
  by_cases hc4 : sorted = true
  ·replace hF := bifT hc4 hF
   refine qdg hc4 (t := 25) rfl (qi rfl (zd1 rfl (qi rfl (zd1 rfl (qi rfl (zd1 rfl (qi rfl (zd1 rfl ?_))))))))
   by_cases hc5 : (decide (i1 > 0)) = true
   ·replace hF := bifT hc5 hF
    refine qdg hc5 (t := 29) rfl (qi rfl (zd1 rfl (qi rfl (zd1 rfl (qi rfl (zd1 rfl (qi rfl ?_)))))))
    obtain ⟨y2, hy2, hF⟩ := qd hF
    have he2 := qg hy2
    obtain ⟨b2, o_2, q2, cs4, hp2, hq2, -, hr4, hc6⟩ := s6.at hy2
    obtain rfl := hr4
    refine zdxe hp2 hq2 he2 rfl ?_
    refine qi rfl ?_
    refine zdc 0 (hc6.below h.below) rfl ?_
    refine qi rfl (zd1 rfl (qi rfl (zd1 rfl (qi rfl ?_))))
    obtain ⟨y3, hy3, hF⟩ := qd hF
    have he3 := qg hy3
    obtain ⟨b3, o_3, q3, cs5, hp3, hq3, -, hr5, hc7⟩ := s6.at hy3
    obtain rfl := hr5
    refine zdxe hp3 hq3 he3 rfl ?_
    refine qi rfl ?_
    refine zdc 0 (hc7.below h.below) rfl ?_
    refine qi rfl (zd1 rfl (qi rfl (zd2 rfl ?_)))
    refine qbm (fun w4 hb => ?_)
    replace h := h.ext hb
    clear hb
    refine qr rfl hF ?_ ?_ <;> intro hF
    ·refine zSR (zp1 rfl (qb ?_))
     obtain rfl := qh hF; replace hF := hK1
     exact qw qc h hF ⟨rfl, trivial⟩
    exact zKER (zp3 rfl (qb (qA m1 [(1, _), (2, _), (3, _), (7, _)] (Nat.lt_succ_self m1) ⟨rfl, rfl, rfl, rfl, trivial⟩ ⟨_, hF, rfl, h⟩)))
   replace hc5 := zb hc5
   replace hF := bifF hc5 hF
   refine qdm hc5 (t := 29) rfl (qj rfl rfl rfl (qj rfl rfl rfl (qj rfl rfl rfl (qj rfl rfl rfl (qj rfl rfl rfl (qj rfl rfl rfl (qj rfl rfl rfl (qj rfl rfl rfl (qj rfl rfl rfl (qj rfl rfl rfl (qi rfl ?_)))))))))))
   refine zd2 rfl ?_
   refine qbm (fun w5 hb => ?_)
   replace h := h.ext hb
   clear hb
   exact qel rfl rfl (zKER (zp3 rfl (qb (qA m1 [(1, _), (2, _), (3, _), (7, _)] (Nat.lt_succ_self m1) ⟨rfl, rfl, rfl, rfl, trivial⟩ ⟨_, hF, rfl, h⟩))))
  replace hc4 := zb hc4
  replace hF := bifF hc4 hF
  refine qdm hc4 (t := 25) rfl (qj rfl rfl rfl (qj rfl rfl rfl (qi rfl (zd1 rfl (qi rfl (zd1 rfl (qj rfl rfl rfl (qj rfl rfl rfl (qj rfl rfl rfl (qj rfl rfl rfl (qj rfl rfl rfl ?_)))))))))))
  refine qj rfl rfl rfl (qj rfl rfl rfl (qj rfl rfl rfl (qj rfl rfl rfl (qj rfl rfl rfl (qi rfl (zd2 rfl ?_))))))
  refine qbm (fun w6 hb => ?_)
  replace h := h.ext hb
  clear hb
  exact qel rfl rfl (zKER (zp3 rfl (qb (qA m1 [(1, _), (2, _), (3, _), (7, _)] (Nat.lt_succ_self m1) ⟨rfl, rfl, rfl, rfl, trivial⟩ ⟨_, hF, rfl, h⟩))))
 refine qH rfl ?_
 obtain rfl := qh hF; replace hF := hK1
 exact zSR (zp4 rfl (qb (qw qc h hF ⟨rfl, trivial⟩)))

def qe5 (n : Nat) (b : qF) (a_e : qf) : Option Bool :=
 (
  (qfU n b).bind fun r4 =>
  bif (!r4) then
   some true
  else
   (qed n b a_e.From true).bind fun r5 =>
   bif (!r5) then
    some true
   else
    (qed n b a_e.Through false).bind fun r6 =>
    bif (!r6) then
     some true
    else
     (qed n b a_e.To true).bind fun r7 =>
     some (!r7)).bind fun b1 =>
 bif b1 then
  some false
 else
  bif (a_e.Kind == 1) then
   some (a_e.Value == 0)
  else
   bif (a_e.Kind == 2) then
    (qas n a_e.Value 1 10).bind fun r1 =>
    some r1
   else
    bif (a_e.Kind == 3) then
     bif (a_e.Kind == 3) then
      (qas n a_e.Value 0 1000000000).bind fun r2 =>
      some r2
     else
      some false
    else
     bif (a_e.Kind == 4) then
      (qas n a_e.Value 0 1000000000).bind fun r3 =>
      some r3
     else
      some false

theorem qj3 {n : Nat} {w : World} {b : qF} {a_e : qf} {cs1 : List Value} (ha1 : GoT.R w (old w) b cs1) {cs2 : List Value} (ha2 : GoT.R w (old w) a_e cs2) {r : Bool} (hF : qe5 n b a_e = some r) : RetV Tryz.prog 105 [GoT.v qF cs1, GoT.v qf cs2] w r := by
 obtain ⟨p1, k1, p2, k2, p3, k3, p4, k4, p5, k5, rfl, s1, s2, s3, s4, s5⟩ := qar ha1
 obtain ⟨p6, k6, p7, k7, p8, k8, rfl, s6, s7, s8⟩ := qX ha2
 refine qe Tryz.func105 rfl (m := 47) rfl rfl (fun h => ?_)
 rw [qe5] at hF
 refine zSR (qO h rfl rfl ?_)
 intro w1 bb1 h
 refine qO h rfl rfl ?_
 intro w2 bb2 h
 refine zp1 rfl (zNSS ?_)
 obtain ⟨KF1, hKF1, o1, hF, hK1⟩ := bindE hF
 refine qen (fun e w' => ∃ (b1 : Bool), KF1 b1 = some r ∧ e = [(3, .pointer (some ⟨bb2, 0, none⟩)), (28, .bool b1)] ∧ SH w w' [Ch.box bb2 [.int .i64 a_e.Kind, .int .i64 a_e.Value, .slice p6 a_e.From.length k6, .slice p7 a_e.Through.length k7, .slice p8 a_e.To.length k8] 87]) ?_ ?_
 ·refine qy (zl 1 0 h rfl ?_)
  obtain ⟨r4, hr4, hF⟩ := qd hF
  refine qn r4 h call104 (qi7 (h.old ha1) hr4) rfl rfl rfl rfl ?_
  intro w6 h
  refine zp2 rfl ?_
  by_cases hc7 : (!r4) = true
  ·replace hF := bifT hc7 hF
   refine qD hc7 (t := 8) rfl (zn5 rfl (zp2 rfl (zn4 rfl ?_)))
   refine zn1 rfl (zp2 rfl (zn5 rfl (zp1 rfl (qb ?_))))
   replace h := h.pick [0] rfl
   obtain rfl := qh hF
   exact qx [(3, _), (28, _)] ⟨rfl, rfl, trivial⟩ ⟨_, hK1, rfl, h⟩
  replace hc7 := zb hc7
  replace hF := bifF hc7 hF
  refine qE hc7 (t := 8) rfl (qa rfl (zl 1 0 h rfl (qa rfl (zp1 rfl (qa rfl (zl 0 2 h rfl (qa rfl ?_)))))))
  obtain ⟨r5, hr5, hF⟩ := qd hF
  refine qn r5 h call139 (qgO (h.old ha1) ⟨_, _, rfl, (h.oldS s6)⟩ hr5) rfl rfl rfl rfl ?_
  intro w7 h
  refine qa rfl (zp3 rfl ?_)
  by_cases hc8 : (!r5) = true
  ·replace hF := bifT hc8 hF
   refine qD hc8 (t := 15) rfl (zn5 rfl (zp2 rfl (zn4 rfl ?_)))
   refine zn1 rfl (zp1 rfl (qb ?_))
   replace h := h.pick [0] rfl
   obtain rfl := qh hF
   exact qx [(3, _), (28, _)] ⟨rfl, rfl, trivial⟩ ⟨_, hK1, rfl, h⟩
  replace hc8 := zb hc8
  replace hF := bifF hc8 hF
  refine qE hc8 (t := 15) rfl (qa rfl (zl 1 0 h rfl (qa rfl (zp1 rfl (qa rfl (zl 0 3 h rfl (qa rfl ?_)))))))
  obtain ⟨r6, hr6, hF⟩ := qd hF
  refine qn r6 h call139 (qgO (h.old ha1) ⟨_, _, rfl, (h.oldS s7)⟩ hr6) rfl rfl rfl rfl ?_
  intro w8 h
  refine qa rfl (zp3 rfl ?_)
  by_cases hc9 : (!r6) = true
  ·replace hF := bifT hc9 hF
   refine qD hc9 (t := 22) rfl (zn5 rfl (zp1 rfl (qb ?_)))
   replace h := h.pick [0] rfl
   obtain rfl := qh hF
   exact qx [(3, _), (28, _)] ⟨rfl, rfl, trivial⟩ ⟨_, hK1, rfl, h⟩
  replace hc9 := zb hc9
  replace hF := bifF hc9 hF
  refine qE hc9 (t := 22) rfl (qa rfl (zl 1 0 h rfl (qa rfl (zp1 rfl (qa rfl (zl 0 4 h rfl (qa rfl ?_)))))))
  obtain ⟨r7, hr7, hF⟩ := qd hF
  refine qn r7 h call139 (qgO (h.old ha1) ⟨_, _, rfl, (h.oldS s8)⟩ hr7) rfl rfl rfl rfl ?_
  intro w9 h
  refine qa rfl (zp2 rfl (qb ?_))
  replace h := h.pick [0] rfl
  obtain rfl := qh hF
  exact qx [(3, _), (28, _)] ⟨rfl, rfl, trivial⟩ ⟨_, hK1, rfl, h⟩
 rintro e1 w10 ⟨b1, hF, rfl, h⟩
 subst hKF1
 refine qr rfl hF ?_ ?_ <;> intro hF
 ·exact zSR (zp1 rfl (qb (qw qc h hF ⟨rfl, trivial⟩)))
 refine zKSSR (zp1 rfl (zl 0 0 h rfl (qb (zBSR (zp2 rfl ?_)))))
 refine qb ?_
 refine qr rfl hF ?_ ?_ <;> intro hF
 ·exact zSR (zp1 rfl (zl 0 1 h rfl (zp2 rfl (qb (qw qc h hF ⟨rfl, trivial⟩)))))
 refine zSR (zp2 rfl (qb ?_))
 refine qr rfl hF ?_ ?_ <;> intro hF
 ·refine zSR (zp1 rfl (zl 0 1 h rfl ?_))
  obtain ⟨r1, hr1, hF⟩ := qd hF
  refine qn r1 h call77 (qag hr1) rfl rfl rfl rfl ?_
  intro w3 h
  exact zp1 rfl (qb (qw qc h hF ⟨rfl, trivial⟩))
 refine zSSR (zp2 rfl (qb ?_))
 refine qr rfl hF ?_ ?_ <;> intro hF
 ·refine qdH ?_
  refine qr rfl hF ?_ ?_ <;> intro hF
  ·refine zSR (zp1 rfl (zl 0 1 h rfl ?_))
   obtain ⟨r2, hr2, hF⟩ := qd hF
   refine qn r2 h call77 (qag hr2) rfl rfl rfl rfl ?_
   intro w4 h
   exact zp1 rfl (qb (qw qc h hF ⟨rfl, trivial⟩))
  exact zKE (zSR (zp1 rfl (qb (qw qc h hF ⟨rfl, trivial⟩))))
 refine qy (zp2 rfl (qb ?_))
 refine qr rfl hF ?_ ?_ <;> intro hF
 ·refine zSR (zp1 rfl (zl 0 1 h rfl ?_))
  obtain ⟨r3, hr3, hF⟩ := qd hF
  refine qn r3 h call77 (qag hr3) rfl rfl rfl rfl ?_
  intro w5 h
  exact zp1 rfl (qb (qw qc h hF ⟨rfl, trivial⟩))
 exact zKE (zSR (zp1 rfl (qb (qw qc h hF ⟨rfl, trivial⟩))))

def qbb (_ : Nat) (list : (List Tplace)) : Option Int :=
 some (list.length : Int)

theorem qf1 {n : Nat} {w : World} {list : (List Tplace)} {cs1 : List Value} (ha1 : GoT.R w (old w) list cs1) {r : Int} (hF : qbb n list = some r) : RetV Tryz.prog 113 [GoT.v (List Tplace) cs1] w r := by
 obtain ⟨p1, k1, rfl, s1⟩ := ha1
 refine qe Tryz.func113 rfl (m := 5) rfl rfl (fun h => ?_)
 rw [qbb] at hF
 exact zSR (zp1 rfl (zNSR (zp3 rfl (qb (qap qc h hF ⟨rfl, trivial⟩)))))

def qgG (n : Nat) (kind : Int) (value : Int) : Option Bool :=
 bif (kind == 1) then
  some (value == 0)
 else
  bif (kind == 2) then
   (qaN n value 1 10).bind fun r1 =>
   some r1
  else
   bif (kind == 3) then
    bif (kind == 3) then
     (qaN n value 0 1000000000).bind fun r2 =>
     some r2
    else
     some false
   else
    bif (kind == 4) then
     (qaN n value 0 1000000000).bind fun r3 =>
     some r3
    else
     some false

theorem qlv {n : Nat} {w : World} {kind : Int} {value : Int}  {r : Bool} (hF : qgG n kind value = some r) : RetV Tryz.prog 153 [.int .i64 kind, .int .i64 value] w r := by
 refine qe Tryz.func153 rfl (m := 19) rfl rfl (fun h => ?_)
 rw [qgG] at hF
 refine zSR (zp1 rfl (zNSSR (zp1 rfl (qb (zBSR ?_)))))
 refine zp2 rfl (qb ?_)
 refine qr rfl hF ?_ ?_ <;> intro hF
 ·exact zSR (zp3 rfl (qb (qw qc h hF ⟨rfl, trivial⟩)))
 refine zSR (zp2 rfl (qb ?_))
 refine qr rfl hF ?_ ?_ <;> intro hF
 ·refine zSR (zp1 rfl ?_)
  obtain ⟨r1, hr1, hF⟩ := qd hF
  refine qn r1 h call86 (qau hr1) rfl rfl rfl rfl ?_
  intro w1 h
  exact zp1 rfl (qb (qw qc h hF ⟨rfl, trivial⟩))
 refine zSSR (zp2 rfl (qb ?_))
 refine qr rfl hF ?_ ?_ <;> intro hF
 ·refine qdH ?_
  refine qr rfl hF ?_ ?_ <;> intro hF
  ·refine zSR (zp1 rfl ?_)
   obtain ⟨r2, hr2, hF⟩ := qd hF
   refine qn r2 h call86 (qau hr2) rfl rfl rfl rfl ?_
   intro w2 h
   exact zp1 rfl (qb (qw qc h hF ⟨rfl, trivial⟩))
  exact zKE (zSR (zp1 rfl (qb (qw qc h hF ⟨rfl, trivial⟩))))
 refine qy (zp2 rfl (qb ?_))
 refine qr rfl hF ?_ ?_ <;> intro hF
 ·refine zSR (zp1 rfl ?_)
  obtain ⟨r3, hr3, hF⟩ := qd hF
  refine qn r3 h call86 (qau hr3) rfl rfl rfl rfl ?_
  intro w3 h
  exact zp1 rfl (qb (qw qc h hF ⟨rfl, trivial⟩))
 exact zKE (zSR (zp1 rfl (qb (qw qc h hF ⟨rfl, trivial⟩))))

def qaa (v : (Option Tview)) (a_e : qf) : Nat → Int → Option (Flow Bool Int)
 | 0, _ => none
 | n + 1, i1 =>
  bif decide (i1 < ((3 : Nat) : Int)) then
   (idx ([a_e.From, a_e.Through, a_e.To] : List (List Int)) i1).bind fun y1 =>
   bif decide ((y1.length : Int) > 4) then
    some (.ret false)
   else
    (v).bind fun y2 =>
    (qbb n y2.places).bind fun r1 =>
    (qbx n y1 0 (W64 (r1 - 1))).bind fun r2 =>
    bif (!r2) then
     some (.ret false)
    else
     qaa v a_e n (W64 (i1 + 1))
  else
   some (.nxt i1)

def qc9 (n : Nat) (v : (Option Tview)) (a_e : qf) : Option Bool :=
 (qaa v a_e n 0).bind fun o => match o with
 | .ret r => some r
 | .nxt _ =>
  (qgG n a_e.Kind a_e.Value).bind fun r3 =>
  bif r3 then
   (qcL n a_e.From).bind fun r4 =>
   bif r4 then
    (qcL n a_e.To).bind fun r5 =>
    some r5
   else
    some false
  else
   some false

theorem qiw {n : Nat} {w : World} {v : (Option Tview)} {a_e : qf} {cs1 : List Value} (ha1 : GoT.R w (old w) v cs1) {cs2 : List Value} (ha2 : GoT.R w (old w) a_e cs2) {r : Bool} (hF : qc9 n v a_e = some r) : RetV Tryz.prog 111 [GoT.v (Option Tview) cs1, GoT.v qf cs2] w r := by
 obtain ⟨p1, rfl, s1⟩ := qhF ha1
 obtain ⟨p2, k1, p3, k2, p4, k3, rfl, s2, s3, s4⟩ := qX ha2
 refine qe Tryz.func111 rfl (m := 49) rfl rfl (fun h => ?_)
 rw [qc9] at hF
 refine zSR (qO h rfl rfl ?_)
 intro w1 bb1 h
 refine zp1 rfl (zNSSR (zp1 rfl (zl 0 2 h rfl (zp1 rfl (zl 0 3 h rfl (zp1 rfl (zl 0 4 h rfl (qpP qc [.tmp 8, .tmp 10, .tmp 12] _ ([a_e.From, a_e.Through, a_e.To] : List (List Int)) h rfl rfl rfl rfl rfl rfl rfl rfl rfl ⟨⟨_, _, rfl, s2⟩, ⟨_, _, rfl, s3⟩, ⟨_, _, rfl, s4⟩, trivial⟩ rfl ?_))))))))
 intro w2 p5 S1 h
 refine zp2 rfl (qb ?_)
 obtain ⟨o1, hF, hK1⟩ := qd hF
 refine qv (qR [(0, _), (3, _), (13, _), (14, _), (15, _)] ⟨rfl, rfl, rfl, rfl, rfl, trivial⟩ ?_)
 refine qI (fun m e w' => ∃ (i1 : Int), qaa v a_e m i1 = some o1 ∧ e = [(0, .pointer p1), (3, .pointer (some ⟨bb1, 0, none⟩)), (13, .slice p5 3 3), (14, .int .i64 ((3 : Nat) : Int)), (15, .int .i64 i1)] ∧ SH w w' [Ch.rowD w S1 (([a_e.From, a_e.Through, a_e.To] : List (List Int)) : List (List Int)) p5 3, Ch.box bb1 [.int .i64 a_e.Kind, .int .i64 a_e.Value, .slice p2 a_e.From.length k1, .slice p3 a_e.Through.length k2, .slice p4 a_e.To.length k3] 87]) n ⟨_, hF, rfl, h⟩ ?_
 rintro m1 e1 w3 ⟨i1, hF, rfl, h⟩
 rcases m1 with _ | m1
 ·rw [qaa] at hF
  cases hF
 rw [qaa] at hF
 refine zSR (zp1 rfl (zNS ?_))
 refine qr rfl hF ?_ ?_ <;> intro hF
 ·refine zKSBSR ?_
  obtain ⟨y1, hy1, hF⟩ := qd hF
  have he1 := qg hy1
  obtain ⟨b1, o_1, q1, cs3, hp1, hq1, -, hr1, hc2⟩ := h.atD 0 rfl hy1
  obtain ⟨p6, k4, rfl, s5⟩ := hr1
  refine zxe hp1 hq1 he1 rfl (zc 0 hc2 rfl (zp1 rfl (zNSR (zp4 rfl ?_))))
  by_cases hc3 : (decide ((y1.length : Int) > 4)) = true
  ·replace hF := bifT hc3 hF
   refine qD hc3 (t := 22) rfl (zn5 rfl (zn4 rfl (zp1 rfl (qb ?_))))
   refine qeR rfl rfl (zSR (zp1 rfl (qb ?_)))
   obtain rfl := qh hF; replace hF := hK1
   exact qw qc h hF ⟨rfl, trivial⟩
  replace hc3 := zb hc3
  replace hF := bifF hc3 hF
  refine qE hc3 (t := 22) rfl (qa rfl (zp1 rfl (qa rfl (zp1 rfl (qa rfl ?_)))))
  obtain ⟨y2, hy2, hF⟩ := qd hF
  obtain ⟨b2, o_2, cs4, rfl, -, hr2, hc4⟩ := PtR.get s1 hy2
  obtain ⟨p7, k5, p8, k6, p9, k7, p10, k8, p11, k9, p12, k10, p13, k11, p14, k12, p15, k13, p16, k14, rfl, s6, s7, s8, s9, s10, s11, s12, s13, s14, s15⟩ := ql8 hr2
  refine zp1 rfl (qa rfl (zp1 rfl (qa rfl (zc 5 (hc4.below h.below) rfl (qa rfl ?_)))))
  obtain ⟨r1, hr3, hF⟩ := qd hF
  refine qT r1 h call113 (qf1 ⟨_, _, rfl, (h.oldS s11)⟩ hr3) rfl rfl rfl rfl ?_
  intro w4 h
  refine qa rfl (zp1 rfl (qa rfl ?_))
  obtain ⟨r2, hr4, hF⟩ := qd hF
  refine qn r2 h call112 (qcQ ⟨_, _, rfl, (h.oldS s5)⟩ hr4) rfl rfl rfl rfl ?_
  intro w5 h
  refine qa rfl (zp2 rfl (qb ?_))
  refine qr rfl hF ?_ ?_ <;> intro hF
  ·refine zSR (zp1 rfl (qb ?_))
   obtain rfl := qh hF; replace hF := hK1
   exact qw qc h hF ⟨rfl, trivial⟩
  exact zKER (zp2 rfl (qb (qA m1 [(0, _), (3, _), (13, _), (14, _), (15, _)] (Nat.lt_succ_self m1) ⟨rfl, rfl, rfl, rfl, rfl, trivial⟩ ⟨_, hF, rfl, h⟩)))
 refine qH rfl ?_
 obtain rfl := qh hF; replace hF := hK1
 refine zSR (zp1 rfl (zl 1 0 h rfl (zp1 rfl (zl 1 1 h rfl ?_))))
 obtain ⟨r3, hr5, hF⟩ := qd hF
 refine qn r3 h call153 (qlv hr5) rfl rfl rfl rfl ?_
 intro w6 h
 refine zp1 rfl ?_
 by_cases hc6 : r3 = true
 ·replace hF := bifT hc6 hF
  refine qD hc6 (t := 39) rfl (qa rfl (zp1 rfl (qa rfl (zl 1 2 h rfl (qa rfl ?_)))))
  obtain ⟨r4, hr6, hF⟩ := qd hF
  refine qn r4 h call154 (qfO ⟨_, _, rfl, (h.oldS s2)⟩ hr6) rfl rfl rfl rfl ?_
  intro w7 h
  refine zp2 rfl ?_
  by_cases hc7 : r4 = true
  ·replace hF := bifT hc7 hF
   refine qD hc7 (t := 44) rfl (qa rfl (zp1 rfl (qa rfl (zl 1 4 h rfl (qa rfl ?_)))))
   obtain ⟨r5, hr7, hF⟩ := qd hF
   refine qn r5 h call154 (qfO ⟨_, _, rfl, (h.oldS s4)⟩ hr7) rfl rfl rfl rfl ?_
   intro w8 h
   exact zp2 rfl (qb (qw qc h hF ⟨rfl, trivial⟩))
  replace hc7 := zb hc7
  replace hF := bifF hc7 hF
  exact qE hc7 (t := 44) rfl (zn3 rfl (zp2 rfl (qb (qw qc h hF ⟨rfl, trivial⟩))))
 replace hc6 := zb hc6
 replace hF := bifF hc6 hF
 refine qE hc6 (t := 39) rfl (zn3 rfl (zp2 rfl (zn3 rfl (zp2 rfl (qb ?_)))))
 exact qw qc h hF ⟨rfl, trivial⟩

def qd2 (n : Nat) (a : qf) (left : Int) : Option Int :=
 (qbg n a.From left).bind fun r1 =>
 bif decide (r1 < 0) then
  some (-1)
 else
  (qbg n a.Through r1).bind fun r2 =>
  bif decide (r2 < 0) then
   some (-1)
  else
   (qbg n a.To r2).bind fun r3 =>
   bif decide (r3 < 0) then
    some (-1)
   else
    some r3

theorem qj0 {n : Nat} {w : World} {a : qf} {left : Int} {cs1 : List Value} (ha1 : GoT.R w (old w) a cs1) {r : Int} (hF : qd2 n a left = some r) : RetV Tryz.prog 40 [GoT.v qf cs1, .int .i64 left] w r := by
 obtain ⟨p1, k1, p2, k2, p3, k3, rfl, s1, s2, s3⟩ := qX ha1
 refine qe Tryz.func40 rfl (m := 24) rfl rfl (fun h => ?_)
 rw [qd2] at hF
 refine zSR (qO h rfl rfl ?_)
 intro w1 bb1 h
 refine zp1 rfl (zNSR (zp1 rfl (zl 0 2 h rfl (zp1 rfl ?_))))
 obtain ⟨r1, hr1, hF⟩ := qd hF
 refine qT r1 h call76 (qa9 ⟨_, _, rfl, (h.oldS s1)⟩ hr1) rfl rfl rfl rfl ?_
 intro w2 h
 refine zp1 rfl (zNSSR (zp2 rfl (qb ?_)))
 refine qr rfl hF ?_ ?_ <;> intro hF
 ·exact zSR (zp1 rfl (qb (qap qc h hF ⟨rfl, trivial⟩)))
 refine zKSR (zp1 rfl (zl 0 3 h rfl (zp1 rfl ?_)))
 obtain ⟨r2, hr2, hF⟩ := qd hF
 refine qT r2 h call76 (qa9 ⟨_, _, rfl, (h.oldS s2)⟩ hr2) rfl rfl rfl rfl ?_
 intro w3 h
 refine zp1 rfl (zNSSR (zp2 rfl (qb ?_)))
 refine qr rfl hF ?_ ?_ <;> intro hF
 ·exact zSR (zp1 rfl (qb (qap qc h hF ⟨rfl, trivial⟩)))
 refine zKSR (zp1 rfl (zl 0 4 h rfl (zp1 rfl ?_)))
 obtain ⟨r3, hr3, hF⟩ := qd hF
 refine qT r3 h call76 (qa9 ⟨_, _, rfl, (h.oldS s3)⟩ hr3) rfl rfl rfl rfl ?_
 intro w4 h
 refine zp1 rfl (zNSSR (zp2 rfl (qb ?_)))
 refine qr rfl hF ?_ ?_ <;> intro hF
 ·exact zSR (zp1 rfl (qb (qap qc h hF ⟨rfl, trivial⟩)))
 exact zKSR (zp2 rfl (qb (qap qc h hF ⟨rfl, trivial⟩)))

def qbp (a : (List qf)) : Nat → Int → Int → Option (Flow Int (Int × Int))
 | 0, _, _ => none
 | n + 1, i1, i2 =>
  bif decide (i2 < (a.length : Int)) then
   (idx a i2).bind fun y1 =>
   (qd2 n y1 i1).bind fun r1 =>
   bif decide (r1 < 0) then
    some (.ret (-1))
   else
    qbp a n r1 (W64 (i2 + 1))
  else
   some (.nxt (i1, i2))

def qfA (n : Nat) (a : (List qf)) (left : Int) : Option Int :=
 bif decide ((W64 (left - (a.length : Int))) < 0) then
  some (-1)
 else
  (qbp a n (W64 (left - (a.length : Int))) 0).bind fun o => match o with
  | .ret r => some r
  | .nxt (i1, _) =>
   some i1

theorem qjt {n : Nat} {w : World} {a : (List qf)} {left : Int} {cs1 : List Value} (ha1 : GoT.R w (old w) a cs1) {r : Int} (hF : qfA n a left = some r) : RetV Tryz.prog 10 [GoT.v (List qf) cs1, .int .i64 left] w r := by
 obtain ⟨p1, k1, rfl, s1⟩ := ha1
 refine qe Tryz.func10 rfl (m := 27) rfl rfl (fun h => ?_)
 rw [qfA] at hF
 refine zSR (zp1 rfl (zNSR (zp5 rfl (qb ?_))))
 refine zSSR (zp2 rfl (qb ?_))
 refine qr rfl hF ?_ ?_ <;> intro hF
 ·exact zSR (zp1 rfl (qb (qap qc h hF ⟨rfl, trivial⟩)))
 refine zKSSR (zp1 rfl (qb ?_))
 obtain ⟨o1, hF, hK1⟩ := qd hF
 refine qv (qR [(0, _), (1, _), (5, _)] ⟨rfl, rfl, rfl, trivial⟩ ?_)
 refine qI (fun m e w' => ∃ (i1 : Int) (i2 : Int), qbp a m i1 i2 = some o1 ∧ e = [(0, .slice p1 a.length k1), (1, .int .i64 i1), (5, .int .i64 i2)] ∧ SH w w' []) n ⟨_, _, hF, rfl, h⟩ ?_
 rintro m1 e1 w1 ⟨i1, i2, hF, rfl, h⟩
 rcases m1 with _ | m1
 ·rw [qbp] at hF
  cases hF
 rw [qbp] at hF
 refine zSSR (zp4 rfl (qb ?_))
 refine qr rfl hF ?_ ?_ <;> intro hF
 ·refine zKSBSR (zp2 rfl ?_)
  obtain ⟨y1, hy1, hF⟩ := qd hF
  have he1 := qg hy1
  obtain ⟨b1, o_1, q1, cs2, hp1, hq1, -, hr1, hc3⟩ := s1.at hy1
  obtain ⟨p2, k2, p3, k3, p4, k4, rfl, s2, s3, s4⟩ := qX hr1
  refine zxe hp1 hq1 he1 rfl (zc 0 (hc3.below h.below) rfl (zp1 rfl ?_))
  obtain ⟨r1, hr2, hF⟩ := qd hF
  refine qT r1 h call40 (qj0 (qdy y1 (h.oldS s2) (h.oldS s3) (h.oldS s4)) hr2) rfl rfl rfl rfl ?_
  intro w2 h
  refine zp1 rfl (zNSR (zp2 rfl (qb ?_)))
  refine qr rfl hF ?_ ?_ <;> intro hF
  ·refine zSR (zp1 rfl (qb ?_))
   obtain rfl := qh hF; replace hF := hK1
   exact qap qc h hF ⟨rfl, trivial⟩
  exact zKER (zp3 rfl (qb (qA m1 [(0, _), (1, _), (5, _)] (Nat.lt_succ_self m1) ⟨rfl, rfl, rfl, trivial⟩ ⟨_, _, hF, rfl, h⟩)))
 refine qH rfl ?_
 obtain rfl := qh hF; replace hF := hK1
 exact zSR (zp2 rfl (qb (qap qc h hF ⟨rfl, trivial⟩)))

def qd0 (n : Nat) (a : qf) : Option qf :=
 (qa4 n a.From).bind fun r1 =>
 (qa4 n a.Through).bind fun r2 =>
 (qa4 n a.To).bind fun r3 =>
 some (⟨a.Kind, a.Value, r1, r2, r3⟩ : qf)

theorem qjW {n : Nat} {w : World} {a : qf} {cs1 : List Value} (ha1 : GoT.R w (old w) a cs1) {r : qf} (hF : qd0 n a = some r) : RetV Tryz.prog 47 [GoT.v qf cs1] w r := by
 obtain ⟨p1, k1, p2, k2, p3, k3, rfl, s1, s2, s3⟩ := qX ha1
 refine qe Tryz.func47 rfl (m := 23) rfl rfl (fun h => ?_)
 rw [qd0] at hF
 refine zSR (qO h rfl rfl ?_)
 intro w1 bb1 h
 refine qah qc h rfl rfl rfl ?_
 intro w2 bb2 h
 refine zNSR (qah qc h rfl rfl rfl ?_)
 intro w3 bb3 h
 refine zNSR (zp1 rfl (zl 2 0 h rfl (zp1 rfl (zs 0 h rfl ?_))))
 intro w4 h
 refine zNSR (zp1 rfl (zl 2 1 h rfl (zp1 rfl (zs 0 h rfl ?_))))
 intro w5 h
 replace h : SH _ _ [Ch.box bb3 [.int .i64 a.Kind, .int .i64 a.Value, .slice none 0 0, .slice none 0 0, .slice none 0 0] 87, Ch.box bb2 [.int .i64 0, .int .i64 0, .slice none 0 0, .slice none 0 0, .slice none 0 0] 87, Ch.box bb1 [.int .i64 a.Kind, .int .i64 a.Value, .slice p1 a.From.length k1, .slice p2 a.Through.length k2, .slice p3 a.To.length k3] 80] := h
 refine zNSR (zp1 rfl (zl 2 2 h rfl ?_))
 obtain ⟨r1, hr1, hF⟩ := qd hF
 refine qat r1 h call14 (qa6 ⟨_, _, rfl, (h.oldS s1)⟩ hr1) rfl rfl rfl rfl ?_
 intro w6 S1 p4 k4 h
 refine zp1 rfl (zs 1 h rfl ?_)
 intro w7 h
 refine zNSR (zp1 rfl (zl 3 3 h rfl ?_))
 obtain ⟨r2, hr2, hF⟩ := qd hF
 refine qat r2 h call14 (qa6 ⟨_, _, rfl, (h.oldS s2)⟩ hr2) rfl rfl rfl rfl ?_
 intro w8 S2 p5 k5 h
 refine zp1 rfl (zs 2 h rfl ?_)
 intro w9 h
 replace h : SH _ _ [Ch.own S2 (r2 : List Int) [.slice p5 r2.length k5], Ch.own S1 (r1 : List Int) [.slice p4 r1.length k4], Ch.box bb3 [.int .i64 a.Kind, .int .i64 a.Value, .slice p4 r1.length k4, .slice p5 r2.length k5, .slice none 0 0] 87, Ch.box bb2 [.int .i64 0, .int .i64 0, .slice none 0 0, .slice none 0 0, .slice none 0 0] 87, Ch.box bb1 [.int .i64 a.Kind, .int .i64 a.Value, .slice p1 a.From.length k1, .slice p2 a.Through.length k2, .slice p3 a.To.length k3] 80] := h
 refine zNSR (zp1 rfl (zl 4 4 h rfl ?_))
 obtain ⟨r3, hr3, hF⟩ := qd hF
 refine qat r3 h call14 (qa6 ⟨_, _, rfl, (h.oldS s3)⟩ hr3) rfl rfl rfl rfl ?_
 intro w10 S3 p6 k6 h
 refine zp1 rfl (zs 3 h rfl ?_)
 intro w11 h
 refine zNSR (zl 3 0 h rfl (zs 4 h rfl ?_))
 intro w12 h
 replace h : SH _ _ [Ch.own S3 (r3 : List Int) [.slice p6 r3.length k6], Ch.own S2 (r2 : List Int) [.slice p5 r2.length k5], Ch.own S1 (r1 : List Int) [.slice p4 r1.length k4], Ch.box bb3 [.int .i64 a.Kind, .int .i64 a.Value, .slice p4 r1.length k4, .slice p5 r2.length k5, .slice p6 r3.length k6] 87, Ch.box bb2 [.int .i64 a.Kind, .int .i64 a.Value, .slice p4 r1.length k4, .slice p5 r2.length k5, .slice p6 r3.length k6] 87, Ch.box bb1 [.int .i64 a.Kind, .int .i64 a.Value, .slice p1 a.From.length k1, .slice p2 a.Through.length k2, .slice p3 a.To.length k3] 80] := h
 refine qb ?_
 obtain rfl := qh hF
 exact qav qc (ρ := qf) [GoT.v qf [.int .i64 a.Kind, .int .i64 a.Value, .slice p4 r1.length k4, .slice p5 r2.length k5, .slice p6 r3.length k6]] h ⟨⟨_, _, _, rfl, rfl, h.box 4 rfl, rfl⟩, trivial⟩ (PV.done h (qaG (qj7 (⟨a.Kind, a.Value, r1, r2, r3⟩ : qf) h (qax (S := fun _ => False) rfl) (qax (S := fun _ => False) rfl) (qab 2 h rfl) (qab 1 h rfl) (qab 0 h rfl) (by rfl) (by rfl) (by rfl) (by rfl))))

def qbU (a : (List qf)) : Nat → (List qf) → Int → Option ((List qf) × Int)
 | 0, _, _ => none
 | n + 1, x2, i1 =>
  bif decide (i1 < (a.length : Int)) then
   (idx a i1).bind fun y1 =>
   (qd0 n y1).bind fun r1 =>
   (idx x2 i1).bind fun _ =>
   qbU a n (setS x2 i1 r1) (W64 (i1 + 1))
  else
   some (x2, i1)

def qcg (n : Nat) (a : (List qf)) : Option (List qf) :=
 (mkS (a.length : Int) ((⟨0, 0, [], [], []⟩ : qf) : qf)).bind fun x1 =>
 (qbU a n x1 0).bind fun o => match o with
 | (x2, _) =>
  some x2

theorem qeK {n : Nat} {w : World} {a : (List qf)} {cs1 : List Value} (ha1 : GoT.R w (old w) a cs1) {r : (List qf)} (hF : qcg n a = some r) : RetV Tryz.prog 13 [GoT.v (List qf) cs1] w r := by
 obtain ⟨p1, k1, rfl, s1⟩ := ha1
 refine qe Tryz.func13 rfl (m := 23) rfl rfl (fun h => ?_)
 rw [qcg] at hF
 refine zSR (zp1 rfl (zNSR (zp2 rfl ?_)))
 obtain ⟨x1, hx1, hF⟩ := qd hF
 obtain ⟨g1, g2, hx1⟩ := qdz hx1
 refine qeA qc qf h rfl rfl rfl rfl rfl rfl rfl rfl rfl g1 g2 hx1 rfl ?_
 intro w1 S1 p2 h
 refine zp1 rfl (zNSSR (zp1 rfl (qb ?_)))
 obtain ⟨o1, hF, hK1⟩ := qd hF
 refine qv (qR [(0, _), (3, _), (4, _)] ⟨rfl, rfl, rfl, trivial⟩ ?_)
 refine qI (fun m e w' => ∃ (S2 : Nat → Prop) (x2 : (List qf)) (i1 : Int), qbU a m x2 i1 = some o1 ∧ e = [(0, .slice p1 a.length k1), (3, .slice p2 x1.length x1.length), (4, .int .i64 i1)] ∧ SH w w' [Ch.own S2 (x2 : List qf) [.slice p2 x1.length x1.length]]) n ⟨_, _, _, hF, rfl, h⟩ ?_
 rintro m1 e1 w2 ⟨S2, x2, i1, hF, rfl, h⟩
 rcases m1 with _ | m1
 ·rw [qbU] at hF
  cases hF
 rw [qbU] at hF
 refine zSSR (zp4 rfl (qb ?_))
 refine qr rfl hF ?_ ?_ <;> intro hF
 ·refine zKSBR (zp4 rfl ?_)
  obtain ⟨y1, hy1, hF⟩ := qd hF
  have he1 := qg hy1
  obtain ⟨b1, o_1, q1, cs2, hp1, hq1, -, hr1, hc2⟩ := s1.at hy1
  obtain ⟨p3, k2, p4, k3, p5, k4, rfl, s2, s3, s4⟩ := qX hr1
  refine zxe hp1 hq1 he1 rfl (zc 0 (hc2.below h.below) rfl ?_)
  obtain ⟨r1, hr2, hF⟩ := qd hF
  refine qfD r1 h call47 (qjW (qdy y1 (h.oldS s2) (h.oldS s3) (h.oldS s4)) hr2) rfl rfl rfl rfl ?_
  intro w3 S3 cs3 h
  obtain ⟨p6, k5, p7, k6, p8, k7, rfl, -, -, -⟩ := qX (h.own 0 rfl)
  obtain ⟨y2, hy2, hF⟩ := qd hF
  have he2 := qg hy2
  replace h := h.lrn0 1 rfl
  obtain ⟨b2, o_2, q2, cs4, hp2, hq2, -, hr3, hc3⟩ := (qhY (h.lrnO 1 rfl)).1.at hy2
  have hr4 := hr3
  obtain ⟨p9, k8, p10, k9, p11, k10, rfl, s8, s9, s10⟩ := qX hr3
  replace h := h.lrnAdd 1 rfl hr4
  refine zx hp2 hq2 ⟨he2.1, qae he2.2.1 (qhY (h.lrnO 1 rfl)).2⟩ rfl ?_
  replace h := h.unlrn 1 rfl
  refine qiG qc r1 h hy2 hp2 hq2 rfl rfl rfl rfl rfl ?_
  intro w4 S4 h
  exact zNER (zp3 rfl (qb (qA m1 [(0, _), (3, _), (4, _)] (Nat.lt_succ_self m1) ⟨rfl, rfl, rfl, trivial⟩ ⟨_, _, _, hF, rfl, h⟩)))
 refine qH rfl ?_
 obtain rfl := qh hF; replace hF := hK1
 refine zSR (zp2 rfl (qb ?_))
 obtain rfl := qh hF
 exact qav qc (ρ := (List qf)) [GoT.v (List qf) [.slice p2 x1.length x1.length]] h ⟨rfl, trivial⟩ (PV.done h (qaG (qab 0 h rfl)))

def qd3 (n : Nat) (a : qf) (b : qf) : Option Bool :=
 bif (a.Kind != b.Kind) then
  some false
 else
  bif (a.Value != b.Value) then
   some false
  else
   (qaD n a.From b.From).bind fun r1 =>
   bif (!r1) then
    some false
   else
    (qaD n a.Through b.Through).bind fun r2 =>
    bif (!r2) then
     some false
    else
     (qaD n a.To b.To).bind fun r3 =>
     bif (!r3) then
      some false
     else
      some true

theorem qjU {n : Nat} {w : World} {a : qf} {b : qf} {cs1 : List Value} (ha1 : GoT.R w (old w) a cs1) {cs2 : List Value} (ha2 : GoT.R w (old w) b cs2) {r : Bool} (hF : qd3 n a b = some r) : RetV Tryz.prog 54 [GoT.v qf cs1, GoT.v qf cs2] w r := by
 obtain ⟨p1, k1, p2, k2, p3, k3, rfl, s1, s2, s3⟩ := qX ha1
 obtain ⟨p4, k4, p5, k5, p6, k6, rfl, s4, s5, s6⟩ := qX ha2
 refine qe Tryz.func54 rfl (m := 33) rfl rfl (fun h => ?_)
 rw [qd3] at hF
 refine zSR (qO h rfl rfl ?_)
 intro w1 bb1 h
 refine qO h rfl rfl ?_
 intro w2 bb2 h
 refine zp1 rfl (zNSSR (zp1 rfl (zl 1 0 h rfl (zp1 rfl (zl 0 0 h rfl (zp1 rfl (qb ?_)))))))
 refine qr rfl hF ?_ ?_ <;> intro hF
 ·exact zSR (zp1 rfl (qb (qw qc h hF ⟨rfl, trivial⟩)))
 refine zKSSR (zp1 rfl (zl 1 1 h rfl (zp1 rfl (zl 0 1 h rfl (zp1 rfl (qb ?_))))))
 refine qr rfl hF ?_ ?_ <;> intro hF
 ·exact zSR (zp1 rfl (qb (qw qc h hF ⟨rfl, trivial⟩)))
 refine zKSSR (zp1 rfl (zl 1 2 h rfl (zp1 rfl (zl 0 2 h rfl ?_))))
 obtain ⟨r1, hr1, hF⟩ := qd hF
 refine qn r1 h call19 (qaz ⟨_, _, rfl, (h.oldS s1)⟩ ⟨_, _, rfl, (h.oldS s4)⟩ hr1) rfl rfl rfl rfl ?_
 intro w3 h
 refine zp1 rfl (qb ?_)
 refine qr rfl hF ?_ ?_ <;> intro hF
 ·exact zSR (zp1 rfl (qb (qw qc h hF ⟨rfl, trivial⟩)))
 refine zKSSR (zp1 rfl (zl 1 3 h rfl (zp1 rfl (zl 0 3 h rfl ?_))))
 obtain ⟨r2, hr2, hF⟩ := qd hF
 refine qn r2 h call19 (qaz ⟨_, _, rfl, (h.oldS s2)⟩ ⟨_, _, rfl, (h.oldS s5)⟩ hr2) rfl rfl rfl rfl ?_
 intro w4 h
 refine zp1 rfl (qb ?_)
 refine qr rfl hF ?_ ?_ <;> intro hF
 ·exact zSR (zp1 rfl (qb (qw qc h hF ⟨rfl, trivial⟩)))
 refine zKSSR (zp1 rfl (zl 1 4 h rfl (zp1 rfl (zl 0 4 h rfl ?_))))
 obtain ⟨r3, hr3, hF⟩ := qd hF
 refine qn r3 h call19 (qaz ⟨_, _, rfl, (h.oldS s3)⟩ ⟨_, _, rfl, (h.oldS s6)⟩ hr3) rfl rfl rfl rfl ?_
 intro w5 h
 refine zp1 rfl (qb ?_)
 refine qr rfl hF ?_ ?_ <;> intro hF
 ·exact zSR (zp1 rfl (qb (qw qc h hF ⟨rfl, trivial⟩)))
 exact zKSR (zp1 rfl (qb (qw qc h hF ⟨rfl, trivial⟩)))

def qbS (a : (List qf)) (b : (List qf)) : Nat → Int → Option (Flow Bool Int)
 | 0, _ => none
 | n + 1, i1 =>
  bif decide (i1 < (a.length : Int)) then
   (idx a i1).bind fun y1 =>
   (idx b i1).bind fun y2 =>
   (qd3 n y1 y2).bind fun r1 =>
   bif (!r1) then
    some (.ret false)
   else
    qbS a b n (W64 (i1 + 1))
  else
   some (.nxt i1)

def qeC (n : Nat) (a : (List qf)) (b : (List qf)) : Option Bool :=
 bif ((a.length : Int) != (b.length : Int)) then
  some false
 else
  (qbS a b n 0).bind fun o => match o with
  | .ret r => some r
  | .nxt _ =>
   some true

theorem qjk {n : Nat} {w : World} {a : (List qf)} {b : (List qf)} {cs1 : List Value} (ha1 : GoT.R w (old w) a cs1) {cs2 : List Value} (ha2 : GoT.R w (old w) b cs2) {r : Bool} (hF : qeC n a b = some r) : RetV Tryz.prog 18 [GoT.v (List qf) cs1, GoT.v (List qf) cs2] w r := by
 obtain ⟨p1, k1, rfl, s1⟩ := ha1
 obtain ⟨p2, k2, rfl, s2⟩ := ha2
 refine qe Tryz.func18 rfl (m := 27) rfl rfl (fun h => ?_)
 rw [qeC] at hF
 refine zSR (zp1 rfl (zNSSR (zp5 rfl ?_)))
 refine qb ?_
 refine qr rfl hF ?_ ?_ <;> intro hF
 ·exact zSR (zp1 rfl (qb (qw qc h hF ⟨rfl, trivial⟩)))
 refine zKSSR (zp1 rfl (qb ?_))
 obtain ⟨o1, hF, hK1⟩ := qd hF
 refine qv (qR [(0, _), (1, _), (5, _)] ⟨rfl, rfl, rfl, trivial⟩ ?_)
 refine qI (fun m e w' => ∃ (i1 : Int), qbS a b m i1 = some o1 ∧ e = [(0, .slice p1 a.length k1), (1, .slice p2 b.length k2), (5, .int .i64 i1)] ∧ SH w w' []) n ⟨_, hF, rfl, h⟩ ?_
 rintro m1 e1 w1 ⟨i1, hF, rfl, h⟩
 rcases m1 with _ | m1
 ·rw [qbS] at hF
  cases hF
 rw [qbS] at hF
 refine zSSR (zp4 rfl (qb ?_))
 refine qr rfl hF ?_ ?_ <;> intro hF
 ·refine zKSB (qbr ?_)
  refine qc7 rfl (by kernel_rfl) ?_
  refine zd2 rfl ?_
  obtain ⟨y1, hy1, hF⟩ := qd hF
  have he1 := qg hy1
  obtain ⟨b1, o_1, q1, cs3, hp1, hq1, -, hr1, hc3⟩ := s1.at hy1
  obtain ⟨p3, k3, p4, k4, p5, k5, rfl, s3, s4, s5⟩ := qX hr1
  refine zdxe hp1 hq1 he1 rfl ?_
  refine zdc 0 (hc3.below h.below) rfl ?_
  refine zd2 rfl ?_
  obtain ⟨y2, hy2, hF⟩ := qd hF
  have he2 := qg hy2
  obtain ⟨b2, o_2, q2, cs4, hp2, hq2, -, hr2, hc4⟩ := s2.at hy2
  obtain ⟨p6, k6, p7, k7, p8, k8, rfl, s6, s7, s8⟩ := qX hr2
  refine zdxe hp2 hq2 he2 rfl ?_
  refine zdc 0 (hc4.below h.below) rfl ?_
  obtain ⟨r1, hr3, hF⟩ := qd hF
  refine qcI r1 (vsB _) call54 (fun _ hb => qjU (qdy y1 ((h.ext hb).oldS s3) ((h.ext hb).oldS s4) ((h.ext hb).oldS s5)) (qdy y2 ((h.ext hb).oldS s6) ((h.ext hb).oldS s7) ((h.ext hb).oldS s8)) hr3) rfl rfl rfl rfl ?_
  refine zd1 rfl ?_
  refine qbm (fun w2 hb => ?_)
  replace h := h.ext hb
  clear hb
  refine qr rfl hF ?_ ?_ <;> intro hF
  ·refine zSR (zp1 rfl (qb ?_))
   obtain rfl := qh hF; replace hF := hK1
   exact qw qc h hF ⟨rfl, trivial⟩
  exact zKER (zp3 rfl (qb (qA m1 [(0, _), (1, _), (5, _)] (Nat.lt_succ_self m1) ⟨rfl, rfl, rfl, trivial⟩ ⟨_, hF, rfl, h⟩)))
 refine qH rfl ?_
 obtain rfl := qh hF; replace hF := hK1
 exact zSR (zp1 rfl (qb (qw qc h hF ⟨rfl, trivial⟩)))

end Go.Fw


namespace Go.Fw
open Go Go.Proofs
open Go.RowKit (Below)
set_option maxRecDepth 100000
set_option maxHeartbeats 1600000
def qdA (list : (List Int)) (x : Int) : Nat → Int → Option (Flow Int Int)
 | 0, _ => none
 | n + 1, i1 =>
  bif decide (i1 < (list.length : Int)) then
   (idx list i1).bind fun y1 =>
   bif (y1 == x) then
    some (.ret i1)
   else
    qdA list x n (W64 (i1 + 1))
  else
   some (.nxt i1)

def qhO (n : Nat) (list : (List Int)) (x : Int) : Option Int :=
 (qdA list x n 0).bind fun o => match o with
 | .ret r => some r
 | .nxt _ =>
  some (-1)

theorem qlZ {n : Nat} {w : World} {list : (List Int)} {x : Int} {cs1 : List Value} (ha1 : GoT.R w (old w) list cs1) {r : Int} (hF : qhO n list x = some r) : RetV Tryz.prog 79 [GoT.v (List Int) cs1, .int .i64 x] w r := by
 obtain ⟨p1, k1, rfl, s1⟩ := ha1
 refine qe Tryz.func79 rfl (m := 19) rfl rfl (fun h => ?_)
 rw [qhO] at hF
 refine zSR (zp1 rfl (zNSSR (zp1 rfl (qb ?_))))
 obtain ⟨o1, hF, hK1⟩ := qd hF
 refine qv (qR [(0, _), (1, _), (5, _)] ⟨rfl, rfl, rfl, trivial⟩ ?_)
 refine qI (fun m e w' => ∃ (i1 : Int), qdA list x m i1 = some o1 ∧ e = [(0, .slice p1 list.length k1), (1, .int .i64 x), (5, .int .i64 i1)] ∧ SH w w' []) n ⟨_, hF, rfl, h⟩ ?_
 rintro m1 e1 w1 ⟨i1, hF, rfl, h⟩
 rcases m1 with _ | m1
 ·rw [qdA] at hF
  cases hF
 rw [qdA] at hF
 refine zSSR (zp4 rfl (qb ?_))
 refine qr rfl hF ?_ ?_ <;> intro hF
 ·refine zKSBSR (zp2 rfl ?_)
  obtain ⟨y1, hy1, hF⟩ := qd hF
  have he1 := qg hy1
  obtain ⟨b1, o_1, q1, cs2, hp1, hq1, -, hr1, hc2⟩ := s1.at hy1
  obtain rfl := hr1
  refine zxe hp1 hq1 he1 rfl (zc 0 (hc2.below h.below) rfl (zp2 rfl (qb ?_)))
  refine qr rfl hF ?_ ?_ <;> intro hF
  ·refine zSR (zp2 rfl (qb ?_))
   obtain rfl := qh hF; replace hF := hK1
   exact qap qc h hF ⟨rfl, trivial⟩
  exact zKER (zp3 rfl (qb (qA m1 [(0, _), (1, _), (5, _)] (Nat.lt_succ_self m1) ⟨rfl, rfl, rfl, trivial⟩ ⟨_, hF, rfl, h⟩)))
 refine qH rfl ?_
 obtain rfl := qh hF; replace hF := hK1
 exact zSR (zp1 rfl (qb (qap qc h hF ⟨rfl, trivial⟩)))

def qbj (s : (List Int)) (v : Int) : Nat → Int → Option (Flow Int Int)
 | 0, _ => none
 | n + 1, i1 =>
  bif decide (i1 < (s.length : Int)) then
   (idx s i1).bind fun y1 =>
   bif (v == y1) then
    some (.ret i1)
   else
    qbj s v n (W64 (i1 + 1))
  else
   some (.nxt i1)

def qfe (n : Nat) (s : (List Int)) (v : Int) : Option Int :=
 (qbj s v n 0).bind fun o => match o with
 | .ret r => some r
 | .nxt _ =>
  some (-1)

theorem qi9 {n : Nat} {w : World} {s : (List Int)} {v : Int} {cs1 : List Value} (ha1 : GoT.R w (old w) s cs1) {r : Int} (hF : qfe n s v = some r) : RetV Tryz.prog 157 [GoT.v (List Int) cs1, .int .i64 v] w r := by
 obtain ⟨p1, k1, rfl, s1⟩ := ha1
 refine qe Tryz.func157 rfl (m := 19) rfl rfl (fun h => ?_)
 rw [qfe] at hF
 refine zSR (zp1 rfl (zNSSR (zp3 rfl (qb ?_))))
 obtain ⟨o1, hF, hK1⟩ := qd hF
 refine qv (qR [(0, _), (1, _), (7, _), (8, _)] ⟨rfl, rfl, rfl, rfl, trivial⟩ ?_)
 refine qI (fun m e w' => ∃ (i1 : Int), qbj s v m i1 = some o1 ∧ e = [(0, .slice p1 s.length k1), (1, .int .i64 v), (7, .int .i64 (s.length : Int)), (8, .int .i64 i1)] ∧ SH w w' []) n ⟨_, hF, rfl, h⟩ ?_
 rintro m1 e1 w1 ⟨i1, hF, rfl, h⟩
 rcases m1 with _ | m1
 ·rw [qbj] at hF
  cases hF
 rw [qbj] at hF
 refine zSR (zp1 rfl (zNS ?_))
 refine qr rfl hF ?_ ?_ <;> intro hF
 ·refine zKSBSR (zp2 rfl (zNSR (zp2 rfl ?_)))
  refine zp1 rfl ?_
  obtain ⟨y1, hy1, hF⟩ := qd hF
  have he1 := qg hy1
  obtain ⟨b1, o_1, q1, cs2, hp1, hq1, -, hr1, hc2⟩ := s1.at hy1
  obtain rfl := hr1
  refine zxe hp1 hq1 he1 rfl (zc 0 (hc2.below h.below) rfl (zp1 rfl (qb ?_)))
  refine qr rfl hF ?_ ?_ <;> intro hF
  ·refine zSR (zp2 rfl (qb ?_))
   obtain rfl := qh hF; replace hF := hK1
   exact qap qc h hF ⟨rfl, trivial⟩
  exact zKER (zp2 rfl (qb (qA m1 [(0, _), (1, _), (7, _), (8, _)] (Nat.lt_succ_self m1) ⟨rfl, rfl, rfl, rfl, trivial⟩ ⟨_, hF, rfl, h⟩)))
 refine qH rfl ?_
 obtain rfl := qh hF; replace hF := hK1
 exact zSR (zp1 rfl (qb (qap qc h hF ⟨rfl, trivial⟩)))

def qdb (n : Nat) (s : (List Int)) (v : Int) : Option Bool :=
 (qfe n s v).bind fun r1 =>
 some (decide (r1 ≥ 0))

theorem qiv {n : Nat} {w : World} {s : (List Int)} {v : Int} {cs1 : List Value} (ha1 : GoT.R w (old w) s cs1) {r : Bool} (hF : qdb n s v = some r) : RetV Tryz.prog 114 [GoT.v (List Int) cs1, .int .i64 v] w r := by
 obtain ⟨p1, k1, rfl, s1⟩ := ha1
 refine qe Tryz.func114 rfl (m := 9) rfl rfl (fun h => ?_)
 rw [qdb] at hF
 refine zSR (zp1 rfl (zNSR (zp2 rfl ?_)))
 obtain ⟨r1, hr1, hF⟩ := qd hF
 refine qT r1 h call157 (qi9 ⟨_, _, rfl, (h.oldS s1)⟩ hr1) rfl rfl rfl rfl ?_
 intro w1 h
 exact zp2 rfl (qb (qw qc h hF ⟨rfl, trivial⟩))

def qce (n : Nat) (a_e : qf) (found : Int) (place : Int) : Option Int :=
 bif decide (found ≥ 0) then
  (qaH n a_e.Through).bind fun r1 =>
  bif decide (found < r1) then
   (idx a_e.Through found).bind fun y1 =>
   bif (y1 == place) then
    some (W64 (found + 1))
   else
    some found
  else
   some found
 else
  some found

theorem qfg {n : Nat} {w : World} {a_e : qf} {found : Int} {place : Int} {cs1 : List Value} (ha1 : GoT.R w (old w) a_e cs1) {r : Int} (hF : qce n a_e found place = some r) : RetV Tryz.prog 98 [GoT.v qf cs1, .int .i64 found, .int .i64 place] w r := by
 obtain ⟨p1, k1, p2, k2, p3, k3, rfl, s1, s2, s3⟩ := qX ha1
 refine qe Tryz.func98 rfl (m := 28) rfl rfl (fun h => ?_)
 rw [qce] at hF
 refine zSR (qO h rfl rfl ?_)
 intro w1 bb1 h
 refine zp1 rfl (zNSSR (zp3 rfl ?_))
 by_cases hc1 : (decide (found ≥ 0)) = true
 ·replace hF := bifT hc1 hF
  refine qD hc1 (t := 9) rfl (qa rfl (zp1 rfl (qa rfl (zp1 rfl (qa rfl (zl 0 3 h rfl (qa rfl ?_)))))))
  obtain ⟨r1, hr1, hF⟩ := qd hF
  refine qT r1 h call87 (qbW ⟨_, _, rfl, (h.oldS s2)⟩ hr1) rfl rfl rfl rfl ?_
  intro w2 h
  refine qa rfl (zp3 rfl ?_)
  by_cases hc2 : (decide (found < r1)) = true
  ·replace hF := bifT hc2 hF
   refine qD hc2 (t := 16) rfl (qa rfl (zp1 rfl (qa rfl (zl 0 3 h rfl (qa rfl (zp1 rfl (qa rfl ?_)))))))
   obtain ⟨y1, hy1, hF⟩ := qd hF
   have he1 := qg hy1
   obtain ⟨b1, o_1, q1, cs2, hp1, hq1, -, hr2, hc3⟩ := s2.at hy1
   obtain rfl := hr2
   refine zxe hp1 hq1 he1 rfl (qa rfl (zc 0 (hc3.below h.below) rfl (qa rfl (zp1 rfl (qa rfl (zp2 rfl (qb ?_)))))))
   refine qr rfl hF ?_ ?_ <;> intro hF
   ·exact zSR (zp3 rfl (qb (qap qc h hF ⟨rfl, trivial⟩)))
   exact zKSR (zp2 rfl (qb (qap qc h hF ⟨rfl, trivial⟩)))
  replace hc2 := zb hc2
  replace hF := bifF hc2 hF
  refine qE hc2 (t := 16) rfl (zn5 rfl (zn2 rfl (zp1 rfl (qb (qel rfl rfl (qdH ?_))))))
  exact zSR (zp2 rfl (qb (qap qc h hF ⟨rfl, trivial⟩)))
 replace hc1 := zb hc1
 replace hF := bifF hc1 hF
 refine qE hc1 (t := 9) rfl (zn5 rfl (zp2 rfl (zn4 rfl ?_)))
 refine zn3 rfl (zp1 rfl (qb (qel rfl rfl (zKSR (zp2 rfl (qb ?_))))))
 exact qap qc h hF ⟨rfl, trivial⟩

def qdw (n : Nat) (a_e : qf) (place : Int) : Option Int :=
 bif decide ((a_e.From.length : Int) > 0) then
  (qdb n a_e.From place).bind fun r1 =>
  bif (!r1) then
   some (-1)
  else
   (qce n a_e 0 place).bind fun r2 =>
   some r2
 else
  (qce n a_e 0 place).bind fun r3 =>
  some r3

theorem qiJ {n : Nat} {w : World} {a_e : qf} {place : Int} {cs1 : List Value} (ha1 : GoT.R w (old w) a_e cs1) {r : Int} (hF : qdw n a_e place = some r) : RetV Tryz.prog 103 [GoT.v qf cs1, .int .i64 place] w r := by
 obtain ⟨p1, k1, p2, k2, p3, k3, rfl, s1, s2, s3⟩ := qX ha1
 refine qe Tryz.func103 rfl (m := 19) rfl rfl (fun h => ?_)
 rw [qdw] at hF
 refine zSR (qO h rfl rfl ?_)
 intro w1 bb1 h
 refine zp1 rfl (zNSSR (zp1 rfl (zl 0 2 h rfl (zp3 rfl ?_))))
 by_cases hc1 : (decide ((a_e.From.length : Int) > 0)) = true
 ·replace hF := bifT hc1 hF
  refine qD hc1 (t := 9) rfl (qa rfl (zp1 rfl (qa rfl (zl 0 2 h rfl (qa rfl (zp1 rfl (qa rfl ?_)))))))
  obtain ⟨r1, hr1, hF⟩ := qd hF
  refine qn r1 h call114 (qiv ⟨_, _, rfl, (h.oldS s1)⟩ hr1) rfl rfl rfl rfl ?_
  intro w2 h
  refine qa rfl (zp2 rfl (qb ?_))
  refine qr rfl hF ?_ ?_ <;> intro hF
  ·exact zSR (zp1 rfl (qb (qap qc h hF ⟨rfl, trivial⟩)))
  refine zKSR (zl 0 0 h rfl (zp1 rfl ?_))
  obtain ⟨r2, hr2, hF⟩ := qd hF
  refine qT r2 h call98 (qfg (h.old ha1) hr2) rfl rfl rfl rfl ?_
  intro w3 h
  exact zp1 rfl (qb (qap qc h hF ⟨rfl, trivial⟩))
 replace hc1 := zb hc1
 replace hF := bifF hc1 hF
 refine qE hc1 (t := 9) rfl (zn5 rfl (zp1 rfl (qb (qel rfl rfl (zKSR ?_)))))
 refine zl 0 0 h rfl (zp1 rfl ?_)
 obtain ⟨r3, hr3, hF⟩ := qd hF
 refine qT r3 h call98 (qfg (h.old ha1) hr3) rfl rfl rfl rfl ?_
 intro w4 h
 exact zp1 rfl (qb (qap qc h hF ⟨rfl, trivial⟩))

def qdn (y1 : qf) (x2 : (List Int)) : Nat → Int → Int → Option (Int × Int)
 | 0, _, _ => none
 | n + 1, i2, i3 =>
  bif decide (i3 < (x2.length : Int)) then
   (idx x2 i3).bind fun y3 =>
   (qce n y1 i2 y3).bind fun r2 =>
   qdn y1 x2 n r2 (W64 (i3 + 1))
  else
   some (i2, i3)

def qdo (list : (List qf)) (path : (List Int)) : Nat → (List Int) → Int → Option ((List Int) × Int)
 | 0, _, _ => none
 | n + 1, x1, i1 =>
  bif decide (i1 < (list.length : Int)) then
   (idx list i1).bind fun y1 =>
   (idx path 0).bind fun y2 =>
   (qdw n y1 y2).bind fun r1 =>
   (subS path 1 (path.length : Int)).bind fun x2 =>
   (qdn y1 x2 n r1 0).bind fun o => match o with
   | (i2, _) =>
    (appS x1 ([i2] : List Int)).bind fun x3 =>
    qdo list path n x3 (W64 (i1 + 1))
  else
   some (x1, i1)

def qig (n : Nat) (list : (List qf)) (path : (List Int)) : Option (List Int) :=
 (qdo list path n ([] : List Int) 0).bind fun o => match o with
 | (x1, _) =>
  some x1

theorem qmv {n : Nat} {w : World} {list : (List qf)} {path : (List Int)} {cs1 : List Value} (ha1 : GoT.R w (old w) list cs1) {cs2 : List Value} (ha2 : GoT.R w (old w) path cs2) {r : (List Int)} (hF : qig n list path = some r) : RetV Tryz.prog 61 [GoT.v (List qf) cs1, GoT.v (List Int) cs2] w r := by
 obtain ⟨p1, k1, rfl, s1⟩ := ha1
 obtain ⟨p2, k2, rfl, s2⟩ := ha2
 refine qe Tryz.func61 rfl (m := 40) rfl rfl (fun h => ?_)
 rw [qig] at hF
 refine zSR (zp1 rfl (zNSR (zp1 rfl (zNSSR (zp1 rfl ?_)))))
 refine zp2 rfl (qb ?_)
 replace h := h.nil (α := Int)
 obtain ⟨o1, hF, hK1⟩ := qd hF
 refine qv (qR [(1, _), (5, _), (11, _), (12, _), (13, _)] ⟨rfl, rfl, rfl, rfl, rfl, trivial⟩ ?_)
 refine qI (fun m e w' => ∃ (S1 : Nat → Prop) (p3 : Option Addr) (ln1 : Nat) (k3 : Nat) (x1 : (List Int)) (i1 : Int), qdo list path m x1 i1 = some o1 ∧ e = [(1, .slice p2 path.length k2), (5, .slice p3 ln1 k3), (11, .slice p1 list.length k1), (12, .int .i64 (list.length : Int)), (13, .int .i64 i1)] ∧ SH w w' [Ch.own S1 (x1 : List Int) [.slice p3 ln1 k3]]) n ⟨_, _, _, _, _, _, hF, rfl, h⟩ ?_
 rintro m1 e1 w1 ⟨S1, p3, ln1, k3, x1, i1, hF, rfl, h⟩
 obtain rfl := (h.sl 0 rfl).2
 rcases m1 with _ | m1
 ·rw [qdo] at hF
  cases hF
 rw [qdo] at hF
 refine zSR (zp1 rfl (zNS ?_))
 refine qr rfl hF ?_ ?_ <;> intro hF
 ·refine zKSBSR ?_
  obtain ⟨y1, hy1, hF⟩ := qd hF
  have he1 := qg hy1
  obtain ⟨b1, o_1, q1, cs3, hp1, hq1, -, hr1, hc2⟩ := s1.at hy1
  obtain ⟨p4, k4, p5, k5, p6, k6, rfl, s3, s4, s5⟩ := qX hr1
  refine zxe hp1 hq1 he1 rfl (zc 0 (hc2.below h.below) rfl (qah qc h rfl rfl rfl ?_))
  intro w2 bb1 h
  refine zs 0 h rfl ?_
  intro w3 h
  replace h : SH _ _ [Ch.box bb1 [.int .i64 y1.Kind, .int .i64 y1.Value, .slice p4 y1.From.length k4, .slice p5 y1.Through.length k5, .slice p6 y1.To.length k6] 87, Ch.own S1 (x1 : List Int) [.slice p3 x1.length k3]] := h
  refine zNS ?_
  refine qc7 rfl (by kernel_rfl) ?_
  refine zdl 0 0 h rfl ?_
  refine zd1 rfl ?_
  obtain ⟨y2, hy2, hF⟩ := qd hF
  have he2 := qg hy2
  obtain ⟨b2, o_2, q2, cs4, hp2, hq2, -, hr2, hc3⟩ := s2.at hy2
  obtain rfl := hr2
  refine zdxe hp2 hq2 he2 rfl ?_
  refine zdc 0 (hc3.below h.below) rfl ?_
  obtain ⟨r1, hr3, hF⟩ := qd hF
  refine qcI r1 (vsI _) call103 (fun _ hb => qiJ (qdy y1 ((h.ext hb).oldS s3) ((h.ext hb).oldS s4) ((h.ext hb).oldS s5)) hr3) rfl rfl rfl rfl ?_
  refine zd1 rfl ?_
  refine qbm (fun w4 hb => ?_)
  replace h := h.ext hb
  clear hb
  refine zSSR (zp1 rfl ?_)
  obtain ⟨x2, hx1, hF⟩ := qd hF
  obtain ⟨p7, k7, hp3, hk1, hl1, g1⟩ := qox (h.oldS s2) hx1
  refine r_v (qlS qc rfl rfl rfl (qoD g1 rfl) hp3 hk1 hl1 rfl rfl rfl rfl) rfl ?_
  have s6 := qoU s2 hx1 hp3 hk1
  refine zp2 rfl (qb ?_)
  obtain ⟨o2, hF, hK2⟩ := qd hF
  refine qv (qR [(1, _), (5, _), (7, _), (8, _), (11, _), (12, _), (13, _), (23, _), (24, _), (25, _)] ⟨rfl, rfl, rfl, rfl, rfl, rfl, rfl, rfl, rfl, rfl, trivial⟩ ?_)
  refine qI (fun m e w' => ∃ (i2 : Int) (i3 : Int), qdn y1 x2 m i2 i3 = some o2 ∧ e = [(1, .slice p2 path.length k2), (5, .slice p3 x1.length k3), (7, .pointer (some ⟨bb1, 0, none⟩)), (8, .int .i64 i2), (11, .slice p1 list.length k1), (12, .int .i64 (list.length : Int)), (13, .int .i64 i1), (23, .slice p7 x2.length k7), (24, .int .i64 (x2.length : Int)), (25, .int .i64 i3)] ∧ SH w w' [Ch.box bb1 [.int .i64 y1.Kind, .int .i64 y1.Value, .slice p4 y1.From.length k4, .slice p5 y1.Through.length k5, .slice p6 y1.To.length k6] 87, Ch.own S1 (x1 : List Int) [.slice p3 x1.length k3]]) m1 ⟨_, _, hF, rfl, h⟩ ?_
  rintro m2 e2 w5 ⟨i2, i3, hF, rfl, h⟩
  rcases m2 with _ | m2
  ·rw [qdn] at hF
   cases hF
  rw [qdn] at hF
  refine zSR (zp1 rfl (zNS ?_))
  refine qr rfl hF ?_ ?_ <;> intro hF
  ·refine zKSBSR ?_
   obtain ⟨y3, hy3, hF⟩ := qd hF
   have he3 := qg hy3
   obtain ⟨b3, o_3, q3, cs5, hp4, hq3, -, hr4, hc5⟩ := s6.at hy3
   obtain rfl := hr4
   refine zxe hp4 hq3 he3 rfl (zc 0 (hc5.below h.below) rfl (zp1 rfl (qb (qy (zl 0 0 h rfl (zp2 rfl ?_))))))
   obtain ⟨r2, hr5, hF⟩ := qd hF
   refine qT r2 h call98 (qfg (qdy y1 (h.oldS s3) (h.oldS s4) (h.oldS s5)) hr5) rfl rfl rfl rfl ?_
   intro w6 h
   exact zp1 rfl (zNER (zp2 rfl (qb (qA m2 [(1, _), (5, _), (7, _), (8, _), (11, _), (12, _), (13, _), (23, _), (24, _), (25, _)] (Nat.lt_succ_self m2) ⟨rfl, rfl, rfl, rfl, rfl, rfl, rfl, rfl, rfl, rfl, trivial⟩ ⟨_, _, hF, rfl, h⟩))))
  refine qH rfl ?_
  obtain rfl := qh hF; replace hF := hK2
  refine qy (zp2 rfl (qaB qc [.tmp 35] _ ([i2] : List Int) h rfl rfl rfl rfl rfl rfl rfl rfl rfl ⟨rfl, trivial⟩ rfl ?_))
  intro w7 p8 S2 h
  obtain ⟨x3, hx2, hF⟩ := qd hF
  obtain ⟨g2, hx2⟩ := qa8 hx2
  refine qee qc 2 h rfl (h.sl 0 rfl).1 (h.sl 0 rfl).2 rfl rfl rfl rfl rfl rfl rfl rfl rfl g2 hx2 rfl ?_
  intro w8 p9 k8 S3 h
  refine zp1 rfl (zNER (zp2 rfl (qb ?_)))
  replace h := h.pick [2] rfl
  exact qA m1 [(1, _), (5, _), (11, _), (12, _), (13, _)] (Nat.lt_succ_self m1) ⟨rfl, rfl, rfl, rfl, rfl, trivial⟩ ⟨_, _, _, _, _, _, hF, rfl, h⟩
 refine qH rfl ?_
 obtain rfl := qh hF; replace hF := hK1
 refine zSR (zp2 rfl (qb ?_))
 obtain rfl := qh hF
 exact qav qc (ρ := (List Int)) [GoT.v (List Int) [.slice p3 x1.length k3]] h ⟨rfl, trivial⟩ (PV.done h (qaG (qab 0 h rfl)))

end Go.Fw


namespace Go.Fw
open Go Go.Proofs
open Go.RowKit (Below)
set_option maxRecDepth 100000
set_option maxHeartbeats 1600000
def qc2 (b : qF) (list : (List qf)) : Nat → Int → Option (Flow Int Int)
 | 0, _ => none
 | n + 1, i1 =>
  bif decide (i1 < (list.length : Int)) then
   (idx list i1).bind fun y1 =>
   (qe5 n b y1).bind fun r2 =>
   bif (!r2) then
    some (.ret 5)
   else
    qc2 b list n (W64 (i1 + 1))
  else
   some (.nxt i1)

def qg4 (n : Nat) (b : qF) (list : (List qf)) : Option Int :=
 (qfU n b).bind fun r1 =>
 bif (!r1) then
  some 1
 else
  bif decide ((list.length : Int) > 6) then
   some 3
  else
   (qc2 b list n 0).bind fun o => match o with
   | .ret r => some r
   | .nxt _ =>
    some 0

theorem qlD {n : Nat} {w : World} {b : qF} {list : (List qf)} {cs1 : List Value} (ha1 : GoT.R w (old w) b cs1) {cs2 : List Value} (ha2 : GoT.R w (old w) list cs2) {r : Int} (hF : qg4 n b list = some r) : RetV Tryz.prog 62 [GoT.v qF cs1, GoT.v (List qf) cs2] w r := by
 obtain ⟨p1, k1, p2, k2, p3, k3, p4, k4, p5, k5, rfl, s1, s2, s3, s4, s5⟩ := qar ha1
 obtain ⟨p6, k6, rfl, s6⟩ := ha2
 refine qe Tryz.func62 rfl (m := 25) rfl rfl (fun h => ?_)
 rw [qg4] at hF
 refine zSR (qO h rfl rfl ?_)
 intro w1 bb1 h
 refine zp1 rfl (zNSSR (zl 0 0 h rfl ?_))
 obtain ⟨r1, hr1, hF⟩ := qd hF
 refine qn r1 h call104 (qi7 (h.old ha1) hr1) rfl rfl rfl rfl ?_
 intro w2 h
 refine zp1 rfl (qb ?_)
 refine qr rfl hF ?_ ?_ <;> intro hF
 ·exact zSR (zp1 rfl (qb (qap qc h hF ⟨rfl, trivial⟩)))
 refine zKSSR (zp3 rfl (qb ?_))
 refine qr rfl hF ?_ ?_ <;> intro hF
 ·exact zSR (zp1 rfl (qb (qap qc h hF ⟨rfl, trivial⟩)))
 refine zKSSR (zp1 rfl (qb ?_))
 obtain ⟨o1, hF, hK1⟩ := qd hF
 refine qv (qR [(1, _), (2, _), (5, _)] ⟨rfl, rfl, rfl, trivial⟩ ?_)
 refine qI (fun m e w' => ∃ (i1 : Int), qc2 b list m i1 = some o1 ∧ e = [(1, .slice p6 list.length k6), (2, .pointer (some ⟨bb1, 0, none⟩)), (5, .int .i64 i1)] ∧ SH w w' [Ch.box bb1 [.slice p1 b.Library.Cells.length k1, .slice p2 b.Design.Instances.length k2, .slice p3 b.Design.Nets.length k3, .slice p4 b.Design.Ports.length k4, .slice p5 b.Wires.length k5] 50]) n ⟨_, hF, rfl, h⟩ ?_
 rintro m1 e1 w3 ⟨i1, hF, rfl, h⟩
 rcases m1 with _ | m1
 ·rw [qc2] at hF
  cases hF
 rw [qc2] at hF
 refine zSSR (zp4 rfl (qb ?_))
 refine qr rfl hF ?_ ?_ <;> intro hF
 ·refine zKSB (qbr ?_)
  refine qc7 rfl (by kernel_rfl) ?_
  refine zdl 0 0 h rfl ?_
  refine zd2 rfl ?_
  obtain ⟨y1, hy1, hF⟩ := qd hF
  have he1 := qg hy1
  obtain ⟨b1, o_1, q1, cs3, hp1, hq1, -, hr2, hc4⟩ := s6.at hy1
  obtain ⟨p7, k7, p8, k8, p9, k9, rfl, s7, s8, s9⟩ := qX hr2
  refine zdxe hp1 hq1 he1 rfl ?_
  refine zdc 0 (hc4.below h.below) rfl ?_
  obtain ⟨r2, hr3, hF⟩ := qd hF
  refine qcI r2 (vsB _) call105 (fun _ hb => qj3 ((h.ext hb).old ha1) (qdy y1 ((h.ext hb).oldS s7) ((h.ext hb).oldS s8) ((h.ext hb).oldS s9)) hr3) rfl rfl rfl rfl ?_
  refine zd1 rfl ?_
  refine qbm (fun w4 hb => ?_)
  replace h := h.ext hb
  clear hb
  refine qr rfl hF ?_ ?_ <;> intro hF
  ·refine zSR (zp1 rfl (qb ?_))
   obtain rfl := qh hF; replace hF := hK1
   exact qap qc h hF ⟨rfl, trivial⟩
  exact zKER (zp3 rfl (qb (qA m1 [(1, _), (2, _), (5, _)] (Nat.lt_succ_self m1) ⟨rfl, rfl, rfl, trivial⟩ ⟨_, hF, rfl, h⟩)))
 refine qH rfl ?_
 obtain rfl := qh hF; replace hF := hK1
 exact zSR (zp1 rfl (qb (qap qc h hF ⟨rfl, trivial⟩)))

def qgR (n : Nat) (b : qF) (list : (List qf)) (place : Int) : Option Int :=
 (qg4 n b list).bind fun r1 =>
 bif (r1 == 0) then
  (qdV n b).bind fun r2 =>
  (qas n place 0 (W64 (r2 - 1))).bind fun r3 =>
  bif (!r3) then
   some 2
  else
   some r1
 else
  some r1

theorem qlt {n : Nat} {w : World} {b : qF} {list : (List qf)} {place : Int} {cs1 : List Value} (ha1 : GoT.R w (old w) b cs1) {cs2 : List Value} (ha2 : GoT.R w (old w) list cs2) {r : Int} (hF : qgR n b list place = some r) : RetV Tryz.prog 41 [GoT.v qF cs1, GoT.v (List qf) cs2, .int .i64 place] w r := by
 obtain ⟨p1, k1, p2, k2, p3, k3, p4, k4, p5, k5, rfl, s1, s2, s3, s4, s5⟩ := qar ha1
 obtain ⟨p6, k6, rfl, s6⟩ := ha2
 refine qe Tryz.func41 rfl (m := 22) rfl rfl (fun h => ?_)
 rw [qgR] at hF
 refine zSR (qO h rfl rfl ?_)
 intro w1 bb1 h
 refine zp1 rfl (zNSR (zl 0 0 h rfl (zp1 rfl ?_)))
 obtain ⟨r1, hr1, hF⟩ := qd hF
 refine qT r1 h call62 (qlD (h.old ha1) ⟨_, _, rfl, (h.oldS s6)⟩ hr1) rfl rfl rfl rfl ?_
 intro w2 h
 refine zp1 rfl (zNSSR (zp3 rfl ?_))
 by_cases hc1 : (r1 == 0) = true
 ·replace hF := bifT hc1 hF
  refine qD hc1 (t := 13) rfl (qa rfl (zp1 rfl (qa rfl (zl 0 0 h rfl (qa rfl ?_)))))
  obtain ⟨r2, hr2, hF⟩ := qd hF
  refine qT r2 h call78 (qiR (h.old ha1) hr2) rfl rfl rfl rfl ?_
  intro w3 h
  refine qa rfl (zp1 rfl (qa rfl ?_))
  obtain ⟨r3, hr3, hF⟩ := qd hF
  refine qn r3 h call77 (qag hr3) rfl rfl rfl rfl ?_
  intro w4 h
  refine qa rfl (zp2 rfl (qb ?_))
  refine qr rfl hF ?_ ?_ <;> intro hF
  ·exact zSR (zp1 rfl (qb (qap qc h hF ⟨rfl, trivial⟩)))
  exact zKSR (zp2 rfl (qb (qap qc h hF ⟨rfl, trivial⟩)))
 replace hc1 := zb hc1
 replace hF := bifF hc1 hF
 refine qE hc1 (t := 13) rfl (zn5 rfl (zn1 rfl (zp1 rfl (qb (qel rfl rfl (zKS ?_))))))
 exact qy (zp2 rfl (qb (qap qc h hF ⟨rfl, trivial⟩)))

def qdx (n : Nat) (a_e : qf) (v0 : (Option Tview)) : Option Bool :=
 (qc9 n v0 a_e).bind fun r1 =>
 some (!r1)

theorem qiK {n : Nat} {w : World} {a_e : qf} {v0 : (Option Tview)} {cs1 : List Value} (ha1 : GoT.R w (old w) a_e cs1) {p4 : Option Addr} (ha2 : GoT.R w (old w) (some v0) [.pointer p4]) {r : Bool} (hF : qdx n a_e v0 = some r) : RetV Tryz.prog 110 [GoT.v qf cs1, .pointer p4] w r := by
 obtain ⟨p1, k1, p2, k2, p3, k3, rfl, s1, s2, s3⟩ := qX ha1
 obtain ⟨b1, o_1, cs2, rfl, -, hr1, hc1⟩ := PtR.get ha2 rfl
 obtain ⟨p5, rfl, s4⟩ := qhF hr1
 refine qe Tryz.func110 rfl (m := 8) rfl rfl (fun h => ?_)
 rw [qdx] at hF
 refine zSR (qO h rfl rfl ?_)
 intro w1 bb1 h
 refine zp1 rfl (zNSR (zc 0 (hc1.below h.below) rfl (zl 0 0 h rfl ?_)))
 obtain ⟨r1, hr2, hF⟩ := qd hF
 refine qn r1 h call111 (qiw (h.old s4) (h.old ha1) hr2) rfl rfl rfl rfl ?_
 intro w2 h
 exact zp2 rfl (qb (qw qc h hF ⟨rfl, trivial⟩))

def qG (s : (List qf)) (f_0 : (Option Tview)) : Nat → Int → Option (Flow Int Int)
 | 0, _ => none
 | n + 1, i1 =>
  bif decide (i1 < (s.length : Int)) then
   (idx s i1).bind fun y1 =>
   (qdx n y1 f_0).bind fun r1 =>
   bif r1 then
    some (.ret i1)
   else
    qG s f_0 n (W64 (i1 + 1))
  else
   some (.nxt i1)

def qak (n : Nat) (s : (List qf)) (f_0 : (Option Tview)) : Option Int :=
 (qG s f_0 n 0).bind fun o => match o with
 | .ret r => some r
 | .nxt _ =>
  some (-1)

theorem qdE {n : Nat} {w : World} {s : (List qf)} {f_0 : (Option Tview)} {cs1 : List Value} (ha1 : GoT.R w (old w) s cs1) {p2 : Option Addr} (ha2 : GoT.R w (old w) (some f_0) [.pointer p2]) {r : Int} (hF : qak n s f_0 = some r) : RetV Tryz.prog 129 [GoT.v (List qf) cs1, .func (.func 110) #[] #[.pointer p2]] w r := by
 obtain ⟨p1, k1, rfl, s1⟩ := ha1
 obtain ⟨b1, o_1, cs2, rfl, -, hr1, hc1⟩ := PtR.get ha2 rfl
 obtain ⟨p3, rfl, s2⟩ := qhF hr1
 refine qe Tryz.func129 rfl (m := 19) rfl rfl (fun h => ?_)
 rw [qak] at hF
 refine zSR (zp1 rfl (zNSSR (zp3 rfl (qb ?_))))
 obtain ⟨o1, hF, hK1⟩ := qd hF
 refine qv (qR [(0, _), (1, _), (7, _), (8, _)] ⟨rfl, rfl, rfl, rfl, trivial⟩ ?_)
 refine qI (fun m e w' => ∃ (i1 : Int), qG s f_0 m i1 = some o1 ∧ e = [(0, .slice p1 s.length k1), (1, .func (.func 110) #[] #[.pointer (some ⟨b1, o_1, none⟩)]), (7, .int .i64 (s.length : Int)), (8, .int .i64 i1)] ∧ SH w w' []) n ⟨_, hF, rfl, h⟩ ?_
 rintro m1 e1 w1 ⟨i1, hF, rfl, h⟩
 rcases m1 with _ | m1
 ·rw [qG] at hF
  cases hF
 rw [qG] at hF
 refine zSR (zp1 rfl (zNS ?_))
 refine qr rfl hF ?_ ?_ <;> intro hF
 ·refine zKSBSR (zp2 rfl (zNSR (zp2 rfl ?_)))
  refine zp1 rfl ?_
  obtain ⟨y1, hy1, hF⟩ := qd hF
  have he1 := qg hy1
  obtain ⟨b2, o_2, q1, cs3, hp1, hq1, -, hr2, hc3⟩ := s1.at hy1
  obtain ⟨p4, k2, p5, k3, p6, k4, rfl, s3, s4, s5⟩ := qX hr2
  refine zxe hp1 hq1 he1 rfl (zc 0 (hc3.below h.below) rfl ?_)
  obtain ⟨r1, hr3, hF⟩ := qd hF
  refine qn r1 h call110 (qiK (qdy y1 (h.oldS s3) (h.oldS s4) (h.oldS s5)) (h.old ha2) hr3) rfl rfl rfl rfl ?_
  intro w2 h
  refine qb ?_
  refine qr rfl hF ?_ ?_ <;> intro hF
  ·refine zSR (zp2 rfl (qb ?_))
   obtain rfl := qh hF; replace hF := hK1
   exact qap qc h hF ⟨rfl, trivial⟩
  exact zKER (zp2 rfl (qb (qA m1 [(0, _), (1, _), (7, _), (8, _)] (Nat.lt_succ_self m1) ⟨rfl, rfl, rfl, rfl, trivial⟩ ⟨_, hF, rfl, h⟩)))
 refine qH rfl ?_
 obtain rfl := qh hF; replace hF := hK1
 exact zSR (zp1 rfl (qb (qap qc h hF ⟨rfl, trivial⟩)))

def qW (n : Nat) (s : (List qf)) (f_0 : (Option Tview)) : Option Bool :=
 (qak n s f_0).bind fun r1 =>
 some (decide (r1 ≥ 0))

theorem qdd {n : Nat} {w : World} {s : (List qf)} {f_0 : (Option Tview)} {cs1 : List Value} (ha1 : GoT.R w (old w) s cs1) {p2 : Option Addr} (ha2 : GoT.R w (old w) (some f_0) [.pointer p2]) {r : Bool} (hF : qW n s f_0 = some r) : RetV Tryz.prog 90 [GoT.v (List qf) cs1, .func (.func 110) #[] #[.pointer p2]] w r := by
 obtain ⟨p1, k1, rfl, s1⟩ := ha1
 obtain ⟨b1, o_1, cs2, rfl, -, hr1, hc1⟩ := PtR.get ha2 rfl
 obtain ⟨p3, rfl, s2⟩ := qhF hr1
 refine qe Tryz.func90 rfl (m := 9) rfl rfl (fun h => ?_)
 rw [qW] at hF
 refine zSR (zp1 rfl (zNSR (zp2 rfl ?_)))
 obtain ⟨r1, hr2, hF⟩ := qd hF
 refine qT r1 h call129 (qdE ⟨_, _, rfl, (h.oldS s1)⟩ (h.old ha2) hr2) rfl rfl rfl rfl ?_
 intro w1 h
 exact zp2 rfl (qb (qw qc h hF ⟨rfl, trivial⟩))

def qeb (n : Nat) (b : qF) (list : (List qf)) : Option ((Option Tview) × Int) :=
 (qgP n b).bind fun r1 =>
 bif (!r1) then
  some (none, 1)
 else
  bif decide ((list.length : Int) > 6) then
   some (none, 3)
  else
   (qgX n b).bind fun r2 =>
   (qW n list r2).bind fun r3 =>
   bif r3 then
    some (none, 5)
   else
    some (r2, 0)

theorem qjc {n : Nat} {w : World} {A : Nat → Prop} (hA : ∀ b, A b → old w b) {b : qF} {list : (List qf)} {cs1 : List Value} (ha1 : GoT.R w A b cs1) {cs2 : List Value} (ha2 : GoT.R w A list cs2) {r : ((Option Tview) × Int)} (hF : qeb n b list = some r) : RetG Tryz.prog 66 [GoT.v qF cs1, GoT.v (List qf) cs2] w A r := by
 obtain ⟨p1, k1, p2, k2, p3, k3, p4, k4, p5, k5, rfl, s1, s2, s3, s4, s5⟩ := qar ha1
 obtain ⟨p6, k6, rfl, s6⟩ := ha2
 have hg := Rg.start hA
 refine qjC Tryz.func66 rfl (m := 21) rfl rfl (fun h => ?_)
 rw [qeb] at hF
 refine zSR (qO h rfl rfl ?_)
 intro w1 bb1 h
 refine zp2 rfl (zNSB (zSR (zl 0 0 h rfl ?_)))
 obtain ⟨r1, hr1, hF⟩ := qd hF
 refine qn r1 h call108 (qlz (h.old (GoT.mono ha1 hg.old)) hr1) rfl rfl rfl rfl ?_
 intro w2 h
 refine zp2 rfl (qb ?_)
 refine qr rfl hF ?_ ?_ <;> intro hF
 ·refine zSR (zp2 rfl (qb ?_))
  obtain rfl := qh hF
  have hv1 : GoRs.Rs (ρ := ((Option Tview) × Int)) h.wc (reg A w h.wc) (none, 1) [GoT.v (Option Tview) [.pointer none], GoT.v Int [.int .i64 1]] := ⟨_, _, rfl, rfl, ⟨_, rfl, rfl⟩⟩
  exact qjj qc (ρ := ((Option Tview) × Int)) (r := (none, 1)) [GoT.v (Option Tview) [.pointer none], GoT.v Int [.int .i64 1]] h ⟨rfl, rfl, trivial⟩ hv1
 refine zSR (zp4 rfl (qb ?_))
 refine qr rfl hF ?_ ?_ <;> intro hF
 ·refine zSR (zp2 rfl (qb ?_))
  obtain rfl := qh hF
  have hv2 : GoRs.Rs (ρ := ((Option Tview) × Int)) h.wc (reg A w h.wc) (none, 3) [GoT.v (Option Tview) [.pointer none], GoT.v Int [.int .i64 3]] := ⟨_, _, rfl, rfl, ⟨_, rfl, rfl⟩⟩
  exact qjj qc (ρ := ((Option Tview) × Int)) (r := (none, 3)) [GoT.v (Option Tview) [.pointer none], GoT.v Int [.int .i64 3]] h ⟨rfl, rfl, trivial⟩ hv2
 refine zKE (zSR (zl 0 0 h rfl ?_))
 obtain ⟨r2, hr2, hF⟩ := qd hF
 refine qnj r2 hg h call109 (qlA (hg.regOld h) (hg.inR h ha1) hr2) rfl rfl rfl rfl ?_
 intro w3 us1 B1 hg1 hu1 hz1 hv3
 have hL1 := h.ext hu1.below
 have s7 := Up.S hg h hu1 s6
 have hb1 := h.below.trans (hu1.below.mono h.below.size)
 replace h := hz1
 obtain ⟨cs3, rfl, hr3⟩ := qpb hv3
 obtain ⟨p7, rfl, s8⟩ := qhF hr3
 refine qah qc h rfl rfl rfl ?_
 intro w4 bb2 h
 refine zs 0 h rfl ?_
 intro w5 h
 refine zNSSR (zp2 rfl ?_)
 obtain ⟨r3, hr4, hF⟩ := qd hF
 refine qn r3 h call90 (qdd ⟨_, _, rfl, (h.oldS (s7.mono hg1.old))⟩ (qie (x := r2) 0 h rfl (h.old (GoT.mono s8 hg1.old))) hr4) rfl rfl rfl rfl ?_
 intro w6 h
 refine qb ?_
 refine qr rfl hF ?_ ?_ <;> intro hF
 ·refine zSR (zp2 rfl (qb ?_))
  obtain rfl := qh hF
  have hv4 : GoRs.Rs (ρ := ((Option Tview) × Int)) h.wc (reg A w h.wc) (none, 5) [GoT.v (Option Tview) [.pointer none], GoT.v Int [.int .i64 5]] := ⟨_, _, rfl, rfl, ⟨_, rfl, rfl⟩⟩
  exact qjj qc (ρ := ((Option Tview) × Int)) (r := (none, 5)) [GoT.v (Option Tview) [.pointer none], GoT.v Int [.int .i64 5]] (h.unbase hg1.below ⟨fun _ h => h, trivial⟩) ⟨rfl, rfl, trivial⟩ hv4
 refine zKSR (zl 0 0 h rfl (zp2 rfl (qb ?_)))
 obtain rfl := qh hF
 have hv5 : GoRs.Rs (ρ := ((Option Tview) × Int)) h.wc (reg A w h.wc) (r2, 0) [GoT.v (Option Tview) [.pointer p7], GoT.v Int [.int .i64 0]] := ⟨_, _, rfl, (hg1.outR h (hg1.inR h s8)), ⟨_, rfl, rfl⟩⟩
 exact qjj qc (ρ := ((Option Tview) × Int)) (r := (r2, 0)) [GoT.v (Option Tview) [.pointer p7], GoT.v Int [.int .i64 0]] (h.unbase hg1.below ⟨fun _ h => h, trivial⟩) ⟨rfl, rfl, trivial⟩ hv5

def qeH (n : Nat) (v : (Option Tview)) (place : Int) : Option Bool :=
 (v).bind fun y1 =>
 (qbb n y1.places).bind fun r1 =>
 (qaN n place 0 (W64 (r1 - 1))).bind fun r2 =>
 some r2

theorem qjq {n : Nat} {w : World} {v : (Option Tview)} {place : Int} {cs1 : List Value} (ha1 : GoT.R w (old w) v cs1) {r : Bool} (hF : qeH n v place = some r) : RetV Tryz.prog 85 [GoT.v (Option Tview) cs1, .int .i64 place] w r := by
 obtain ⟨p1, rfl, s1⟩ := qhF ha1
 refine qe Tryz.func85 rfl (m := 13) rfl rfl (fun h => ?_)
 rw [qeH] at hF
 refine zSR (zp1 rfl (zNSR (zp2 rfl ?_)))
 obtain ⟨y1, hy1, hF⟩ := qd hF
 obtain ⟨b1, o_1, cs2, rfl, -, hr1, hc1⟩ := PtR.get s1 hy1
 obtain ⟨p2, k1, p3, k2, p4, k3, p5, k4, p6, k5, p7, k6, p8, k7, p9, k8, p10, k9, p11, k10, rfl, s2, s3, s4, s5, s6, s7, s8, s9, s10, s11⟩ := ql8 hr1
 refine zp2 rfl (zc 5 (hc1.below h.below) rfl ?_)
 obtain ⟨r1, hr2, hF⟩ := qd hF
 refine qT r1 h call113 (qf1 ⟨_, _, rfl, (h.oldS s7)⟩ hr2) rfl rfl rfl rfl ?_
 intro w1 h
 refine zp1 rfl ?_
 obtain ⟨r2, hr3, hF⟩ := qd hF
 refine qn r2 h call86 (qau hr3) rfl rfl rfl rfl ?_
 intro w2 h
 exact zp1 rfl (qb (qw qc h hF ⟨rfl, trivial⟩))

def qgL (n : Nat) (b : qF) (list : (List qf)) (place : Int) : Option ((Option Tview) × Int) :=
 (qeb n b list).bind fun o => match o with
  | (r2, r3) =>
   bif (r3 == 0) then
    (qeH n r2 place).bind fun r4 =>
    bif (!r4) then
     some (none, 2)
    else
     some (r2, r3)
   else
    some (r2, r3)

theorem qlh {n : Nat} {w : World} {A : Nat → Prop} (hA : ∀ b, A b → old w b) {b : qF} {list : (List qf)} {place : Int} {cs1 : List Value} (ha1 : GoT.R w A b cs1) {cs2 : List Value} (ha2 : GoT.R w A list cs2) {r : ((Option Tview) × Int)} (hF : qgL n b list place = some r) : RetG Tryz.prog 48 [GoT.v qF cs1, GoT.v (List qf) cs2, .int .i64 place] w A r := by
 obtain ⟨p1, k1, p2, k2, p3, k3, p4, k4, p5, k5, rfl, s1, s2, s3, s4, s5⟩ := qar ha1
 obtain ⟨p6, k6, rfl, s6⟩ := ha2
 have hg := Rg.start hA
 refine qjC Tryz.func48 rfl (m := 26) rfl rfl (fun h => ?_)
 rw [qgL] at hF
 refine zSR (qO h rfl rfl ?_)
 intro w1 bb1 h
 refine zp2 rfl (zNSR (zl 0 0 h rfl (zp1 rfl ?_)))
 obtain ⟨r1, hr1, hF⟩ := qd hF
 obtain ⟨r2, r3⟩ := r1
 refine qnj (r2, r3) hg h call66 (qjc (hg.regOld h) (hg.inR h ha1) ⟨_, _, rfl, (hg.inS h s6)⟩ hr1) rfl rfl rfl rfl ?_
 intro w2 us1 B1 hg1 hu1 hz1 hv1
 have hL1 := h.ext hu1.below
 have hb1 := h.below.trans (hu1.below.mono h.below.size)
 replace h := hz1
 obtain ⟨cs3, us2, rfl, hr2, hv2⟩ := qpk hv1
 obtain ⟨p7, rfl, s7⟩ := qhF hr2
 obtain ⟨cs4, rfl, hr3⟩ := qpb hv2
 obtain rfl := hr3
 refine zp5 rfl (zNSSR (zp3 rfl ?_))
 by_cases hc1 : (r3 == 0) = true
 ·replace hF := bifT hc1 hF
  refine qD hc1 (t := 18) rfl (qa rfl (zp1 rfl (qa rfl (zp1 rfl (qa rfl ?_)))))
  obtain ⟨r4, hr4, hF⟩ := qd hF
  refine qn r4 h call85 (qjq (h.old (GoT.mono s7 hg1.old)) hr4) rfl rfl rfl rfl ?_
  intro w3 h
  refine qa rfl (zp2 rfl (qb ?_))
  refine qr rfl hF ?_ ?_ <;> intro hF
  ·refine zSR (zp2 rfl (qb ?_))
   obtain rfl := qh hF
   have hv3 : GoRs.Rs (ρ := ((Option Tview) × Int)) h.wc (reg A w h.wc) (none, 2) [GoT.v (Option Tview) [.pointer none], GoT.v Int [.int .i64 2]] := ⟨_, _, rfl, rfl, ⟨_, rfl, rfl⟩⟩
   exact qjj qc (ρ := ((Option Tview) × Int)) (r := (none, 2)) [GoT.v (Option Tview) [.pointer none], GoT.v Int [.int .i64 2]] (h.unbase hg1.below (show NoD [] from trivial)) ⟨rfl, rfl, trivial⟩ hv3
  refine zKSR (zp4 rfl (qb ?_))
  obtain rfl := qh hF
  have hv4 : GoRs.Rs (ρ := ((Option Tview) × Int)) h.wc (reg A w h.wc) (r2, r3) [GoT.v (Option Tview) [.pointer p7], GoT.v Int [.int .i64 r3]] := ⟨_, _, rfl, (hg1.outR h (hg1.inR h s7)), ⟨_, rfl, rfl⟩⟩
  exact qjj qc (ρ := ((Option Tview) × Int)) (r := (r2, r3)) [GoT.v (Option Tview) [.pointer p7], GoT.v Int [.int .i64 r3]] (h.unbase hg1.below (show NoD [] from trivial)) ⟨rfl, rfl, trivial⟩ hv4
 replace hc1 := zb hc1
 replace hF := bifF hc1 hF
 refine qE hc1 (t := 18) rfl (zn4 rfl (zp1 rfl (qb (qel rfl rfl (zKSR (zp1 rfl ?_))))))
 refine zp3 rfl (qb ?_)
 obtain rfl := qh hF
 have hv5 : GoRs.Rs (ρ := ((Option Tview) × Int)) h.wc (reg A w h.wc) (r2, r3) [GoT.v (Option Tview) [.pointer p7], GoT.v Int [.int .i64 r3]] := ⟨_, _, rfl, (hg1.outR h (hg1.inR h s7)), ⟨_, rfl, rfl⟩⟩
 exact qjj qc (ρ := ((Option Tview) × Int)) (r := (r2, r3)) [GoT.v (Option Tview) [.pointer p7], GoT.v Int [.int .i64 r3]] (h.unbase hg1.below (show NoD [] from trivial)) ⟨rfl, rfl, trivial⟩ hv5

def qbZ (list : (List qf)) (tag : (List Int)) (place : Int) : Nat → (List Int) → Int → Option ((List Int) × Int)
 | 0, _, _ => none
 | n + 1, x1, i1 =>
  bif decide (i1 < (list.length : Int)) then
   (idx tag i1).bind fun y1 =>
   (
    bif decide (y1 ≥ 0) then
     (idx list i1).bind fun y2 =>
     bif decide (y1 < (y2.Through.length : Int)) then
      (idx list i1).bind fun y3 =>
      (idx y3.Through y1).bind fun y4 =>
      some (y4 == place)
     else
      some false
    else
     some false).bind fun b2 =>
   bif b2 then
    (appS x1 ([W64 (y1 + 1)] : List Int)).bind fun x2 =>
    qbZ list tag place n x2 (W64 (i1 + 1))
   else
    (appS x1 ([y1] : List Int)).bind fun x3 =>
    qbZ list tag place n x3 (W64 (i1 + 1))
  else
   some (x1, i1)

def qgQ (n : Nat) (list : (List qf)) (tag : (List Int)) (place : Int) : Option (List Int) :=
 (qbZ list tag place n ([] : List Int) 0).bind fun o => match o with
 | (x1, _) =>
  some x1

theorem qlx {n : Nat} {w : World} {list : (List qf)} {tag : (List Int)} {place : Int} {cs1 : List Value} (ha1 : GoT.R w (old w) list cs1) {cs2 : List Value} (ha2 : GoT.R w (old w) tag cs2) {r : (List Int)} (hF : qgQ n list tag place = some r) : RetV Tryz.prog 55 [GoT.v (List qf) cs1, GoT.v (List Int) cs2, .int .i64 place] w r := by
 obtain ⟨p1, k1, rfl, s1⟩ := ha1
 obtain ⟨p2, k2, rfl, s2⟩ := ha2
 refine qe Tryz.func55 rfl (m := 52) rfl rfl (fun h => ?_)
 rw [qgQ] at hF
 refine zSR (zp1 rfl (zNSR (qaB qc [] _ ([] : List Int) h rfl rfl rfl rfl rfl rfl rfl rfl rfl trivial rfl ?_)))
 intro w1 p3 S1 h
 refine zp1 rfl (zNSSR (zp1 rfl (qb ?_)))
 obtain ⟨o1, hF, hK1⟩ := qd hF
 refine qv (qR [(0, _), (1, _), (2, _), (7, _), (8, _)] ⟨rfl, rfl, rfl, rfl, rfl, trivial⟩ ?_)
 refine qI (fun m e w' => ∃ (S2 : Nat → Prop) (p4 : Option Addr) (ln1 : Nat) (k3 : Nat) (x1 : (List Int)) (i1 : Int), qbZ list tag place m x1 i1 = some o1 ∧ e = [(0, .slice p1 list.length k1), (1, .slice p2 tag.length k2), (2, .int .i64 place), (7, .slice p4 ln1 k3), (8, .int .i64 i1)] ∧ SH w w' [Ch.own S2 (x1 : List Int) [.slice p4 ln1 k3]]) n ⟨_, _, _, _, _, _, hF, rfl, h⟩ ?_
 rintro m1 e1 w2 ⟨S2, p4, ln1, k3, x1, i1, hF, rfl, h⟩
 obtain rfl := (h.sl 0 rfl).2
 rcases m1 with _ | m1
 ·rw [qbZ] at hF
  cases hF
 rw [qbZ] at hF
 refine zSSR (zp4 rfl (qb ?_))
 refine qr rfl hF ?_ ?_ <;> intro hF
 ·refine zKSBSR (zp2 rfl ?_)
  obtain ⟨y1, hy1, hF⟩ := qd hF
  have he1 := qg hy1
  obtain ⟨b1, o_1, q1, cs3, hp1, hq1, -, hr1, hc2⟩ := s2.at hy1
  obtain rfl := hr1
  refine zxe hp1 hq1 he1 rfl (zc 0 (hc2.below h.below) rfl (zp1 rfl (zNSS ?_)))
  obtain ⟨KF1, hKF1, o2, hF, hK2⟩ := bindE hF
  refine qen (fun e w' => ∃ (b2 : Bool), KF1 b2 = some o1 ∧ e = [(0, .slice p1 list.length k1), (1, .slice p2 tag.length k2), (2, .int .i64 place), (7, .slice p4 x1.length k3), (8, .int .i64 i1), (9, .int .i64 y1), (44, .bool b2)] ∧ SH w w' [Ch.own S2 (x1 : List Int) [.slice p4 x1.length k3]]) ?_ ?_
  ·refine qy (zp3 rfl ?_)
   by_cases hc4 : (decide (y1 ≥ 0)) = true
   ·replace hF := bifT hc4 hF
    refine qD hc4 (t := 23) rfl (qa rfl (zp1 rfl (qa rfl (zp1 rfl (qa rfl (zp1 rfl (qa rfl ?_)))))))
    obtain ⟨y2, hy2, hF⟩ := qd hF
    have he2 := qg hy2
    obtain ⟨b3, o_2, q2, cs4, hp2, hq2, -, hr2, hc5⟩ := s1.at hy2
    obtain ⟨p9, k6, p10, k7, p11, k8, rfl, s3, s4, s5⟩ := qX hr2
    refine zxe hp2 hq2 he2 rfl (qa rfl (zp1 rfl (qa rfl (zc 3 (hc5.below h.below) rfl (qa rfl (zp1 rfl (qa rfl (zp3 rfl ?_))))))))
    by_cases hc6 : (decide (y1 < (y2.Through.length : Int))) = true
    ·replace hF := bifT hc6 hF
     refine qD hc6 (t := 33) rfl (qa rfl (zp1 rfl (qa rfl (zp1 rfl (qa rfl ?_)))))
     obtain ⟨y3, hy3, hF⟩ := qd hF
     have he3 := qg hy3
     obtain ⟨b4, o_3, q3, cs5, hp3, hq3, -, hr3, hc7⟩ := s1.at hy3
     obtain ⟨p12, k9, p13, k10, p14, k11, rfl, s6, s7, s8⟩ := qX hr3
     refine zxe hp3 hq3 he3 rfl (qa rfl (zp1 rfl (qa rfl (zc 3 (hc7.below h.below) rfl (qa rfl (zp1 rfl (qa rfl ?_)))))))
     obtain ⟨y4, hy4, hF⟩ := qd hF
     have he4 := qg hy4
     obtain ⟨b5, o_4, q4, cs6, hp4, hq4, -, hr4, hc8⟩ := s7.at hy4
     obtain rfl := hr4
     refine zxe hp4 hq4 he4 rfl (qa rfl (zc 0 (hc8.below h.below) rfl (qa rfl (zp1 rfl (qa rfl (zp2 rfl (qb ?_)))))))
     obtain rfl := qh hF
     exact qx [(0, _), (1, _), (2, _), (7, _), (8, _), (9, _), (44, _)] ⟨rfl, rfl, rfl, rfl, rfl, rfl, rfl, trivial⟩ ⟨_, hK2, rfl, h⟩
    replace hc6 := zb hc6
    replace hF := bifF hc6 hF
    refine qE hc6 (t := 33) rfl (zn5 rfl (zn5 rfl (zp1 rfl ?_)))
    refine qb ?_
    obtain rfl := qh hF
    exact qx [(0, _), (1, _), (2, _), (7, _), (8, _), (9, _), (44, _)] ⟨rfl, rfl, rfl, rfl, rfl, rfl, rfl, trivial⟩ ⟨_, hK2, rfl, h⟩
   replace hc4 := zb hc4
   replace hF := bifF hc4 hF
   refine qE hc4 (t := 23) rfl (zn5 rfl (zn3 rfl (zp2 rfl (zn1 rfl ?_))))
   refine zn5 rfl (zn4 rfl (zp1 rfl (qb ?_)))
   obtain rfl := qh hF
   exact qx [(0, _), (1, _), (2, _), (7, _), (8, _), (9, _), (44, _)] ⟨rfl, rfl, rfl, rfl, rfl, rfl, rfl, trivial⟩ ⟨_, hK2, rfl, h⟩
  rintro e2 w7 ⟨b2, hF, rfl, h⟩
  subst hKF1
  refine qr rfl hF ?_ ?_ <;> intro hF
  ·refine qy (zp3 rfl (qb (qy (zp2 rfl (qaB qc [.tmp 48] _ ([W64 (y1 + 1)] : List Int) h rfl rfl rfl rfl rfl rfl rfl rfl rfl ⟨rfl, trivial⟩ rfl ?_)))))
   intro w3 p5 S3 h
   obtain ⟨x2, hx1, hF⟩ := qd hF
   obtain ⟨g1, hx1⟩ := qa8 hx1
   refine qee qc 1 h rfl (h.sl 0 rfl).1 (h.sl 0 rfl).2 rfl rfl rfl rfl rfl rfl rfl rfl rfl g1 hx1 rfl ?_
   intro w4 p6 k4 S4 h
   refine zp1 rfl (zNER (zp3 rfl (qb ?_)))
   replace h := h.pick [1] rfl
   exact qA m1 [(0, _), (1, _), (2, _), (7, _), (8, _)] (Nat.lt_succ_self m1) ⟨rfl, rfl, rfl, rfl, rfl, trivial⟩ ⟨_, _, _, _, _, _, hF, rfl, h⟩
  refine qdH (qy (zp2 rfl (qaB qc [.tmp 48] _ ([y1] : List Int) h rfl rfl rfl rfl rfl rfl rfl rfl rfl ⟨rfl, trivial⟩ rfl ?_)))
  intro w5 p7 S5 h
  obtain ⟨x3, hx2, hF⟩ := qd hF
  obtain ⟨g2, hx2⟩ := qa8 hx2
  refine qee qc 1 h rfl (h.sl 0 rfl).1 (h.sl 0 rfl).2 rfl rfl rfl rfl rfl rfl rfl rfl rfl g2 hx2 rfl ?_
  intro w6 p8 k5 S6 h
  refine zp1 rfl (zNER (zp3 rfl (qb ?_)))
  replace h := h.pick [1] rfl
  exact qA m1 [(0, _), (1, _), (2, _), (7, _), (8, _)] (Nat.lt_succ_self m1) ⟨rfl, rfl, rfl, rfl, rfl, trivial⟩ ⟨_, _, _, _, _, _, hF, rfl, h⟩
 refine qH rfl ?_
 obtain rfl := qh hF; replace hF := hK1
 refine zSR (zp2 rfl (qb ?_))
 obtain rfl := qh hF
 exact qav qc (ρ := (List Int)) [GoT.v (List Int) [.slice p4 x1.length k3]] h ⟨rfl, trivial⟩ (PV.done h (qaG (qab 0 h rfl)))

def qby (list : (List qf)) (place : Int) : Nat → (List Int) → Int → Option ((List Int) × Int)
 | 0, _, _ => none
 | n + 1, x1, i1 =>
  bif decide (i1 < (list.length : Int)) then
   (
    (idx list i1).bind fun y1 =>
    bif decide ((y1.From.length : Int) > 0) then
     (idx list i1).bind fun y2 =>
     (qhO n y2.From place).bind fun r1 =>
     some (decide (r1 < 0))
    else
     some false).bind fun b1 =>
   bif b1 then
    (appS x1 ([(-1)] : List Int)).bind fun x2 =>
    qby list place n x2 (W64 (i1 + 1))
   else
    (appS x1 ([0] : List Int)).bind fun x3 =>
    qby list place n x3 (W64 (i1 + 1))
  else
   some (x1, i1)

def qgh (n : Nat) (list : (List qf)) (place : Int) : Option (List Int) :=
 (qby list place n ([] : List Int) 0).bind fun o => match o with
 | (x1, _) =>
  (qgQ n list x1 place).bind fun r2 =>
  some r2

theorem qkY {n : Nat} {w : World} {list : (List qf)} {place : Int} {cs1 : List Value} (ha1 : GoT.R w (old w) list cs1) {r : (List Int)} (hF : qgh n list place = some r) : RetV Tryz.prog 60 [GoT.v (List qf) cs1, .int .i64 place] w r := by
 obtain ⟨p1, k1, rfl, s1⟩ := ha1
 refine qe Tryz.func60 rfl (m := 40) rfl rfl (fun h => ?_)
 rw [qgh] at hF
 refine zSR (zp1 rfl (zNSR (qaB qc [] _ ([] : List Int) h rfl rfl rfl rfl rfl rfl rfl rfl rfl trivial rfl ?_)))
 intro w1 p2 S1 h
 refine zp1 rfl (zNSSR (zp1 rfl (qb ?_)))
 obtain ⟨o1, hF, hK1⟩ := qd hF
 refine qv (qR [(0, _), (1, _), (5, _), (6, _)] ⟨rfl, rfl, rfl, rfl, trivial⟩ ?_)
 refine qI (fun m e w' => ∃ (S2 : Nat → Prop) (p3 : Option Addr) (ln1 : Nat) (k2 : Nat) (x1 : (List Int)) (i1 : Int), qby list place m x1 i1 = some o1 ∧ e = [(0, .slice p1 list.length k1), (1, .int .i64 place), (5, .slice p3 ln1 k2), (6, .int .i64 i1)] ∧ SH w w' [Ch.own S2 (x1 : List Int) [.slice p3 ln1 k2]]) n ⟨_, _, _, _, _, _, hF, rfl, h⟩ ?_
 rintro m1 e1 w2 ⟨S2, p3, ln1, k2, x1, i1, hF, rfl, h⟩
 obtain rfl := (h.sl 0 rfl).2
 rcases m1 with _ | m1
 ·rw [qby] at hF
  cases hF
 rw [qby] at hF
 refine zSSR (zp4 rfl (qb ?_))
 refine qr rfl hF ?_ ?_ <;> intro hF
 ·refine zKSBSR (zp1 rfl (zNSS ?_))
  obtain ⟨KF1, hKF1, o2, hF, hK2⟩ := bindE hF
  refine qen (fun e w' => ∃ (b1 : Bool), KF1 b1 = some o1 ∧ e = [(0, .slice p1 list.length k1), (1, .int .i64 place), (5, .slice p3 x1.length k2), (6, .int .i64 i1), (7, .int .i64 0), (31, .bool b1)] ∧ SH w w' [Ch.own S2 (x1 : List Int) [.slice p3 x1.length k2]]) ?_ ?_
  ·refine qy (zp2 rfl ?_)
   obtain ⟨y1, hy1, hF⟩ := qd hF
   have he1 := qg hy1
   obtain ⟨b2, o_1, q1, cs2, hp1, hq1, -, hr1, hc3⟩ := s1.at hy1
   obtain ⟨p8, k5, p9, k6, p10, k7, rfl, s2, s3, s4⟩ := qX hr1
   refine zxe hp1 hq1 he1 rfl (zp1 rfl (zc 2 (hc3.below h.below) rfl (zp3 rfl ?_)))
   by_cases hc4 : (decide ((y1.From.length : Int) > 0)) = true
   ·replace hF := bifT hc4 hF
    refine qD hc4 (t := 22) rfl (qa rfl (zp1 rfl (qa rfl (zp1 rfl (qa rfl ?_)))))
    obtain ⟨y2, hy2, hF⟩ := qd hF
    have he2 := qg hy2
    obtain ⟨b3, o_2, q2, cs3, hp2, hq2, -, hr2, hc5⟩ := s1.at hy2
    obtain ⟨p11, k8, p12, k9, p13, k10, rfl, s5, s6, s7⟩ := qX hr2
    refine zxe hp2 hq2 he2 rfl (qa rfl (zp1 rfl (qa rfl (zc 2 (hc5.below h.below) rfl (qa rfl (zp1 rfl (qa rfl ?_)))))))
    obtain ⟨r1, hr3, hF⟩ := qd hF
    refine qT r1 h call79 (qlZ ⟨_, _, rfl, (h.oldS s5)⟩ hr3) rfl rfl rfl rfl ?_
    intro w7 h
    refine qa rfl (zp2 rfl (qb ?_))
    obtain rfl := qh hF
    exact qx [(0, _), (1, _), (5, _), (6, _), (7, _), (31, _)] ⟨rfl, rfl, rfl, rfl, rfl, rfl, trivial⟩ ⟨_, hK2, rfl, h⟩
   replace hc4 := zb hc4
   replace hF := bifF hc4 hF
   refine qE hc4 (t := 22) rfl (zn5 rfl (zn3 rfl (zp1 rfl (qb ?_))))
   obtain rfl := qh hF
   exact qx [(0, _), (1, _), (5, _), (6, _), (7, _), (31, _)] ⟨rfl, rfl, rfl, rfl, rfl, rfl, trivial⟩ ⟨_, hK2, rfl, h⟩
  rintro e2 w8 ⟨b1, hF, rfl, h⟩
  subst hKF1
  refine qr rfl hF ?_ ?_ <;> intro hF
  ·refine qy (zp1 rfl (qb (qy (zp2 rfl (qaB qc [.tmp 33] _ ([(-1)] : List Int) h rfl rfl rfl rfl rfl rfl rfl rfl rfl ⟨rfl, trivial⟩ rfl ?_)))))
   intro w3 p4 S3 h
   obtain ⟨x2, hx1, hF⟩ := qd hF
   obtain ⟨g1, hx1⟩ := qa8 hx1
   refine qee qc 1 h rfl (h.sl 0 rfl).1 (h.sl 0 rfl).2 rfl rfl rfl rfl rfl rfl rfl rfl rfl g1 hx1 rfl ?_
   intro w4 p5 k3 S4 h
   refine zp1 rfl (zNER (zp3 rfl (qb ?_)))
   replace h := h.pick [1] rfl
   exact qA m1 [(0, _), (1, _), (5, _), (6, _)] (Nat.lt_succ_self m1) ⟨rfl, rfl, rfl, rfl, trivial⟩ ⟨_, _, _, _, _, _, hF, rfl, h⟩
  refine qdH (qy (zp2 rfl (qaB qc [.tmp 33] _ ([0] : List Int) h rfl rfl rfl rfl rfl rfl rfl rfl rfl ⟨rfl, trivial⟩ rfl ?_)))
  intro w5 p6 S5 h
  obtain ⟨x3, hx2, hF⟩ := qd hF
  obtain ⟨g2, hx2⟩ := qa8 hx2
  refine qee qc 1 h rfl (h.sl 0 rfl).1 (h.sl 0 rfl).2 rfl rfl rfl rfl rfl rfl rfl rfl rfl g2 hx2 rfl ?_
  intro w6 p7 k4 S6 h
  refine zp1 rfl (zNER (zp3 rfl (qb ?_)))
  replace h := h.pick [1] rfl
  exact qA m1 [(0, _), (1, _), (5, _), (6, _)] (Nat.lt_succ_self m1) ⟨rfl, rfl, rfl, rfl, trivial⟩ ⟨_, _, _, _, _, _, hF, rfl, h⟩
 refine qH rfl ?_
 obtain rfl := qh hF; replace hF := hK1
 refine zSR (zp3 rfl ?_)
 obtain ⟨r2, hr4, hF⟩ := qd hF
 refine qat r2 h call55 (qlx ⟨_, _, rfl, (h.oldS s1)⟩ (h.own 0 rfl) hr4) rfl rfl rfl rfl ?_
 intro w9 S7 p14 k11 h
 refine zp1 rfl (qb ?_)
 obtain rfl := qh hF
 exact qav qc (ρ := (List Int)) [GoT.v (List Int) [.slice p14 r2.length k11]] h ⟨rfl, trivial⟩ (PV.done h (qaG (qab 0 h rfl)))

def qbt (a : (List Int)) : Nat → (List Int) → Int → Int → Option ((List Int) × Int × Int)
 | 0, _, _, _ => none
 | n + 1, x1, i1, i2 =>
  bif decide (i2 < (a.length : Int)) then
   (idx x1 i2).bind fun _ =>
   qbt a n (setS x1 i2 i1) (W64 (i1 + 1)) (W64 (i2 + 1))
  else
   some (x1, i1, i2)

def qal (n : Nat) (a : (List Int)) (k : Int) : Option (Int × (List Int)) :=
 (qbt a n a k 0).bind fun o => match o with
 | (x1, i1, _) =>
  some (i1, x1)

theorem qao {n : Nat} {w0 w : World} {F : List Ch} {a : (List Int)} {k : Int} {S1 : Nat → Prop} {p1 : Option Addr} {ln1 k1 : Nat} (h : SH w0 w (Ch.own S1 (a : List Int) [.slice p1 ln1 k1] :: F)) {r : (Int × (List Int))} (hF : qal n a k = some r) : RetN Tryz.prog 24 [.slice p1 ln1 k1, .int .i64 k] w (fun w' => ∃ Z0 : Nat → Prop, SH w0 w' (Ch.own Z0 (r.2 : List Int) [.slice p1 ln1 k1] :: F)) r.1 := by
 refine qcx Tryz.func24 rfl (m := 19) rfl rfl ?_
 rw [qal] at hF
 obtain rfl := (h.sl 0 rfl).2
 refine zSR (zp1 rfl (zNSSR (zp1 rfl (qb ?_))))
 obtain ⟨o1, hF, hK1⟩ := qd hF
 refine qv (qR [(0, _), (1, _), (5, _)] ⟨rfl, rfl, rfl, trivial⟩ ?_)
 refine qI (fun m e w' => ∃ (x1 : (List Int)) (i1 : Int) (i2 : Int), qbt a m x1 i1 i2 = some o1 ∧ e = [(0, .slice p1 a.length k1), (1, .int .i64 i1), (5, .int .i64 i2)] ∧ SH w0 w' (Ch.own S1 (x1 : List Int) [.slice p1 a.length k1] :: F)) n ⟨_, _, _, hF, rfl, h⟩ ?_
 rintro m1 e1 w1 ⟨x1, i1, i2, hF, rfl, h⟩
 rcases m1 with _ | m1
 ·rw [qbt] at hF
  cases hF
 rw [qbt] at hF
 refine zSSR (zp4 rfl (qb ?_))
 refine qr rfl hF ?_ ?_ <;> intro hF
 ·refine zKSBSR (zp3 rfl ?_)
  obtain ⟨y1, hy1, hF⟩ := qd hF
  have he1 := qg hy1
  obtain ⟨b1, o_1, q1, cs1, hp1, hq1, -, hr1, hc2⟩ := (h.sl 0 rfl).1.at hy1
  obtain rfl := hr1
  refine zx hp1 hq1 ⟨he1.1, qae he1.2.1 (h.sl 0 rfl).2⟩ rfl (qcS qc 0 0 i1 h rfl hy1 hp1 hq1 rfl hc2 rfl rfl rfl rfl rfl rfl rfl ?_)
  intro w2 h
  refine qb (qy (zp3 rfl (zNER (zp3 rfl (qb ?_)))))
  exact qA m1 [(0, _), (1, _), (5, _)] (Nat.lt_succ_self m1) ⟨rfl, rfl, rfl, trivial⟩ ⟨_, _, _, hF, rfl, h⟩
 refine qH rfl ?_
 obtain rfl := qh hF; replace hF := hK1
 refine zSR (zp2 rfl (qb ?_))
 obtain rfl := qh hF
 exact qhv qc ⟨_, h⟩ ⟨rfl, trivial⟩

def qdl : Nat → Int → ByteArray → Option (Int × ByteArray)
 | 0, _, _ => none
 | n + 1, i1, z1 =>
  bif decide (i1 > 0) then
   (catB (strOf ([(⟨IntKind.wrap .u8 (W64 (48 + (i1.tmod 10)))⟩ : IntK .u8)] : List (IntK .u8))) z1).bind fun z2 =>
   qdl n (W64 (i1.tdiv 10)) z2
  else
   some (i1, z1)

def qdp (n : Nat) (k : Int) : Option ByteArray :=
 bif decide (k ≤ 0) then
  some (⟨#[109, 48]⟩ : ByteArray)
 else
  (qdl n k (⟨#[]⟩ : ByteArray)).bind fun o => match o with
  | (_, z1) =>
   (catB (⟨#[109]⟩ : ByteArray) z1).bind fun z3 =>
   some z3

theorem qeW {n : Nat} {w : World} {k : Int}  {r : ByteArray} (hF : qdp n k = some r) : RetV Tryz.prog 133 [.int .i64 k] w r := by
 refine qe Tryz.func133 rfl (m := 20) rfl rfl (fun h => ?_)
 rw [qdp] at hF
 refine zSR (zp1 rfl (zNSSR (zp2 rfl (qb ?_))))
 refine qr rfl hF ?_ ?_ <;> intro hF
 ·refine zSR (zp1 rfl (qb ?_))
  obtain rfl := qh hF
  exact qav qc (ρ := ByteArray) [_] h ⟨rfl, trivial⟩ (qot _ _)
 refine zKSR (zp1 rfl (zNS ?_))
 obtain ⟨o1, hF, hK1⟩ := qd hF
 refine qv (qR [(0, _), (3, _)] ⟨rfl, rfl, trivial⟩ ?_)
 refine qI (fun m e w' => ∃ (i1 : Int) (z1 : ByteArray), qdl m i1 z1 = some o1 ∧ e = [(0, .int .i64 i1), (3, .string z1)] ∧ SH w w' []) n ⟨_, _, hF, rfl, h⟩ ?_
 rintro m1 e1 w1 ⟨i1, z1, hF, rfl, h⟩
 rcases m1 with _ | m1
 ·rw [qdl] at hF
  cases hF
 rw [qdl] at hF
 refine zSSR (zp2 rfl (qb ?_))
 refine qr rfl hF ?_ ?_ <;> intro hF
 ·refine zKB (zSR (zp4 rfl (qaB qc [.tmp 11] _ ([(⟨IntKind.wrap .u8 (W64 (48 + (i1.tmod 10)))⟩ : IntK .u8)] : List (IntK .u8)) h rfl rfl rfl rfl rfl rfl rfl rfl rfl ⟨rfl, trivial⟩ rfl ?_)))
  intro w2 p1 S1 h
  refine r_v (qrs qc (h.sl 0 rfl).1 (h.sl 0 rfl).2 rfl ⟨rfl, rfl⟩ ⟨rfl, rfl⟩ rfl rfl) rfl (zp1 rfl ?_)
  obtain ⟨z2, hx1, hF⟩ := qd hF
  obtain ⟨g1, hx1⟩ := qm6 hx1
  refine r_v (qrz g1 rfl rfl) rfl ?_
  rw [hx1]
  refine zp1 rfl (qb (qy (zp3 rfl (zNE ?_))))
  replace h := h.pick [] rfl
  exact qA m1 [(0, _), (3, _)] (Nat.lt_succ_self m1) ⟨rfl, rfl, trivial⟩ ⟨_, _, hF, rfl, h⟩
 refine qH rfl ?_
 obtain rfl := qh hF; replace hF := hK1
 refine zSR (zp1 rfl ?_)
 obtain ⟨z3, hx2, hF⟩ := qd hF
 obtain ⟨g2, hx2⟩ := qm6 hx2
 refine r_v (qrz g2 rfl rfl) rfl ?_
 rw [hx2]
 refine zp1 rfl (qb ?_)
 obtain rfl := qh hF
 exact qav qc (ρ := ByteArray) [_] h ⟨rfl, trivial⟩ (qot _ _)

def qcE (a : (List qaf)) : Nat → (List qaf) → Int → Int → Option ((List qaf) × Int × Int)
 | 0, _, _, _ => none
 | n + 1, x1, i1, i2 =>
  bif decide (i2 < (a.length : Int)) then
   (qdp n i1).bind fun r1 =>
   (idx x1 i2).bind fun y1 =>
   (idx (setS x1 i2 ({ y1 with Name := r1 })) i2).bind fun y2 =>
   (idx (setS (setS x1 i2 ({ y1 with Name := r1 })) i2 ({ y2 with Dir := W64 (i1 + 1) })) i2).bind fun y3 =>
   (idx (setS (setS (setS x1 i2 ({ y1 with Name := r1 })) i2 ({ y2 with Dir := W64 (i1 + 1) })) i2 ({ y3 with Cap := W64 ((W64 (i1 + 1)) + 1) })) i2).bind fun y4 =>
   qcE a n (setS (setS (setS (setS x1 i2 ({ y1 with Name := r1 })) i2 ({ y2 with Dir := W64 (i1 + 1) })) i2 ({ y3 with Cap := W64 ((W64 (i1 + 1)) + 1) })) i2 ({ y4 with Clock := (((W64 ((W64 ((W64 (i1 + 1)) + 1)) + 1)).tmod 3) == 0) })) (W64 ((W64 ((W64 ((W64 (i1 + 1)) + 1)) + 1)) + 1)) (W64 (i2 + 1))
  else
   some (x1, i1, i2)

def qhB (n : Nat) (a : (List qaf)) (k : Int) : Option (Int × (List qaf)) :=
 (qcE a n a k 0).bind fun o => match o with
 | (x1, i1, _) =>
  some (i1, x1)

theorem qkz {n : Nat} {w0 w : World} {F : List Ch} {a : (List qaf)} {k : Int} {S1 : Nat → Prop} {p1 : Option Addr} {ln1 k1 : Nat} (h : SH w0 w (Ch.own S1 (a : List qaf) [.slice p1 ln1 k1] :: F)) {r : (Int × (List qaf))} (hF : qhB n a k = some r) : RetN Tryz.prog 134 [.slice p1 ln1 k1, .int .i64 k] w (fun w' => ∃ Z0 : Nat → Prop, SH w0 w' (Ch.own Z0 (r.2 : List qaf) [.slice p1 ln1 k1] :: F)) r.1 := by
 refine qcx Tryz.func134 rfl (m := 44) rfl rfl ?_
 rw [qhB] at hF
 obtain rfl := (h.sl 0 rfl).2
 refine zSR (zp1 rfl (zNSSR (zp1 rfl (qb ?_))))
 obtain ⟨o1, hF, hK1⟩ := qd hF
 refine qv (qR [(0, _), (1, _), (5, _)] ⟨rfl, rfl, rfl, trivial⟩ ?_)
 refine qI (fun m e w' => ∃ (x1 : (List qaf)) (i1 : Int) (i2 : Int), qcE a m x1 i1 i2 = some o1 ∧ e = [(0, .slice p1 a.length k1), (1, .int .i64 i1), (5, .int .i64 i2)] ∧ SH w0 w' (Ch.own S1 (x1 : List qaf) [.slice p1 a.length k1] :: F)) n ⟨_, _, _, hF, rfl, h⟩ ?_
 rintro m1 e1 w1 ⟨x1, i1, i2, hF, rfl, h⟩
 rcases m1 with _ | m1
 ·rw [qcE] at hF
  cases hF
 rw [qcE] at hF
 refine zSSR (zp4 rfl (qb ?_))
 refine qr rfl hF ?_ ?_ <;> intro hF
 ·refine zKSBSR (zp3 rfl ?_)
  obtain ⟨r1, hr1, hF⟩ := qd hF
  refine qjL r1 h call133 (qeW hr1) rfl rfl rfl rfl ?_
  intro w2 h
  obtain ⟨y1, hy1, hF⟩ := qd hF
  have he1 := qg hy1
  obtain ⟨b1, o_1, q1, cs1, hp1, hq1, -, hr2, hc2⟩ := (h.sl 0 rfl).1.at hy1
  obtain rfl := qa7 hr2
  refine zx hp1 hq1 ⟨he1.1, qae he1.2.1 (h.sl 0 rfl).2⟩ rfl (zp1 rfl (qcS qc 0 0 ({ y1 with Name := r1 }) h rfl hy1 hp1 hq1 (qdQ y1) hc2 rfl rfl rfl (qdQ ({ y1 with Name := r1 })) rfl rfl rfl ?_))
  intro w3 h
  refine zNSR (zp3 rfl (zNSR (zp3 rfl ?_)))
  obtain ⟨y2, hy2, hF⟩ := qd hF
  have he2 := qg hy2
  obtain ⟨b2, o_2, q2, cs2, hp2, hq2, -, hr3, hc3⟩ := (h.sl 0 rfl).1.at hy2
  obtain rfl := qa7 hr3
  refine zx hp2 hq2 ⟨he2.1, qae he2.2.1 (h.sl 0 rfl).2⟩ rfl (zp1 rfl (qcS qc 0 1 ({ y2 with Dir := W64 (i1 + 1) }) h rfl hy2 hp2 hq2 (qdQ y2) hc3 rfl rfl rfl (qdQ ({ y2 with Dir := W64 (i1 + 1) })) rfl rfl rfl ?_))
  intro w4 h
  refine zNSR (zp3 rfl (zNSR (zp3 rfl ?_)))
  obtain ⟨y3, hy3, hF⟩ := qd hF
  have he3 := qg hy3
  obtain ⟨b3, o_3, q3, cs3, hp3, hq3, -, hr4, hc4⟩ := (h.sl 0 rfl).1.at hy3
  obtain rfl := qa7 hr4
  refine zx hp3 hq3 ⟨he3.1, qae he3.2.1 (h.sl 0 rfl).2⟩ rfl (zp1 rfl (qcS qc 0 2 ({ y3 with Cap := W64 ((W64 (i1 + 1)) + 1) }) h rfl hy3 hp3 hq3 (qdQ y3) hc4 rfl rfl rfl (qdQ ({ y3 with Cap := W64 ((W64 (i1 + 1)) + 1) })) rfl rfl rfl ?_))
  intro w5 h
  refine zNSR (zp3 rfl (zNSR (zp3 rfl ?_)))
  refine zp2 rfl ?_
  obtain ⟨y4, hy4, hF⟩ := qd hF
  have he4 := qg hy4
  obtain ⟨b4, o_4, q4, cs4, hp4, hq4, -, hr5, hc5⟩ := (h.sl 0 rfl).1.at hy4
  obtain rfl := qa7 hr5
  refine zx hp4 hq4 ⟨he4.1, qae he4.2.1 (h.sl 0 rfl).2⟩ rfl (zp1 rfl (qcS qc 0 3 ({ y4 with Clock := (((W64 ((W64 ((W64 (i1 + 1)) + 1)) + 1)).tmod 3) == 0) }) h rfl hy4 hp4 hq4 (qdQ y4) hc5 rfl rfl rfl (qdQ ({ y4 with Clock := (((W64 ((W64 ((W64 (i1 + 1)) + 1)) + 1)).tmod 3) == 0) })) rfl rfl rfl ?_))
  intro w6 h
  refine qb (qy (zp3 rfl (zNER (zp3 rfl (qb ?_)))))
  exact qA m1 [(0, _), (1, _), (5, _)] (Nat.lt_succ_self m1) ⟨rfl, rfl, rfl, trivial⟩ ⟨_, _, _, hF, rfl, h⟩
 refine qH rfl ?_
 obtain rfl := qh hF; replace hF := hK1
 refine zSR (zp2 rfl (qb ?_))
 obtain rfl := qh hF
 exact qhv qc ⟨_, h⟩ ⟨rfl, trivial⟩

def qbX (a : (List qC)) : Nat → (List qC) → Int → Int → Option ((List qC) × Int × Int)
 | 0, _, _, _ => none
 | n + 1, x1, i1, i2 =>
  bif decide (i2 < (a.length : Int)) then
   (idx x1 i2).bind fun y1 =>
   (qal n y1.Slews i1).bind fun o => match o with
    | (r1, x2) =>
     (qal n y1.Loads r1).bind fun o => match o with
      | (r2, x3) =>
       (qal n y1.Values r2).bind fun o => match o with
        | (r3, x4) =>
         qbX a n (setS x1 i2 (⟨x2, x3, x4⟩ : qC)) r3 (W64 (i2 + 1))
  else
   some (x1, i1, i2)

def qfp (n : Nat) (a : (List qC)) (k : Int) : Option (Int × (List qC)) :=
 (qbX a n a k 0).bind fun o => match o with
 | (x1, i1, _) =>
  some (i1, x1)

theorem qhW {n : Nat} {w0 w : World} {F : List Ch} {a : (List qC)} {k : Int} {S1 : Nat → Prop} {p1 : Option Addr} {ln1 k1 : Nat} (h : SH w0 w (Ch.own S1 (a : List qC) [.slice p1 ln1 k1] :: F)) {r : (Int × (List qC))} (hF : qfp n a k = some r) : RetN Tryz.prog 175 [.slice p1 ln1 k1, .int .i64 k] w (fun w' => ∃ Z0 : Nat → Prop, SH w0 w' (Ch.own Z0 (r.2 : List qC) [.slice p1 ln1 k1] :: F)) r.1 := by
 refine qcx Tryz.func175 rfl (m := 34) rfl rfl ?_
 rw [qfp] at hF
 obtain rfl := (h.sl 0 rfl).2
 refine zSR (zp1 rfl (zNSSR (zp1 rfl (qb ?_))))
 obtain ⟨o1, hF, hK1⟩ := qd hF
 refine qv (qR [(0, _), (1, _), (5, _)] ⟨rfl, rfl, rfl, trivial⟩ ?_)
 refine qI (fun m e w' => ∃ (S2 : Nat → Prop) (x1 : (List qC)) (i1 : Int) (i2 : Int), qbX a m x1 i1 i2 = some o1 ∧ e = [(0, .slice p1 a.length k1), (1, .int .i64 i1), (5, .int .i64 i2)] ∧ SH w0 w' (Ch.own S2 (x1 : List qC) [.slice p1 a.length k1] :: F)) n ⟨_, _, _, _, hF, rfl, h⟩ ?_
 rintro m1 e1 w1 ⟨S2, x1, i1, i2, hF, rfl, h⟩
 rcases m1 with _ | m1
 ·rw [qbX] at hF
  cases hF
 rw [qbX] at hF
 refine zSSR (zp4 rfl (qb ?_))
 refine qr rfl hF ?_ ?_ <;> intro hF
 ·refine zKSBSR (zp2 rfl ?_)
  obtain ⟨y1, hy1, hF⟩ := qd hF
  have he1 := qg hy1
  obtain ⟨S3, S4, cs1, h⟩ := h.take hy1
  obtain ⟨p2, k2, p3, k3, p4, k4, rfl, -, -, -⟩ := qbs (h.own 0 rfl)
  obtain ⟨S5, S6, S7, h⟩ := qnt h
  obtain ⟨b1, hp1, -, -, hl2⟩ := h.holeAt 3 rfl
  obtain ⟨q1, hq1⟩ : ∃ q, q = 0 + (i2).toNat * GoT.k qC := ⟨_, rfl⟩
  refine zx hp1 hq1 ⟨he1.1, qae he1.2.1 hl2⟩ rfl (zp1 rfl (zc 0 (qbR h 3 rfl hp1 hq1) rfl (zp1 rfl ?_)))
  replace h := h.pickT 4 [2, 0, 1, 3] rfl
  obtain ⟨o2, hr1, hF⟩ := qd hF
  obtain ⟨r1, x2⟩ := o2
  refine qch r1 call24 (qao h hr1) rfl rfl rfl rfl ?_
  rintro w2 ⟨S8, h⟩
  refine zp1 rfl (zNSR (zp2 rfl ?_))
  obtain ⟨b2, hp2, -, -, hl4⟩ := h.holeAt 3 rfl
  obtain ⟨q2, hq2⟩ : ∃ q, q = 0 + (i2).toNat * GoT.k qC := ⟨_, rfl⟩
  refine zx hp2 hq2 ⟨he1.1, qae he1.2.1 hl4⟩ rfl (zp1 rfl (zc 1 (qbR h 3 rfl hp2 hq2) rfl (zp1 rfl ?_)))
  replace h := h.pickT 4 [2, 0, 1, 3] rfl
  obtain ⟨o3, hr2, hF⟩ := qd hF
  obtain ⟨r2, x3⟩ := o3
  refine qch r2 call24 (qao h hr2) rfl rfl rfl rfl ?_
  rintro w3 ⟨S9, h⟩
  refine zp1 rfl (qb (qy (zp2 rfl ?_)))
  obtain ⟨b3, hp3, -, -, hl6⟩ := h.holeAt 3 rfl
  obtain ⟨q3, hq3⟩ : ∃ q, q = 0 + (i2).toNat * GoT.k qC := ⟨_, rfl⟩
  refine zx hp3 hq3 ⟨he1.1, qae he1.2.1 hl6⟩ rfl (zp1 rfl (zc 2 (qbR h 3 rfl hp3 hq3) rfl (zp1 rfl ?_)))
  replace h := h.pickT 4 [2, 0, 1, 3] rfl
  obtain ⟨o4, hr3, hF⟩ := qd hF
  obtain ⟨r3, x4⟩ := o4
  refine qch r3 call24 (qao h hr3) rfl rfl rfl rfl ?_
  rintro w4 ⟨S10, h⟩
  refine zp1 rfl (zNER (zp3 rfl (qb ?_)))
  obtain ⟨S11, h⟩ := h.gatherT 4 [3] (qmT (⟨x2, x3, x4⟩ : qC) h (qab 2 h rfl) (qab 1 h rfl) (qab 0 h rfl) (by rfl) (by rfl)) rfl
  replace h := h.put
  obtain ⟨S12, h⟩ := qko (S := _) h
  exact qA m1 [(0, _), (1, _), (5, _)] (Nat.lt_succ_self m1) ⟨rfl, rfl, rfl, trivial⟩ ⟨_, _, _, _, hF, rfl, h⟩
 refine qH rfl ?_
 obtain rfl := qh hF; replace hF := hK1
 refine zSR (zp2 rfl (qb ?_))
 obtain rfl := qh hF
 exact qhv qc ⟨_, h⟩ ⟨rfl, trivial⟩

def qcC (a : (List qY)) : Nat → (List qY) → Int → Int → Option ((List qY) × Int × Int)
 | 0, _, _, _ => none
 | n + 1, x1, i1, i2 =>
  bif decide (i2 < (a.length : Int)) then
   (idx x1 i2).bind fun y1 =>
   (qfp n y1.Delay (W64 ((W64 ((W64 ((W64 (i1 + 1)) + 1)) + 1)) + 1))).bind fun o => match o with
    | (r1, x2) =>
     (qfp n y1.Slew r1).bind fun o => match o with
      | (r2, x3) =>
       qcC a n (setS x1 i2 (⟨i1, W64 (i1 + 1), W64 ((W64 (i1 + 1)) + 1), W64 ((W64 ((W64 (i1 + 1)) + 1)) + 1), x2, x3⟩ : qY)) r2 (W64 (i2 + 1))
  else
   some (x1, i1, i2)

def qhx (n : Nat) (a : (List qY)) (k : Int) : Option (Int × (List qY)) :=
 (qcC a n a k 0).bind fun o => match o with
 | (x1, i1, _) =>
  some (i1, x1)

theorem qkA {n : Nat} {w0 w : World} {F : List Ch} {a : (List qY)} {k : Int} {S1 : Nat → Prop} {p1 : Option Addr} {ln1 k1 : Nat} (h : SH w0 w (Ch.own S1 (a : List qY) [.slice p1 ln1 k1] :: F)) {r : (Int × (List qY))} (hF : qhx n a k = some r) : RetN Tryz.prog 135 [.slice p1 ln1 k1, .int .i64 k] w (fun w' => ∃ Z0 : Nat → Prop, SH w0 w' (Ch.own Z0 (r.2 : List qY) [.slice p1 ln1 k1] :: F)) r.1 := by
 refine qcx Tryz.func135 rfl (m := 55) rfl rfl ?_
 rw [qhx] at hF
 obtain rfl := (h.sl 0 rfl).2
 refine zSR (zp1 rfl (zNSSR (zp1 rfl (qb ?_))))
 obtain ⟨o1, hF, hK1⟩ := qd hF
 refine qv (qR [(0, _), (1, _), (5, _)] ⟨rfl, rfl, rfl, trivial⟩ ?_)
 refine qI (fun m e w' => ∃ (S2 : Nat → Prop) (x1 : (List qY)) (i1 : Int) (i2 : Int), qcC a m x1 i1 i2 = some o1 ∧ e = [(0, .slice p1 a.length k1), (1, .int .i64 i1), (5, .int .i64 i2)] ∧ SH w0 w' (Ch.own S2 (x1 : List qY) [.slice p1 a.length k1] :: F)) n ⟨_, _, _, _, hF, rfl, h⟩ ?_
 rintro m1 e1 w1 ⟨S2, x1, i1, i2, hF, rfl, h⟩
 rcases m1 with _ | m1
 ·rw [qcC] at hF
  cases hF
 rw [qcC] at hF
 refine zSSR (zp4 rfl (qb ?_))
 refine qr rfl hF ?_ ?_ <;> intro hF
 ·refine zKSBSR (zp3 rfl ?_)
  obtain ⟨y1, hy1, hF⟩ := qd hF
  have he1 := qg hy1
  obtain ⟨S3, S4, cs1, h⟩ := h.take hy1
  obtain ⟨p2, k2, p3, k3, rfl, -, -⟩ := qaQ (h.own 0 rfl)
  obtain ⟨S5, S6, h⟩ := qoV h
  obtain ⟨b1, hp1, -, -, hl2⟩ := h.holeAt 2 rfl
  obtain ⟨q1, hq1⟩ : ∃ q, q = 0 + (i2).toNat * GoT.k qY := ⟨_, rfl⟩
  refine zx hp1 hq1 ⟨he1.1, qae he1.2.1 hl2⟩ rfl (zp1 rfl (qeZ qc 2 0 h rfl hp1 hq1 rfl rfl rfl rfl rfl rfl ?_))
  intro w2 h
  refine zNSR (zp3 rfl (zNSR (zp3 rfl ?_)))
  obtain ⟨b2, hp2, -, -, hl4⟩ := h.holeAt 2 rfl
  obtain ⟨q2, hq2⟩ : ∃ q, q = 0 + (i2).toNat * GoT.k qY := ⟨_, rfl⟩
  refine zx hp2 hq2 ⟨he1.1, qae he1.2.1 hl4⟩ rfl (zp1 rfl (qeZ qc 2 1 h rfl hp2 hq2 rfl rfl rfl rfl rfl rfl ?_))
  intro w3 h
  replace h : SH _ _ (Ch.own S6 (y1.Slew : List qC) [.slice p3 y1.Slew.length k3] :: Ch.own S5 (y1.Delay : List qC) [.slice p2 y1.Delay.length k2] :: Ch.hole S4 (x1 : List qY) p1 a.length k1 (i2).toNat [.int .i64 i1, .int .i64 (W64 (i1 + 1)), .int .i64 y1.To, .int .i64 y1.Sense, .slice p2 y1.Delay.length k2, .slice p3 y1.Slew.length k3] :: F) := h
  refine zNSR (zp3 rfl (zNSR (zp3 rfl ?_)))
  obtain ⟨b3, hp3, -, -, hl6⟩ := h.holeAt 2 rfl
  obtain ⟨q3, hq3⟩ : ∃ q, q = 0 + (i2).toNat * GoT.k qY := ⟨_, rfl⟩
  refine zx hp3 hq3 ⟨he1.1, qae he1.2.1 hl6⟩ rfl (zp1 rfl (qeZ qc 2 2 h rfl hp3 hq3 rfl rfl rfl rfl rfl rfl ?_))
  intro w4 h
  refine zNSR (zp3 rfl (zNSR (zp3 rfl ?_)))
  obtain ⟨b4, hp4, -, -, hl8⟩ := h.holeAt 2 rfl
  obtain ⟨q4, hq4⟩ : ∃ q, q = 0 + (i2).toNat * GoT.k qY := ⟨_, rfl⟩
  refine zx hp4 hq4 ⟨he1.1, qae he1.2.1 hl8⟩ rfl (zp1 rfl (qeZ qc 2 3 h rfl hp4 hq4 rfl rfl rfl rfl rfl rfl ?_))
  intro w5 h
  replace h : SH _ _ (Ch.own S6 (y1.Slew : List qC) [.slice p3 y1.Slew.length k3] :: Ch.own S5 (y1.Delay : List qC) [.slice p2 y1.Delay.length k2] :: Ch.hole S4 (x1 : List qY) p1 a.length k1 (i2).toNat [.int .i64 i1, .int .i64 (W64 (i1 + 1)), .int .i64 (W64 ((W64 (i1 + 1)) + 1)), .int .i64 (W64 ((W64 ((W64 (i1 + 1)) + 1)) + 1)), .slice p2 y1.Delay.length k2, .slice p3 y1.Slew.length k3] :: F) := h
  refine zNSR (zp3 rfl (zNSR (zp2 rfl ?_)))
  obtain ⟨b5, hp5, -, -, hl10⟩ := h.holeAt 2 rfl
  obtain ⟨q5, hq5⟩ : ∃ q, q = 0 + (i2).toNat * GoT.k qY := ⟨_, rfl⟩
  refine zx hp5 hq5 ⟨he1.1, qae he1.2.1 hl10⟩ rfl (zp1 rfl (zc 4 (qbR h 2 rfl hp5 hq5) rfl (zp1 rfl ?_)))
  replace h := h.pickT 3 [1, 0, 2] rfl
  obtain ⟨o2, hr1, hF⟩ := qd hF
  obtain ⟨r1, x2⟩ := o2
  refine qch r1 call175 (qhW h hr1) rfl rfl rfl rfl ?_
  rintro w6 ⟨S7, h⟩
  refine zp1 rfl (qb (qy (zp2 rfl ?_)))
  obtain ⟨b6, hp6, -, -, hl12⟩ := h.holeAt 2 rfl
  obtain ⟨q6, hq6⟩ : ∃ q, q = 0 + (i2).toNat * GoT.k qY := ⟨_, rfl⟩
  refine zx hp6 hq6 ⟨he1.1, qae he1.2.1 hl12⟩ rfl (zp1 rfl (zc 5 (qbR h 2 rfl hp6 hq6) rfl (zp1 rfl ?_)))
  replace h := h.pickT 3 [1, 0, 2] rfl
  obtain ⟨o3, hr2, hF⟩ := qd hF
  obtain ⟨r2, x3⟩ := o3
  refine qch r2 call175 (qhW h hr2) rfl rfl rfl rfl ?_
  rintro w7 ⟨S8, h⟩
  refine zp1 rfl (zNER (zp3 rfl (qb ?_)))
  obtain ⟨S9, h⟩ := h.gatherT 3 [2] (qpf (⟨i1, W64 (i1 + 1), W64 ((W64 (i1 + 1)) + 1), W64 ((W64 ((W64 (i1 + 1)) + 1)) + 1), x2, x3⟩ : qY) h (qax (S := fun _ => False) rfl) (qax (S := fun _ => False) rfl) (qax (S := fun _ => False) rfl) (qax (S := fun _ => False) rfl) (qab 1 h rfl) (qab 0 h rfl) (by rfl) (by rfl) (by rfl) (by rfl) (by rfl)) rfl
  replace h := h.put
  obtain ⟨S10, h⟩ := qko (S := _) h
  exact qA m1 [(0, _), (1, _), (5, _)] (Nat.lt_succ_self m1) ⟨rfl, rfl, rfl, trivial⟩ ⟨_, _, _, _, hF, rfl, h⟩
 refine qH rfl ?_
 obtain rfl := qh hF; replace hF := hK1
 refine zSR (zp2 rfl (qb ?_))
 obtain rfl := qh hF
 exact qhv qc ⟨_, h⟩ ⟨rfl, trivial⟩

def qck (a : (List qB)) : Nat → (List qB) → Int → Int → Option ((List qB) × Int × Int)
 | 0, _, _, _ => none
 | n + 1, x1, i1, i2 =>
  bif decide (i2 < (a.length : Int)) then
   (qdp n i1).bind fun r1 =>
   (idx x1 i2).bind fun y1 =>
   (qhB n y1.Pins (W64 ((W64 (i1 + 1)) + 1))).bind fun o => match o with
    | (r2, x2) =>
     (qhx n y1.Arcs r2).bind fun o => match o with
      | (r3, x3) =>
       (qal n y1.Truth r3).bind fun o => match o with
        | (r4, x4) =>
         qck a n (setS x1 i2 (⟨r1, W64 (i1 + 1), x2, x3, x4, r4, W64 (r4 + 1)⟩ : qB)) (W64 ((W64 (r4 + 1)) + 1)) (W64 (i2 + 1))
  else
   some (x1, i1, i2)

def qg6 (n : Nat) (a : (List qB)) (k : Int) : Option (Int × (List qB)) :=
 (qck a n a k 0).bind fun o => match o with
 | (x1, i1, _) =>
  some (i1, x1)

theorem qkf {n : Nat} {w0 w : World} {F : List Ch} {a : (List qB)} {k : Int} {S1 : Nat → Prop} {p1 : Option Addr} {ln1 k1 : Nat} (h : SH w0 w (Ch.own S1 (a : List qB) [.slice p1 ln1 k1] :: F)) {r : (Int × (List qB))} (hF : qg6 n a k = some r) : RetN Tryz.prog 99 [.slice p1 ln1 k1, .int .i64 k] w (fun w' => ∃ Z0 : Nat → Prop, SH w0 w' (Ch.own Z0 (r.2 : List qB) [.slice p1 ln1 k1] :: F)) r.1 := by
 refine qcx Tryz.func99 rfl (m := 63) rfl rfl ?_
 rw [qg6] at hF
 obtain rfl := (h.sl 0 rfl).2
 refine zSR (zp1 rfl (zNSSR (zp1 rfl (qb ?_))))
 obtain ⟨o1, hF, hK1⟩ := qd hF
 refine qv (qR [(0, _), (1, _), (5, _)] ⟨rfl, rfl, rfl, trivial⟩ ?_)
 refine qI (fun m e w' => ∃ (S2 : Nat → Prop) (x1 : (List qB)) (i1 : Int) (i2 : Int), qck a m x1 i1 i2 = some o1 ∧ e = [(0, .slice p1 a.length k1), (1, .int .i64 i1), (5, .int .i64 i2)] ∧ SH w0 w' (Ch.own S2 (x1 : List qB) [.slice p1 a.length k1] :: F)) n ⟨_, _, _, _, hF, rfl, h⟩ ?_
 rintro m1 e1 w1 ⟨S2, x1, i1, i2, hF, rfl, h⟩
 rcases m1 with _ | m1
 ·rw [qck] at hF
  cases hF
 rw [qck] at hF
 refine zSSR (zp4 rfl (qb ?_))
 refine qr rfl hF ?_ ?_ <;> intro hF
 ·refine zKSBSR (zp3 rfl ?_)
  obtain ⟨r1, hr1, hF⟩ := qd hF
  refine qjL r1 h call133 (qeW hr1) rfl rfl rfl rfl ?_
  intro w2 h
  obtain ⟨y1, hy1, hF⟩ := qd hF
  have he1 := qg hy1
  obtain ⟨S3, S4, cs1, h⟩ := h.take hy1
  obtain ⟨p2, k2, p3, k3, p4, k4, rfl, -, -, -⟩ := qai (h.own 0 rfl)
  obtain ⟨S5, S6, S7, h⟩ := qnZ h
  obtain ⟨b1, hp1, -, -, hl2⟩ := h.holeAt 3 rfl
  obtain ⟨q1, hq1⟩ : ∃ q, q = 0 + (i2).toNat * GoT.k qB := ⟨_, rfl⟩
  refine zx hp1 hq1 ⟨he1.1, qae he1.2.1 hl2⟩ rfl (zp1 rfl (qeZ qc 3 0 h rfl hp1 hq1 rfl rfl rfl rfl rfl rfl ?_))
  intro w3 h
  refine zNSR (zp3 rfl (zNSR (zp3 rfl ?_)))
  obtain ⟨b2, hp2, -, -, hl4⟩ := h.holeAt 3 rfl
  obtain ⟨q2, hq2⟩ : ∃ q, q = 0 + (i2).toNat * GoT.k qB := ⟨_, rfl⟩
  refine zx hp2 hq2 ⟨he1.1, qae he1.2.1 hl4⟩ rfl (zp1 rfl (qeZ qc 3 1 h rfl hp2 hq2 rfl rfl rfl rfl rfl rfl ?_))
  intro w4 h
  replace h : SH _ _ (Ch.own S7 (y1.Truth : List Int) [.slice p4 y1.Truth.length k4] :: Ch.own S6 (y1.Arcs : List qY) [.slice p3 y1.Arcs.length k3] :: Ch.own S5 (y1.Pins : List qaf) [.slice p2 y1.Pins.length k2] :: Ch.hole S4 (x1 : List qB) p1 a.length k1 (i2).toNat [.string r1, .int .i64 (W64 (i1 + 1)), .slice p2 y1.Pins.length k2, .slice p3 y1.Arcs.length k3, .slice p4 y1.Truth.length k4, .int .i64 y1.Leak, .int .i64 y1.Energy] :: F) := h
  refine zNSR (zp3 rfl (zNSR (zp2 rfl ?_)))
  obtain ⟨b3, hp3, -, -, hl6⟩ := h.holeAt 3 rfl
  obtain ⟨q3, hq3⟩ : ∃ q, q = 0 + (i2).toNat * GoT.k qB := ⟨_, rfl⟩
  refine zx hp3 hq3 ⟨he1.1, qae he1.2.1 hl6⟩ rfl (zp1 rfl (zc 2 (qbR h 3 rfl hp3 hq3) rfl (zp1 rfl ?_)))
  replace h := h.pickT 4 [2, 0, 1, 3] rfl
  obtain ⟨o2, hr2, hF⟩ := qd hF
  obtain ⟨r2, x2⟩ := o2
  refine qch r2 call134 (qkz h hr2) rfl rfl rfl rfl ?_
  rintro w5 ⟨S8, h⟩
  refine zp1 rfl (zNSR (zp2 rfl ?_))
  obtain ⟨b4, hp4, -, -, hl8⟩ := h.holeAt 3 rfl
  obtain ⟨q4, hq4⟩ : ∃ q, q = 0 + (i2).toNat * GoT.k qB := ⟨_, rfl⟩
  refine zx hp4 hq4 ⟨he1.1, qae he1.2.1 hl8⟩ rfl (zp1 rfl (zc 3 (qbR h 3 rfl hp4 hq4) rfl (zp1 rfl ?_)))
  replace h := h.pickT 4 [2, 0, 1, 3] rfl
  obtain ⟨o3, hr3, hF⟩ := qd hF
  obtain ⟨r3, x3⟩ := o3
  refine qch r3 call135 (qkA h hr3) rfl rfl rfl rfl ?_
  rintro w6 ⟨S9, h⟩
  refine zp1 rfl (zNSR (zp2 rfl ?_))
  obtain ⟨b5, hp5, -, -, hl10⟩ := h.holeAt 3 rfl
  obtain ⟨q5, hq5⟩ : ∃ q, q = 0 + (i2).toNat * GoT.k qB := ⟨_, rfl⟩
  refine zx hp5 hq5 ⟨he1.1, qae he1.2.1 hl10⟩ rfl (zp1 rfl (zc 4 (qbR h 3 rfl hp5 hq5) rfl (zp1 rfl ?_)))
  replace h := h.pickT 4 [2, 0, 1, 3] rfl
  obtain ⟨o4, hr4, hF⟩ := qd hF
  obtain ⟨r4, x4⟩ := o4
  refine qch r4 call24 (qao h hr4) rfl rfl rfl rfl ?_
  rintro w7 ⟨S10, h⟩
  refine zp1 rfl (zNSR (zp3 rfl ?_))
  obtain ⟨b6, hp6, -, -, hl12⟩ := h.holeAt 3 rfl
  obtain ⟨q6, hq6⟩ : ∃ q, q = 0 + (i2).toNat * GoT.k qB := ⟨_, rfl⟩
  refine zx hp6 hq6 ⟨he1.1, qae he1.2.1 hl12⟩ rfl (zp1 rfl (qeZ qc 3 5 h rfl hp6 hq6 rfl rfl rfl rfl rfl rfl ?_))
  intro w8 h
  refine zNSR (zp3 rfl (zNSR (zp3 rfl ?_)))
  obtain ⟨b7, hp7, -, -, hl14⟩ := h.holeAt 3 rfl
  obtain ⟨q7, hq7⟩ : ∃ q, q = 0 + (i2).toNat * GoT.k qB := ⟨_, rfl⟩
  refine zx hp7 hq7 ⟨he1.1, qae he1.2.1 hl14⟩ rfl (zp1 rfl (qeZ qc 3 6 h rfl hp7 hq7 rfl rfl rfl rfl rfl rfl ?_))
  intro w9 h
  replace h : SH _ _ (Ch.own S10 (x4 : List Int) [.slice p4 y1.Truth.length k4] :: Ch.own S9 (x3 : List qY) [.slice p3 y1.Arcs.length k3] :: Ch.own S8 (x2 : List qaf) [.slice p2 y1.Pins.length k2] :: Ch.hole S4 (x1 : List qB) p1 a.length k1 (i2).toNat [.string r1, .int .i64 (W64 (i1 + 1)), .slice p2 y1.Pins.length k2, .slice p3 y1.Arcs.length k3, .slice p4 y1.Truth.length k4, .int .i64 r4, .int .i64 (W64 (r4 + 1))] :: F) := h
  refine qb (qy (zp3 rfl (zNER (zp3 rfl (qb ?_)))))
  obtain ⟨S11, h⟩ := h.gatherT 4 [3] (qoc (⟨r1, W64 (i1 + 1), x2, x3, x4, r4, W64 (r4 + 1)⟩ : qB) h (qax (S := fun _ => False) rfl) (qax (S := fun _ => False) rfl) (qab 2 h rfl) (qab 1 h rfl) (qab 0 h rfl) (qax (S := fun _ => False) rfl) (qax (S := fun _ => False) rfl) (by rfl) (by rfl) (by rfl) (by rfl) (by rfl) (by rfl)) rfl
  replace h := h.put
  obtain ⟨S12, h⟩ := qko (S := _) h
  exact qA m1 [(0, _), (1, _), (5, _)] (Nat.lt_succ_self m1) ⟨rfl, rfl, rfl, trivial⟩ ⟨_, _, _, _, hF, rfl, h⟩
 refine qH rfl ?_
 obtain rfl := qh hF; replace hF := hK1
 refine zSR (zp2 rfl (qb ?_))
 obtain rfl := qh hF
 exact qhv qc ⟨_, h⟩ ⟨rfl, trivial⟩

def qeU (n : Nat) (a : qz) (k : Int) : Option (Int × (List qB)) :=
 (qg6 n a.Cells k).bind fun o => match o with
  | (r1, x1) =>
   some (r1, x1)

theorem qjg {n : Nat} {w0 w : World} {F : List Ch} {a : qz} {k : Int} {S1 : Nat → Prop} {p1 : Option Addr} {ln1 k1 : Nat} (h : SH w0 w (Ch.own S1 (a.Cells : List qB) [.slice p1 ln1 k1] :: F)) {r : (Int × (List qB))} (hF : qeU n a k = some r) : RetN Tryz.prog 57 [.agg #[.slice p1 ln1 k1], .int .i64 k] w (fun w' => ∃ Z0 : Nat → Prop, SH w0 w' (Ch.own Z0 (r.2 : List qB) [.slice p1 ln1 k1] :: F)) r.1 := by
 refine qcx Tryz.func57 rfl (m := 10) rfl rfl ?_
 rw [qeU] at hF
 obtain rfl := (h.sl 0 rfl).2
 refine zSR (qO h rfl rfl ?_)
 intro w1 bb1 h
 refine zp1 rfl (zNSR (zp1 rfl (zl 0 0 h rfl (zp1 rfl ?_))))
 replace h := h.pickT 2 [1, 0] rfl
 obtain ⟨o1, hr1, hF⟩ := qd hF
 obtain ⟨r1, x1⟩ := o1
 refine qch r1 call99 (qkf h hr1) rfl rfl rfl rfl ?_
 rintro w2 ⟨S2, h⟩
 refine zp1 rfl (zNSR (zp2 rfl (qb ?_)))
 obtain rfl := qh hF
 replace h := h.pickT 2 [0] rfl
 exact qhv qc ⟨_, h⟩ ⟨rfl, trivial⟩

def qbk (a : (List qk)) : Nat → (List qk) → Int → Int → Option ((List qk) × Int × Int)
 | 0, _, _, _ => none
 | n + 1, x1, i1, i2 =>
  bif decide (i2 < (a.length : Int)) then
   (qdp n i1).bind fun r1 =>
   (idx x1 i2).bind fun y1 =>
   (qal n y1.Nets (W64 ((W64 (i1 + 1)) + 1))).bind fun o => match o with
    | (r2, x2) =>
     qbk a n (setS x1 i2 (⟨r1, W64 (i1 + 1), x2⟩ : qk)) r2 (W64 (i2 + 1))
  else
   some (x1, i1, i2)

def qfb (n : Nat) (a : (List qk)) (k : Int) : Option (Int × (List qk)) :=
 (qbk a n a k 0).bind fun o => match o with
 | (x1, i1, _) =>
  some (i1, x1)

theorem qiT {n : Nat} {w0 w : World} {F : List Ch} {a : (List qk)} {k : Int} {S1 : Nat → Prop} {p1 : Option Addr} {ln1 k1 : Nat} (h : SH w0 w (Ch.own S1 (a : List qk) [.slice p1 ln1 k1] :: F)) {r : (Int × (List qk))} (hF : qfb n a k = some r) : RetN Tryz.prog 100 [.slice p1 ln1 k1, .int .i64 k] w (fun w' => ∃ Z0 : Nat → Prop, SH w0 w' (Ch.own Z0 (r.2 : List qk) [.slice p1 ln1 k1] :: F)) r.1 := by
 refine qcx Tryz.func100 rfl (m := 35) rfl rfl ?_
 rw [qfb] at hF
 obtain rfl := (h.sl 0 rfl).2
 refine zSR (zp1 rfl (zNSSR (zp1 rfl (qb ?_))))
 obtain ⟨o1, hF, hK1⟩ := qd hF
 refine qv (qR [(0, _), (1, _), (5, _)] ⟨rfl, rfl, rfl, trivial⟩ ?_)
 refine qI (fun m e w' => ∃ (S2 : Nat → Prop) (x1 : (List qk)) (i1 : Int) (i2 : Int), qbk a m x1 i1 i2 = some o1 ∧ e = [(0, .slice p1 a.length k1), (1, .int .i64 i1), (5, .int .i64 i2)] ∧ SH w0 w' (Ch.own S2 (x1 : List qk) [.slice p1 a.length k1] :: F)) n ⟨_, _, _, _, hF, rfl, h⟩ ?_
 rintro m1 e1 w1 ⟨S2, x1, i1, i2, hF, rfl, h⟩
 rcases m1 with _ | m1
 ·rw [qbk] at hF
  cases hF
 rw [qbk] at hF
 refine zSSR (zp4 rfl (qb ?_))
 refine qr rfl hF ?_ ?_ <;> intro hF
 ·refine zKSBSR (zp3 rfl ?_)
  obtain ⟨r1, hr1, hF⟩ := qd hF
  refine qjL r1 h call133 (qeW hr1) rfl rfl rfl rfl ?_
  intro w2 h
  obtain ⟨y1, hy1, hF⟩ := qd hF
  have he1 := qg hy1
  obtain ⟨S3, S4, cs1, h⟩ := h.take hy1
  obtain ⟨p2, k2, rfl, -⟩ := qad (h.own 0 rfl)
  obtain ⟨S5, h⟩ := qly h
  obtain ⟨b1, hp1, -, -, hl2⟩ := h.holeAt 1 rfl
  obtain ⟨q1, hq1⟩ : ∃ q, q = 0 + (i2).toNat * GoT.k qk := ⟨_, rfl⟩
  refine zx hp1 hq1 ⟨he1.1, qae he1.2.1 hl2⟩ rfl (zp1 rfl (qeZ qc 1 0 h rfl hp1 hq1 rfl rfl rfl rfl rfl rfl ?_))
  intro w3 h
  refine zNSR (zp3 rfl (zNSR (zp3 rfl ?_)))
  obtain ⟨b2, hp2, -, -, hl4⟩ := h.holeAt 1 rfl
  obtain ⟨q2, hq2⟩ : ∃ q, q = 0 + (i2).toNat * GoT.k qk := ⟨_, rfl⟩
  refine zx hp2 hq2 ⟨he1.1, qae he1.2.1 hl4⟩ rfl (zp1 rfl (qeZ qc 1 1 h rfl hp2 hq2 rfl rfl rfl rfl rfl rfl ?_))
  intro w4 h
  replace h : SH _ _ (Ch.own S5 (y1.Nets : List Int) [.slice p2 y1.Nets.length k2] :: Ch.hole S4 (x1 : List qk) p1 a.length k1 (i2).toNat [.string r1, .int .i64 (W64 (i1 + 1)), .slice p2 y1.Nets.length k2] :: F) := h
  refine zNSR (zp3 rfl (qb (qy (zp2 rfl ?_))))
  obtain ⟨b3, hp3, -, -, hl6⟩ := h.holeAt 1 rfl
  obtain ⟨q3, hq3⟩ : ∃ q, q = 0 + (i2).toNat * GoT.k qk := ⟨_, rfl⟩
  refine zx hp3 hq3 ⟨he1.1, qae he1.2.1 hl6⟩ rfl (zp1 rfl (zc 2 (qbR h 1 rfl hp3 hq3) rfl (zp1 rfl ?_)))
  obtain ⟨o2, hr2, hF⟩ := qd hF
  obtain ⟨r2, x2⟩ := o2
  refine qch r2 call24 (qao h hr2) rfl rfl rfl rfl ?_
  rintro w5 ⟨S6, h⟩
  refine zp1 rfl (zNER (zp3 rfl (qb ?_)))
  obtain ⟨S7, h⟩ := h.gatherT 2 [1] (qkB (⟨r1, W64 (i1 + 1), x2⟩ : qk) h (qax (S := fun _ => False) rfl) (qax (S := fun _ => False) rfl) (qab 0 h rfl) (by rfl) (by rfl)) rfl
  replace h := h.put
  obtain ⟨S8, h⟩ := qko (S := _) h
  exact qA m1 [(0, _), (1, _), (5, _)] (Nat.lt_succ_self m1) ⟨rfl, rfl, rfl, trivial⟩ ⟨_, _, _, _, hF, rfl, h⟩
 refine qH rfl ?_
 obtain rfl := qh hF; replace hF := hK1
 refine zSR (zp2 rfl (qb ?_))
 obtain rfl := qh hF
 exact qhv qc ⟨_, h⟩ ⟨rfl, trivial⟩

def qbG (a : (List ByteArray)) : Nat → (List ByteArray) → Int → Int → Option ((List ByteArray) × Int × Int)
 | 0, _, _, _ => none
 | n + 1, x1, i1, i2 =>
  bif decide (i2 < (a.length : Int)) then
   (qdp n i1).bind fun r1 =>
   (idx x1 i2).bind fun _ =>
   qbG a n (setS x1 i2 r1) (W64 (i1 + 1)) (W64 (i2 + 1))
  else
   some (x1, i1, i2)

def qfX (n : Nat) (a : (List ByteArray)) (k : Int) : Option (Int × (List ByteArray)) :=
 (qbG a n a k 0).bind fun o => match o with
 | (x1, i1, _) =>
  some (i1, x1)

theorem qjD {n : Nat} {w0 w : World} {F : List Ch} {a : (List ByteArray)} {k : Int} {S1 : Nat → Prop} {p1 : Option Addr} {ln1 k1 : Nat} (h : SH w0 w (Ch.own S1 (a : List ByteArray) [.slice p1 ln1 k1] :: F)) {r : (Int × (List ByteArray))} (hF : qfX n a k = some r) : RetN Tryz.prog 101 [.slice p1 ln1 k1, .int .i64 k] w (fun w' => ∃ Z0 : Nat → Prop, SH w0 w' (Ch.own Z0 (r.2 : List ByteArray) [.slice p1 ln1 k1] :: F)) r.1 := by
 refine qcx Tryz.func101 rfl (m := 20) rfl rfl ?_
 rw [qfX] at hF
 obtain rfl := (h.sl 0 rfl).2
 refine zSR (zp1 rfl (zNSSR (zp1 rfl (qb ?_))))
 obtain ⟨o1, hF, hK1⟩ := qd hF
 refine qv (qR [(0, _), (1, _), (5, _)] ⟨rfl, rfl, rfl, trivial⟩ ?_)
 refine qI (fun m e w' => ∃ (x1 : (List ByteArray)) (i1 : Int) (i2 : Int), qbG a m x1 i1 i2 = some o1 ∧ e = [(0, .slice p1 a.length k1), (1, .int .i64 i1), (5, .int .i64 i2)] ∧ SH w0 w' (Ch.own S1 (x1 : List ByteArray) [.slice p1 a.length k1] :: F)) n ⟨_, _, _, hF, rfl, h⟩ ?_
 rintro m1 e1 w1 ⟨x1, i1, i2, hF, rfl, h⟩
 rcases m1 with _ | m1
 ·rw [qbG] at hF
  cases hF
 rw [qbG] at hF
 refine zSSR (zp4 rfl (qb ?_))
 refine qr rfl hF ?_ ?_ <;> intro hF
 ·refine zKSBSR (zp3 rfl ?_)
  obtain ⟨r1, hr1, hF⟩ := qd hF
  refine qjL r1 h call133 (qeW hr1) rfl rfl rfl rfl ?_
  intro w2 h
  obtain ⟨y1, hy1, hF⟩ := qd hF
  have he1 := qg hy1
  obtain ⟨b1, o_1, q1, cs1, hp1, hq1, -, hr2, hc2⟩ := (h.sl 0 rfl).1.at hy1
  obtain rfl := hr2
  refine zx hp1 hq1 ⟨he1.1, qae he1.2.1 (h.sl 0 rfl).2⟩ rfl (qcS qc 0 0 r1 h rfl hy1 hp1 hq1 rfl hc2 rfl rfl rfl rfl rfl rfl rfl ?_)
  intro w3 h
  refine qb (qy (zp3 rfl (zNER (zp3 rfl (qb ?_)))))
  exact qA m1 [(0, _), (1, _), (5, _)] (Nat.lt_succ_self m1) ⟨rfl, rfl, rfl, trivial⟩ ⟨_, _, _, hF, rfl, h⟩
 refine qH rfl ?_
 obtain rfl := qh hF; replace hF := hK1
 refine zSR (zp2 rfl (qb ?_))
 obtain rfl := qh hF
 exact qhv qc ⟨_, h⟩ ⟨rfl, trivial⟩

def qcm (a : (List qV)) : Nat → (List qV) → Int → Int → Option ((List qV) × Int × Int)
 | 0, _, _, _ => none
 | n + 1, x1, i1, i2 =>
  bif decide (i2 < (a.length : Int)) then
   (qdp n i1).bind fun r1 =>
   (idx x1 i2).bind fun y1 =>
   (idx (setS x1 i2 ({ y1 with Name := r1 })) i2).bind fun y2 =>
   (idx (setS (setS x1 i2 ({ y1 with Name := r1 })) i2 ({ y2 with Dir := W64 (i1 + 1) })) i2).bind fun y3 =>
   qcm a n (setS (setS (setS x1 i2 ({ y1 with Name := r1 })) i2 ({ y2 with Dir := W64 (i1 + 1) })) i2 ({ y3 with Net := W64 ((W64 (i1 + 1)) + 1) })) (W64 ((W64 ((W64 (i1 + 1)) + 1)) + 1)) (W64 (i2 + 1))
  else
   some (x1, i1, i2)

def qg2 (n : Nat) (a : (List qV)) (k : Int) : Option (Int × (List qV)) :=
 (qcm a n a k 0).bind fun o => match o with
 | (x1, i1, _) =>
  some (i1, x1)

theorem qkd {n : Nat} {w0 w : World} {F : List Ch} {a : (List qV)} {k : Int} {S1 : Nat → Prop} {p1 : Option Addr} {ln1 k1 : Nat} (h : SH w0 w (Ch.own S1 (a : List qV) [.slice p1 ln1 k1] :: F)) {r : (Int × (List qV))} (hF : qg2 n a k = some r) : RetN Tryz.prog 102 [.slice p1 ln1 k1, .int .i64 k] w (fun w' => ∃ Z0 : Nat → Prop, SH w0 w' (Ch.own Z0 (r.2 : List qV) [.slice p1 ln1 k1] :: F)) r.1 := by
 refine qcx Tryz.func102 rfl (m := 35) rfl rfl ?_
 rw [qg2] at hF
 obtain rfl := (h.sl 0 rfl).2
 refine zSR (zp1 rfl (zNSSR (zp1 rfl (qb ?_))))
 obtain ⟨o1, hF, hK1⟩ := qd hF
 refine qv (qR [(0, _), (1, _), (5, _)] ⟨rfl, rfl, rfl, trivial⟩ ?_)
 refine qI (fun m e w' => ∃ (x1 : (List qV)) (i1 : Int) (i2 : Int), qcm a m x1 i1 i2 = some o1 ∧ e = [(0, .slice p1 a.length k1), (1, .int .i64 i1), (5, .int .i64 i2)] ∧ SH w0 w' (Ch.own S1 (x1 : List qV) [.slice p1 a.length k1] :: F)) n ⟨_, _, _, hF, rfl, h⟩ ?_
 rintro m1 e1 w1 ⟨x1, i1, i2, hF, rfl, h⟩
 rcases m1 with _ | m1
 ·rw [qcm] at hF
  cases hF
 rw [qcm] at hF
 refine zSSR (zp4 rfl (qb ?_))
 refine qr rfl hF ?_ ?_ <;> intro hF
 ·refine zKSBSR (zp3 rfl ?_)
  obtain ⟨r1, hr1, hF⟩ := qd hF
  refine qjL r1 h call133 (qeW hr1) rfl rfl rfl rfl ?_
  intro w2 h
  obtain ⟨y1, hy1, hF⟩ := qd hF
  have he1 := qg hy1
  obtain ⟨b1, o_1, q1, cs1, hp1, hq1, -, hr2, hc2⟩ := (h.sl 0 rfl).1.at hy1
  obtain rfl := qaW hr2
  refine zx hp1 hq1 ⟨he1.1, qae he1.2.1 (h.sl 0 rfl).2⟩ rfl (zp1 rfl (qcS qc 0 0 ({ y1 with Name := r1 }) h rfl hy1 hp1 hq1 (qdY y1) hc2 rfl rfl rfl (qdY ({ y1 with Name := r1 })) rfl rfl rfl ?_))
  intro w3 h
  refine zNSR (zp3 rfl (zNSR (zp3 rfl ?_)))
  obtain ⟨y2, hy2, hF⟩ := qd hF
  have he2 := qg hy2
  obtain ⟨b2, o_2, q2, cs2, hp2, hq2, -, hr3, hc3⟩ := (h.sl 0 rfl).1.at hy2
  obtain rfl := qaW hr3
  refine zx hp2 hq2 ⟨he2.1, qae he2.2.1 (h.sl 0 rfl).2⟩ rfl (zp1 rfl (qcS qc 0 1 ({ y2 with Dir := W64 (i1 + 1) }) h rfl hy2 hp2 hq2 (qdY y2) hc3 rfl rfl rfl (qdY ({ y2 with Dir := W64 (i1 + 1) })) rfl rfl rfl ?_))
  intro w4 h
  refine zNSR (zp3 rfl (zNSR (zp3 rfl ?_)))
  obtain ⟨y3, hy3, hF⟩ := qd hF
  have he3 := qg hy3
  obtain ⟨b3, o_3, q3, cs3, hp3, hq3, -, hr4, hc4⟩ := (h.sl 0 rfl).1.at hy3
  obtain rfl := qaW hr4
  refine zx hp3 hq3 ⟨he3.1, qae he3.2.1 (h.sl 0 rfl).2⟩ rfl (zp1 rfl (qcS qc 0 2 ({ y3 with Net := W64 ((W64 (i1 + 1)) + 1) }) h rfl hy3 hp3 hq3 (qdY y3) hc4 rfl rfl rfl (qdY ({ y3 with Net := W64 ((W64 (i1 + 1)) + 1) })) rfl rfl rfl ?_))
  intro w5 h
  refine qb (qy (zp3 rfl (zNER (zp3 rfl (qb ?_)))))
  exact qA m1 [(0, _), (1, _), (5, _)] (Nat.lt_succ_self m1) ⟨rfl, rfl, rfl, trivial⟩ ⟨_, _, _, hF, rfl, h⟩
 refine qH rfl ?_
 obtain rfl := qh hF; replace hF := hK1
 refine zSR (zp2 rfl (qb ?_))
 obtain rfl := qh hF
 exact qhv qc ⟨_, h⟩ ⟨rfl, trivial⟩

def qfq (n : Nat) (a : ql) (k : Int) : Option (Int × (List qk) × (List ByteArray) × (List qV)) :=
 (qfb n a.Instances k).bind fun o => match o with
  | (r1, x1) =>
   (qfX n a.Nets r1).bind fun o => match o with
    | (r2, x2) =>
     (qg2 n a.Ports r2).bind fun o => match o with
      | (r3, x3) =>
       some (r3, x1, x2, x3)

theorem qjX {n : Nat} {w0 w : World} {F : List Ch} {a : ql} {k : Int} {S1 : Nat → Prop} {p1 : Option Addr} {ln1 k1 : Nat} {S2 : Nat → Prop} {p2 : Option Addr} {ln2 k2 : Nat} {S3 : Nat → Prop} {p3 : Option Addr} {ln3 k3 : Nat} (h : SH w0 w (Ch.own S3 (a.Ports : List qV) [.slice p3 ln3 k3] :: Ch.own S2 (a.Nets : List ByteArray) [.slice p2 ln2 k2] :: Ch.own S1 (a.Instances : List qk) [.slice p1 ln1 k1] :: F)) {r : (Int × (List qk) × (List ByteArray) × (List qV))} (hF : qfq n a k = some r) : RetN Tryz.prog 58 [.agg #[.slice p1 ln1 k1, .slice p2 ln2 k2, .slice p3 ln3 k3], .int .i64 k] w (fun w' => ∃ Z0 Z1 Z2 : Nat → Prop, SH w0 w' (Ch.own Z2 (r.2.2.2 : List qV) [.slice p3 ln3 k3] :: Ch.own Z1 (r.2.2.1 : List ByteArray) [.slice p2 ln2 k2] :: Ch.own Z0 (r.2.1 : List qk) [.slice p1 ln1 k1] :: F)) r.1 := by
 refine qcx Tryz.func58 rfl (m := 18) rfl rfl ?_
 rw [qfq] at hF
 obtain rfl := (h.sl 0 rfl).2
 obtain rfl := (h.sl 1 rfl).2
 obtain rfl := (h.sl 2 rfl).2
 refine zSR (qO h rfl rfl ?_)
 intro w1 bb1 h
 refine zp1 rfl (zNSR (zp1 rfl (zl 0 0 h rfl (zp1 rfl ?_))))
 replace h := h.pickT 4 [3, 0, 1, 2] rfl
 obtain ⟨o1, hr1, hF⟩ := qd hF
 obtain ⟨r1, x1⟩ := o1
 refine qch r1 call100 (qiT h hr1) rfl rfl rfl rfl ?_
 rintro w2 ⟨S4, h⟩
 refine zp1 rfl (zNSR (zp1 rfl (zl 1 1 h rfl (zp1 rfl ?_))))
 replace h := h.pickT 4 [3, 0, 1, 2] rfl
 obtain ⟨o2, hr2, hF⟩ := qd hF
 obtain ⟨r2, x2⟩ := o2
 refine qch r2 call101 (qjD h hr2) rfl rfl rfl rfl ?_
 rintro w3 ⟨S5, h⟩
 refine zp1 rfl (zNSR (zp1 rfl (zl 2 2 h rfl (zp1 rfl ?_))))
 replace h := h.pickT 4 [3, 0, 1, 2] rfl
 obtain ⟨o3, hr3, hF⟩ := qd hF
 obtain ⟨r3, x3⟩ := o3
 refine qch r3 call102 (qkd h hr3) rfl rfl rfl rfl ?_
 rintro w4 ⟨S6, h⟩
 refine zp1 rfl (zNSR (zp2 rfl (qb ?_)))
 obtain rfl := qh hF
 replace h := h.pickT 4 [0, 1, 2] rfl
 exact qhv qc ⟨_, _, _, h⟩ ⟨rfl, trivial⟩

def qcl (a : (List qP)) : Nat → (List qP) → Int → Int → Option ((List qP) × Int × Int)
 | 0, _, _, _ => none
 | n + 1, x1, i1, i2 =>
  bif decide (i2 < (a.length : Int)) then
   (idx x1 i2).bind fun y1 =>
   (qal n y1.Parent i1).bind fun o => match o with
    | (r1, x2) =>
     (qal n y1.Res r1).bind fun o => match o with
      | (r2, x3) =>
       (qal n y1.Cap r2).bind fun o => match o with
        | (r3, x4) =>
         (qal n y1.Sink r3).bind fun o => match o with
          | (r4, x5) =>
           qcl a n (setS x1 i2 (⟨x2, x3, x4, x5⟩ : qP)) r4 (W64 (i2 + 1))
  else
   some (x1, i1, i2)

def qg5 (n : Nat) (a : (List qP)) (k : Int) : Option (Int × (List qP)) :=
 (qcl a n a k 0).bind fun o => match o with
 | (x1, i1, _) =>
  some (i1, x1)

theorem qkl {n : Nat} {w0 w : World} {F : List Ch} {a : (List qP)} {k : Int} {S1 : Nat → Prop} {p1 : Option Addr} {ln1 k1 : Nat} (h : SH w0 w (Ch.own S1 (a : List qP) [.slice p1 ln1 k1] :: F)) {r : (Int × (List qP))} (hF : qg5 n a k = some r) : RetN Tryz.prog 59 [.slice p1 ln1 k1, .int .i64 k] w (fun w' => ∃ Z0 : Nat → Prop, SH w0 w' (Ch.own Z0 (r.2 : List qP) [.slice p1 ln1 k1] :: F)) r.1 := by
 refine qcx Tryz.func59 rfl (m := 41) rfl rfl ?_
 rw [qg5] at hF
 obtain rfl := (h.sl 0 rfl).2
 refine zSR (zp1 rfl (zNSSR (zp1 rfl (qb ?_))))
 obtain ⟨o1, hF, hK1⟩ := qd hF
 refine qv (qR [(0, _), (1, _), (5, _)] ⟨rfl, rfl, rfl, trivial⟩ ?_)
 refine qI (fun m e w' => ∃ (S2 : Nat → Prop) (x1 : (List qP)) (i1 : Int) (i2 : Int), qcl a m x1 i1 i2 = some o1 ∧ e = [(0, .slice p1 a.length k1), (1, .int .i64 i1), (5, .int .i64 i2)] ∧ SH w0 w' (Ch.own S2 (x1 : List qP) [.slice p1 a.length k1] :: F)) n ⟨_, _, _, _, hF, rfl, h⟩ ?_
 rintro m1 e1 w1 ⟨S2, x1, i1, i2, hF, rfl, h⟩
 rcases m1 with _ | m1
 ·rw [qcl] at hF
  cases hF
 rw [qcl] at hF
 refine zSSR (zp4 rfl (qb ?_))
 refine qr rfl hF ?_ ?_ <;> intro hF
 ·refine zKSBSR (zp2 rfl ?_)
  obtain ⟨y1, hy1, hF⟩ := qd hF
  have he1 := qg hy1
  obtain ⟨S3, S4, cs1, h⟩ := h.take hy1
  obtain ⟨p2, k2, p3, k3, p4, k4, p5, k5, rfl, -, -, -, -⟩ := qbw (h.own 0 rfl)
  obtain ⟨S5, S6, S7, S8, h⟩ := qnX h
  obtain ⟨b1, hp1, -, -, hl2⟩ := h.holeAt 4 rfl
  obtain ⟨q1, hq1⟩ : ∃ q, q = 0 + (i2).toNat * GoT.k qP := ⟨_, rfl⟩
  refine zx hp1 hq1 ⟨he1.1, qae he1.2.1 hl2⟩ rfl (zp1 rfl (zc 0 (qbR h 4 rfl hp1 hq1) rfl (zp1 rfl ?_)))
  replace h := h.pickT 5 [3, 0, 1, 2, 4] rfl
  obtain ⟨o2, hr1, hF⟩ := qd hF
  obtain ⟨r1, x2⟩ := o2
  refine qch r1 call24 (qao h hr1) rfl rfl rfl rfl ?_
  rintro w2 ⟨S9, h⟩
  refine zp1 rfl (zNSR (zp2 rfl ?_))
  obtain ⟨b2, hp2, -, -, hl4⟩ := h.holeAt 4 rfl
  obtain ⟨q2, hq2⟩ : ∃ q, q = 0 + (i2).toNat * GoT.k qP := ⟨_, rfl⟩
  refine zx hp2 hq2 ⟨he1.1, qae he1.2.1 hl4⟩ rfl (zp1 rfl (zc 1 (qbR h 4 rfl hp2 hq2) rfl (zp1 rfl ?_)))
  replace h := h.pickT 5 [3, 0, 1, 2, 4] rfl
  obtain ⟨o3, hr2, hF⟩ := qd hF
  obtain ⟨r2, x3⟩ := o3
  refine qch r2 call24 (qao h hr2) rfl rfl rfl rfl ?_
  rintro w3 ⟨S10, h⟩
  refine zp1 rfl (zNSR (zp2 rfl ?_))
  obtain ⟨b3, hp3, -, -, hl6⟩ := h.holeAt 4 rfl
  obtain ⟨q3, hq3⟩ : ∃ q, q = 0 + (i2).toNat * GoT.k qP := ⟨_, rfl⟩
  refine zx hp3 hq3 ⟨he1.1, qae he1.2.1 hl6⟩ rfl (zp1 rfl (zc 2 (qbR h 4 rfl hp3 hq3) rfl (zp1 rfl ?_)))
  replace h := h.pickT 5 [3, 0, 1, 2, 4] rfl
  obtain ⟨o4, hr3, hF⟩ := qd hF
  obtain ⟨r3, x4⟩ := o4
  refine qch r3 call24 (qao h hr3) rfl rfl rfl rfl ?_
  rintro w4 ⟨S11, h⟩
  refine zp1 rfl (qb (qy (zp2 rfl ?_)))
  obtain ⟨b4, hp4, -, -, hl8⟩ := h.holeAt 4 rfl
  obtain ⟨q4, hq4⟩ : ∃ q, q = 0 + (i2).toNat * GoT.k qP := ⟨_, rfl⟩
  refine zx hp4 hq4 ⟨he1.1, qae he1.2.1 hl8⟩ rfl (zp1 rfl (zc 3 (qbR h 4 rfl hp4 hq4) rfl (zp1 rfl ?_)))
  replace h := h.pickT 5 [3, 0, 1, 2, 4] rfl
  obtain ⟨o5, hr4, hF⟩ := qd hF
  obtain ⟨r4, x5⟩ := o5
  refine qch r4 call24 (qao h hr4) rfl rfl rfl rfl ?_
  rintro w5 ⟨S12, h⟩
  refine zp1 rfl (zNER (zp3 rfl (qb ?_)))
  obtain ⟨S13, h⟩ := h.gatherT 5 [4] (qnT (⟨x2, x3, x4, x5⟩ : qP) h (qab 3 h rfl) (qab 2 h rfl) (qab 1 h rfl) (qab 0 h rfl) (by rfl) (by rfl) (by rfl)) rfl
  replace h := h.put
  obtain ⟨S14, h⟩ := qko (S := _) h
  exact qA m1 [(0, _), (1, _), (5, _)] (Nat.lt_succ_self m1) ⟨rfl, rfl, rfl, trivial⟩ ⟨_, _, _, _, hF, rfl, h⟩
 refine qH rfl ?_
 obtain rfl := qh hF; replace hF := hK1
 refine zSR (zp2 rfl (qb ?_))
 obtain rfl := qh hF
 exact qhv qc ⟨_, h⟩ ⟨rfl, trivial⟩

def qfH (n : Nat) (a : qF) (k : Int) : Option (Int × (List qB) × (List qk) × (List ByteArray) × (List qV) × (List qP)) :=
 (qeU n (⟨a.Library.Cells⟩ : qz) k).bind fun o => match o with
  | (r1, x1) =>
   (qfq n (⟨a.Design.Instances, a.Design.Nets, a.Design.Ports⟩ : ql) r1).bind fun o => match o with
    | (r2, x2, x3, x4) =>
     (qg5 n a.Wires r2).bind fun o => match o with
      | (r3, x5) =>
       some (r3, x1, x2, x3, x4, x5)

theorem qkg {n : Nat} {w0 w : World} {F : List Ch} {a : qF} {k : Int} {S1 : Nat → Prop} {p1 : Option Addr} {ln1 k1 : Nat} {S2 : Nat → Prop} {p2 : Option Addr} {ln2 k2 : Nat} {S3 : Nat → Prop} {p3 : Option Addr} {ln3 k3 : Nat} {S4 : Nat → Prop} {p4 : Option Addr} {ln4 k4 : Nat} {S5 : Nat → Prop} {p5 : Option Addr} {ln5 k5 : Nat} (h : SH w0 w (Ch.own S5 (a.Wires : List qP) [.slice p5 ln5 k5] :: Ch.own S4 (a.Design.Ports : List qV) [.slice p4 ln4 k4] :: Ch.own S3 (a.Design.Nets : List ByteArray) [.slice p3 ln3 k3] :: Ch.own S2 (a.Design.Instances : List qk) [.slice p2 ln2 k2] :: Ch.own S1 (a.Library.Cells : List qB) [.slice p1 ln1 k1] :: F)) {r : (Int × (List qB) × (List qk) × (List ByteArray) × (List qV) × (List qP))} (hF : qfH n a k = some r) : RetN Tryz.prog 22 [.agg #[.slice p1 ln1 k1, .slice p2 ln2 k2, .slice p3 ln3 k3, .slice p4 ln4 k4, .slice p5 ln5 k5], .int .i64 k] w (fun w' => ∃ Z0 Z1 Z2 Z3 Z4 : Nat → Prop, SH w0 w' (Ch.own Z4 (r.2.2.2.2.2 : List qP) [.slice p5 ln5 k5] :: Ch.own Z3 (r.2.2.2.2.1 : List qV) [.slice p4 ln4 k4] :: Ch.own Z2 (r.2.2.2.1 : List ByteArray) [.slice p3 ln3 k3] :: Ch.own Z1 (r.2.2.1 : List qk) [.slice p2 ln2 k2] :: Ch.own Z0 (r.2.1 : List qB) [.slice p1 ln1 k1] :: F)) r.1 := by
 refine qcx Tryz.func22 rfl (m := 18) rfl rfl ?_
 rw [qfH] at hF
 obtain rfl := (h.sl 0 rfl).2
 obtain rfl := (h.sl 1 rfl).2
 obtain rfl := (h.sl 2 rfl).2
 obtain rfl := (h.sl 3 rfl).2
 obtain rfl := (h.sl 4 rfl).2
 refine zSR (qO h rfl rfl ?_)
 intro w1 bb1 h
 refine zp1 rfl (zNSR (zp1 rfl (zl 0 0 h rfl (zp1 rfl ?_))))
 replace h := h.pickT 6 [5, 0, 1, 2, 3, 4] rfl
 obtain ⟨o1, hr1, hF⟩ := qd hF
 obtain ⟨r1, x1⟩ := o1
 refine qch r1 call57 (qjg h hr1) rfl rfl rfl rfl ?_
 rintro w2 ⟨S6, h⟩
 refine zp1 rfl (zNSR (zp1 rfl (zl 1 1 h rfl (zp1 rfl ?_))))
 replace h := h.pickT 6 [3, 4, 5, 0, 1, 2] rfl
 obtain ⟨o2, hr2, hF⟩ := qd hF
 obtain ⟨r2, x2, x3, x4⟩ := o2
 refine qch r2 call58 (qjX h hr2) rfl rfl rfl rfl ?_
 rintro w3 ⟨S7, S8, S9, h⟩
 refine zp1 rfl (zNSR (zp1 rfl (zl 4 4 h rfl (zp1 rfl ?_))))
 replace h := h.pickT 6 [5, 0, 1, 2, 3, 4] rfl
 obtain ⟨o3, hr3, hF⟩ := qd hF
 obtain ⟨r3, x5⟩ := o3
 refine qch r3 call59 (qkl h hr3) rfl rfl rfl rfl ?_
 rintro w4 ⟨S10, h⟩
 refine zp1 rfl (zNSR (zp2 rfl (qb ?_)))
 obtain rfl := qh hF
 replace h := h.pickT 6 [0, 1, 2, 3, 4] rfl
 exact qhv qc ⟨_, _, _, _, _, h⟩ ⟨rfl, trivial⟩

def qbc (a : (List qf)) : Nat → (List qf) → Int → Int → Option ((List qf) × Int × Int)
 | 0, _, _, _ => none
 | n + 1, x1, i1, i2 =>
  bif decide (i2 < (a.length : Int)) then
   (idx x1 i2).bind fun y1 =>
   (qal n y1.From (W64 ((W64 (i1 + 1)) + 1))).bind fun o => match o with
    | (r1, x2) =>
     (qal n y1.Through r1).bind fun o => match o with
      | (r2, x3) =>
       (qal n y1.To r2).bind fun o => match o with
        | (r3, x4) =>
         qbc a n (setS x1 i2 (⟨i1, W64 (i1 + 1), x2, x3, x4⟩ : qf)) r3 (W64 (i2 + 1))
  else
   some (x1, i1, i2)

def qeS (n : Nat) (a : (List qf)) (k : Int) : Option (Int × (List qf)) :=
 (qbc a n a k 0).bind fun o => match o with
 | (x1, i1, _) =>
  some (i1, x1)

theorem qiH {n : Nat} {w0 w : World} {F : List Ch} {a : (List qf)} {k : Int} {S1 : Nat → Prop} {p1 : Option Addr} {ln1 k1 : Nat} (h : SH w0 w (Ch.own S1 (a : List qf) [.slice p1 ln1 k1] :: F)) {r : (Int × (List qf))} (hF : qeS n a k = some r) : RetN Tryz.prog 23 [.slice p1 ln1 k1, .int .i64 k] w (fun w' => ∃ Z0 : Nat → Prop, SH w0 w' (Ch.own Z0 (r.2 : List qf) [.slice p1 ln1 k1] :: F)) r.1 := by
 refine qcx Tryz.func23 rfl (m := 48) rfl rfl ?_
 rw [qeS] at hF
 obtain rfl := (h.sl 0 rfl).2
 refine zSR (zp1 rfl (zNSSR (zp1 rfl (qb ?_))))
 obtain ⟨o1, hF, hK1⟩ := qd hF
 refine qv (qR [(0, _), (1, _), (5, _)] ⟨rfl, rfl, rfl, trivial⟩ ?_)
 refine qI (fun m e w' => ∃ (S2 : Nat → Prop) (x1 : (List qf)) (i1 : Int) (i2 : Int), qbc a m x1 i1 i2 = some o1 ∧ e = [(0, .slice p1 a.length k1), (1, .int .i64 i1), (5, .int .i64 i2)] ∧ SH w0 w' (Ch.own S2 (x1 : List qf) [.slice p1 a.length k1] :: F)) n ⟨_, _, _, _, hF, rfl, h⟩ ?_
 rintro m1 e1 w1 ⟨S2, x1, i1, i2, hF, rfl, h⟩
 rcases m1 with _ | m1
 ·rw [qbc] at hF
  cases hF
 rw [qbc] at hF
 refine zSSR (zp4 rfl (qb ?_))
 refine qr rfl hF ?_ ?_ <;> intro hF
 ·refine zKSBSR (zp3 rfl ?_)
  obtain ⟨y1, hy1, hF⟩ := qd hF
  have he1 := qg hy1
  obtain ⟨S3, S4, cs1, h⟩ := h.take hy1
  obtain ⟨p2, k2, p3, k3, p4, k4, rfl, -, -, -⟩ := qX (h.own 0 rfl)
  obtain ⟨S5, S6, S7, h⟩ := qkQ h
  obtain ⟨b1, hp1, -, -, hl2⟩ := h.holeAt 3 rfl
  obtain ⟨q1, hq1⟩ : ∃ q, q = 0 + (i2).toNat * GoT.k qf := ⟨_, rfl⟩
  refine zx hp1 hq1 ⟨he1.1, qae he1.2.1 hl2⟩ rfl (zp1 rfl (qeZ qc 3 0 h rfl hp1 hq1 rfl rfl rfl rfl rfl rfl ?_))
  intro w2 h
  refine zNSR (zp3 rfl (zNSR (zp3 rfl ?_)))
  obtain ⟨b2, hp2, -, -, hl4⟩ := h.holeAt 3 rfl
  obtain ⟨q2, hq2⟩ : ∃ q, q = 0 + (i2).toNat * GoT.k qf := ⟨_, rfl⟩
  refine zx hp2 hq2 ⟨he1.1, qae he1.2.1 hl4⟩ rfl (zp1 rfl (qeZ qc 3 1 h rfl hp2 hq2 rfl rfl rfl rfl rfl rfl ?_))
  intro w3 h
  replace h : SH _ _ (Ch.own S7 (y1.To : List Int) [.slice p4 y1.To.length k4] :: Ch.own S6 (y1.Through : List Int) [.slice p3 y1.Through.length k3] :: Ch.own S5 (y1.From : List Int) [.slice p2 y1.From.length k2] :: Ch.hole S4 (x1 : List qf) p1 a.length k1 (i2).toNat [.int .i64 i1, .int .i64 (W64 (i1 + 1)), .slice p2 y1.From.length k2, .slice p3 y1.Through.length k3, .slice p4 y1.To.length k4] :: F) := h
  refine zNSR (zp3 rfl (zNSR (zp2 rfl ?_)))
  obtain ⟨b3, hp3, -, -, hl6⟩ := h.holeAt 3 rfl
  obtain ⟨q3, hq3⟩ : ∃ q, q = 0 + (i2).toNat * GoT.k qf := ⟨_, rfl⟩
  refine zx hp3 hq3 ⟨he1.1, qae he1.2.1 hl6⟩ rfl (zp1 rfl (zc 2 (qbR h 3 rfl hp3 hq3) rfl (zp1 rfl ?_)))
  replace h := h.pickT 4 [2, 0, 1, 3] rfl
  obtain ⟨o2, hr1, hF⟩ := qd hF
  obtain ⟨r1, x2⟩ := o2
  refine qch r1 call24 (qao h hr1) rfl rfl rfl rfl ?_
  rintro w4 ⟨S8, h⟩
  refine zp1 rfl (zNSR (zp2 rfl ?_))
  obtain ⟨b4, hp4, -, -, hl8⟩ := h.holeAt 3 rfl
  obtain ⟨q4, hq4⟩ : ∃ q, q = 0 + (i2).toNat * GoT.k qf := ⟨_, rfl⟩
  refine zx hp4 hq4 ⟨he1.1, qae he1.2.1 hl8⟩ rfl (zp1 rfl (zc 3 (qbR h 3 rfl hp4 hq4) rfl (zp1 rfl ?_)))
  replace h := h.pickT 4 [2, 0, 1, 3] rfl
  obtain ⟨o3, hr2, hF⟩ := qd hF
  obtain ⟨r2, x3⟩ := o3
  refine qch r2 call24 (qao h hr2) rfl rfl rfl rfl ?_
  rintro w5 ⟨S9, h⟩
  refine zp1 rfl (qb (qy (zp2 rfl ?_)))
  obtain ⟨b5, hp5, -, -, hl10⟩ := h.holeAt 3 rfl
  obtain ⟨q5, hq5⟩ : ∃ q, q = 0 + (i2).toNat * GoT.k qf := ⟨_, rfl⟩
  refine zx hp5 hq5 ⟨he1.1, qae he1.2.1 hl10⟩ rfl (zp1 rfl (zc 4 (qbR h 3 rfl hp5 hq5) rfl (zp1 rfl ?_)))
  replace h := h.pickT 4 [2, 0, 1, 3] rfl
  obtain ⟨o4, hr3, hF⟩ := qd hF
  obtain ⟨r3, x4⟩ := o4
  refine qch r3 call24 (qao h hr3) rfl rfl rfl rfl ?_
  rintro w6 ⟨S10, h⟩
  refine zp1 rfl (zNER (zp3 rfl (qb ?_)))
  obtain ⟨S11, h⟩ := h.gatherT 4 [3] (qj7 (⟨i1, W64 (i1 + 1), x2, x3, x4⟩ : qf) h (qax (S := fun _ => False) rfl) (qax (S := fun _ => False) rfl) (qab 2 h rfl) (qab 1 h rfl) (qab 0 h rfl) (by rfl) (by rfl) (by rfl) (by rfl)) rfl
  replace h := h.put
  obtain ⟨S12, h⟩ := qko (S := _) h
  exact qA m1 [(0, _), (1, _), (5, _)] (Nat.lt_succ_self m1) ⟨rfl, rfl, rfl, trivial⟩ ⟨_, _, _, _, hF, rfl, h⟩
 refine qH rfl ?_
 obtain rfl := qh hF; replace hF := hK1
 refine zSR (zp2 rfl (qb ?_))
 obtain rfl := qh hF
 exact qhv qc ⟨_, h⟩ ⟨rfl, trivial⟩

def qbv (a : (List Int)) : Nat → Int → Int → Option (Flow Int (Int × Int))
 | 0, _, _ => none
 | n + 1, i1, i2 =>
  bif decide (i2 < (a.length : Int)) then
   (idx a i2).bind fun y1 =>
   bif (y1 != i1) then
    some (.ret (-1))
   else
    qbv a n (W64 (i1 + 1)) (W64 (i2 + 1))
  else
   some (.nxt (i1, i2))

def qep (n : Nat) (a : (List Int)) (k : Int) : Option Int :=
 (qbv a n k 0).bind fun o => match o with
 | .ret r => some r
 | .nxt (i1, _) =>
  some i1

theorem qic {n : Nat} {w : World} {a : (List Int)} {k : Int} {cs1 : List Value} (ha1 : GoT.R w (old w) a cs1) {r : Int} (hF : qep n a k = some r) : RetV Tryz.prog 25 [GoT.v (List Int) cs1, .int .i64 k] w r := by
 obtain ⟨p1, k1, rfl, s1⟩ := ha1
 refine qe Tryz.func25 rfl (m := 21) rfl rfl (fun h => ?_)
 rw [qep] at hF
 refine zSR (zp1 rfl (zNSSR (zp1 rfl (qb ?_))))
 obtain ⟨o1, hF, hK1⟩ := qd hF
 refine qv (qR [(0, _), (1, _), (5, _)] ⟨rfl, rfl, rfl, trivial⟩ ?_)
 refine qI (fun m e w' => ∃ (i1 : Int) (i2 : Int), qbv a m i1 i2 = some o1 ∧ e = [(0, .slice p1 a.length k1), (1, .int .i64 i1), (5, .int .i64 i2)] ∧ SH w w' []) n ⟨_, _, hF, rfl, h⟩ ?_
 rintro m1 e1 w1 ⟨i1, i2, hF, rfl, h⟩
 rcases m1 with _ | m1
 ·rw [qbv] at hF
  cases hF
 rw [qbv] at hF
 refine zSSR (zp4 rfl (qb ?_))
 refine qr rfl hF ?_ ?_ <;> intro hF
 ·refine zKSB (zSSR (zp2 rfl ?_))
  obtain ⟨y1, hy1, hF⟩ := qd hF
  have he1 := qg hy1
  obtain ⟨b1, o_1, q1, cs2, hp1, hq1, -, hr1, hc2⟩ := s1.at hy1
  obtain rfl := hr1
  refine zxe hp1 hq1 he1 rfl (zc 0 (hc2.below h.below) rfl (zp2 rfl (qb ?_)))
  refine qr rfl hF ?_ ?_ <;> intro hF
  ·refine zSR (zp1 rfl (qb ?_))
   obtain rfl := qh hF; replace hF := hK1
   exact qap qc h hF ⟨rfl, trivial⟩
  refine qdH (qy (zp3 rfl (zNER (zp3 rfl (qb ?_)))))
  exact qA m1 [(0, _), (1, _), (5, _)] (Nat.lt_succ_self m1) ⟨rfl, rfl, rfl, trivial⟩ ⟨_, _, hF, rfl, h⟩
 refine qH rfl ?_
 obtain rfl := qh hF; replace hF := hK1
 exact zSR (zp2 rfl (qb (qap qc h hF ⟨rfl, trivial⟩)))

end Go.Fw
