/- Plain laws: the places of a design, one by one. -/
import Derived.Test.YtihkipojhdehnaaGreatDoorB7
import Derived.Test.YtihkipojhdehnaaGreatDoorFw34

namespace Go.Fw
open Go
set_option maxRecDepth 100000

def off (d : qk) (i : Nat) : Nat := (plI d i).length
def place1 (d : qk) (i k : Nat) : Tplace := ⟨(i : Int), (k : Int), at0 (gt d.Instances i).Nets k, decide (k + 1 = (gt d.Instances i).Nets.length)⟩
def place2 (d : qk) (i : Nat) : Tplace := ⟨-1, (i : Int), (gt d.Ports i).Net, (gt d.Ports i).Dir == 1⟩

theorem qlr {d : qk} {i : Nat} : off d (i + 1) = off d i + (gt d.Instances i).Nets.length := by
  unfold off; rw [qjd, List.length_append, qlg]
theorem qi9 {d : qk} : (places d).length = off d d.Instances.length + d.Ports.length := by
  unfold places off; rw [List.length_append, qlh]
theorem qqX {d : qk} {n i k : Nat} (hi : i < n) (hk : k < (gt d.Instances i).Nets.length) : off d i + k < off d n ∧ gt (plI d n) (off d i + k) = place1 d i k := by
  induction n with
  | zero => omega
  | succ n ih =>
    rw [qjd, qkE]
    rcases Nat.lt_succ_iff_lt_or_eq.1 hi with h | rfl
    · obtain ⟨h1, h2⟩ := ih h
      refine ⟨by rw [qlr]; omega, ?_⟩
      rw [if_pos (show off d i + k < (plI d n).length from h1), h2]
    · refine ⟨by rw [qlr]; omega, ?_⟩
      rw [if_neg (by unfold off; omega), show off d i + k - (plI d i).length = k by unfold off; omega]
      exact qnc hk
theorem qov {d : qk} {i k : Nat} (hi : i < d.Instances.length) (hk : k < (gt d.Instances i).Nets.length) : off d i + k < (places d).length ∧ gt (places d) (off d i + k) = place1 d i k := by
  obtain ⟨h1, h2⟩ := qqX hi hk
  refine ⟨by rw [qi9]; omega, ?_⟩
  unfold places
  rw [qkE, if_pos (show off d i + k < (plI d d.Instances.length).length from h1), h2]
theorem qoA {d : qk} {i : Nat} (hi : i < d.Ports.length) : off d d.Instances.length + i < (places d).length ∧ gt (places d) (off d d.Instances.length + i) = place2 d i := by
  refine ⟨by rw [qi9]; omega, ?_⟩
  unfold places
  rw [qkE, if_neg (by unfold off; omega), show off d d.Instances.length + i - (plI d d.Instances.length).length = i by unfold off; omega]
  exact qnc hi
theorem qoC {d : qk} {n j : Nat} (hj : j < off d n) : ∃ i k, i < n ∧ k < (gt d.Instances i).Nets.length ∧ j = off d i + k := by
  induction n with
  | zero => exact absurd hj (Nat.not_lt_zero _)
  | succ n ih =>
    by_cases h : j < off d n
    · obtain ⟨i, k, h1, h2, h3⟩ := ih h
      exact ⟨i, k, by omega, h2, h3⟩
    · rw [qlr] at hj
      exact ⟨n, j - off d n, by omega, by omega, by omega⟩
/-- Every place is a pin of an instance or a port. -/
theorem qnx {d : qk} {j : Nat} (hj : j < (places d).length) :
    (∃ i k, i < d.Instances.length ∧ k < (gt d.Instances i).Nets.length ∧ j = off d i + k ∧ gt (places d) j = place1 d i k) ∨
    (∃ i, i < d.Ports.length ∧ j = off d d.Instances.length + i ∧ gt (places d) j = place2 d i) := by
  rw [qi9] at hj
  by_cases h : j < off d d.Instances.length
  · obtain ⟨i, k, h1, h2, rfl⟩ := qoC h
    exact .inl ⟨i, k, h1, h2, rfl, (qov h1 h2).2⟩
  · refine .inr ⟨j - off d d.Instances.length, by omega, by omega, ?_⟩
    have := (qoA (d := d) (i := j - off d d.Instances.length) (by omega)).2
    rwa [show off d d.Instances.length + (j - off d d.Instances.length) = j by omega] at this

/-! ### Drivers -/

/-! ### Cells of instances -/

theorem qmq {l : qA} {d : qk} (h : designB l d = true) {i : Nat} (hi : i < d.Instances.length) :
    (0 ≤ (gt d.Instances i).Cell ∧ (gt d.Instances i).Cell < l.Cells.length) ∧ (gt d.Instances i).Nets.length = (gt l.Cells (gt d.Instances i).Cell.toNat).Pins.length ∧ cellB (gt l.Cells (gt d.Instances i).Cell.toNat) = true := by
  unfold designB libB at h
  simp only [Bool.and_eq_true] at h
  obtain ⟨⟨⟨hc, _⟩, _⟩, hI, _⟩ := h
  rw [qgY, qbh] at hI hc
  have := hI i hi
  unfold instB at this
  simp only [Bool.and_eq_true, qdC, beq_iff_eq] at this
  exact ⟨⟨this.1.1, by omega⟩, by omega, hc _ (by omega)⟩
theorem qoa {c : qJ} (h : cellB c = true) : c.Arcs.length ≤ 8 := by
  unfold cellB at h
  simp only [Bool.and_eq_true, decide_eq_true_eq] at h
  exact h.2.2.1.2
theorem qdT {b : qD} (h : blockB b = true) : designB b.Library b.Design = true := by
  unfold blockB at h; simp only [Bool.and_eq_true] at h; exact h.1.1
end Go.Fw


namespace Go.Fw
open Go Go.Proofs
open Go.RowKit (Below)
set_option maxRecDepth 100000
set_option maxHeartbeats 1600000
def qdk (_ : Nat) (a : qag) : Option (List qU) :=
 bif (a.Kind == 2) then
  some ([(⟨0, 0⟩ : qU), (⟨0, 1⟩ : qU)] : List qU)
 else
  bif (a.Kind == 3) then
   some ([(⟨1, 0⟩ : qU), (⟨1, 1⟩ : qU)] : List qU)
  else
   bif (a.Kind != 1) then
    some []
   else
    bif (a.Sense == 1) then
     some ([(⟨0, 0⟩ : qU), (⟨1, 1⟩ : qU)] : List qU)
    else
     bif (a.Sense == 2) then
      some ([(⟨0, 1⟩ : qU), (⟨1, 0⟩ : qU)] : List qU)
     else
      some ([(⟨0, 0⟩ : qU), (⟨0, 1⟩ : qU), (⟨1, 0⟩ : qU), (⟨1, 1⟩ : qU)] : List qU)

theorem qim {n : Nat} {w : World} {a : qag} {cs1 : List Value} (ha1 : GoT.R w (old w) a cs1) {r : (List qU)} (hF : qdk n a = some r) : RetV Tryz.prog 186 [GoT.v qag cs1] w r := by
 obtain ⟨p1, k1, p2, k2, rfl, s1, s2⟩ := qaV ha1
 refine qf Tryz.func186 rfl (m := 44) rfl rfl (fun h => ?_)
 rw [qdk] at hF
 refine zSR (qS h rfl rfl ?_)
 intro w1 bb1 h
 refine zp1 rfl (zNSR (r_v (qe2 qc [0, 1] [.const (.int .i64 (0)), .const (.int .i64 (0))] rfl rfl rfl rfl rfl rfl rfl rfl rfl) rfl (r_v (qe2 qc [0, 1] [.const (.int .i64 (1)), .const (.int .i64 (1))] rfl rfl rfl rfl rfl rfl rfl rfl rfl) rfl (qa7 qc [.tmp 5, .tmp 6] _ ([(⟨0, 0⟩ : qU), (⟨1, 1⟩ : qU)] : List qU) h rfl rfl rfl rfl rfl rfl rfl rfl rfl ⟨(qcO (⟨0, 0⟩ : qU)), (qcO (⟨1, 1⟩ : qU)), trivial⟩ rfl ?_))))
 intro w2 p3 S1 h
 refine zp1 rfl (zNSR (r_v (qe2 qc [0, 1] [.const (.int .i64 (0)), .const (.int .i64 (1))] rfl rfl rfl rfl rfl rfl rfl rfl rfl) rfl (r_v (qe2 qc [0, 1] [.const (.int .i64 (1)), .const (.int .i64 (0))] rfl rfl rfl rfl rfl rfl rfl rfl rfl) rfl (qa7 qc [.tmp 8, .tmp 9] _ ([(⟨0, 1⟩ : qU), (⟨1, 0⟩ : qU)] : List qU) h rfl rfl rfl rfl rfl rfl rfl rfl rfl ⟨(qcO (⟨0, 1⟩ : qU)), (qcO (⟨1, 0⟩ : qU)), trivial⟩ rfl ?_))))
 intro w3 p4 S2 h
 refine zp1 rfl (zNSB (zSR (zp1 rfl (zl 2 0 h rfl (zp2 rfl (qb ?_))))))
 refine qp rfl hF ?_ ?_ <;> intro hF
 ·refine zSR (r_v (qe2 qc [0, 1] [.const (.int .i64 (0)), .const (.int .i64 (0))] rfl rfl rfl rfl rfl rfl rfl rfl rfl) rfl (r_v (qe2 qc [0, 1] [.const (.int .i64 (0)), .const (.int .i64 (1))] rfl rfl rfl rfl rfl rfl rfl rfl rfl) rfl (qa7 qc [.tmp 15, .tmp 16] _ ([(⟨0, 0⟩ : qU), (⟨0, 1⟩ : qU)] : List qU) h rfl rfl rfl rfl rfl rfl rfl rfl rfl ⟨(qcO (⟨0, 0⟩ : qU)), (qcO (⟨0, 1⟩ : qU)), trivial⟩ rfl ?_)))
  intro w4 p5 S3 h
  refine zp1 rfl (qb ?_)
  obtain rfl := qh hF
  exact qal qc (ρ := (List qU)) [GoT.v (List qU) [.slice p5 2 2]] h ⟨rfl, trivial⟩ (PV.done h (qaq (qaG 0 h rfl)))
 refine zSR (zp1 rfl (zl 2 0 h rfl (zp2 rfl (qb ?_))))
 refine qp rfl hF ?_ ?_ <;> intro hF
 ·refine zSR (r_v (qe2 qc [0, 1] [.const (.int .i64 (1)), .const (.int .i64 (0))] rfl rfl rfl rfl rfl rfl rfl rfl rfl) rfl (r_v (qe2 qc [0, 1] [.const (.int .i64 (1)), .const (.int .i64 (1))] rfl rfl rfl rfl rfl rfl rfl rfl rfl) rfl (qa7 qc [.tmp 22, .tmp 23] _ ([(⟨1, 0⟩ : qU), (⟨1, 1⟩ : qU)] : List qU) h rfl rfl rfl rfl rfl rfl rfl rfl rfl ⟨(qcO (⟨1, 0⟩ : qU)), (qcO (⟨1, 1⟩ : qU)), trivial⟩ rfl ?_)))
  intro w5 p6 S4 h
  refine zp1 rfl (qb ?_)
  obtain rfl := qh hF
  exact qal qc (ρ := (List qU)) [GoT.v (List qU) [.slice p6 2 2]] h ⟨rfl, trivial⟩ (PV.done h (qaq (qaG 0 h rfl)))
 refine zSR (zp1 rfl (zl 2 0 h rfl (zp2 rfl (qb ?_))))
 refine qp rfl hF ?_ ?_ <;> intro hF
 ·refine zSR (zp1 rfl (qb ?_))
  obtain rfl := qh hF
  exact qal qc (ρ := (List qU)) [GoT.v (List qU) [.slice none 0 0]] h ⟨rfl, trivial⟩ (PV.done h (qaq qpf))
 refine zSR (zp1 rfl (zl 2 3 h rfl (zp2 rfl (qb ?_))))
 refine qp rfl hF ?_ ?_ <;> intro hF
 ·refine zSR (zp2 rfl (qb ?_))
  obtain rfl := qh hF
  exact qal qc (ρ := (List qU)) [GoT.v (List qU) [.slice p3 2 2]] h ⟨rfl, trivial⟩ (PV.done h (qaq (qaG 1 h rfl)))
 refine zSR (zp1 rfl (zl 2 3 h rfl (zp2 rfl (qb ?_))))
 refine qp rfl hF ?_ ?_ <;> intro hF
 ·refine zSR (zp2 rfl (qb ?_))
  obtain rfl := qh hF
  exact qal qc (ρ := (List qU)) [GoT.v (List qU) [.slice p4 2 2]] h ⟨rfl, trivial⟩ (PV.done h (qaq (qaG 0 h rfl)))
 refine zKE (zSR (r_v (qe2 qc [0, 1] [.const (.int .i64 (0)), .const (.int .i64 (0))] rfl rfl rfl rfl rfl rfl rfl rfl rfl) rfl (r_v (qe2 qc [0, 1] [.const (.int .i64 (0)), .const (.int .i64 (1))] rfl rfl rfl rfl rfl rfl rfl rfl rfl) rfl (r_v (qe2 qc [0, 1] [.const (.int .i64 (1)), .const (.int .i64 (0))] rfl rfl rfl rfl rfl rfl rfl rfl rfl) rfl (r_v (qe2 qc [0, 1] [.const (.int .i64 (1)), .const (.int .i64 (1))] rfl rfl rfl rfl rfl rfl rfl rfl rfl) rfl (qa7 qc [.tmp 39, .tmp 40, .tmp 41, .tmp 42] _ ([(⟨0, 0⟩ : qU), (⟨0, 1⟩ : qU), (⟨1, 0⟩ : qU), (⟨1, 1⟩ : qU)] : List qU) h rfl rfl rfl rfl rfl rfl rfl rfl rfl ⟨(qcO (⟨0, 0⟩ : qU)), (qcO (⟨0, 1⟩ : qU)), (qcO (⟨1, 0⟩ : qU)), (qcO (⟨1, 1⟩ : qU)), trivial⟩ rfl ?_))))))
 intro w6 p7 S5 h
 refine zp1 rfl (qb ?_)
 obtain rfl := qh hF
 exact qal qc (ρ := (List qU)) [GoT.v (List qU) [.slice p7 4 4]] h ⟨rfl, trivial⟩ (PV.done h (qaq (qaG 0 h rfl)))

def qa5 (first : Int) (i1 : Int) (y2 : qag) (r1 : (List qU)) : Nat → (List qbb) → Int → Option ((List qbb) × Int)
 | 0, _, _ => none
 | n + 1, x2, i2 =>
  bif decide (i2 < (r1.length : Int)) then
   (idx r1 i2).bind fun y3 =>
   (appS x2 ([(⟨W64 ((W64 (2 * (W64 (first + y2.From)))) + y3.e0), W64 ((W64 (2 * (W64 (first + y2.To)))) + y3.e1), 1, i1⟩ : qbb)] : List qbb)).bind fun x3 =>
   qa5 first i1 y2 r1 n x3 (W64 (i2 + 1))
  else
   some (x2, i2)

def qa4 (first : Int) (y1 : qJ) : Nat → (List qbb) → Int → Option ((List qbb) × Int)
 | 0, _, _ => none
 | n + 1, x1, i1 =>
  bif decide (i1 < (y1.Arcs.length : Int)) then
   (idx y1.Arcs i1).bind fun y2 =>
   (qdk n y2).bind fun r1 =>
   (qa5 first i1 y2 r1 n x1 0).bind fun o => match o with
   | (x2, _) =>
    qa4 first y1 n x2 (W64 (i1 + 1))
  else
   some (x1, i1)

def qdl (n : Nat) (b : qD) (x : qq) (first : Int) : Option (List qbb) :=
 (idx b.Library.Cells x.Cell).bind fun y1 =>
 (qa4 first y1 n ([] : List qbb) 0).bind fun o => match o with
 | (x1, _) =>
  some x1

theorem qio {n : Nat} {w : World} {b : qD} {x : qq} {first : Int} {cs1 : List Value} (ha1 : GoT.R w (old w) b cs1) {cs2 : List Value} (ha2 : GoT.R w (old w) x cs2) {r : (List qbb)} (hF : qdl n b x first = some r) : RetV Tryz.prog 150 [GoT.v qD cs1, GoT.v qq cs2, .int .i64 first] w r := by
 obtain ⟨p1, k1, p2, k2, p3, k3, p4, k4, p5, k5, rfl, s1, s2, s3, s4, s5⟩ := qax ha1
 obtain ⟨p6, k6, rfl, s6⟩ := qaf ha2
 refine qf Tryz.func150 rfl (m := 57) rfl rfl (fun h => ?_)
 rw [qdl] at hF
 refine zSR (qS h rfl rfl ?_)
 intro w1 bb1 h
 refine qS h rfl rfl ?_
 intro w2 bb2 h
 refine zp1 rfl (zNSR (zp1 rfl (zNSSR (zp2 rfl (zl 1 0 h rfl ?_)))))
 refine zp1 rfl (zl 0 1 h rfl ?_)
 obtain ⟨y1, hy1, hF⟩ := qd hF
 have he1 := qg hy1
 obtain ⟨b1, o_1, q1, cs3, hp1, hq1, -, hr1, hc1⟩ := s1.at hy1
 obtain ⟨p7, k7, p8, k8, p9, k9, rfl, s7, s8, s9⟩ := qak hr1
 refine zxe hp1 hq1 he1 rfl (zp1 rfl (zc 3 (hc1.below h.below) rfl (zp2 rfl (qb ?_))))
 replace h := h.nil (α := qbb)
 obtain ⟨o1, hF, hK1⟩ := qd hF
 refine qy ?_
 replace h := h.pick [0] rfl
 refine qW [(2, _), (7, _), (19, _), (20, _), (21, _)] ⟨rfl, rfl, rfl, rfl, rfl, trivial⟩ ?_
 refine qI (fun m e w' => ∃ (S1 : Nat → Prop) (p10 : Option Addr) (ln1 : Nat) (k10 : Nat) (x1 : (List qbb)) (i1 : Int), qa4 first y1 m x1 i1 = some o1 ∧ e = [(2, .int .i64 first), (7, .slice p10 ln1 k10), (19, .slice p8 y1.Arcs.length k8), (20, .int .i64 (y1.Arcs.length : Int)), (21, .int .i64 i1)] ∧ SH w w' [Ch.own S1 (x1 : List qbb) [.slice p10 ln1 k10]]) n ⟨_, _, _, _, _, _, hF, rfl, h⟩ ?_
 rintro m1 e1 w3 ⟨S1, p10, ln1, k10, x1, i1, hF, rfl, h⟩
 obtain rfl := (h.sl 0 rfl).2
 rcases m1 with _ | m1
 ·rw [qa4] at hF
  cases hF
 rw [qa4] at hF
 refine zSR (zp1 rfl (zNS ?_))
 refine qp rfl hF ?_ ?_ <;> intro hF
 ·refine zKSBSR (zp1 rfl ?_)
  obtain ⟨y2, hy2, hF⟩ := qd hF
  have he2 := qg hy2
  obtain ⟨b2, o_2, q2, cs4, hp2, hq2, -, hr2, hc3⟩ := s8.at hy2
  obtain ⟨p11, k11, p12, k12, rfl, s10, s11⟩ := qaV hr2
  refine zxe hp2 hq2 he2 rfl (zc 0 (hc3.below h.below) rfl (qY qc h rfl rfl rfl ?_))
  intro w4 bb3 h
  refine zp1 rfl (zs 0 h rfl ?_)
  intro w5 h
  replace h : SH _ _ [Ch.box bb3 [.int .i64 y2.Kind, .int .i64 y2.From, .int .i64 y2.To, .int .i64 y2.Sense, .slice p11 y2.Delay.length k11, .slice p12 y2.Slew.length k12] 211, Ch.own S1 (x1 : List qbb) [.slice p10 x1.length k10]] := h
  refine zNSR (zl 0 0 h rfl ?_)
  obtain ⟨r1, hr3, hF⟩ := qd hF
  refine qay r1 h call186 (qim (qfY y2 (h.oldS s10) (h.oldS s11)) hr3) rfl rfl rfl rfl ?_
  intro w6 S2 p13 k13 h
  refine zp2 rfl (qb ?_)
  obtain ⟨o2, hF, hK2⟩ := qd hF
  refine qy (qW [(2, _), (7, _), (8, _), (9, _), (19, _), (20, _), (21, _), (27, _), (28, _), (29, _)] ⟨rfl, rfl, rfl, rfl, rfl, rfl, rfl, rfl, rfl, rfl, trivial⟩ ?_)
  refine qI (fun m e w' => ∃ (S3 : Nat → Prop) (p14 : Option Addr) (ln2 : Nat) (k14 : Nat) (x2 : (List qbb)) (i2 : Int), qa5 first i1 y2 r1 m x2 i2 = some o2 ∧ e = [(2, .int .i64 first), (7, .slice p14 ln2 k14), (8, .int .i64 i1), (9, .pointer (some ⟨bb3, 0, none⟩)), (19, .slice p8 y1.Arcs.length k8), (20, .int .i64 (y1.Arcs.length : Int)), (21, .int .i64 i1), (27, .slice p13 r1.length k13), (28, .int .i64 (r1.length : Int)), (29, .int .i64 i2)] ∧ SH w w' [Ch.own S2 (r1 : List qU) [.slice p13 r1.length k13], Ch.box bb3 [.int .i64 y2.Kind, .int .i64 y2.From, .int .i64 y2.To, .int .i64 y2.Sense, .slice p11 y2.Delay.length k11, .slice p12 y2.Slew.length k12] 211, Ch.own S3 (x2 : List qbb) [.slice p14 ln2 k14]]) m1 ⟨_, _, _, _, _, _, hF, rfl, h⟩ ?_
  rintro m2 e2 w7 ⟨S3, p14, ln2, k14, x2, i2, hF, rfl, h⟩
  obtain rfl := (h.sl 2 rfl).2
  rcases m2 with _ | m2
  ·rw [qa5] at hF
   cases hF
  rw [qa5] at hF
  refine zSR (zp1 rfl (zNS ?_))
  refine qp rfl hF ?_ ?_ <;> intro hF
  ·refine zKSBSR ?_
   obtain ⟨y3, hy3, hF⟩ := qd hF
   have he3 := qg hy3
   obtain ⟨b3, o_3, q3, cs5, hp3, hq3, -, hr4, hc5⟩ := (h.sl 0 rfl).1.at hy3
   obtain rfl := qmH hr4
   refine zx hp3 hq3 ⟨he3.1, qbo he3.2.1 (h.sl 0 rfl).2⟩ rfl (zc 0 hc5 rfl (qY qc h rfl rfl rfl ?_))
   intro w8 bb4 h
   refine zs 0 h rfl ?_
   intro w9 h
   refine qb (qx (zp3 rfl (zl 2 1 h rfl (zp2 rfl ?_))))
   refine r_v (qqS (iv := 0) qc rfl rfl (by decide) ⟨rfl, rfl⟩ rfl rfl) rfl ?_
   refine zl 0 0 h rfl (zp3 rfl (zl 2 2 h rfl (zp2 rfl ?_)))
   refine r_v (qqS (iv := 1) qc rfl rfl (by decide) ⟨rfl, rfl⟩ rfl rfl) rfl ?_
   refine zl 0 1 h rfl (zp2 rfl (r_v (qeP qc [0, 1, 2, 3] [.tmp 41, .tmp 49, .const (.int .i64 (1)), .tmp 50] rfl rfl rfl rfl rfl rfl rfl rfl) rfl (qa7 qc [.tmp 51] _ ([(⟨W64 ((W64 (2 * (W64 (first + y2.From)))) + y3.e0), W64 ((W64 (2 * (W64 (first + y2.To)))) + y3.e1), 1, i1⟩ : qbb)] : List qbb) h rfl rfl rfl rfl rfl rfl rfl rfl rfl ⟨(qmx (⟨W64 ((W64 (2 * (W64 (first + y2.From)))) + y3.e0), W64 ((W64 (2 * (W64 (first + y2.To)))) + y3.e1), 1, i1⟩ : qbb)), trivial⟩ rfl ?_)))
   intro w10 p15 S4 h
   obtain ⟨x3, hx1, hF⟩ := qd hF
   obtain ⟨g1, hx1⟩ := qbl hx1
   refine qeE qc 4 h rfl (h.sl 0 rfl).1 (h.sl 0 rfl).2 rfl rfl rfl rfl rfl rfl rfl rfl rfl g1 hx1 rfl ?_
   intro w11 p16 k15 S5 h
   refine zp1 rfl (zNER (zp2 rfl (qb ?_)))
   replace h := h.pick [2, 3, 4] rfl
   exact qz m2 [(2, _), (7, _), (8, _), (9, _), (19, _), (20, _), (21, _), (27, _), (28, _), (29, _)] (Nat.lt_succ_self m2) ⟨rfl, rfl, rfl, rfl, rfl, rfl, rfl, rfl, rfl, rfl, trivial⟩ ⟨_, _, _, _, _, _, hF, rfl, h⟩
  refine qG rfl ?_
  obtain rfl := qh hF; replace hF := hK2
  refine qe1 (qx (zp2 rfl (qb ?_)))
  replace h := h.pick [2] rfl
  exact qz m1 [(2, _), (7, _), (19, _), (20, _), (21, _)] (Nat.lt_succ_self m1) ⟨rfl, rfl, rfl, rfl, rfl, trivial⟩ ⟨_, _, _, _, _, _, hF, rfl, h⟩
 refine qG rfl ?_
 obtain rfl := qh hF; replace hF := hK1
 refine zSR (zp2 rfl (qb ?_))
 obtain rfl := qh hF
 exact qal qc (ρ := (List qbb)) [GoT.v (List qbb) [.slice p10 x1.length k10]] h ⟨rfl, trivial⟩ (PV.done h (qaq (qaG 0 h rfl)))

def qf4 (_ : Nat) (s : (List Int)) : Option (List Int) :=
 appS ([] : List Int) s

theorem qiR {n : Nat} {w : World} {s : (List Int)} {cs1 : List Value} (ha1 : GoT.R w (old w) s cs1) {r : (List Int)} (hF : qf4 n s = some r) : RetV Tryz.prog 97 [GoT.v (List Int) cs1] w r := by
 obtain ⟨p, k, rfl, s1⟩ := ha1
 obtain ⟨g1, hx⟩ := qbl (show appS ([] : List Int) s = some r from hF)
 cases p with
 | none =>
  obtain rfl := qp2 s1
  obtain rfl : [] = r := hx
  refine qf Tryz.func97 rfl (m := 8) rfl rfl (fun h => ?_)
  refine zSR (zp1 rfl (zNSSR (zp1 rfl (r_v (qnr qc rfl rfl rfl rfl rfl) rfl (qb (qej rfl rfl (qbm ?_)))))))
  exact qx (zp1 rfl (qb (qal qc (ρ := (List Int)) [GoT.v (List Int) [.slice none 0 0]] h ⟨rfl, trivial⟩ (PV.done h (qaq qpf)))))
 | some a =>
  refine qf Tryz.func97 rfl (m := 8) rfl rfl (fun h => ?_)
  refine zSR (zp1 rfl (zNSSR (zp1 rfl (r_v (qnr qc rfl rfl rfl rfl rfl) rfl (qb (qd6 rfl rfl (qdQ ?_)))))))
  refine zSR (qa7 qc [] _ ([] : List Int) h rfl rfl rfl rfl rfl rfl rfl rfl rfl trivial rfl ?_)
  intro w1 p1 S1 h
  refine zp1 rfl (qpI qc 0 h rfl (h.oldS s1) rfl rfl rfl rfl rfl rfl rfl rfl rfl rfl g1 rfl ?_)
  intro w2 p2 k2 S2 h
  rw [hx] at h
  exact zp1 rfl (qb (qal qc (ρ := (List Int)) [GoT.v (List Int) [.slice p2 (([] : List Int).length + s.length) k2]] h ⟨rfl, trivial⟩ (PV.done h (qaq (qaG 0 h rfl)))))

def qaE (net : Int) (r1 : (List Tplace)) : Nat → (List Int) → Int → Option ((List Int) × Int)
 | 0, _, _ => none
 | n + 1, x1, i1 =>
  bif decide (i1 < (r1.length : Int)) then
   (idx r1 i1).bind fun y1 =>
   bif (y1.net == net) then
    bif (!y1.drives) then
     (appS x1 ([i1] : List Int)).bind fun x2 =>
     qaE net r1 n x2 (W64 (i1 + 1))
    else
     qaE net r1 n x1 (W64 (i1 + 1))
   else
    qaE net r1 n x1 (W64 (i1 + 1))
  else
   some (x1, i1)

def qel (n : Nat) (d : qk) (net : Int) : Option (List Int) :=
 (qbM n d).bind fun r1 =>
 (qaE net r1 n ([] : List Int) 0).bind fun o => match o with
 | (x1, _) =>
  some x1

theorem qjm {n : Nat} {w : World} {d : qk} {net : Int} {cs1 : List Value} (ha1 : GoT.R w (old w) d cs1) {r : (List Int)} (hF : qel n d net = some r) : RetV Tryz.prog 187 [GoT.v qk cs1, .int .i64 net] w r := by
 obtain ⟨p1, k1, p2, k2, p3, k3, rfl, s1, s2, s3⟩ := qaQ ha1
 refine qf Tryz.func187 rfl (m := 31) rfl rfl (fun h => ?_)
 rw [qel] at hF
 refine zSR (qS h rfl rfl ?_)
 intro w1 bb1 h
 refine zp1 rfl (zNSR (zp1 rfl (zNSSR (zl 0 0 h rfl ?_))))
 obtain ⟨r1, hr1, hF⟩ := qd hF
 refine qay r1 h call148 (qd4 (h.old ha1) hr1) rfl rfl rfl rfl ?_
 intro w2 S1 p4 k4 h
 refine zp2 rfl (qb ?_)
 replace h := h.nil (α := Int)
 obtain ⟨o1, hF, hK1⟩ := qd hF
 refine qy ?_
 replace h := h.pick [0, 1] rfl
 refine qW [(1, _), (5, _), (9, _), (10, _), (11, _)] ⟨rfl, rfl, rfl, rfl, rfl, trivial⟩ ?_
 refine qI (fun m e w' => ∃ (S2 : Nat → Prop) (p5 : Option Addr) (ln1 : Nat) (k5 : Nat) (x1 : (List Int)) (i1 : Int), qaE net r1 m x1 i1 = some o1 ∧ e = [(1, .int .i64 net), (5, .slice p5 ln1 k5), (9, .slice p4 r1.length k4), (10, .int .i64 (r1.length : Int)), (11, .int .i64 i1)] ∧ SH w w' [Ch.own S2 (x1 : List Int) [.slice p5 ln1 k5], Ch.own S1 (r1 : List Tplace) [.slice p4 r1.length k4]]) n ⟨_, _, _, _, _, _, hF, rfl, h⟩ ?_
 rintro m1 e1 w3 ⟨S2, p5, ln1, k5, x1, i1, hF, rfl, h⟩
 obtain rfl := (h.sl 0 rfl).2
 rcases m1 with _ | m1
 ·rw [qaE] at hF
  cases hF
 rw [qaE] at hF
 refine zSR (zp1 rfl (zNS ?_))
 refine qp rfl hF ?_ ?_ <;> intro hF
 ·refine zKSBSR (zp1 rfl ?_)
  obtain ⟨y1, hy1, hF⟩ := qd hF
  have he1 := qg hy1
  obtain ⟨b1, o_1, q1, cs2, hp1, hq1, -, hr2, hc2⟩ := (h.sl 1 rfl).1.at hy1
  obtain rfl := qhn hr2
  refine zx hp1 hq1 ⟨he1.1, qbo he1.2.1 (h.sl 1 rfl).2⟩ rfl (zc 0 hc2 rfl (qY qc h rfl rfl rfl ?_))
  intro w4 bb2 h
  refine zp1 rfl (zs 0 h rfl ?_)
  intro w5 h
  replace h : SH _ _ [Ch.box bb2 [.int .i64 y1.instance_, .int .i64 y1.pin, .int .i64 y1.net, .bool y1.drives] 156, Ch.own S2 (x1 : List Int) [.slice p5 x1.length k5], Ch.own S1 (r1 : List Tplace) [.slice p4 r1.length k4]] := h
  refine zNSR (zp1 rfl (zl 0 2 h rfl (zp3 rfl ?_)))
  by_cases hc3 : (y1.net == net) = true
  ·replace hF := bifT hc3 hF
   refine qC hc3 (t := 20) rfl (qa rfl (zp1 rfl (qa rfl (zl 0 3 h rfl (qa rfl (zp2 rfl (qb ?_)))))))
   refine qp rfl hF ?_ ?_ <;> intro hF
   ·refine qx (zp2 rfl (qa7 qc [.tmp 26] _ ([i1] : List Int) h rfl rfl rfl rfl rfl rfl rfl rfl rfl ⟨rfl, trivial⟩ rfl ?_))
    intro w6 p6 S3 h
    obtain ⟨x2, hx1, hF⟩ := qd hF
    obtain ⟨g1, hx1⟩ := qbl hx1
    refine qeE qc 2 h rfl (h.sl 0 rfl).1 (h.sl 0 rfl).2 rfl rfl rfl rfl rfl rfl rfl rfl rfl g1 hx1 rfl ?_
    intro w7 p7 k6 S4 h
    refine zp1 rfl (zNER (zp2 rfl (qb ?_)))
    replace h := h.pick [2, 3] rfl
    exact qz m1 [(1, _), (5, _), (9, _), (10, _), (11, _)] (Nat.lt_succ_self m1) ⟨rfl, rfl, rfl, rfl, rfl, trivial⟩ ⟨_, _, _, _, _, _, hF, rfl, h⟩
   refine zKER (zp2 rfl (qb ?_))
   replace h := h.pick [1, 2] rfl
   exact qz m1 [(1, _), (5, _), (9, _), (10, _), (11, _)] (Nat.lt_succ_self m1) ⟨rfl, rfl, rfl, rfl, rfl, trivial⟩ ⟨_, _, _, _, _, _, hF, rfl, h⟩
  replace hc3 := zb hc3
  replace hF := bifF hc3 hF
  refine qB hc3 (t := 20) rfl (zn3 rfl (zp1 rfl (qb (qd6 rfl rfl (zKER (zp2 rfl ?_))))))
  refine qb ?_
  replace h := h.pick [1, 2] rfl
  exact qz m1 [(1, _), (5, _), (9, _), (10, _), (11, _)] (Nat.lt_succ_self m1) ⟨rfl, rfl, rfl, rfl, rfl, trivial⟩ ⟨_, _, _, _, _, _, hF, rfl, h⟩
 refine qG rfl ?_
 obtain rfl := qh hF; replace hF := hK1
 refine zSR (zp2 rfl (qb ?_))
 obtain rfl := qh hF
 exact qal qc (ρ := (List Int)) [GoT.v (List Int) [.slice p5 x1.length k5]] h ⟨rfl, trivial⟩ (PV.done h (qaq (qaG 0 h rfl)))

def qeq (_ : Nat) (d : qk) (l : qA) (p : Tplace) : Option Int :=
 bif decide (p.instance_ < 0) then
  some 0
 else
  (idx d.Instances p.instance_).bind fun y1 =>
  (idx l.Cells y1.Cell).bind fun y2 =>
  (idx y2.Pins p.pin).bind fun y3 =>
  some y3.Cap

theorem qiT {n : Nat} {w : World} {d : qk} {l : qA} {p : Tplace} {cs1 : List Value} (ha1 : GoT.R w (old w) d cs1) {cs2 : List Value} (ha2 : GoT.R w (old w) l cs2) {cs3 : List Value} (ha3 : GoT.R w (old w) p cs3) {r : Int} (hF : qeq n d l p = some r) : RetV Tryz.prog 188 [GoT.v qk cs1, GoT.v qA cs2, GoT.v Tplace cs3] w r := by
 obtain ⟨p1, k1, p2, k2, p3, k3, rfl, s1, s2, s3⟩ := qaQ ha1
 obtain ⟨p4, k4, rfl, s4⟩ := qbR ha2
 obtain rfl := qhn ha3
 refine qf Tryz.func188 rfl (m := 27) rfl rfl (fun h => ?_)
 rw [qeq] at hF
 refine zSR (qS h rfl rfl ?_)
 intro w1 bb1 h
 refine qS h rfl rfl ?_
 intro w2 bb2 h
 refine qS h rfl rfl ?_
 intro w3 bb3 h
 refine zp1 rfl (zNSSR (zp1 rfl (zl 0 0 h rfl (zp1 rfl (qb ?_)))))
 refine qp rfl hF ?_ ?_ <;> intro hF
 ·exact zSR (zp1 rfl (qb (qar qc h hF ⟨rfl, trivial⟩)))
 refine zKS ?_
 refine qcf rfl (by kernel_rfl) ?_
 refine zd1 rfl ?_
 refine zdl 1 0 h rfl ?_
 refine zd1 rfl ?_
 refine zdl 2 0 h rfl ?_
 refine zd1 rfl ?_
 refine zdl 0 0 h rfl ?_
 obtain ⟨y1, hy1, hF⟩ := qd hF
 have he1 := qg hy1
 obtain ⟨b1, o_1, q1, cs4, hp1, hq1, -, hr1, hc2⟩ := s1.at hy1
 obtain ⟨p5, k5, rfl, s5⟩ := qaf hr1
 refine zdxe hp1 hq1 he1 rfl ?_
 refine zd1 rfl ?_
 refine zdc 1 (hc2.below h.below) rfl ?_
 obtain ⟨y2, hy2, hF⟩ := qd hF
 have he2 := qg hy2
 obtain ⟨b2, o_2, q2, cs5, hp2, hq2, -, hr2, hc3⟩ := s4.at hy2
 obtain ⟨p6, k6, p7, k7, p8, k8, rfl, s6, s7, s8⟩ := qak hr2
 refine zdxe hp2 hq2 he2 rfl ?_
 refine zd1 rfl ?_
 refine zdc 2 (hc3.below h.below) rfl ?_
 refine zd1 rfl ?_
 refine zdl 0 1 h rfl ?_
 obtain ⟨y3, hy3, hF⟩ := qd hF
 have he3 := qg hy3
 obtain ⟨b3, o_3, q3, cs6, hp3, hq3, -, hr3, hc4⟩ := s6.at hy3
 obtain rfl := qbx hr3
 refine zdxe hp3 hq3 he3 rfl ?_
 refine zd1 rfl ?_
 refine zdc 2 (hc4.below h.below) rfl ?_
 refine zd1 rfl ?_
 refine qbc (fun w4 hb => ?_)
 replace h := h.ext hb
 clear hb
 exact qar qc h hF ⟨rfl, trivial⟩

def qa3 (y1 : qac) : Nat → (List Int) → Int → Option ((List Int) × Int)
 | 0, _, _ => none
 | n + 1, x2, i2 =>
  bif decide (i2 > 0) then
   (idx y1.Parent i2).bind fun y7 =>
   (idx x2 y7).bind fun y8 =>
   (idx x2 i2).bind fun y9 =>
   (idx x2 y7).bind fun _ =>
   qa3 y1 n (setS x2 y7 (W64 (y8 + y9))) (W64 (i2 - 1))
  else
   some (x2, i2)

def qa2 (a_0 : qD) (y1 : qac) (r2 : (List Tplace)) (r3 : (List Int)) : Nat → (List Int) → Int → Option ((List Int) × Int)
 | 0, _, _ => none
 | n + 1, x1, i1 =>
  bif decide (i1 < (r3.length : Int)) then
   (idx r3 i1).bind fun y2 =>
   (idx y1.Sink i1).bind fun y3 =>
   (idx x1 y3).bind fun y4 =>
   (idx r2 y2).bind fun y5 =>
   (qeq n (⟨a_0.Design.Instances, a_0.Design.Nets, a_0.Design.Ports⟩ : qk) (⟨a_0.Library.Cells⟩ : qA) y5).bind fun r4 =>
   (idx x1 y3).bind fun _ =>
   qa2 a_0 y1 r2 r3 n (setS x1 y3 (W64 (y4 + r4))) (W64 (i1 + 1))
  else
   some (x1, i1)

def qcp (n : Nat) (a_0 : qD) (a_1 : Int) : Option (List Int) :=
 (idx a_0.Wires a_1).bind fun y1 =>
 (qf4 n y1.Cap).bind fun r1 =>
 (qbM n (⟨a_0.Design.Instances, a_0.Design.Nets, a_0.Design.Ports⟩ : qk)).bind fun r2 =>
 (qel n (⟨a_0.Design.Instances, a_0.Design.Nets, a_0.Design.Ports⟩ : qk) a_1).bind fun r3 =>
 (qa2 a_0 y1 r2 r3 n r1 0).bind fun o => match o with
 | (x1, _) =>
  (qa3 y1 n x1 (W64 ((r1.length : Int) - 1))).bind fun o => match o with
  | (x2, _) =>
   some x2

theorem qeJ {n : Nat} {w : World} {a_0 : qD} {a_1 : Int} {cs1 : List Value} (ha1 : GoT.R w (old w) a_0 cs1) {r : (List Int)} (hF : qcp n a_0 a_1 = some r) : RetV Tryz.prog 151 [GoT.v qD cs1, .int .i64 a_1] w r := by
 obtain ⟨p1, k1, p2, k2, p3, k3, p4, k4, p5, k5, rfl, s1, s2, s3, s4, s5⟩ := qax ha1
 refine qf Tryz.func151 rfl (m := 74) rfl rfl (fun h => ?_)
 rw [qcp] at hF
 refine zSR (qS h rfl rfl ?_)
 intro w1 bb1 h
 refine zp1 rfl (zNSR (zp1 rfl (zl 0 4 h rfl (zp1 rfl ?_))))
 obtain ⟨y1, hy1, hF⟩ := qd hF
 have he1 := qg hy1
 obtain ⟨b1, o_1, q1, cs2, hp1, hq1, -, hr1, hc1⟩ := s5.at hy1
 obtain ⟨p6, k6, p7, k7, p8, k8, p9, k9, rfl, s6, s7, s8, s9⟩ := qbF hr1
 refine zxe hp1 hq1 he1 rfl (zc 0 (hc1.below h.below) rfl (qY qc h rfl rfl rfl ?_))
 intro w2 bb2 h
 refine zs 0 h rfl ?_
 intro w3 h
 refine zNSR (zp1 rfl (zl 0 2 h rfl ?_))
 obtain ⟨r1, hr2, hF⟩ := qd hF
 refine qay r1 h call97 (qiR ⟨_, _, rfl, (h.oldS s8)⟩ hr2) rfl rfl rfl rfl ?_
 intro w4 S1 p10 k10 h
 refine zp1 rfl (zNSR (zp1 rfl (zl 2 1 h rfl ?_)))
 obtain ⟨r2, hr3, hF⟩ := qd hF
 refine qay r2 h call148 (qd4 (qb6 (⟨a_0.Design.Instances, a_0.Design.Nets, a_0.Design.Ports⟩ : qk) (h.oldS s2) (h.oldS s3) (h.oldS s4)) hr3) rfl rfl rfl rfl ?_
 intro w5 S2 p11 k11 h
 refine zp1 rfl (zNSSR (zp1 rfl (zl 3 1 h rfl (zp1 rfl ?_))))
 obtain ⟨r3, hr4, hF⟩ := qd hF
 refine qay r3 h call187 (qjm (qb6 (⟨a_0.Design.Instances, a_0.Design.Nets, a_0.Design.Ports⟩ : qk) (h.oldS s2) (h.oldS s3) (h.oldS s4)) hr4) rfl rfl rfl rfl ?_
 intro w6 S3 p12 k12 h
 refine zp2 rfl (qb ?_)
 obtain ⟨o1, hF, hK1⟩ := qd hF
 refine qy (qW [(2, _), (5, _), (6, _), (7, _), (25, _), (26, _), (27, _)] ⟨rfl, rfl, rfl, rfl, rfl, rfl, rfl, trivial⟩ ?_)
 refine qI (fun m e w' => ∃ (x1 : (List Int)) (i1 : Int), qa2 a_0 y1 r2 r3 m x1 i1 = some o1 ∧ e = [(2, .pointer (some ⟨bb1, 0, none⟩)), (5, .pointer (some ⟨bb2, 0, none⟩)), (6, .slice p10 r1.length k10), (7, .slice p11 r2.length k11), (25, .slice p12 r3.length k12), (26, .int .i64 (r3.length : Int)), (27, .int .i64 i1)] ∧ SH w w' [Ch.own S3 (r3 : List Int) [.slice p12 r3.length k12], Ch.own S2 (r2 : List Tplace) [.slice p11 r2.length k11], Ch.own S1 (x1 : List Int) [.slice p10 r1.length k10], Ch.box bb2 [.slice p6 y1.Parent.length k6, .slice p7 y1.Res.length k7, .slice p8 y1.Cap.length k8, .slice p9 y1.Sink.length k9] 130, Ch.box bb1 [.slice p1 a_0.Library.Cells.length k1, .slice p2 a_0.Design.Instances.length k2, .slice p3 a_0.Design.Nets.length k3, .slice p4 a_0.Design.Ports.length k4, .slice p5 a_0.Wires.length k5] 50]) n ⟨_, _, hF, rfl, h⟩ ?_
 rintro m1 e1 w7 ⟨x1, i1, hF, rfl, h⟩
 rcases m1 with _ | m1
 ·rw [qa2] at hF
  cases hF
 rw [qa2] at hF
 refine zSR (zp1 rfl (zNS ?_))
 refine qp rfl hF ?_ ?_ <;> intro hF
 ·refine zKSBSR (zp1 rfl ?_)
  obtain ⟨y2, hy2, hF⟩ := qd hF
  have he2 := qg hy2
  obtain ⟨b2, o_2, q2, cs3, hp2, hq2, -, hr5, hc3⟩ := (h.sl 0 rfl).1.at hy2
  obtain rfl := hr5
  refine zx hp2 hq2 ⟨he2.1, qbo he2.2.1 (h.sl 0 rfl).2⟩ rfl (zc 0 hc3 rfl (zp2 rfl (qb ?_)))
  refine qht [19] (fun w' => SH w w' [Ch.own S2 (r2 : List Tplace) [.slice p11 r2.length k11], Ch.own S1 (x1 : List Int) [.slice p10 r1.length k10], Ch.box bb2 [.slice p6 y1.Parent.length k6, .slice p7 y1.Res.length k7, .slice p8 y1.Cap.length k8, .slice p9 y1.Sink.length k9] 130, Ch.box bb1 [.slice p1 a_0.Library.Cells.length k1, .slice p2 a_0.Design.Instances.length k2, .slice p3 a_0.Design.Nets.length k3, .slice p4 a_0.Design.Ports.length k4, .slice p5 a_0.Wires.length k5] 50]) rfl 20 rfl #[ff, ff, ff, ff, ff, ff, ff, ff, ff, ff, ff, ff, ff, ff, ff, ff, ff, ff, ff, ff] (by kernel_rfl) (fun w8 hb => ?_)
  replace h := h.ext hb
  clear hb
  refine ql 0 rfl #[tt, ff, ff, ff, ff, ff, ff, ff, ff, ff, ff, ff, ff, ff, ff, ff, ff, ff, ff, ff] (by kernel_rfl) (by kernel_rfl) (fun w' hw => v_p qc rfl w') (h.pick [1, 2, 3, 4] rfl) rfl ?_
  refine ql 1 rfl #[tt, tt, ff, ff, ff, ff, ff, ff, ff, ff, ff, ff, ff, ff, ff, ff, ff, ff, ff, ff] (by kernel_rfl) (by kernel_rfl) (fun w' hw => v_p qc rfl w') (h.pick [1, 2, 3, 4] rfl) rfl ?_
  refine ql 2 rfl #[tt, tt, tt, ff, ff, ff, ff, ff, ff, ff, ff, ff, ff, ff, ff, ff, ff, ff, ff, ff] (by kernel_rfl) (by kernel_rfl) (fun w' hw => qcK qc (hw.box 2 rfl) (j := 3) rfl rfl rfl) (h.pick [1, 2, 3, 4] rfl) rfl ?_
  refine ql 3 rfl #[tt, tt, tt, tt, ff, ff, ff, ff, ff, ff, ff, ff, ff, ff, ff, ff, ff, ff, ff, ff] (by kernel_rfl) (by kernel_rfl) (fun w' hw => v_p qc rfl w') (h.pick [1, 2, 3, 4] rfl) rfl ?_
  obtain ⟨y3, hy3, hF⟩ := qd hF
  have he3 := qg hy3
  obtain ⟨b3, o_3, q3, cs4, hp3, hq3, -, hr6, hc4⟩ := s9.at hy3
  obtain rfl := hr6
  refine ql 4 rfl #[tt, tt, tt, tt, tt, ff, ff, ff, ff, ff, ff, ff, ff, ff, ff, ff, ff, ff, ff, ff] (by kernel_rfl) (by kernel_rfl) (fun w' hw => qgT qc hp3 hq3 ⟨he3.1, he3.2.1⟩ rfl rfl rfl rfl rfl rfl) (h.pick [1, 2, 3, 4] rfl) rfl ?_
  refine ql 5 rfl #[tt, tt, tt, tt, tt, tt, ff, ff, ff, ff, ff, ff, ff, ff, ff, ff, ff, ff, ff, ff] (by kernel_rfl) (by kernel_rfl) (fun w' hw => qcK qc (hc4.below hw.below) (j := 0) rfl rfl rfl) (h.pick [1, 2, 3, 4] rfl) rfl ?_
  obtain ⟨y4, hy4, hF⟩ := qd hF
  have he4 := qg hy4
  obtain ⟨b4, o_4, q4, cs5, hp4, hq4, -, hr7, hc5⟩ := (h.sl 2 rfl).1.at hy4
  obtain rfl := hr7
  refine ql 6 rfl #[tt, tt, tt, tt, tt, tt, tt, ff, ff, ff, ff, ff, ff, ff, ff, ff, ff, ff, ff, ff] (by kernel_rfl) (by kernel_rfl) (fun w' hw => qgT qc hp4 hq4 ⟨he4.1, qbo he4.2.1 (h.sl 2 rfl).2⟩ rfl rfl rfl rfl rfl rfl) (h.pick [1, 2, 3, 4] rfl) rfl ?_
  refine ql 7 rfl #[tt, tt, tt, tt, tt, tt, tt, tt, ff, ff, ff, ff, ff, ff, ff, ff, ff, ff, ff, ff] (by kernel_rfl) (by kernel_rfl) (fun w' hw => qcK qc (qg2 (w1 := w) (S1 := fun _ => False) hw 1 rfl hy4 hp4 hq4 rfl) (j := 0) rfl rfl rfl) (h.pick [1, 2, 3, 4] rfl) rfl ?_
  refine ql 8 rfl #[tt, tt, tt, tt, tt, tt, tt, tt, tt, ff, ff, ff, ff, ff, ff, ff, ff, ff, ff, ff] (by kernel_rfl) (by kernel_rfl) (fun w' hw => v_p qc rfl w') (h.pick [1, 2, 3, 4] rfl) rfl ?_
  refine ql 9 rfl #[tt, tt, tt, tt, tt, tt, tt, tt, tt, tt, ff, ff, ff, ff, ff, ff, ff, ff, ff, ff] (by kernel_rfl) (by kernel_rfl) (fun w' hw => qcK qc (hw.box 3 rfl) (j := 1) rfl rfl rfl) (h.pick [1, 2, 3, 4] rfl) rfl ?_
  refine ql 10 rfl #[tt, tt, tt, tt, tt, tt, tt, tt, tt, tt, tt, ff, ff, ff, ff, ff, ff, ff, ff, ff] (by kernel_rfl) (by kernel_rfl) (fun w' hw => v_p qc rfl w') (h.pick [1, 2, 3, 4] rfl) rfl ?_
  refine ql 11 rfl #[tt, tt, tt, tt, tt, tt, tt, tt, tt, tt, tt, tt, ff, ff, ff, ff, ff, ff, ff, ff] (by kernel_rfl) (by kernel_rfl) (fun w' hw => qcK qc (hw.box 3 rfl) (j := 0) rfl rfl rfl) (h.pick [1, 2, 3, 4] rfl) rfl ?_
  refine ql 12 rfl #[tt, tt, tt, tt, tt, tt, tt, tt, tt, tt, tt, tt, tt, ff, ff, ff, ff, ff, ff, ff] (by kernel_rfl) (by kernel_rfl) (fun w' hw => v_p qc rfl w') (h.pick [1, 2, 3, 4] rfl) rfl ?_
  refine ql 13 rfl #[tt, tt, tt, tt, tt, tt, tt, tt, tt, tt, tt, tt, tt, tt, ff, ff, ff, ff, ff, ff] (by kernel_rfl) (by kernel_rfl) (fun w' hw => v_p qc rfl w') (h.pick [1, 2, 3, 4] rfl) rfl ?_
  obtain ⟨y5, hy5, hF⟩ := qd hF
  have he5 := qg hy5
  obtain ⟨b5, o_5, q5, cs6, hp5, hq5, -, hr8, hc6⟩ := (h.sl 1 rfl).1.at hy5
  obtain rfl := qhn hr8
  refine ql 14 rfl #[tt, tt, tt, tt, tt, tt, tt, tt, tt, tt, tt, tt, tt, tt, tt, ff, ff, ff, ff, ff] (by kernel_rfl) (by kernel_rfl) (fun w' hw => qgT qc hp5 hq5 ⟨he5.1, qbo he5.2.1 (h.sl 1 rfl).2⟩ rfl rfl rfl rfl rfl rfl) (h.pick [1, 2, 3, 4] rfl) rfl ?_
  refine ql 15 rfl #[tt, tt, tt, tt, tt, tt, tt, tt, tt, tt, tt, tt, tt, tt, tt, tt, ff, ff, ff, ff] (by kernel_rfl) (by kernel_rfl) (fun w' hw => qcK qc (qg2 hw 0 rfl hy5 hp5 hq5 (qiH (w := w) (S := fun _ => False) y5)) (j := 0) rfl rfl rfl) (h.pick [1, 2, 3, 4] rfl) rfl ?_
  refine qa6 16 rfl #[tt, tt, tt, tt, tt, tt, tt, tt, tt, tt, tt, tt, tt, tt, tt, tt, tt, ff, ff, ff] (by kernel_rfl) (by kernel_rfl) ?_
  obtain ⟨r4, hr9, hF⟩ := qd hF
  refine qP r4 h call188 (qiT (qb6 (⟨a_0.Design.Instances, a_0.Design.Nets, a_0.Design.Ports⟩ : qk) (h.oldS s2) (h.oldS s3) (h.oldS s4)) (qeS (⟨a_0.Library.Cells⟩ : qA) (h.oldS s1)) (qiH y5) hr9) rfl rfl rfl rfl ?_
  intro w9 h
  refine qaW (fun _ => (h.pick [1, 2, 3, 4] rfl)) ?_
  refine ql 17 rfl #[tt, tt, tt, tt, tt, tt, tt, tt, tt, tt, tt, tt, tt, tt, tt, tt, tt, tt, ff, ff] (by kernel_rfl) (by kernel_rfl) (fun w' hw => v_p qc rfl w') (h.pick [1, 2, 3, 4] rfl) rfl ?_
  obtain ⟨y6, hy6, hF⟩ := qd hF
  have he6 := qg hy6
  obtain ⟨b6, o_6, q6, cs7, hp6, hq6, -, hr10, hc7⟩ := (h.sl 2 rfl).1.at hy6
  obtain rfl := hr10
  refine ql 18 rfl #[tt, tt, tt, tt, tt, tt, tt, tt, tt, tt, tt, tt, tt, tt, tt, tt, tt, tt, tt, ff] (by kernel_rfl) (by kernel_rfl) (fun w' hw => qgT qc hp6 hq6 ⟨he6.1, qbo he6.2.1 (h.sl 2 rfl).2⟩ rfl rfl rfl rfl rfl rfl) (h.pick [1, 2, 3, 4] rfl) rfl ?_
  refine qa6 19 rfl #[tt, tt, tt, tt, tt, tt, tt, tt, tt, tt, tt, tt, tt, tt, tt, tt, tt, tt, tt, tt] (by kernel_rfl) (by kernel_rfl) ?_
  refine qfe qc 2 0 (W64 (y4 + r4)) h rfl hy6 hp6 hq6 rfl hc7 rfl rfl rfl rfl rfl rfl rfl ?_
  intro w10 h
  refine qaW (fun hs => absurd (hs 19 (by decide)) (by decide)) ?_
  refine qfa (by kernel_rfl) ?_
  exact qe1 (qx (zp2 rfl (qb (qz m1 [(2, _), (5, _), (6, _), (7, _), (25, _), (26, _), (27, _)] (Nat.lt_succ_self m1) ⟨rfl, rfl, rfl, rfl, rfl, rfl, rfl, trivial⟩ ⟨_, _, hF, rfl, h⟩))))
 refine qG rfl ?_
 obtain rfl := qh hF; replace hF := hK1
 refine zSSR (zp4 rfl (qb ?_))
 obtain ⟨o2, hF, hK2⟩ := qd hF
 refine qy ?_
 replace h := h.pick [2, 3] rfl
 refine qW [(5, _), (6, _), (10, _)] ⟨rfl, rfl, rfl, trivial⟩ ?_
 refine qI (fun m e w' => ∃ (x2 : (List Int)) (i2 : Int), qa3 y1 m x2 i2 = some o2 ∧ e = [(5, .pointer (some ⟨bb2, 0, none⟩)), (6, .slice p10 r1.length k10), (10, .int .i64 i2)] ∧ SH w w' [Ch.own S1 (x2 : List Int) [.slice p10 r1.length k10], Ch.box bb2 [.slice p6 y1.Parent.length k6, .slice p7 y1.Res.length k7, .slice p8 y1.Cap.length k8, .slice p9 y1.Sink.length k9] 130]) n ⟨_, _, hF, rfl, h⟩ ?_
 rintro m2 e2 w11 ⟨x2, i2, hF, rfl, h⟩
 rcases m2 with _ | m2
 ·rw [qa3] at hF
  cases hF
 rw [qa3] at hF
 refine zSSR (zp2 rfl (qb ?_))
 refine qp rfl hF ?_ ?_ <;> intro hF
 ·refine zKSB ?_
  refine qht [14] (fun w' => SH w w' [Ch.own S1 (x2 : List Int) [.slice p10 r1.length k10], Ch.box bb2 [.slice p6 y1.Parent.length k6, .slice p7 y1.Res.length k7, .slice p8 y1.Cap.length k8, .slice p9 y1.Sink.length k9] 130]) rfl 15 rfl #[ff, ff, ff, ff, ff, ff, ff, ff, ff, ff, ff, ff, ff, ff, ff] (by kernel_rfl) (fun w12 hb => ?_)
  replace h := h.ext hb
  clear hb
  refine ql 0 rfl #[tt, ff, ff, ff, ff, ff, ff, ff, ff, ff, ff, ff, ff, ff, ff] (by kernel_rfl) (by kernel_rfl) (fun w' hw => v_p qc rfl w') (h.pick [0, 1] rfl) rfl ?_
  refine ql 1 rfl #[tt, tt, ff, ff, ff, ff, ff, ff, ff, ff, ff, ff, ff, ff, ff] (by kernel_rfl) (by kernel_rfl) (fun w' hw => v_p qc rfl w') (h.pick [0, 1] rfl) rfl ?_
  refine ql 2 rfl #[tt, tt, tt, ff, ff, ff, ff, ff, ff, ff, ff, ff, ff, ff, ff] (by kernel_rfl) (by kernel_rfl) (fun w' hw => qcK qc (hw.box 1 rfl) (j := 0) rfl rfl rfl) (h.pick [0, 1] rfl) rfl ?_
  refine ql 3 rfl #[tt, tt, tt, tt, ff, ff, ff, ff, ff, ff, ff, ff, ff, ff, ff] (by kernel_rfl) (by kernel_rfl) (fun w' hw => v_p qc rfl w') (h.pick [0, 1] rfl) rfl ?_
  obtain ⟨y7, hy7, hF⟩ := qd hF
  have he7 := qg hy7
  obtain ⟨b7, o_7, q7, cs8, hp7, hq7, -, hr11, hc9⟩ := s6.at hy7
  obtain rfl := hr11
  refine ql 4 rfl #[tt, tt, tt, tt, tt, ff, ff, ff, ff, ff, ff, ff, ff, ff, ff] (by kernel_rfl) (by kernel_rfl) (fun w' hw => qgT qc hp7 hq7 ⟨he7.1, he7.2.1⟩ rfl rfl rfl rfl rfl rfl) (h.pick [0, 1] rfl) rfl ?_
  refine ql 5 rfl #[tt, tt, tt, tt, tt, tt, ff, ff, ff, ff, ff, ff, ff, ff, ff] (by kernel_rfl) (by kernel_rfl) (fun w' hw => qcK qc (hc9.below hw.below) (j := 0) rfl rfl rfl) (h.pick [0, 1] rfl) rfl ?_
  obtain ⟨y8, hy8, hF⟩ := qd hF
  have he8 := qg hy8
  obtain ⟨b8, o_8, q8, cs9, hp8, hq8, -, hr12, hc10⟩ := (h.sl 0 rfl).1.at hy8
  obtain rfl := hr12
  refine ql 6 rfl #[tt, tt, tt, tt, tt, tt, tt, ff, ff, ff, ff, ff, ff, ff, ff] (by kernel_rfl) (by kernel_rfl) (fun w' hw => qgT qc hp8 hq8 ⟨he8.1, qbo he8.2.1 (h.sl 0 rfl).2⟩ rfl rfl rfl rfl rfl rfl) (h.pick [0, 1] rfl) rfl ?_
  refine ql 7 rfl #[tt, tt, tt, tt, tt, tt, tt, tt, ff, ff, ff, ff, ff, ff, ff] (by kernel_rfl) (by kernel_rfl) (fun w' hw => qcK qc (qg2 (w1 := w) (S1 := fun _ => False) hw 0 rfl hy8 hp8 hq8 rfl) (j := 0) rfl rfl rfl) (h.pick [0, 1] rfl) rfl ?_
  refine ql 8 rfl #[tt, tt, tt, tt, tt, tt, tt, tt, tt, ff, ff, ff, ff, ff, ff] (by kernel_rfl) (by kernel_rfl) (fun w' hw => v_p qc rfl w') (h.pick [0, 1] rfl) rfl ?_
  refine ql 9 rfl #[tt, tt, tt, tt, tt, tt, tt, tt, tt, tt, ff, ff, ff, ff, ff] (by kernel_rfl) (by kernel_rfl) (fun w' hw => v_p qc rfl w') (h.pick [0, 1] rfl) rfl ?_
  obtain ⟨y9, hy9, hF⟩ := qd hF
  have he9 := qg hy9
  obtain ⟨b9, o_9, q9, cs10, hp9, hq9, -, hr13, hc11⟩ := (h.sl 0 rfl).1.at hy9
  obtain rfl := hr13
  refine ql 10 rfl #[tt, tt, tt, tt, tt, tt, tt, tt, tt, tt, tt, ff, ff, ff, ff] (by kernel_rfl) (by kernel_rfl) (fun w' hw => qgT qc hp9 hq9 ⟨he9.1, qbo he9.2.1 (h.sl 0 rfl).2⟩ rfl rfl rfl rfl rfl rfl) (h.pick [0, 1] rfl) rfl ?_
  refine ql 11 rfl #[tt, tt, tt, tt, tt, tt, tt, tt, tt, tt, tt, tt, ff, ff, ff] (by kernel_rfl) (by kernel_rfl) (fun w' hw => qcK qc (qg2 (w1 := w) (S1 := fun _ => False) hw 0 rfl hy9 hp9 hq9 rfl) (j := 0) rfl rfl rfl) (h.pick [0, 1] rfl) rfl ?_
  refine ql 12 rfl #[tt, tt, tt, tt, tt, tt, tt, tt, tt, tt, tt, tt, tt, ff, ff] (by kernel_rfl) (by kernel_rfl) (fun w' hw => v_p qc rfl w') (h.pick [0, 1] rfl) rfl ?_
  obtain ⟨y10, hy10, hF⟩ := qd hF
  have he10 := qg hy10
  obtain ⟨b10, o_10, q10, cs11, hp10, hq10, -, hr14, hc12⟩ := (h.sl 0 rfl).1.at hy10
  obtain rfl := hr14
  refine ql 13 rfl #[tt, tt, tt, tt, tt, tt, tt, tt, tt, tt, tt, tt, tt, tt, ff] (by kernel_rfl) (by kernel_rfl) (fun w' hw => qgT qc hp10 hq10 ⟨he10.1, qbo he10.2.1 (h.sl 0 rfl).2⟩ rfl rfl rfl rfl rfl rfl) (h.pick [0, 1] rfl) rfl ?_
  refine qa6 14 rfl #[tt, tt, tt, tt, tt, tt, tt, tt, tt, tt, tt, tt, tt, tt, tt] (by kernel_rfl) (by kernel_rfl) ?_
  refine qfe qc 0 0 (W64 (y8 + y9)) h rfl hy10 hp10 hq10 rfl hc12 rfl rfl rfl rfl rfl rfl rfl ?_
  intro w13 h
  refine qaW (fun hs => absurd (hs 14 (by decide)) (by decide)) ?_
  refine qfa (by kernel_rfl) ?_
  exact qe1 (qx (zp3 rfl (qb (qz m2 [(5, _), (6, _), (10, _)] (Nat.lt_succ_self m2) ⟨rfl, rfl, rfl, trivial⟩ ⟨_, _, hF, rfl, h⟩))))
 refine qG rfl ?_
 obtain rfl := qh hF; replace hF := hK2
 refine zSR (zp2 rfl (qb ?_))
 obtain rfl := qh hF
 exact qal qc (ρ := (List Int)) [GoT.v (List Int) [.slice p10 r1.length k10]] h ⟨rfl, trivial⟩ (PV.done h (qaq (qaG 0 h rfl)))

def qaU (y1 : qac) (r1 : (List Int)) (x1 : (List Int)) : Nat → (List Int) → Int → Option ((List Int) × Int)
 | 0, _, _ => none
 | n + 1, x2, i1 =>
  bif decide (i1 < (x1.length : Int)) then
   (idx y1.Parent i1).bind fun y2 =>
   (idx x2 y2).bind fun y3 =>
   (idx y1.Res i1).bind fun y4 =>
   (idx r1 i1).bind fun y5 =>
   (idx x2 i1).bind fun _ =>
   qaU y1 r1 x1 n (setS x2 i1 (W64 (y3 + (W64 (y4 * y5))))) (W64 (i1 + 1))
  else
   some (x2, i1)

def qd5 (n : Nat) (b : qD) (net : Int) : Option (List Int) :=
 (idx b.Wires net).bind fun y1 =>
 (qcp n b net).bind fun r1 =>
 (mkS (r1.length : Int) (0 : Int)).bind fun x1 =>
 (qaU y1 r1 x1 n x1 1).bind fun o => match o with
 | (x2, _) =>
  some x2

theorem qic {n : Nat} {w : World} {b : qD} {net : Int} {cs1 : List Value} (ha1 : GoT.R w (old w) b cs1) {r : (List Int)} (hF : qd5 n b net = some r) : RetV Tryz.prog 189 [GoT.v qD cs1, .int .i64 net] w r := by
 obtain ⟨p1, k1, p2, k2, p3, k3, p4, k4, p5, k5, rfl, s1, s2, s3, s4, s5⟩ := qax ha1
 refine qf Tryz.func189 rfl (m := 49) rfl rfl (fun h => ?_)
 rw [qd5] at hF
 refine zSR (qS h rfl rfl ?_)
 intro w1 bb1 h
 refine zp1 rfl (zNS ?_)
 refine qht [] (fun w' => SH w w' [Ch.box bb1 [.slice p1 b.Library.Cells.length k1, .slice p2 b.Design.Instances.length k2, .slice p3 b.Design.Nets.length k3, .slice p4 b.Design.Ports.length k4, .slice p5 b.Wires.length k5] 50]) rfl 11 rfl #[ff, ff, ff, ff, ff, ff, ff, ff, ff, ff, ff] (by kernel_rfl) (fun w2 hb => ?_)
 replace h := h.ext hb
 clear hb
 refine ql 0 rfl #[tt, ff, ff, ff, ff, ff, ff, ff, ff, ff, ff] (by kernel_rfl) (by kernel_rfl) (fun w' hw => v_p qc rfl w') (h.pick [0] rfl) rfl ?_
 refine ql 1 rfl #[tt, tt, ff, ff, ff, ff, ff, ff, ff, ff, ff] (by kernel_rfl) (by kernel_rfl) (fun w' hw => qcK qc (hw.box 0 rfl) (j := 4) rfl rfl rfl) (h.pick [0] rfl) rfl ?_
 refine ql 2 rfl #[tt, tt, tt, ff, ff, ff, ff, ff, ff, ff, ff] (by kernel_rfl) (by kernel_rfl) (fun w' hw => v_p qc rfl w') (h.pick [0] rfl) rfl ?_
 obtain ⟨y1, hy1, hF⟩ := qd hF
 have he1 := qg hy1
 obtain ⟨b1, o_1, q1, cs2, hp1, hq1, -, hr1, hc1⟩ := s5.at hy1
 obtain ⟨p6, k6, p7, k7, p8, k8, p9, k9, rfl, s6, s7, s8, s9⟩ := qbF hr1
 refine ql 3 rfl #[tt, tt, tt, tt, ff, ff, ff, ff, ff, ff, ff] (by kernel_rfl) (by kernel_rfl) (fun w' hw => qgT qc hp1 hq1 ⟨he1.1, he1.2.1⟩ rfl rfl rfl rfl rfl rfl) (h.pick [0] rfl) rfl ?_
 refine ql 4 rfl #[tt, tt, tt, tt, tt, ff, ff, ff, ff, ff, ff] (by kernel_rfl) (by kernel_rfl) (fun w' hw => qcK qc (hc1.below hw.below) (j := 0) rfl rfl rfl) (h.pick [0] rfl) rfl ?_
 refine ql 5 rfl #[tt, tt, tt, tt, tt, tt, ff, ff, ff, ff, ff] (by kernel_rfl) (by kernel_rfl) (fun w' hw => qcK qc (hw.box 0 rfl) (j := 0) rfl rfl rfl) (h.pick [0] rfl) rfl ?_
 refine ql 6 rfl #[tt, tt, tt, tt, tt, tt, tt, ff, ff, ff, ff] (by kernel_rfl) (by kernel_rfl) (fun w' hw => v_p qc rfl w') (h.pick [0] rfl) rfl ?_
 obtain ⟨r1, hr2, hF⟩ := qd hF
 refine qqq (fun e w' => ∃ (bb8 : Nat) (S7 : Nat → Prop) (p16 : Option Addr) (k16 : Nat), e = [(5, .pointer (some ⟨bb8, 0, none⟩)), (6, .slice p16 r1.length k16)] ∧ SH w w' [Ch.box bb8 [.slice p6 y1.Parent.length k6, .slice p7 y1.Res.length k7, .slice p8 y1.Cap.length k8, .slice p9 y1.Sink.length k9] 130, Ch.own S7 (r1 : List Int) [.slice p16 r1.length k16], Ch.box bb1 [.slice p1 b.Library.Cells.length k1, .slice p2 b.Design.Instances.length k2, .slice p3 b.Design.Nets.length k3, .slice p4 b.Design.Ports.length k4, .slice p5 b.Wires.length k5] 50]) 0 #[tt, tt, tt, tt, tt, tt, tt, tt, tt, tt, tt] ?_ ?_
 ·intro K
  refine qrf 7 8 rfl rfl #[tt, tt, tt, tt, tt, tt, tt, tt, ff, ff, ff] #[tt, tt, tt, tt, tt, tt, tt, ff, tt, ff, ff] (by kernel_rfl) (by kernel_rfl) (by kernel_rfl) ?_ ?_
  ·refine qay r1 h call151 (qeJ (h.old ha1) hr2) rfl rfl rfl rfl ?_
   intro w13 S5 p14 k14 h
   refine qaW (fun _ => (h.pick [1] rfl)) ?_
   refine qa6 8 rfl #[tt, tt, tt, tt, tt, tt, tt, tt, tt, ff, ff] (by kernel_rfl) (by kernel_rfl) ?_
   refine qY qc h rfl rfl rfl ?_
   intro w14 bb6 h
   refine qaW (fun _ => (h.pick [2] rfl)) ?_
   refine qa6 9 rfl #[tt, tt, tt, tt, tt, tt, tt, tt, tt, tt, ff] (by kernel_rfl) (by kernel_rfl) ?_
   refine zs 0 h rfl ?_
   intro w15 h
   refine qaW (fun _ => (h.pick [2] rfl)) ?_
   refine ql 10 rfl #[tt, tt, tt, tt, tt, tt, tt, tt, tt, tt, tt] (by kernel_rfl) (by kernel_rfl) (fun w' hw => v_p qc rfl w') (h.pick [2] rfl) rfl ?_
   exact qqT [(5, _), (6, _)] ⟨rfl, rfl, trivial⟩ (K _ _ ⟨_, _, _, _, rfl, h⟩)
  refine qY qc h rfl rfl rfl ?_
  intro w16 bb7 h
  refine qaW (fun _ => (h.pick [1] rfl)) ?_
  refine qa6 7 rfl #[tt, tt, tt, tt, tt, tt, tt, tt, tt, ff, ff] (by kernel_rfl) (by kernel_rfl) ?_
  refine qay r1 h call151 (qeJ (h.old ha1) hr2) rfl rfl rfl rfl ?_
  intro w17 S6 p15 k15 h
  refine qaW (fun _ => (h.pick [2] rfl)) ?_
  refine qa6 9 rfl #[tt, tt, tt, tt, tt, tt, tt, tt, tt, tt, ff] (by kernel_rfl) (by kernel_rfl) ?_
  refine zs 1 h rfl ?_
  intro w18 h
  replace h : SH _ _ [Ch.own S6 (r1 : List Int) [.slice p15 r1.length k15], Ch.box bb7 [.slice p6 y1.Parent.length k6, .slice p7 y1.Res.length k7, .slice p8 y1.Cap.length k8, .slice p9 y1.Sink.length k9] 130, Ch.box bb1 [.slice p1 b.Library.Cells.length k1, .slice p2 b.Design.Instances.length k2, .slice p3 b.Design.Nets.length k3, .slice p4 b.Design.Ports.length k4, .slice p5 b.Wires.length k5] 50] := h
  refine qaW (fun _ => (h.pick [2] rfl)) ?_
  refine ql 10 rfl #[tt, tt, tt, tt, tt, tt, tt, tt, tt, tt, tt] (by kernel_rfl) (by kernel_rfl) (fun w' hw => v_p qc rfl w') (h.pick [2] rfl) rfl ?_
  replace h := h.pick [1, 0, 2] rfl
  exact qqT [(5, _), (6, _)] ⟨rfl, rfl, trivial⟩ (K _ _ ⟨_, _, _, _, rfl, h⟩)
 rintro e2 w19 ⟨bb8, S7, p16, k16, rfl, h⟩
 refine qfa (by kernel_rfl) ?_
 refine zSR (zp2 rfl ?_)
 obtain ⟨x1, hx1, hF⟩ := qd hF
 obtain ⟨g1, g2, hx1⟩ := qda hx1
 refine qer qc Int h rfl rfl rfl rfl rfl rfl rfl rfl rfl g1 g2 hx1 rfl ?_
 intro w20 S8 p17 h
 refine zp1 rfl (zNSSR (zp1 rfl (qb ?_)))
 obtain ⟨o1, hF, hK1⟩ := qd hF
 refine qy ?_
 replace h := h.pick [0, 1, 2] rfl
 refine qW [(5, _), (6, _), (7, _), (8, _)] ⟨rfl, rfl, rfl, rfl, trivial⟩ ?_
 refine qI (fun m e w' => ∃ (x2 : (List Int)) (i1 : Int), qaU y1 r1 x1 m x2 i1 = some o1 ∧ e = [(5, .pointer (some ⟨bb8, 0, none⟩)), (6, .slice p16 r1.length k16), (7, .slice p17 x1.length x1.length), (8, .int .i64 i1)] ∧ SH w w' [Ch.own S8 (x2 : List Int) [.slice p17 x1.length x1.length], Ch.box bb8 [.slice p6 y1.Parent.length k6, .slice p7 y1.Res.length k7, .slice p8 y1.Cap.length k8, .slice p9 y1.Sink.length k9] 130, Ch.own S7 (r1 : List Int) [.slice p16 r1.length k16]]) n ⟨_, _, hF, rfl, h⟩ ?_
 rintro m1 e3 w21 ⟨x2, i1, hF, rfl, h⟩
 rcases m1 with _ | m1
 ·rw [qaU] at hF
  cases hF
 rw [qaU] at hF
 refine zSSR (zp4 rfl (qb ?_))
 refine qp rfl hF ?_ ?_ <;> intro hF
 ·refine zKSB ?_
  refine qht [22] (fun w' => SH w w' [Ch.own S8 (x2 : List Int) [.slice p17 x1.length x1.length], Ch.box bb8 [.slice p6 y1.Parent.length k6, .slice p7 y1.Res.length k7, .slice p8 y1.Cap.length k8, .slice p9 y1.Sink.length k9] 130, Ch.own S7 (r1 : List Int) [.slice p16 r1.length k16]]) rfl 23 rfl #[ff, ff, ff, ff, ff, ff, ff, ff, ff, ff, ff, ff, ff, ff, ff, ff, ff, ff, ff, ff, ff, ff, ff] (by kernel_rfl) (fun w22 hb => ?_)
  replace h := h.ext hb
  clear hb
  refine ql 0 rfl #[tt, ff, ff, ff, ff, ff, ff, ff, ff, ff, ff, ff, ff, ff, ff, ff, ff, ff, ff, ff, ff, ff, ff] (by kernel_rfl) (by kernel_rfl) (fun w' hw => v_p qc rfl w') (h.pick [0, 1, 2] rfl) rfl ?_
  refine ql 1 rfl #[tt, tt, ff, ff, ff, ff, ff, ff, ff, ff, ff, ff, ff, ff, ff, ff, ff, ff, ff, ff, ff, ff, ff] (by kernel_rfl) (by kernel_rfl) (fun w' hw => v_p qc rfl w') (h.pick [0, 1, 2] rfl) rfl ?_
  refine ql 2 rfl #[tt, tt, tt, ff, ff, ff, ff, ff, ff, ff, ff, ff, ff, ff, ff, ff, ff, ff, ff, ff, ff, ff, ff] (by kernel_rfl) (by kernel_rfl) (fun w' hw => v_p qc rfl w') (h.pick [0, 1, 2] rfl) rfl ?_
  refine ql 3 rfl #[tt, tt, tt, tt, ff, ff, ff, ff, ff, ff, ff, ff, ff, ff, ff, ff, ff, ff, ff, ff, ff, ff, ff] (by kernel_rfl) (by kernel_rfl) (fun w' hw => v_p qc rfl w') (h.pick [0, 1, 2] rfl) rfl ?_
  refine ql 4 rfl #[tt, tt, tt, tt, tt, ff, ff, ff, ff, ff, ff, ff, ff, ff, ff, ff, ff, ff, ff, ff, ff, ff, ff] (by kernel_rfl) (by kernel_rfl) (fun w' hw => qcK qc (hw.box 1 rfl) (j := 0) rfl rfl rfl) (h.pick [0, 1, 2] rfl) rfl ?_
  refine ql 5 rfl #[tt, tt, tt, tt, tt, tt, ff, ff, ff, ff, ff, ff, ff, ff, ff, ff, ff, ff, ff, ff, ff, ff, ff] (by kernel_rfl) (by kernel_rfl) (fun w' hw => v_p qc rfl w') (h.pick [0, 1, 2] rfl) rfl ?_
  obtain ⟨y2, hy2, hF⟩ := qd hF
  have he2 := qg hy2
  obtain ⟨b2, o_2, q2, cs3, hp2, hq2, -, hr3, hc3⟩ := s6.at hy2
  obtain rfl := hr3
  refine ql 6 rfl #[tt, tt, tt, tt, tt, tt, tt, ff, ff, ff, ff, ff, ff, ff, ff, ff, ff, ff, ff, ff, ff, ff, ff] (by kernel_rfl) (by kernel_rfl) (fun w' hw => qgT qc hp2 hq2 ⟨he2.1, he2.2.1⟩ rfl rfl rfl rfl rfl rfl) (h.pick [0, 1, 2] rfl) rfl ?_
  refine ql 7 rfl #[tt, tt, tt, tt, tt, tt, tt, tt, ff, ff, ff, ff, ff, ff, ff, ff, ff, ff, ff, ff, ff, ff, ff] (by kernel_rfl) (by kernel_rfl) (fun w' hw => qcK qc (hc3.below hw.below) (j := 0) rfl rfl rfl) (h.pick [0, 1, 2] rfl) rfl ?_
  obtain ⟨y3, hy3, hF⟩ := qd hF
  have he3 := qg hy3
  obtain ⟨b3, o_3, q3, cs4, hp3, hq3, -, hr4, hc4⟩ := (h.sl 0 rfl).1.at hy3
  obtain rfl := hr4
  refine ql 8 rfl #[tt, tt, tt, tt, tt, tt, tt, tt, tt, ff, ff, ff, ff, ff, ff, ff, ff, ff, ff, ff, ff, ff, ff] (by kernel_rfl) (by kernel_rfl) (fun w' hw => qgT qc hp3 hq3 ⟨he3.1, qbo he3.2.1 (h.sl 0 rfl).2⟩ rfl rfl rfl rfl rfl rfl) (h.pick [0, 1, 2] rfl) rfl ?_
  refine ql 9 rfl #[tt, tt, tt, tt, tt, tt, tt, tt, tt, tt, ff, ff, ff, ff, ff, ff, ff, ff, ff, ff, ff, ff, ff] (by kernel_rfl) (by kernel_rfl) (fun w' hw => qcK qc (qg2 (w1 := w) (S1 := fun _ => False) hw 0 rfl hy3 hp3 hq3 rfl) (j := 0) rfl rfl rfl) (h.pick [0, 1, 2] rfl) rfl ?_
  refine ql 10 rfl #[tt, tt, tt, tt, tt, tt, tt, tt, tt, tt, tt, ff, ff, ff, ff, ff, ff, ff, ff, ff, ff, ff, ff] (by kernel_rfl) (by kernel_rfl) (fun w' hw => v_p qc rfl w') (h.pick [0, 1, 2] rfl) rfl ?_
  refine ql 11 rfl #[tt, tt, tt, tt, tt, tt, tt, tt, tt, tt, tt, tt, ff, ff, ff, ff, ff, ff, ff, ff, ff, ff, ff] (by kernel_rfl) (by kernel_rfl) (fun w' hw => qcK qc (hw.box 1 rfl) (j := 1) rfl rfl rfl) (h.pick [0, 1, 2] rfl) rfl ?_
  refine ql 12 rfl #[tt, tt, tt, tt, tt, tt, tt, tt, tt, tt, tt, tt, tt, ff, ff, ff, ff, ff, ff, ff, ff, ff, ff] (by kernel_rfl) (by kernel_rfl) (fun w' hw => v_p qc rfl w') (h.pick [0, 1, 2] rfl) rfl ?_
  obtain ⟨y4, hy4, hF⟩ := qd hF
  have he4 := qg hy4
  obtain ⟨b4, o_4, q4, cs5, hp4, hq4, -, hr5, hc5⟩ := s7.at hy4
  obtain rfl := hr5
  refine ql 13 rfl #[tt, tt, tt, tt, tt, tt, tt, tt, tt, tt, tt, tt, tt, tt, ff, ff, ff, ff, ff, ff, ff, ff, ff] (by kernel_rfl) (by kernel_rfl) (fun w' hw => qgT qc hp4 hq4 ⟨he4.1, he4.2.1⟩ rfl rfl rfl rfl rfl rfl) (h.pick [0, 1, 2] rfl) rfl ?_
  refine ql 14 rfl #[tt, tt, tt, tt, tt, tt, tt, tt, tt, tt, tt, tt, tt, tt, tt, ff, ff, ff, ff, ff, ff, ff, ff] (by kernel_rfl) (by kernel_rfl) (fun w' hw => qcK qc (hc5.below hw.below) (j := 0) rfl rfl rfl) (h.pick [0, 1, 2] rfl) rfl ?_
  refine ql 15 rfl #[tt, tt, tt, tt, tt, tt, tt, tt, tt, tt, tt, tt, tt, tt, tt, tt, ff, ff, ff, ff, ff, ff, ff] (by kernel_rfl) (by kernel_rfl) (fun w' hw => v_p qc rfl w') (h.pick [0, 1, 2] rfl) rfl ?_
  refine ql 16 rfl #[tt, tt, tt, tt, tt, tt, tt, tt, tt, tt, tt, tt, tt, tt, tt, tt, tt, ff, ff, ff, ff, ff, ff] (by kernel_rfl) (by kernel_rfl) (fun w' hw => v_p qc rfl w') (h.pick [0, 1, 2] rfl) rfl ?_
  obtain ⟨y5, hy5, hF⟩ := qd hF
  have he5 := qg hy5
  obtain ⟨b5, o_5, q5, cs6, hp5, hq5, -, hr6, hc6⟩ := (h.sl 2 rfl).1.at hy5
  obtain rfl := hr6
  refine ql 17 rfl #[tt, tt, tt, tt, tt, tt, tt, tt, tt, tt, tt, tt, tt, tt, tt, tt, tt, tt, ff, ff, ff, ff, ff] (by kernel_rfl) (by kernel_rfl) (fun w' hw => qgT qc hp5 hq5 ⟨he5.1, qbo he5.2.1 (h.sl 2 rfl).2⟩ rfl rfl rfl rfl rfl rfl) (h.pick [0, 1, 2] rfl) rfl ?_
  refine ql 18 rfl #[tt, tt, tt, tt, tt, tt, tt, tt, tt, tt, tt, tt, tt, tt, tt, tt, tt, tt, tt, ff, ff, ff, ff] (by kernel_rfl) (by kernel_rfl) (fun w' hw => qcK qc (qg2 (w1 := w) (S1 := fun _ => False) hw 2 rfl hy5 hp5 hq5 rfl) (j := 0) rfl rfl rfl) (h.pick [0, 1, 2] rfl) rfl ?_
  refine ql 19 rfl #[tt, tt, tt, tt, tt, tt, tt, tt, tt, tt, tt, tt, tt, tt, tt, tt, tt, tt, tt, tt, ff, ff, ff] (by kernel_rfl) (by kernel_rfl) (fun w' hw => v_p qc rfl w') (h.pick [0, 1, 2] rfl) rfl ?_
  refine ql 20 rfl #[tt, tt, tt, tt, tt, tt, tt, tt, tt, tt, tt, tt, tt, tt, tt, tt, tt, tt, tt, tt, tt, ff, ff] (by kernel_rfl) (by kernel_rfl) (fun w' hw => v_p qc rfl w') (h.pick [0, 1, 2] rfl) rfl ?_
  obtain ⟨y6, hy6, hF⟩ := qd hF
  have he6 := qg hy6
  obtain ⟨b6, o_6, q6, cs7, hp6, hq6, -, hr7, hc7⟩ := (h.sl 0 rfl).1.at hy6
  obtain rfl := hr7
  refine ql 21 rfl #[tt, tt, tt, tt, tt, tt, tt, tt, tt, tt, tt, tt, tt, tt, tt, tt, tt, tt, tt, tt, tt, tt, ff] (by kernel_rfl) (by kernel_rfl) (fun w' hw => qgT qc hp6 hq6 ⟨he6.1, qbo he6.2.1 (h.sl 0 rfl).2⟩ rfl rfl rfl rfl rfl rfl) (h.pick [0, 1, 2] rfl) rfl ?_
  refine qa6 22 rfl #[tt, tt, tt, tt, tt, tt, tt, tt, tt, tt, tt, tt, tt, tt, tt, tt, tt, tt, tt, tt, tt, tt, tt] (by kernel_rfl) (by kernel_rfl) ?_
  refine qfe qc 0 0 (W64 (y3 + (W64 (y4 * y5)))) h rfl hy6 hp6 hq6 rfl hc7 rfl rfl rfl rfl rfl rfl rfl ?_
  intro w23 h
  refine qaW (fun hs => absurd (hs 22 (by decide)) (by decide)) ?_
  refine qfa (by kernel_rfl) ?_
  exact qe1 (qx (zp3 rfl (qb (qz m1 [(5, _), (6, _), (7, _), (8, _)] (Nat.lt_succ_self m1) ⟨rfl, rfl, rfl, rfl, trivial⟩ ⟨_, _, hF, rfl, h⟩))))
 refine qG rfl ?_
 obtain rfl := qh hF; replace hF := hK1
 refine zSR (zp2 rfl (qb ?_))
 obtain rfl := qh hF
 exact qal qc (ρ := (List Int)) [GoT.v (List Int) [.slice p17 x1.length x1.length]] h ⟨rfl, trivial⟩ (PV.done h (qaq (qaG 0 h rfl)))

def qaN (r1 : (List Int)) (y1 : qac) : Nat → (List Int) → Int → Option ((List Int) × Int)
 | 0, _, _ => none
 | n + 1, x1, i1 =>
  bif decide (i1 < (y1.Sink.length : Int)) then
   (idx y1.Sink i1).bind fun y2 =>
   (idx r1 y2).bind fun y3 =>
   (appS x1 ([y3] : List Int)).bind fun x2 =>
   qaN r1 y1 n x2 (W64 (i1 + 1))
  else
   some (x1, i1)

def qcG (n : Nat) (b : qD) (net : Int) : Option (List Int) :=
 (qd5 n b net).bind fun r1 =>
 (idx b.Wires net).bind fun y1 =>
 (qaN r1 y1 n ([] : List Int) 0).bind fun o => match o with
 | (x1, _) =>
  some x1

theorem qh1 {n : Nat} {w : World} {b : qD} {net : Int} {cs1 : List Value} (ha1 : GoT.R w (old w) b cs1) {r : (List Int)} (hF : qcG n b net = some r) : RetV Tryz.prog 152 [GoT.v qD cs1, .int .i64 net] w r := by
 obtain ⟨p1, k1, p2, k2, p3, k3, p4, k4, p5, k5, rfl, s1, s2, s3, s4, s5⟩ := qax ha1
 refine qf Tryz.func152 rfl (m := 32) rfl rfl (fun h => ?_)
 rw [qcG] at hF
 refine zSR (qS h rfl rfl ?_)
 intro w1 bb1 h
 refine zp1 rfl (zNSR (zl 0 0 h rfl (zp1 rfl ?_)))
 obtain ⟨r1, hr1, hF⟩ := qd hF
 refine qay r1 h call189 (qic (h.old ha1) hr1) rfl rfl rfl rfl ?_
 intro w2 S1 p6 k6 h
 refine zp1 rfl (zNSR (zp1 rfl (zNSSR (zp1 rfl (zl 1 4 h rfl (zp1 rfl ?_))))))
 obtain ⟨y1, hy1, hF⟩ := qd hF
 have he1 := qg hy1
 obtain ⟨b1, o_1, q1, cs2, hp1, hq1, -, hr2, hc1⟩ := s5.at hy1
 obtain ⟨p7, k7, p8, k8, p9, k9, p10, k10, rfl, s6, s7, s8, s9⟩ := qbF hr2
 refine zxe hp1 hq1 he1 rfl (zp1 rfl (zc 3 (hc1.below h.below) rfl (zp2 rfl (qb ?_))))
 replace h := h.nil (α := Int)
 obtain ⟨o1, hF, hK1⟩ := qd hF
 refine qy ?_
 replace h := h.pick [0, 1] rfl
 refine qW [(5, _), (6, _), (17, _), (18, _), (19, _)] ⟨rfl, rfl, rfl, rfl, rfl, trivial⟩ ?_
 refine qI (fun m e w' => ∃ (S2 : Nat → Prop) (p11 : Option Addr) (ln1 : Nat) (k11 : Nat) (x1 : (List Int)) (i1 : Int), qaN r1 y1 m x1 i1 = some o1 ∧ e = [(5, .slice p6 r1.length k6), (6, .slice p11 ln1 k11), (17, .slice p10 y1.Sink.length k10), (18, .int .i64 (y1.Sink.length : Int)), (19, .int .i64 i1)] ∧ SH w w' [Ch.own S2 (x1 : List Int) [.slice p11 ln1 k11], Ch.own S1 (r1 : List Int) [.slice p6 r1.length k6]]) n ⟨_, _, _, _, _, _, hF, rfl, h⟩ ?_
 rintro m1 e1 w3 ⟨S2, p11, ln1, k11, x1, i1, hF, rfl, h⟩
 obtain rfl := (h.sl 0 rfl).2
 rcases m1 with _ | m1
 ·rw [qaN] at hF
  cases hF
 rw [qaN] at hF
 refine zSR (zp1 rfl (zNS ?_))
 refine qp rfl hF ?_ ?_ <;> intro hF
 ·refine zKSBSR ?_
  obtain ⟨y2, hy2, hF⟩ := qd hF
  have he2 := qg hy2
  obtain ⟨b2, o_2, q2, cs3, hp2, hq2, -, hr3, hc3⟩ := s9.at hy2
  obtain rfl := hr3
  refine zxe hp2 hq2 he2 rfl (zc 0 (hc3.below h.below) rfl (zp1 rfl (qb (qx (zp3 rfl ?_)))))
  obtain ⟨y3, hy3, hF⟩ := qd hF
  have he3 := qg hy3
  obtain ⟨b3, o_3, q3, cs4, hp3, hq3, -, hr4, hc4⟩ := (h.sl 1 rfl).1.at hy3
  obtain rfl := hr4
  refine zx hp3 hq3 ⟨he3.1, qbo he3.2.1 (h.sl 1 rfl).2⟩ rfl (zc 0 hc4 rfl (qa7 qc [.tmp 27] _ ([y3] : List Int) h rfl rfl rfl rfl rfl rfl rfl rfl rfl ⟨rfl, trivial⟩ rfl ?_))
  intro w4 p12 S3 h
  obtain ⟨x2, hx1, hF⟩ := qd hF
  obtain ⟨g1, hx1⟩ := qbl hx1
  refine qeE qc 1 h rfl (h.sl 0 rfl).1 (h.sl 0 rfl).2 rfl rfl rfl rfl rfl rfl rfl rfl rfl g1 hx1 rfl ?_
  intro w5 p13 k12 S4 h
  refine zp1 rfl (zNER (zp2 rfl (qb ?_)))
  replace h := h.pick [1, 2] rfl
  exact qz m1 [(5, _), (6, _), (17, _), (18, _), (19, _)] (Nat.lt_succ_self m1) ⟨rfl, rfl, rfl, rfl, rfl, trivial⟩ ⟨_, _, _, _, _, _, hF, rfl, h⟩
 refine qG rfl ?_
 obtain rfl := qh hF; replace hF := hK1
 refine zSR (zp2 rfl (qb ?_))
 obtain rfl := qh hF
 exact qal qc (ρ := (List Int)) [GoT.v (List Int) [.slice p11 x1.length k11]] h ⟨rfl, trivial⟩ (PV.done h (qaq (qaG 0 h rfl)))

def qcj (x6 : (List Int)) (i4 : Int) (i5 : Int) (y7 : Int) : Nat → (List qbb) → Int → Option ((List qbb) × Int)
 | 0, _, _ => none
 | n + 1, x14, i6 =>
  bif decide (i6 < 2) then
   (idx x6 i4).bind fun y8 =>
   (appS x14 ([(⟨W64 ((W64 (2 * y8)) + i6), W64 ((W64 (2 * y7)) + i6), 2, i5⟩ : qbb)] : List qbb)).bind fun x15 =>
   qcj x6 i4 i5 y7 n x15 (W64 (i6 + 1))
  else
   some (x14, i6)

def qcg (x6 : (List Int)) (i4 : Int) (y6 : (List Int)) : Nat → (List qbb) → Int → Option ((List qbb) × Int)
 | 0, _, _ => none
 | n + 1, x13, i5 =>
  bif decide (i5 < (y6.length : Int)) then
   (idx y6 i5).bind fun y7 =>
   (qcj x6 i4 i5 y7 n x13 0).bind fun o => match o with
   | (x14, _) =>
    qcg x6 i4 y6 n x14 (W64 (i5 + 1))
  else
   some (x13, i5)

def qcV (a_0 : qD) (x5 : (List (List Int))) (x6 : (List Int)) : Nat → (List (List Int)) → (List Int) → (List qbb) → Int → Option ((List (List Int)) × (List Int) × (List qbb) × Int)
 | 0, _, _, _, _ => none
 | n + 1, x8, x9, x10, i4 =>
  bif decide (i4 < (a_0.Wires.length : Int)) then
   (qcp n a_0 i4).bind fun r4 =>
   (idx r4 0).bind fun y5 =>
   (appS x9 ([y5] : List Int)).bind fun x11 =>
   (qcG n a_0 i4).bind fun r5 =>
   (appS x8 ([r5] : List (List Int))).bind fun x12 =>
   (idx x5 i4).bind fun y6 =>
   (qcg x6 i4 y6 n x10 0).bind fun o => match o with
   | (x13, _) =>
    qcV a_0 x5 x6 n x12 x11 x13 (W64 (i4 + 1))
  else
   some (x8, x9, x10, i4)

def qbT (r1 : (List Tplace)) : Nat → (List (List Int)) → (List Int) → Int → Option ((List (List Int)) × (List Int) × Int)
 | 0, _, _, _ => none
 | n + 1, x5, x6, i3 =>
  bif decide (i3 < (r1.length : Int)) then
   (idx r1 i3).bind fun y2 =>
   bif y2.drives then
    (idx x6 y2.net).bind fun _ =>
    qbT r1 n x5 (setS x6 y2.net i3) (W64 (i3 + 1))
   else
    (idx x5 y2.net).bind fun y4 =>
    (appS y4 ([i3] : List Int)).bind fun x7 =>
    qbT r1 n (setS x5 y2.net x7) x6 (W64 (i3 + 1))
  else
   some (x5, x6, i3)

def qcP (a_0 : qD) : Nat → (List qbb) → Int → Int → Option ((List qbb) × Int × Int)
 | 0, _, _, _ => none
 | n + 1, x1, i1, i2 =>
  bif decide (i2 < (a_0.Design.Instances.length : Int)) then
   (idx a_0.Design.Instances i2).bind fun y1 =>
   (qdl n a_0 y1 i1).bind fun r2 =>
   (appS x1 r2).bind fun x2 =>
   (qap n y1.Nets).bind fun r3 =>
   qcP a_0 n x2 (W64 (i1 + r3)) (W64 (i2 + 1))
  else
   some (x1, i1, i2)

def qgO (n : Nat) (a_0 : qD) : Option (Option Tview) :=
 (qbM n (⟨a_0.Design.Instances, a_0.Design.Nets, a_0.Design.Ports⟩ : qk)).bind fun r1 =>
 (qcP a_0 n ([] : List qbb) 0 0).bind fun o => match o with
 | (x1, _, _) =>
  (mkS (a_0.Wires.length : Int) (0 : Int)).bind fun x3 =>
  (mkS (a_0.Wires.length : Int) ([] : (List Int))).bind fun x4 =>
  (qbT r1 n x4 x3 0).bind fun o => match o with
  | (x5, x6, _) =>
   (qcV a_0 x5 x6 n ([] : List (List Int)) ([] : List Int) x1 0).bind fun o => match o with
   | (x8, x9, x10, _) =>
    some (some (⟨(⟨(⟨a_0.Library.Cells⟩ : qA), (⟨a_0.Design.Instances, a_0.Design.Nets, a_0.Design.Ports⟩ : qk), a_0.Wires⟩ : qD), r1, x10, x9, x8, []⟩ : Tview))

theorem qkT {n : Nat} {w : World} {A : Nat → Prop} (hA : ∀ b, A b → old w b) {a_0 : qD} {cs1 : List Value} (ha1 : GoT.R w A a_0 cs1) {r : (Option Tview)} (hF : qgO n a_0 = some r) : RetG Tryz.prog 109 [GoT.v qD cs1] w A r := by
 obtain ⟨p1, k1, p2, k2, p3, k3, p4, k4, p5, k5, rfl, s1, s2, s3, s4, s5⟩ := qax ha1
 have hg := Rg.start hA
 refine qiY Tryz.func109 rfl (m := 156) rfl rfl (fun h => ?_)
 rw [qgO] at hF
 refine zSR (qS h rfl rfl ?_)
 intro w1 bb1 h
 refine zp1 rfl (zNS ?_)
 refine qht [] (fun w' => SH w w' [Ch.box bb1 [.slice p1 a_0.Library.Cells.length k1, .slice p2 a_0.Design.Instances.length k2, .slice p3 a_0.Design.Nets.length k3, .slice p4 a_0.Design.Ports.length k4, .slice p5 a_0.Wires.length k5] 50]) rfl 7 rfl #[ff, ff, ff, ff, ff, ff, ff] (by kernel_rfl) (fun w2 hb => ?_)
 replace h := h.ext hb
 clear hb
 refine ql 0 rfl #[tt, ff, ff, ff, ff, ff, ff] (by kernel_rfl) (by kernel_rfl) (fun w' hw => qcK qc (hw.box 0 rfl) (j := 0) rfl rfl rfl) (h.pick [0] rfl) rfl ?_
 refine ql 1 rfl #[tt, tt, ff, ff, ff, ff, ff] (by kernel_rfl) (by kernel_rfl) (fun w' hw => v_p qc rfl w') (h.pick [0] rfl) rfl ?_
 refine ql 2 rfl #[tt, tt, tt, ff, ff, ff, ff] (by kernel_rfl) (by kernel_rfl) (fun w' hw => qcK qc (hw.box 0 rfl) (j := 1) rfl rfl rfl) (h.pick [0] rfl) rfl ?_
 refine qa6 3 rfl #[tt, tt, tt, tt, ff, ff, ff] (by kernel_rfl) (by kernel_rfl) ?_
 obtain ⟨r1, hr1, hF⟩ := qd hF
 refine qay r1 h call148 (qd4 (qb6 (⟨a_0.Design.Instances, a_0.Design.Nets, a_0.Design.Ports⟩ : qk) (h.oldS (s2.mono hg.old)) (h.oldS (s3.mono hg.old)) (h.oldS (s4.mono hg.old))) hr1) rfl rfl rfl rfl ?_
 intro w3 S1 p6 k6 h
 refine qaW (fun _ => (h.pick [1] rfl)) ?_
 refine ql 4 rfl #[tt, tt, tt, tt, tt, ff, ff] (by kernel_rfl) (by kernel_rfl) (fun w' hw => qeP qc [0, 1] [.tmp 15, .tmp 18] rfl rfl rfl rfl rfl rfl rfl rfl) (h.pick [1] rfl) rfl ?_
 refine qa6 5 rfl #[tt, tt, tt, tt, tt, tt, ff] (by kernel_rfl) (by kernel_rfl) ?_
 refine qS h rfl rfl ?_
 intro w4 bb2 h
 refine qaW (fun _ => (h.pick [2] rfl)) ?_
 refine ql 6 rfl #[tt, tt, tt, tt, tt, tt, tt] (by kernel_rfl) (by kernel_rfl) (fun w' hw => v_p qc rfl w') (h.pick [2] rfl) rfl ?_
 refine qfa (by kernel_rfl) ?_
 refine zSR (zp1 rfl (zNSSR (zp2 rfl (zl 2 1 h rfl (zp2 rfl ?_)))))
 refine qb ?_
 replace h := h.nil (α := qbb)
 obtain ⟨o1, hF, hK1⟩ := qd hF
 refine qy (qW [(1, _), (3, _), (4, _), (23, _), (24, _), (25, _)] ⟨rfl, rfl, rfl, rfl, rfl, rfl, trivial⟩ ?_)
 refine qI (fun m e w' => ∃ (S2 : Nat → Prop) (p7 : Option Addr) (ln1 : Nat) (k7 : Nat) (x1 : (List qbb)) (i1 : Int) (i2 : Int), qcP a_0 m x1 i1 i2 = some o1 ∧ e = [(1, .pointer (some ⟨bb1, 0, none⟩)), (3, .pointer (some ⟨bb2, 0, none⟩)), (4, .int .i64 i1), (23, .slice p2 a_0.Design.Instances.length k2), (24, .int .i64 (a_0.Design.Instances.length : Int)), (25, .int .i64 i2)] ∧ SH w w' [Ch.own S2 (x1 : List qbb) [.slice p7 ln1 k7], Ch.box bb2 [.slice p1 a_0.Library.Cells.length k1, .slice p2 a_0.Design.Instances.length k2, .slice p3 a_0.Design.Nets.length k3, .slice p4 a_0.Design.Ports.length k4, .slice p5 a_0.Wires.length k5, .slice p6 r1.length k6, .slice p7 ln1 k7, .slice none 0 0, .slice none 0 0, .slice none 0 0] 160, Ch.own S1 (r1 : List Tplace) [.slice p6 r1.length k6], Ch.box bb1 [.slice p1 a_0.Library.Cells.length k1, .slice p2 a_0.Design.Instances.length k2, .slice p3 a_0.Design.Nets.length k3, .slice p4 a_0.Design.Ports.length k4, .slice p5 a_0.Wires.length k5] 50]) n ⟨_, _, _, _, _, _, _, hF, rfl, h⟩ ?_
 rintro m1 e1 w5 ⟨S2, p7, ln1, k7, x1, i1, i2, hF, rfl, h⟩
 obtain rfl := (h.sl 0 rfl).2
 rcases m1 with _ | m1
 ·rw [qcP] at hF
  cases hF
 rw [qcP] at hF
 refine zSR (zp1 rfl (zNS ?_))
 refine qp rfl hF ?_ ?_ <;> intro hF
 ·refine zKSBSR ?_
  obtain ⟨y1, hy1, hF⟩ := qd hF
  have he1 := qg hy1
  obtain ⟨b1, o_1, q1, cs2, hp1, hq1, -, hr2, hc2⟩ := s2.at hy1
  obtain ⟨p8, k8, rfl, s6⟩ := qaf hr2
  refine zxe hp1 hq1 he1 rfl (zc 0 (hc2.below h.below) rfl (qY qc h rfl rfl rfl ?_))
  intro w6 bb3 h
  refine zs 0 h rfl ?_
  intro w7 h
  replace h : SH _ _ [Ch.box bb3 [.string y1.Name, .int .i64 y1.Cell, .slice p8 y1.Nets.length k8] 185, Ch.own S2 (x1 : List qbb) [.slice p7 x1.length k7], Ch.box bb2 [.slice p1 a_0.Library.Cells.length k1, .slice p2 a_0.Design.Instances.length k2, .slice p3 a_0.Design.Nets.length k3, .slice p4 a_0.Design.Ports.length k4, .slice p5 a_0.Wires.length k5, .slice p6 r1.length k6, .slice p7 x1.length k7, .slice none 0 0, .slice none 0 0, .slice none 0 0] 160, Ch.own S1 (r1 : List Tplace) [.slice p6 r1.length k6], Ch.box bb1 [.slice p1 a_0.Library.Cells.length k1, .slice p2 a_0.Design.Instances.length k2, .slice p3 a_0.Design.Nets.length k3, .slice p4 a_0.Design.Ports.length k4, .slice p5 a_0.Wires.length k5] 50] := h
  refine zNS ?_
  refine qht [12] (fun w' => SH w w' [Ch.box bb3 [.string y1.Name, .int .i64 y1.Cell, .slice p8 y1.Nets.length k8] 185, Ch.box bb2 [.slice p1 a_0.Library.Cells.length k1, .slice p2 a_0.Design.Instances.length k2, .slice p3 a_0.Design.Nets.length k3, .slice p4 a_0.Design.Ports.length k4, .slice p5 a_0.Wires.length k5, .slice p6 r1.length k6, .slice p7 x1.length k7, .slice none 0 0, .slice none 0 0, .slice none 0 0] 160, Ch.box bb1 [.slice p1 a_0.Library.Cells.length k1, .slice p2 a_0.Design.Instances.length k2, .slice p3 a_0.Design.Nets.length k3, .slice p4 a_0.Design.Ports.length k4, .slice p5 a_0.Wires.length k5] 50]) rfl 13 rfl #[ff, ff, ff, ff, ff, ff, ff, ff, ff, ff, ff, ff, ff] (by kernel_rfl) (fun w8 hb => ?_)
  replace h := h.ext hb
  clear hb
  refine ql 0 rfl #[tt, ff, ff, ff, ff, ff, ff, ff, ff, ff, ff, ff, ff] (by kernel_rfl) (by kernel_rfl) (fun w' hw => v_p qc rfl w') (h.pick [0, 2, 4] rfl) rfl ?_
  refine ql 1 rfl #[tt, tt, ff, ff, ff, ff, ff, ff, ff, ff, ff, ff, ff] (by kernel_rfl) (by kernel_rfl) (fun w' hw => v_p qc rfl w') (h.pick [0, 2, 4] rfl) rfl ?_
  refine ql 2 rfl #[tt, tt, tt, ff, ff, ff, ff, ff, ff, ff, ff, ff, ff] (by kernel_rfl) (by kernel_rfl) (fun w' hw => v_p qc rfl w') (h.pick [0, 2, 4] rfl) rfl ?_
  refine ql 3 rfl #[tt, tt, tt, tt, ff, ff, ff, ff, ff, ff, ff, ff, ff] (by kernel_rfl) (by kernel_rfl) (fun w' hw => v_p qc rfl w') (h.pick [0, 2, 4] rfl) rfl ?_
  refine ql 4 rfl #[tt, tt, tt, tt, tt, ff, ff, ff, ff, ff, ff, ff, ff] (by kernel_rfl) (by kernel_rfl) (fun w' hw => qcK qc (hw.box 1 rfl) (j := 6) rfl rfl rfl) (h.pick [0, 2, 4] rfl) rfl ?_
  refine ql 5 rfl #[tt, tt, tt, tt, tt, tt, ff, ff, ff, ff, ff, ff, ff] (by kernel_rfl) (by kernel_rfl) (fun w' hw => qcK qc (hw.box 2 rfl) (j := 0) rfl rfl rfl) (h.pick [0, 2, 4] rfl) rfl ?_
  refine ql 6 rfl #[tt, tt, tt, tt, tt, tt, tt, ff, ff, ff, ff, ff, ff] (by kernel_rfl) (by kernel_rfl) (fun w' hw => qcK qc (hw.box 0 rfl) (j := 0) rfl rfl rfl) (h.pick [0, 2, 4] rfl) rfl ?_
  refine ql 7 rfl #[tt, tt, tt, tt, tt, tt, tt, tt, ff, ff, ff, ff, ff] (by kernel_rfl) (by kernel_rfl) (fun w' hw => v_p qc rfl w') (h.pick [0, 2, 4] rfl) rfl ?_
  refine qa6 8 rfl #[tt, tt, tt, tt, tt, tt, tt, tt, tt, ff, ff, ff, ff] (by kernel_rfl) (by kernel_rfl) ?_
  obtain ⟨r2, hr3, hF⟩ := qd hF
  refine qay r2 h call150 (qio (h.old (GoT.mono ha1 hg.old)) (qe6 y1 (h.oldS (s6.mono hg.old))) hr3) rfl rfl rfl rfl ?_
  intro w9 S3 p9 k9 h
  refine qaW (fun _ => (h.pick [1, 3, 5] rfl)) ?_
  refine qa6 9 rfl #[tt, tt, tt, tt, tt, tt, tt, tt, tt, tt, ff, ff, ff] (by kernel_rfl) (by kernel_rfl) ?_
  obtain ⟨x2, hx1, hF⟩ := qd hF
  obtain ⟨g1, hx1⟩ := qbl hx1
  refine qeE qc 2 h rfl (h.sl 0 rfl).1 (h.sl 0 rfl).2 rfl rfl rfl rfl rfl rfl rfl rfl rfl g1 hx1 rfl ?_
  intro w10 p10 k10 S4 h
  refine qaW (fun _ => (h.pick [1, 3, 5] rfl)) ?_
  refine qa6 10 rfl #[tt, tt, tt, tt, tt, tt, tt, tt, tt, tt, tt, ff, ff] (by kernel_rfl) (by kernel_rfl) ?_
  refine zp1 rfl ?_
  refine qaW (fun _ => (h.pick [1, 3, 5] rfl)) ?_
  refine ql 11 rfl #[tt, tt, tt, tt, tt, tt, tt, tt, tt, tt, tt, tt, ff] (by kernel_rfl) (by kernel_rfl) (fun w' hw => v_p qc rfl w') (h.pick [1, 3, 5] rfl) rfl ?_
  refine qa6 12 rfl #[tt, tt, tt, tt, tt, tt, tt, tt, tt, tt, tt, tt, tt] (by kernel_rfl) (by kernel_rfl) ?_
  refine zs 3 h rfl ?_
  intro w11 h
  replace h : SH _ _ [Ch.own S3 (r2 : List qbb) [.slice p9 r2.length k9], Ch.box bb3 [.string y1.Name, .int .i64 y1.Cell, .slice p8 y1.Nets.length k8] 185, Ch.own S4 (x2 : List qbb) [.slice p10 x2.length k10], Ch.box bb2 [.slice p1 a_0.Library.Cells.length k1, .slice p2 a_0.Design.Instances.length k2, .slice p3 a_0.Design.Nets.length k3, .slice p4 a_0.Design.Ports.length k4, .slice p5 a_0.Wires.length k5, .slice p6 r1.length k6, .slice p10 x2.length k10, .slice none 0 0, .slice none 0 0, .slice none 0 0] 160, Ch.own S1 (r1 : List Tplace) [.slice p6 r1.length k6], Ch.box bb1 [.slice p1 a_0.Library.Cells.length k1, .slice p2 a_0.Design.Instances.length k2, .slice p3 a_0.Design.Nets.length k3, .slice p4 a_0.Design.Ports.length k4, .slice p5 a_0.Wires.length k5] 50] := h
  refine qaW (fun hs => absurd (hs 12 (by decide)) (by decide)) ?_
  refine qfa (by kernel_rfl) ?_
  refine qx (zp2 rfl (zl 1 2 h rfl ?_))
  obtain ⟨r3, hr4, hF⟩ := qd hF
  refine qP r3 h call87 (qbr ⟨_, _, rfl, (h.oldS (s6.mono hg.old))⟩ hr4) rfl rfl rfl rfl ?_
  intro w12 h
  refine zp2 rfl (zNER (zp2 rfl (qb ?_)))
  replace h := h.pick [2, 3, 4, 5] rfl
  exact qz m1 [(1, _), (3, _), (4, _), (23, _), (24, _), (25, _)] (Nat.lt_succ_self m1) ⟨rfl, rfl, rfl, rfl, rfl, rfl, trivial⟩ ⟨_, _, _, _, _, _, _, hF, rfl, h⟩
 refine qG rfl ?_
 obtain rfl := qh hF; replace hF := hK1
 refine zSR (zp1 rfl (zl 3 4 h rfl (zp1 rfl ?_)))
 obtain ⟨x3, hx2, hF⟩ := qd hF
 obtain ⟨g2, g3, hx2⟩ := qda hx2
 refine qer qc Int h rfl rfl rfl rfl rfl rfl rfl rfl rfl g2 g3 hx2 rfl ?_
 intro w13 S5 p11 h
 refine zp1 rfl (zNSR (zp1 rfl (zl 4 4 h rfl (zp1 rfl ?_))))
 obtain ⟨x4, hx3, hF⟩ := qd hF
 obtain ⟨g4, g5, hx3⟩ := qda hx3
 refine qer qc (List Int) h rfl rfl rfl rfl rfl rfl rfl rfl rfl g4 g5 hx3 rfl ?_
 intro w14 S6 p12 h
 refine zp1 rfl (zNSSR (zp3 rfl (zl 3 5 h rfl (zp2 rfl (qb ?_)))))
 obtain ⟨o2, hF, hK2⟩ := qd hF
 refine qy (qW [(1, _), (3, _), (7, _), (8, _), (58, _), (59, _), (60, _)] ⟨rfl, rfl, rfl, rfl, rfl, rfl, rfl, trivial⟩ ?_)
 refine qI (fun m e w' => ∃ (S7 : Nat → Prop) (x5 : (List (List Int))) (x6 : (List Int)) (i3 : Int), qbT r1 m x5 x6 i3 = some o2 ∧ e = [(1, .pointer (some ⟨bb1, 0, none⟩)), (3, .pointer (some ⟨bb2, 0, none⟩)), (7, .slice p11 x3.length x3.length), (8, .slice p12 x4.length x4.length), (58, .slice p6 r1.length k6), (59, .int .i64 (r1.length : Int)), (60, .int .i64 i3)] ∧ SH w w' [Ch.own S7 (x5 : List (List Int)) [.slice p12 x4.length x4.length], Ch.own S5 (x6 : List Int) [.slice p11 x3.length x3.length], Ch.own S2 (x1 : List qbb) [.slice p7 x1.length k7], Ch.box bb2 [.slice p1 a_0.Library.Cells.length k1, .slice p2 a_0.Design.Instances.length k2, .slice p3 a_0.Design.Nets.length k3, .slice p4 a_0.Design.Ports.length k4, .slice p5 a_0.Wires.length k5, .slice p6 r1.length k6, .slice p7 x1.length k7, .slice none 0 0, .slice none 0 0, .slice none 0 0] 160, Ch.own S1 (r1 : List Tplace) [.slice p6 r1.length k6], Ch.box bb1 [.slice p1 a_0.Library.Cells.length k1, .slice p2 a_0.Design.Instances.length k2, .slice p3 a_0.Design.Nets.length k3, .slice p4 a_0.Design.Ports.length k4, .slice p5 a_0.Wires.length k5] 50]) n ⟨_, _, _, _, hF, rfl, h⟩ ?_
 rintro m2 e2 w15 ⟨S7, x5, x6, i3, hF, rfl, h⟩
 rcases m2 with _ | m2
 ·rw [qbT] at hF
  cases hF
 rw [qbT] at hF
 refine zSR (zp1 rfl (zNS ?_))
 refine qp rfl hF ?_ ?_ <;> intro hF
 ·refine zKSBSR (zp1 rfl ?_)
  obtain ⟨y2, hy2, hF⟩ := qd hF
  have he2 := qg hy2
  obtain ⟨b2, o_2, q2, cs3, hp2, hq2, -, hr5, hc4⟩ := (h.sl 4 rfl).1.at hy2
  obtain rfl := qhn hr5
  refine zx hp2 hq2 ⟨he2.1, qbo he2.2.1 (h.sl 4 rfl).2⟩ rfl (zc 0 hc4 rfl (qY qc h rfl rfl rfl ?_))
  intro w16 bb4 h
  refine zp1 rfl (zs 0 h rfl ?_)
  intro w17 h
  refine zNSR (zp1 rfl (zl 0 3 h rfl (qb ?_)))
  refine qp rfl hF ?_ ?_ <;> intro hF
  ·refine qx (zp2 rfl (zl 0 2 h rfl (zp1 rfl ?_)))
   obtain ⟨y3, hy3, hF⟩ := qd hF
   have he3 := qg hy3
   obtain ⟨b3, o_3, q3, cs4, hp3, hq3, -, hr6, hc6⟩ := (h.sl 2 rfl).1.at hy3
   obtain rfl := hr6
   refine zx hp3 hq3 ⟨he3.1, qbo he3.2.1 (h.sl 2 rfl).2⟩ rfl (qfe qc 2 0 i3 h rfl hy3 hp3 hq3 rfl hc6 rfl rfl rfl rfl rfl rfl rfl ?_)
   intro w18 h
   refine zNER (zp2 rfl (qb ?_))
   replace h := h.pick [1, 2, 3, 4, 5, 6] rfl
   exact qz m2 [(1, _), (3, _), (7, _), (8, _), (58, _), (59, _), (60, _)] (Nat.lt_succ_self m2) ⟨rfl, rfl, rfl, rfl, rfl, rfl, rfl, trivial⟩ ⟨_, _, _, _, hF, rfl, h⟩
  obtain ⟨y4, hy4, hF⟩ := qd hF
  have he4 := qg hy4
  replace h := h.pick [1, 0, 2, 3, 4, 5, 6] rfl
  obtain ⟨S8, S9, cs5, h⟩ := h.take hy4
  obtain ⟨p13, k11, rfl, -⟩ := h.own 0 rfl
  refine qht [12] (fun w' => SH w w' [Ch.hole S9 (x5 : List (List Int)) p12 x4.length x4.length (y2.net).toNat [.slice p13 y4.length k11], Ch.box bb4 [.int .i64 y2.instance_, .int .i64 y2.pin, .int .i64 y2.net, .bool y2.drives] 156]) rfl 13 rfl #[ff, ff, ff, ff, ff, ff, ff, ff, ff, ff, ff, ff, ff] (by kernel_rfl) (fun w19 hb => ?_)
  replace h := h.ext hb
  clear hb
  refine ql 0 rfl #[tt, ff, ff, ff, ff, ff, ff, ff, ff, ff, ff, ff, ff] (by kernel_rfl) (by kernel_rfl) (fun w' hw => v_p qc rfl w') (h.pick [1, 2] rfl) rfl ?_
  refine ql 1 rfl #[tt, tt, ff, ff, ff, ff, ff, ff, ff, ff, ff, ff, ff] (by kernel_rfl) (by kernel_rfl) (fun w' hw => v_p qc rfl w') (h.pick [1, 2] rfl) rfl ?_
  refine ql 2 rfl #[tt, tt, tt, ff, ff, ff, ff, ff, ff, ff, ff, ff, ff] (by kernel_rfl) (by kernel_rfl) (fun w' hw => qcK qc (hw.box 1 rfl) (j := 2) rfl rfl rfl) (h.pick [1, 2] rfl) rfl ?_
  refine ql 3 rfl #[tt, tt, tt, tt, ff, ff, ff, ff, ff, ff, ff, ff, ff] (by kernel_rfl) (by kernel_rfl) (fun w' hw => v_p qc rfl w') (h.pick [1, 2] rfl) rfl ?_
  refine ql 4 rfl #[tt, tt, tt, tt, tt, ff, ff, ff, ff, ff, ff, ff, ff] (by kernel_rfl) (by kernel_rfl) (fun w' hw => v_p qc rfl w') (h.pick [1, 2] rfl) rfl ?_
  refine ql 5 rfl #[tt, tt, tt, tt, tt, tt, ff, ff, ff, ff, ff, ff, ff] (by kernel_rfl) (by kernel_rfl) (fun w' hw => qcK qc (hw.box 1 rfl) (j := 2) rfl rfl rfl) (h.pick [1, 2] rfl) rfl ?_
  obtain ⟨b4, hp4, -, -, hl2⟩ := h.holeAt 1 rfl
  obtain ⟨q4, hq4⟩ : ∃ q, q = 0 + (y2.net).toNat * GoT.k (List Int) := ⟨_, rfl⟩
  refine ql 6 rfl #[tt, tt, tt, tt, tt, tt, tt, ff, ff, ff, ff, ff, ff] (by kernel_rfl) (by kernel_rfl) (fun w' hw => qgT qc hp4 hq4 ⟨he4.1, qbo he4.2.1 hl2⟩ rfl rfl rfl rfl rfl rfl) (h.pick [1, 2] rfl) rfl ?_
  refine ql 7 rfl #[tt, tt, tt, tt, tt, tt, tt, tt, ff, ff, ff, ff, ff] (by kernel_rfl) (by kernel_rfl) (fun w' hw => qcK qc (qn4 hw 0 rfl hp4 hq4) (j := 0) rfl rfl rfl) (h.pick [1, 2] rfl) rfl ?_
  refine ql 8 rfl #[tt, tt, tt, tt, tt, tt, tt, tt, tt, ff, ff, ff, ff] (by kernel_rfl) (by kernel_rfl) (fun w' hw => v_p qc rfl w') (h.pick [1, 2] rfl) rfl ?_
  refine qa6 9 rfl #[tt, tt, tt, tt, tt, tt, tt, tt, tt, tt, ff, ff, ff] (by kernel_rfl) (by kernel_rfl) ?_
  refine qa7 qc [.tmp 80] _ ([i3] : List Int) h rfl rfl rfl rfl rfl rfl rfl rfl rfl ⟨rfl, trivial⟩ rfl ?_
  intro w20 p14 S10 h
  refine qaW (fun _ => (h.pick [2, 3] rfl)) ?_
  refine qa6 10 rfl #[tt, tt, tt, tt, tt, tt, tt, tt, tt, tt, tt, ff, ff] (by kernel_rfl) (by kernel_rfl) ?_
  obtain ⟨x7, hx4, hF⟩ := qd hF
  obtain ⟨g6, hx4⟩ := qbl hx4
  refine qeE qc 1 h rfl (h.sl 0 rfl).1 (h.sl 0 rfl).2 rfl rfl rfl rfl rfl rfl rfl rfl rfl g6 hx4 rfl ?_
  intro w21 p15 k12 S11 h
  refine qaW (fun _ => (h.pick [2, 3] rfl)) ?_
  obtain ⟨b5, hp5, -, -, hl4⟩ := h.holeAt 2 rfl
  obtain ⟨q5, hq5⟩ : ∃ q, q = 0 + (y2.net).toNat * GoT.k (List Int) := ⟨_, rfl⟩
  refine ql 11 rfl #[tt, tt, tt, tt, tt, tt, tt, tt, tt, tt, tt, tt, ff] (by kernel_rfl) (by kernel_rfl) (fun w' hw => qgT qc hp5 hq5 ⟨he4.1, qbo he4.2.1 hl4⟩ rfl rfl rfl rfl rfl rfl) (h.pick [2, 3] rfl) rfl ?_
  refine qa6 12 rfl #[tt, tt, tt, tt, tt, tt, tt, tt, tt, tt, tt, tt, tt] (by kernel_rfl) (by kernel_rfl) ?_
  refine qpo qc 2 0 h rfl hp5 hq5 rfl rfl rfl rfl rfl rfl ?_
  intro w22 h
  refine qaW (fun hs => absurd (hs 12 (by decide)) (by decide)) ?_
  refine qfa (by kernel_rfl) ?_
  refine qe1 (qx (zp2 rfl (qb ?_)))
  replace h := h.pick [1, 2, 0, 3, 4, 5, 6, 7, 8] rfl
  replace h := h.put
  obtain ⟨S12, h⟩ := qrb (S := _) h
  replace h := h.pick [0, 3, 4, 5, 6, 7] rfl
  exact qz m2 [(1, _), (3, _), (7, _), (8, _), (58, _), (59, _), (60, _)] (Nat.lt_succ_self m2) ⟨rfl, rfl, rfl, rfl, rfl, rfl, rfl, trivial⟩ ⟨_, _, _, _, hF, rfl, h⟩
 refine qG rfl ?_
 obtain rfl := qh hF; replace hF := hK2
 refine zSSR (zp1 rfl (zl 5 4 h rfl (zp2 rfl (qb ?_))))
 replace h := h.nil (α := Int)
 replace h := h.nil (α := (List Int))
 obtain ⟨o3, hF, hK3⟩ := qd hF
 refine qy (qW [(1, _), (3, _), (7, _), (8, _), (87, _), (88, _)] ⟨rfl, rfl, rfl, rfl, rfl, rfl, trivial⟩ ?_)
 refine qI (fun m e w' => ∃ (S13 : Nat → Prop) (p16 : Option Addr) (ln2 : Nat) (k13 : Nat) (x8 : (List (List Int))) (S14 : Nat → Prop) (p17 : Option Addr) (ln3 : Nat) (k14 : Nat) (x9 : (List Int)) (S15 : Nat → Prop) (p18 : Option Addr) (ln4 : Nat) (k15 : Nat) (x10 : (List qbb)) (i4 : Int), qcV a_0 x5 x6 m x8 x9 x10 i4 = some o3 ∧ e = [(1, .pointer (some ⟨bb1, 0, none⟩)), (3, .pointer (some ⟨bb2, 0, none⟩)), (7, .slice p11 x3.length x3.length), (8, .slice p12 x4.length x4.length), (87, .int .i64 (a_0.Wires.length : Int)), (88, .int .i64 i4)] ∧ SH w w' [Ch.own S13 (x8 : List (List Int)) [.slice p16 ln2 k13], Ch.own S14 (x9 : List Int) [.slice p17 ln3 k14], Ch.own S7 (x5 : List (List Int)) [.slice p12 x4.length x4.length], Ch.own S5 (x6 : List Int) [.slice p11 x3.length x3.length], Ch.own S15 (x10 : List qbb) [.slice p18 ln4 k15], Ch.box bb2 [.slice p1 a_0.Library.Cells.length k1, .slice p2 a_0.Design.Instances.length k2, .slice p3 a_0.Design.Nets.length k3, .slice p4 a_0.Design.Ports.length k4, .slice p5 a_0.Wires.length k5, .slice p6 r1.length k6, .slice p18 ln4 k15, .slice p17 ln3 k14, .slice p16 ln2 k13, .slice none 0 0] 160, Ch.own S1 (r1 : List Tplace) [.slice p6 r1.length k6], Ch.box bb1 [.slice p1 a_0.Library.Cells.length k1, .slice p2 a_0.Design.Instances.length k2, .slice p3 a_0.Design.Nets.length k3, .slice p4 a_0.Design.Ports.length k4, .slice p5 a_0.Wires.length k5] 50]) n ⟨_, _, _, _, _, _, _, _, _, _, _, _, _, _, _, _, hF, rfl, h⟩ ?_
 rintro m3 e3 w23 ⟨S13, p16, ln2, k13, x8, S14, p17, ln3, k14, x9, S15, p18, ln4, k15, x10, i4, hF, rfl, h⟩
 obtain rfl := (h.sl 0 rfl).2
 obtain rfl := (h.sl 1 rfl).2
 obtain rfl := (h.sl 4 rfl).2
 rcases m3 with _ | m3
 ·rw [qcV] at hF
  cases hF
 rw [qcV] at hF
 refine zSR (zp1 rfl (zNS ?_))
 refine qp rfl hF ?_ ?_ <;> intro hF
 ·refine zKSBSR (zp2 rfl (zNS ?_))
  refine qht [14] (fun w' => SH w w' [Ch.box bb2 [.slice p1 a_0.Library.Cells.length k1, .slice p2 a_0.Design.Instances.length k2, .slice p3 a_0.Design.Nets.length k3, .slice p4 a_0.Design.Ports.length k4, .slice p5 a_0.Wires.length k5, .slice p6 r1.length k6, .slice p18 x10.length k15, .slice p17 x9.length k14, .slice p16 x8.length k13, .slice none 0 0] 160, Ch.box bb1 [.slice p1 a_0.Library.Cells.length k1, .slice p2 a_0.Design.Instances.length k2, .slice p3 a_0.Design.Nets.length k3, .slice p4 a_0.Design.Ports.length k4, .slice p5 a_0.Wires.length k5] 50]) rfl 15 rfl #[ff, ff, ff, ff, ff, ff, ff, ff, ff, ff, ff, ff, ff, ff, ff] (by kernel_rfl) (fun w24 hb => ?_)
  replace h := h.ext hb
  clear hb
  refine ql 0 rfl #[tt, ff, ff, ff, ff, ff, ff, ff, ff, ff, ff, ff, ff, ff, ff] (by kernel_rfl) (by kernel_rfl) (fun w' hw => v_p qc rfl w') (h.pick [5, 7] rfl) rfl ?_
  refine ql 1 rfl #[tt, tt, ff, ff, ff, ff, ff, ff, ff, ff, ff, ff, ff, ff, ff] (by kernel_rfl) (by kernel_rfl) (fun w' hw => v_p qc rfl w') (h.pick [5, 7] rfl) rfl ?_
  refine ql 2 rfl #[tt, tt, tt, ff, ff, ff, ff, ff, ff, ff, ff, ff, ff, ff, ff] (by kernel_rfl) (by kernel_rfl) (fun w' hw => v_p qc rfl w') (h.pick [5, 7] rfl) rfl ?_
  refine ql 3 rfl #[tt, tt, tt, tt, ff, ff, ff, ff, ff, ff, ff, ff, ff, ff, ff] (by kernel_rfl) (by kernel_rfl) (fun w' hw => v_p qc rfl w') (h.pick [5, 7] rfl) rfl ?_
  refine ql 4 rfl #[tt, tt, tt, tt, tt, ff, ff, ff, ff, ff, ff, ff, ff, ff, ff] (by kernel_rfl) (by kernel_rfl) (fun w' hw => qcK qc (hw.box 0 rfl) (j := 7) rfl rfl rfl) (h.pick [5, 7] rfl) rfl ?_
  refine ql 5 rfl #[tt, tt, tt, tt, tt, tt, ff, ff, ff, ff, ff, ff, ff, ff, ff] (by kernel_rfl) (by kernel_rfl) (fun w' hw => qcK qc (hw.box 1 rfl) (j := 0) rfl rfl rfl) (h.pick [5, 7] rfl) rfl ?_
  refine ql 6 rfl #[tt, tt, tt, tt, tt, tt, tt, ff, ff, ff, ff, ff, ff, ff, ff] (by kernel_rfl) (by kernel_rfl) (fun w' hw => v_p qc rfl w') (h.pick [5, 7] rfl) rfl ?_
  refine qa6 7 rfl #[tt, tt, tt, tt, tt, tt, tt, tt, ff, ff, ff, ff, ff, ff, ff] (by kernel_rfl) (by kernel_rfl) ?_
  obtain ⟨r4, hr7, hF⟩ := qd hF
  refine qay r4 h call151 (qeJ (h.old (GoT.mono ha1 hg.old)) hr7) rfl rfl rfl rfl ?_
  intro w25 S16 p19 k16 h
  refine qaW (fun _ => (h.pick [6, 8] rfl)) ?_
  obtain ⟨y5, hy5, hF⟩ := qd hF
  have he5 := qg hy5
  obtain ⟨b6, o_4, q6, cs6, hp6, hq6, -, hr8, hc8⟩ := (h.sl 0 rfl).1.at hy5
  obtain rfl := hr8
  refine ql 8 rfl #[tt, tt, tt, tt, tt, tt, tt, tt, tt, ff, ff, ff, ff, ff, ff] (by kernel_rfl) (by kernel_rfl) (fun w' hw => qgT qc hp6 hq6 ⟨he5.1, qbo he5.2.1 (h.sl 0 rfl).2⟩ rfl rfl rfl rfl rfl rfl) (h.pick [6, 8] rfl) rfl ?_
  refine qa6 9 rfl #[tt, tt, tt, tt, tt, tt, tt, tt, tt, tt, ff, ff, ff, ff, ff] (by kernel_rfl) (by kernel_rfl) ?_
  refine zc 0 hc8 rfl ?_
  refine qaW (fun _ => (h.pick [6, 8] rfl)) ?_
  refine qa6 10 rfl #[tt, tt, tt, tt, tt, tt, tt, tt, tt, tt, tt, ff, ff, ff, ff] (by kernel_rfl) (by kernel_rfl) ?_
  refine qa7 qc [.tmp 100] _ ([y5] : List Int) h rfl rfl rfl rfl rfl rfl rfl rfl rfl ⟨rfl, trivial⟩ rfl ?_
  intro w26 p20 S17 h
  refine qaW (fun _ => (h.pick [7, 9] rfl)) ?_
  refine qa6 11 rfl #[tt, tt, tt, tt, tt, tt, tt, tt, tt, tt, tt, tt, ff, ff, ff] (by kernel_rfl) (by kernel_rfl) ?_
  obtain ⟨x11, hx5, hF⟩ := qd hF
  obtain ⟨g7, hx5⟩ := qbl hx5
  refine qeE qc 3 h rfl (h.sl 0 rfl).1 (h.sl 0 rfl).2 rfl rfl rfl rfl rfl rfl rfl rfl rfl g7 hx5 rfl ?_
  intro w27 p21 k17 S18 h
  refine qaW (fun _ => (h.pick [7, 9] rfl)) ?_
  refine qa6 12 rfl #[tt, tt, tt, tt, tt, tt, tt, tt, tt, tt, tt, tt, tt, ff, ff] (by kernel_rfl) (by kernel_rfl) ?_
  refine zp1 rfl ?_
  refine qaW (fun _ => (h.pick [7, 9] rfl)) ?_
  refine ql 13 rfl #[tt, tt, tt, tt, tt, tt, tt, tt, tt, tt, tt, tt, tt, tt, ff] (by kernel_rfl) (by kernel_rfl) (fun w' hw => v_p qc rfl w') (h.pick [7, 9] rfl) rfl ?_
  refine qa6 14 rfl #[tt, tt, tt, tt, tt, tt, tt, tt, tt, tt, tt, tt, tt, tt, tt] (by kernel_rfl) (by kernel_rfl) ?_
  refine zs 7 h rfl ?_
  intro w28 h
  refine qaW (fun hs => absurd (hs 14 (by decide)) (by decide)) ?_
  refine qfa (by kernel_rfl) ?_
  refine qbm ?_
  refine qht [12] (fun w' => SH w w' [Ch.box bb2 [.slice p1 a_0.Library.Cells.length k1, .slice p2 a_0.Design.Instances.length k2, .slice p3 a_0.Design.Nets.length k3, .slice p4 a_0.Design.Ports.length k4, .slice p5 a_0.Wires.length k5, .slice p6 r1.length k6, .slice p18 x10.length k15, .slice p21 x11.length k17, .slice p16 x8.length k13, .slice none 0 0] 160, Ch.box bb1 [.slice p1 a_0.Library.Cells.length k1, .slice p2 a_0.Design.Instances.length k2, .slice p3 a_0.Design.Nets.length k3, .slice p4 a_0.Design.Ports.length k4, .slice p5 a_0.Wires.length k5] 50]) rfl 13 rfl #[ff, ff, ff, ff, ff, ff, ff, ff, ff, ff, ff, ff, ff] (by kernel_rfl) (fun w29 hb => ?_)
  replace h := h.ext hb
  clear hb
  refine ql 0 rfl #[tt, ff, ff, ff, ff, ff, ff, ff, ff, ff, ff, ff, ff] (by kernel_rfl) (by kernel_rfl) (fun w' hw => v_p qc rfl w') (h.pick [7, 9] rfl) rfl ?_
  refine ql 1 rfl #[tt, tt, ff, ff, ff, ff, ff, ff, ff, ff, ff, ff, ff] (by kernel_rfl) (by kernel_rfl) (fun w' hw => v_p qc rfl w') (h.pick [7, 9] rfl) rfl ?_
  refine ql 2 rfl #[tt, tt, tt, ff, ff, ff, ff, ff, ff, ff, ff, ff, ff] (by kernel_rfl) (by kernel_rfl) (fun w' hw => v_p qc rfl w') (h.pick [7, 9] rfl) rfl ?_
  refine ql 3 rfl #[tt, tt, tt, tt, ff, ff, ff, ff, ff, ff, ff, ff, ff] (by kernel_rfl) (by kernel_rfl) (fun w' hw => v_p qc rfl w') (h.pick [7, 9] rfl) rfl ?_
  refine ql 4 rfl #[tt, tt, tt, tt, tt, ff, ff, ff, ff, ff, ff, ff, ff] (by kernel_rfl) (by kernel_rfl) (fun w' hw => qcK qc (hw.box 0 rfl) (j := 8) rfl rfl rfl) (h.pick [7, 9] rfl) rfl ?_
  refine ql 5 rfl #[tt, tt, tt, tt, tt, tt, ff, ff, ff, ff, ff, ff, ff] (by kernel_rfl) (by kernel_rfl) (fun w' hw => qcK qc (hw.box 1 rfl) (j := 0) rfl rfl rfl) (h.pick [7, 9] rfl) rfl ?_
  refine ql 6 rfl #[tt, tt, tt, tt, tt, tt, tt, ff, ff, ff, ff, ff, ff] (by kernel_rfl) (by kernel_rfl) (fun w' hw => v_p qc rfl w') (h.pick [7, 9] rfl) rfl ?_
  refine qa6 7 rfl #[tt, tt, tt, tt, tt, tt, tt, tt, ff, ff, ff, ff, ff] (by kernel_rfl) (by kernel_rfl) ?_
  obtain ⟨r5, hr9, hF⟩ := qd hF
  refine qay r5 h call152 (qh1 (h.old (GoT.mono ha1 hg.old)) hr9) rfl rfl rfl rfl ?_
  intro w30 S19 p22 k18 h
  refine qaW (fun _ => (h.pick [8, 10] rfl)) ?_
  refine qa6 8 rfl #[tt, tt, tt, tt, tt, tt, tt, tt, tt, ff, ff, ff, ff] (by kernel_rfl) (by kernel_rfl) ?_
  refine qoB qc [.tmp 112] _ ([r5] : List (List Int)) [1, 2, 3, 4, 5, 6, 7, 8, 9, 10] h rfl rfl rfl rfl rfl rfl rfl rfl rfl (qpr (qaG 0 h rfl) qqr rfl) rfl rfl ?_
  intro w31 p23 S20 h
  refine qaW (fun _ => (h.pick [8, 10] rfl)) ?_
  refine qa6 9 rfl #[tt, tt, tt, tt, tt, tt, tt, tt, tt, tt, ff, ff, ff] (by kernel_rfl) (by kernel_rfl) ?_
  obtain ⟨x12, hx6, hF⟩ := qd hF
  obtain ⟨g8, hx6⟩ := qbl hx6
  replace h := h.pick [0, 3, 1, 2, 4, 5, 6, 7, 8, 9, 10] rfl
  refine qqs qc h rfl rfl rfl rfl rfl rfl rfl rfl rfl g8 hx6 rfl ?_
  intro w32 p24 k19 S21 h
  refine qaW (fun _ => (h.pick [7, 9] rfl)) ?_
  refine qa6 10 rfl #[tt, tt, tt, tt, tt, tt, tt, tt, tt, tt, tt, ff, ff] (by kernel_rfl) (by kernel_rfl) ?_
  refine zp1 rfl ?_
  refine qaW (fun _ => (h.pick [7, 9] rfl)) ?_
  refine ql 11 rfl #[tt, tt, tt, tt, tt, tt, tt, tt, tt, tt, tt, tt, ff] (by kernel_rfl) (by kernel_rfl) (fun w' hw => v_p qc rfl w') (h.pick [7, 9] rfl) rfl ?_
  refine qa6 12 rfl #[tt, tt, tt, tt, tt, tt, tt, tt, tt, tt, tt, tt, tt] (by kernel_rfl) (by kernel_rfl) ?_
  refine zs 7 h rfl ?_
  intro w33 h
  refine qaW (fun hs => absurd (hs 12 (by decide)) (by decide)) ?_
  refine qfa (by kernel_rfl) ?_
  refine zSR (zp2 rfl ?_)
  obtain ⟨y6, hy6, hF⟩ := qd hF
  have he6 := qg hy6
  replace h := h.lrn0 4 rfl
  obtain ⟨b7, o_5, q7, cs7, hp7, hq7, -, hr10, hc9⟩ := (qhz (h.lrnO 4 rfl)).1.at hy6
  have hr11 := hr10
  obtain ⟨p25, k20, rfl, s7⟩ := hr10
  replace h := h.lrnAdd 4 rfl hr11
  refine zx hp7 hq7 ⟨he6.1, qbo he6.2.1 (qhz (h.lrnO 4 rfl)).2⟩ rfl (zc 0 hc9 rfl (zp2 rfl (qb ?_)))
  obtain ⟨o4, hF, hK4⟩ := qd hF
  refine qy ?_
  replace h := h.pick [0, 3, 4, 5, 6, 7, 8, 9] rfl
  refine qW [(1, _), (3, _), (7, _), (8, _), (11, _), (87, _), (88, _), (120, _), (121, _), (122, _)] ⟨rfl, rfl, rfl, rfl, rfl, rfl, rfl, rfl, rfl, rfl, trivial⟩ ?_
  refine qI (fun m e w' => ∃ (S22 : Nat → Prop) (p26 : Option Addr) (ln5 : Nat) (k21 : Nat) (x13 : (List qbb)) (i5 : Int), qcg x6 i4 y6 m x13 i5 = some o4 ∧ e = [(1, .pointer (some ⟨bb1, 0, none⟩)), (3, .pointer (some ⟨bb2, 0, none⟩)), (7, .slice p11 x3.length x3.length), (8, .slice p12 x4.length x4.length), (11, .int .i64 i4), (87, .int .i64 (a_0.Wires.length : Int)), (88, .int .i64 i4), (120, .slice p25 y6.length k20), (121, .int .i64 (y6.length : Int)), (122, .int .i64 i5)] ∧ SH w w' [Ch.own S21 (x12 : List (List Int)) [.slice p24 x12.length k19], Ch.own S18 (x11 : List Int) [.slice p21 x11.length k17], Ch.lrn S7 (x5 : List (List Int)) [.slice p12 x4.length x4.length] [fct (y6 : (List Int)) [.slice p25 y6.length k20]], Ch.own S5 (x6 : List Int) [.slice p11 x3.length x3.length], Ch.own S22 (x13 : List qbb) [.slice p26 ln5 k21], Ch.box bb2 [.slice p1 a_0.Library.Cells.length k1, .slice p2 a_0.Design.Instances.length k2, .slice p3 a_0.Design.Nets.length k3, .slice p4 a_0.Design.Ports.length k4, .slice p5 a_0.Wires.length k5, .slice p6 r1.length k6, .slice p26 ln5 k21, .slice p21 x11.length k17, .slice p24 x12.length k19, .slice none 0 0] 160, Ch.own S1 (r1 : List Tplace) [.slice p6 r1.length k6], Ch.box bb1 [.slice p1 a_0.Library.Cells.length k1, .slice p2 a_0.Design.Instances.length k2, .slice p3 a_0.Design.Nets.length k3, .slice p4 a_0.Design.Ports.length k4, .slice p5 a_0.Wires.length k5] 50]) m3 ⟨_, _, _, _, _, _, hF, rfl, h⟩ ?_
  rintro m4 e4 w34 ⟨S22, p26, ln5, k21, x13, i5, hF, rfl, h⟩
  obtain rfl := (h.sl 4 rfl).2
  rcases m4 with _ | m4
  ·rw [qcg] at hF
   cases hF
  rw [qcg] at hF
  refine zSR (zp1 rfl (zNS ?_))
  refine qp rfl hF ?_ ?_ <;> intro hF
  ·refine zKSBSR (zp1 rfl ?_)
   obtain ⟨y7, hy7, hF⟩ := qd hF
   have he7 := qg hy7
   obtain ⟨b8, o_6, q8, cs8, hp8, hq8, -, hr12, hc11⟩ := (qhz (GoT.mono (h.lrnS 2 0 rfl rfl) (h.lrnB 2 rfl))).1.at hy7
   obtain rfl := hr12
   refine zx hp8 hq8 ⟨he7.1, qbo he7.2.1 (qhz (GoT.mono (h.lrnS 2 0 rfl rfl) (h.lrnB 2 rfl))).2⟩ rfl (zc 0 hc11 rfl (zp2 rfl (zNSR (zp1 rfl (qb ?_)))))
   obtain ⟨o5, hF, hK5⟩ := qd hF
   refine qy (qW [(1, _), (3, _), (7, _), (8, _), (11, _), (12, _), (13, _), (87, _), (88, _), (120, _), (121, _), (122, _), (127, _)] ⟨rfl, rfl, rfl, rfl, rfl, rfl, rfl, rfl, rfl, rfl, rfl, rfl, rfl, trivial⟩ ?_)
   refine qI (fun m e w' => ∃ (S23 : Nat → Prop) (p27 : Option Addr) (ln6 : Nat) (k22 : Nat) (x14 : (List qbb)) (i6 : Int), qcj x6 i4 i5 y7 m x14 i6 = some o5 ∧ e = [(1, .pointer (some ⟨bb1, 0, none⟩)), (3, .pointer (some ⟨bb2, 0, none⟩)), (7, .slice p11 x3.length x3.length), (8, .slice p12 x4.length x4.length), (11, .int .i64 i4), (12, .int .i64 i5), (13, .int .i64 y7), (87, .int .i64 (a_0.Wires.length : Int)), (88, .int .i64 i4), (120, .slice p25 y6.length k20), (121, .int .i64 (y6.length : Int)), (122, .int .i64 i5), (127, .int .i64 i6)] ∧ SH w w' [Ch.own S21 (x12 : List (List Int)) [.slice p24 x12.length k19], Ch.own S18 (x11 : List Int) [.slice p21 x11.length k17], Ch.lrn S7 (x5 : List (List Int)) [.slice p12 x4.length x4.length] [fct (y6 : (List Int)) [.slice p25 y6.length k20]], Ch.own S5 (x6 : List Int) [.slice p11 x3.length x3.length], Ch.own S23 (x14 : List qbb) [.slice p27 ln6 k22], Ch.box bb2 [.slice p1 a_0.Library.Cells.length k1, .slice p2 a_0.Design.Instances.length k2, .slice p3 a_0.Design.Nets.length k3, .slice p4 a_0.Design.Ports.length k4, .slice p5 a_0.Wires.length k5, .slice p6 r1.length k6, .slice p27 ln6 k22, .slice p21 x11.length k17, .slice p24 x12.length k19, .slice none 0 0] 160, Ch.own S1 (r1 : List Tplace) [.slice p6 r1.length k6], Ch.box bb1 [.slice p1 a_0.Library.Cells.length k1, .slice p2 a_0.Design.Instances.length k2, .slice p3 a_0.Design.Nets.length k3, .slice p4 a_0.Design.Ports.length k4, .slice p5 a_0.Wires.length k5] 50]) m4 ⟨_, _, _, _, _, _, hF, rfl, h⟩ ?_
   rintro m5 e5 w35 ⟨S23, p27, ln6, k22, x14, i6, hF, rfl, h⟩
   obtain rfl := (h.sl 4 rfl).2
   rcases m5 with _ | m5
   ·rw [qcj] at hF
    cases hF
   rw [qcj] at hF
   refine zSR (zp1 rfl (zNS ?_))
   refine qp rfl hF ?_ ?_ <;> intro hF
   ·refine zKSBSR (zp2 rfl (qb ?_))
    refine qht [22] (fun w' => SH w w' [Ch.own S5 (x6 : List Int) [.slice p11 x3.length x3.length], Ch.box bb2 [.slice p1 a_0.Library.Cells.length k1, .slice p2 a_0.Design.Instances.length k2, .slice p3 a_0.Design.Nets.length k3, .slice p4 a_0.Design.Ports.length k4, .slice p5 a_0.Wires.length k5, .slice p6 r1.length k6, .slice p27 x14.length k22, .slice p21 x11.length k17, .slice p24 x12.length k19, .slice none 0 0] 160]) rfl 23 rfl #[ff, ff, ff, ff, ff, ff, ff, ff, ff, ff, ff, ff, ff, ff, ff, ff, ff, ff, ff, ff, ff, ff, ff] (by kernel_rfl) (fun w36 hb => ?_)
    replace h := h.ext hb
    clear hb
    refine ql 0 rfl #[tt, ff, ff, ff, ff, ff, ff, ff, ff, ff, ff, ff, ff, ff, ff, ff, ff, ff, ff, ff, ff, ff, ff] (by kernel_rfl) (by kernel_rfl) (fun w' hw => v_p qc rfl w') (h.pick [3, 5] rfl) rfl ?_
    refine ql 1 rfl #[tt, tt, ff, ff, ff, ff, ff, ff, ff, ff, ff, ff, ff, ff, ff, ff, ff, ff, ff, ff, ff, ff, ff] (by kernel_rfl) (by kernel_rfl) (fun w' hw => v_p qc rfl w') (h.pick [3, 5] rfl) rfl ?_
    refine ql 2 rfl #[tt, tt, tt, ff, ff, ff, ff, ff, ff, ff, ff, ff, ff, ff, ff, ff, ff, ff, ff, ff, ff, ff, ff] (by kernel_rfl) (by kernel_rfl) (fun w' hw => v_p qc rfl w') (h.pick [3, 5] rfl) rfl ?_
    refine ql 3 rfl #[tt, tt, tt, tt, ff, ff, ff, ff, ff, ff, ff, ff, ff, ff, ff, ff, ff, ff, ff, ff, ff, ff, ff] (by kernel_rfl) (by kernel_rfl) (fun w' hw => v_p qc rfl w') (h.pick [3, 5] rfl) rfl ?_
    refine ql 4 rfl #[tt, tt, tt, tt, tt, ff, ff, ff, ff, ff, ff, ff, ff, ff, ff, ff, ff, ff, ff, ff, ff, ff, ff] (by kernel_rfl) (by kernel_rfl) (fun w' hw => qcK qc (hw.box 1 rfl) (j := 6) rfl rfl rfl) (h.pick [3, 5] rfl) rfl ?_
    refine ql 5 rfl #[tt, tt, tt, tt, tt, tt, ff, ff, ff, ff, ff, ff, ff, ff, ff, ff, ff, ff, ff, ff, ff, ff, ff] (by kernel_rfl) (by kernel_rfl) (fun w' hw => v_p qc rfl w') (h.pick [3, 5] rfl) rfl ?_
    refine ql 6 rfl #[tt, tt, tt, tt, tt, tt, tt, ff, ff, ff, ff, ff, ff, ff, ff, ff, ff, ff, ff, ff, ff, ff, ff] (by kernel_rfl) (by kernel_rfl) (fun w' hw => v_p qc rfl w') (h.pick [3, 5] rfl) rfl ?_
    obtain ⟨y8, hy8, hF⟩ := qd hF
    have he8 := qg hy8
    obtain ⟨b9, o_7, q9, cs9, hp9, hq9, -, hr13, hc13⟩ := (h.sl 3 rfl).1.at hy8
    obtain rfl := hr13
    refine ql 7 rfl #[tt, tt, tt, tt, tt, tt, tt, tt, ff, ff, ff, ff, ff, ff, ff, ff, ff, ff, ff, ff, ff, ff, ff] (by kernel_rfl) (by kernel_rfl) (fun w' hw => qgT qc hp9 hq9 ⟨he8.1, qbo he8.2.1 (h.sl 3 rfl).2⟩ rfl rfl rfl rfl rfl rfl) (h.pick [3, 5] rfl) rfl ?_
    refine ql 8 rfl #[tt, tt, tt, tt, tt, tt, tt, tt, tt, ff, ff, ff, ff, ff, ff, ff, ff, ff, ff, ff, ff, ff, ff] (by kernel_rfl) (by kernel_rfl) (fun w' hw => qcK qc (qg2 (w1 := w) (S1 := fun _ => False) hw 0 rfl hy8 hp9 hq9 rfl) (j := 0) rfl rfl rfl) (h.pick [3, 5] rfl) rfl ?_
    refine ql 9 rfl #[tt, tt, tt, tt, tt, tt, tt, tt, tt, tt, ff, ff, ff, ff, ff, ff, ff, ff, ff, ff, ff, ff, ff] (by kernel_rfl) (by kernel_rfl) (fun w' hw => v_p qc rfl w') (h.pick [3, 5] rfl) rfl ?_
    refine ql 10 rfl #[tt, tt, tt, tt, tt, tt, tt, tt, tt, tt, tt, ff, ff, ff, ff, ff, ff, ff, ff, ff, ff, ff, ff] (by kernel_rfl) (by kernel_rfl) (fun w' hw => v_p qc rfl w') (h.pick [3, 5] rfl) rfl ?_
    refine ql 11 rfl #[tt, tt, tt, tt, tt, tt, tt, tt, tt, tt, tt, tt, ff, ff, ff, ff, ff, ff, ff, ff, ff, ff, ff] (by kernel_rfl) (by kernel_rfl) (fun w' hw => v_p qc rfl w') (h.pick [3, 5] rfl) rfl ?_
    refine ql 12 rfl #[tt, tt, tt, tt, tt, tt, tt, tt, tt, tt, tt, tt, tt, ff, ff, ff, ff, ff, ff, ff, ff, ff, ff] (by kernel_rfl) (by kernel_rfl) (fun w' hw => v_p qc rfl w') (h.pick [3, 5] rfl) rfl ?_
    refine ql 13 rfl #[tt, tt, tt, tt, tt, tt, tt, tt, tt, tt, tt, tt, tt, tt, ff, ff, ff, ff, ff, ff, ff, ff, ff] (by kernel_rfl) (by kernel_rfl) (fun w' hw => v_p qc rfl w') (h.pick [3, 5] rfl) rfl ?_
    refine ql 14 rfl #[tt, tt, tt, tt, tt, tt, tt, tt, tt, tt, tt, tt, tt, tt, tt, ff, ff, ff, ff, ff, ff, ff, ff] (by kernel_rfl) (by kernel_rfl) (fun w' hw => v_p qc rfl w') (h.pick [3, 5] rfl) rfl ?_
    refine ql 15 rfl #[tt, tt, tt, tt, tt, tt, tt, tt, tt, tt, tt, tt, tt, tt, tt, tt, ff, ff, ff, ff, ff, ff, ff] (by kernel_rfl) (by kernel_rfl) (fun w' hw => v_p qc rfl w') (h.pick [3, 5] rfl) rfl ?_
    refine ql 16 rfl #[tt, tt, tt, tt, tt, tt, tt, tt, tt, tt, tt, tt, tt, tt, tt, tt, tt, ff, ff, ff, ff, ff, ff] (by kernel_rfl) (by kernel_rfl) (fun w' hw => v_p qc rfl w') (h.pick [3, 5] rfl) rfl ?_
    refine ql 17 rfl #[tt, tt, tt, tt, tt, tt, tt, tt, tt, tt, tt, tt, tt, tt, tt, tt, tt, tt, ff, ff, ff, ff, ff] (by kernel_rfl) (by kernel_rfl) (fun w' hw => qeP qc [0, 1, 2, 3] [.tmp 141, .tmp 145, .const (.int .i64 (2)), .tmp 146] rfl rfl rfl rfl rfl rfl rfl rfl) (h.pick [3, 5] rfl) rfl ?_
    refine qa6 18 rfl #[tt, tt, tt, tt, tt, tt, tt, tt, tt, tt, tt, tt, tt, tt, tt, tt, tt, tt, tt, ff, ff, ff, ff] (by kernel_rfl) (by kernel_rfl) ?_
    refine qa7 qc [.tmp 147] _ ([(⟨W64 ((W64 (2 * y8)) + i6), W64 ((W64 (2 * y7)) + i6), 2, i5⟩ : qbb)] : List qbb) h rfl rfl rfl rfl rfl rfl rfl rfl rfl ⟨(qmx (⟨W64 ((W64 (2 * y8)) + i6), W64 ((W64 (2 * y7)) + i6), 2, i5⟩ : qbb)), trivial⟩ rfl ?_
    intro w37 p28 S24 h
    refine qaW (fun _ => (h.pick [4, 6] rfl)) ?_
    refine qa6 19 rfl #[tt, tt, tt, tt, tt, tt, tt, tt, tt, tt, tt, tt, tt, tt, tt, tt, tt, tt, tt, tt, ff, ff, ff] (by kernel_rfl) (by kernel_rfl) ?_
    obtain ⟨x15, hx7, hF⟩ := qd hF
    obtain ⟨g9, hx7⟩ := qbl hx7
    refine qeE qc 5 h rfl (h.sl 0 rfl).1 (h.sl 0 rfl).2 rfl rfl rfl rfl rfl rfl rfl rfl rfl g9 hx7 rfl ?_
    intro w38 p29 k23 S25 h
    refine qaW (fun _ => (h.pick [4, 6] rfl)) ?_
    refine qa6 20 rfl #[tt, tt, tt, tt, tt, tt, tt, tt, tt, tt, tt, tt, tt, tt, tt, tt, tt, tt, tt, tt, tt, ff, ff] (by kernel_rfl) (by kernel_rfl) ?_
    refine zp1 rfl ?_
    refine qaW (fun _ => (h.pick [4, 6] rfl)) ?_
    refine ql 21 rfl #[tt, tt, tt, tt, tt, tt, tt, tt, tt, tt, tt, tt, tt, tt, tt, tt, tt, tt, tt, tt, tt, tt, ff] (by kernel_rfl) (by kernel_rfl) (fun w' hw => v_p qc rfl w') (h.pick [4, 6] rfl) rfl ?_
    refine qa6 22 rfl #[tt, tt, tt, tt, tt, tt, tt, tt, tt, tt, tt, tt, tt, tt, tt, tt, tt, tt, tt, tt, tt, tt, tt] (by kernel_rfl) (by kernel_rfl) ?_
    refine zs 6 h rfl ?_
    intro w39 h
    refine qaW (fun hs => absurd (hs 22 (by decide)) (by decide)) ?_
    refine qfa (by kernel_rfl) ?_
    refine qe1 (qx (zp2 rfl (qb ?_)))
    replace h := h.pick [1, 2, 3, 4, 5, 6, 7, 8] rfl
    exact qz m5 [(1, _), (3, _), (7, _), (8, _), (11, _), (12, _), (13, _), (87, _), (88, _), (120, _), (121, _), (122, _), (127, _)] (Nat.lt_succ_self m5) ⟨rfl, rfl, rfl, rfl, rfl, rfl, rfl, rfl, rfl, rfl, rfl, rfl, rfl, trivial⟩ ⟨_, _, _, _, _, _, hF, rfl, h⟩
   refine qG rfl ?_
   obtain rfl := qh hF; replace hF := hK5
   exact qe1 (qx (zp2 rfl (qb (qz m4 [(1, _), (3, _), (7, _), (8, _), (11, _), (87, _), (88, _), (120, _), (121, _), (122, _)] (Nat.lt_succ_self m4) ⟨rfl, rfl, rfl, rfl, rfl, rfl, rfl, rfl, rfl, rfl, trivial⟩ ⟨_, _, _, _, _, _, hF, rfl, h⟩))))
  refine qG rfl ?_
  obtain rfl := qh hF; replace hF := hK4
  refine qe1 (qx (zp2 rfl (qb ?_)))
  replace h := h.unlrn 2 rfl
  exact qz m3 [(1, _), (3, _), (7, _), (8, _), (87, _), (88, _)] (Nat.lt_succ_self m3) ⟨rfl, rfl, rfl, rfl, rfl, rfl, trivial⟩ ⟨_, _, _, _, _, _, _, _, _, _, _, _, _, _, _, _, hF, rfl, h⟩
 refine qG rfl ?_
 obtain rfl := qh hF; replace hF := hK3
 refine zSR (zp2 rfl (qb ?_))
 obtain rfl := qh hF
 have hv1 : GoRs.Rs (ρ := (Option Tview)) h.wc (reg A w h.wc) (some (⟨(⟨(⟨a_0.Library.Cells⟩ : qA), (⟨a_0.Design.Instances, a_0.Design.Nets, a_0.Design.Ports⟩ : qk), a_0.Wires⟩ : qD), r1, x10, x9, x8, []⟩ : Tview)) [GoT.v (Option Tview) [.pointer (some ⟨bb2, 0, none⟩)]] := ⟨_, rfl, (hg.outR h (Rg.boxR (x := (⟨(⟨(⟨a_0.Library.Cells⟩ : qA), (⟨a_0.Design.Instances, a_0.Design.Nets, a_0.Design.Ports⟩ : qk), a_0.Wires⟩ : qD), r1, x10, x9, x8, []⟩ : Tview)) 5 h rfl (⟨[.slice p1 a_0.Library.Cells.length k1, .slice p2 a_0.Design.Instances.length k2, .slice p3 a_0.Design.Nets.length k3, .slice p4 a_0.Design.Ports.length k4, .slice p5 a_0.Wires.length k5], [.slice p6 r1.length k6, .slice p18 x10.length k15, .slice p17 x9.length k14, .slice p16 x8.length k13, .slice none 0 0], rfl, ⟨[.slice p1 a_0.Library.Cells.length k1], [.slice p2 a_0.Design.Instances.length k2, .slice p3 a_0.Design.Nets.length k3, .slice p4 a_0.Design.Ports.length k4, .slice p5 a_0.Wires.length k5], rfl, ⟨_, _, rfl, (hg.inS h s1)⟩, ⟨[.slice p2 a_0.Design.Instances.length k2, .slice p3 a_0.Design.Nets.length k3, .slice p4 a_0.Design.Ports.length k4], [.slice p5 a_0.Wires.length k5], rfl, ⟨[.slice p2 a_0.Design.Instances.length k2], [.slice p3 a_0.Design.Nets.length k3, .slice p4 a_0.Design.Ports.length k4], rfl, ⟨_, _, rfl, (hg.inS h s2)⟩, ⟨[.slice p3 a_0.Design.Nets.length k3], [.slice p4 a_0.Design.Ports.length k4], rfl, ⟨_, _, rfl, (hg.inS h s3)⟩, ⟨_, _, rfl, (hg.inS h s4)⟩⟩⟩, ⟨_, _, rfl, (hg.inS h s5)⟩⟩⟩, ⟨[.slice p6 r1.length k6], [.slice p18 x10.length k15, .slice p17 x9.length k14, .slice p16 x8.length k13, .slice none 0 0], rfl, (Rg.ownR 6 h rfl), ⟨[.slice p18 x10.length k15], [.slice p17 x9.length k14, .slice p16 x8.length k13, .slice none 0 0], rfl, (Rg.ownR 4 h rfl), ⟨[.slice p17 x9.length k14], [.slice p16 x8.length k13, .slice none 0 0], rfl, (Rg.ownR 1 h rfl), ⟨[.slice p16 x8.length k13], [.slice none 0 0], rfl, (Rg.ownR 0 h rfl), ⟨_, _, rfl, qqN⟩⟩⟩⟩⟩⟩)))⟩
 exact qiX qc (ρ := (Option Tview)) (r := (some (⟨(⟨(⟨a_0.Library.Cells⟩ : qA), (⟨a_0.Design.Instances, a_0.Design.Nets, a_0.Design.Ports⟩ : qk), a_0.Wires⟩ : qD), r1, x10, x9, x8, []⟩ : Tview))) [GoT.v (Option Tview) [.pointer (some ⟨bb2, 0, none⟩)]] h ⟨rfl, trivial⟩ hv1

end Go.Fw


namespace Go.Fw
open Go Go.Proofs
open Go.RowKit (Below)
set_option maxRecDepth 100000
set_option maxHeartbeats 1600000
end Go.Fw


namespace Go.Fw
open Go
set_option maxRecDepth 100000

theorem qoJ {d : qk} {k : Int} {n i : Nat} (hi : i < (sinksL d k n).length) : ∃ y : Nat, y < n ∧ idx (sinksL d k n) (i : Int) = some (y : Int) ∧ snkQ d k y = true := by
  rw [qgV hi]
  have hm : (sinksL d k n)[i] ∈ sinksL d k n := List.getElem_mem hi
  generalize (sinksL d k n)[i] = z at hm
  unfold sinksL at hm
  obtain ⟨y, hy, rfl⟩ := List.mem_map.1 hm
  obtain ⟨h1, h2⟩ := List.mem_filter.1 hy
  exact ⟨y, List.mem_range.1 h1, rfl, h2⟩

theorem qlW {d : qk} {k : Int} (h : smallD d) : Ev (fun n => qel n d k) (sinksL d k (places d).length) := by
  have hl := qet h
  have hL : Ev (fun n => qaE k (places d) n ([] : List Int) 0) (sinksL d k (places d).length, ((places d).length : Int)) := by
    refine loopF (Lf := qaE k (places d)) (S := fun j => sinksL d k j) (len := (places d).length) (fun n => ?_) (fun j hj X hX => ?_)
    · simp only [qaE, qv (Nat.le_refl _), cond_false]
    · have hc : (sinksL d k j).length + [(j : Int)].length ≤ 2147483648 := by
        rw [qg0]
        have : cntP (snkQ d k) j ≤ j := qfd
        simp; omega
      simp only [qaE, qu hj, cond_true, qat hj, Option.bind_some, qr (show j < 9223372036854775807 by omega)]
      rw [qjn] at hX
      unfold snkQ at hX
      cases h1 : ((gt (places d) j).net == k)
      · rw [h1] at hX
        simp only [Bool.false_and, cond_false, List.append_nil] at hX ⊢
        exact hX
      · cases h2 : (gt (places d) j).drives
        · rw [h1, h2] at hX
          simp only [Bool.not_false, Bool.and_self, cond_true, qee hc, Option.bind_some] at hX ⊢
          exact hX
        · rw [h1, h2] at hX
          simp only [Bool.not_true, Bool.and_false, cond_false, List.append_nil, cond_true] at hX ⊢
          exact hX
  unfold qel
  exact Ev.bind (qjr h) (Ev.bind hL .done)

/-- What a valid block says of a wire. -/
structure wireOk (b : qD) (i : Nat) : Prop where
  lo : 1 ≤ (gt b.Wires i).Parent.length
  hi : (gt b.Wires i).Parent.length ≤ 8
  res : (gt b.Wires i).Res.length = (gt b.Wires i).Parent.length
  cap : (gt b.Wires i).Cap.length = (gt b.Wires i).Parent.length
  par : ∀ j, 0 < j → j < (gt b.Wires i).Parent.length → 0 ≤ at0 (gt b.Wires i).Parent j ∧ at0 (gt b.Wires i).Parent j < j
  snk : (gt b.Wires i).Sink.length = (sinksL b.Design (i : Int) (places b.Design).length).length
  sin : ∀ j, j < (gt b.Wires i).Sink.length → 0 ≤ at0 (gt b.Wires i).Sink j ∧ at0 (gt b.Wires i).Sink j < (gt b.Wires i).Parent.length
theorem qjj {b : qD} (h : blockB b = true) {i : Nat} (hi : i < b.Wires.length) : wireOk b i := by
  unfold blockB at h
  rw [Bool.and_eq_true, qbh] at h
  have := h.2 i hi
  unfold wireB lenB at this
  simp only [Bool.and_eq_true, decide_eq_true_eq, beq_iff_eq] at this
  obtain ⟨⟨h1, h2⟩, h3, h4, h5, _, _, h6, h7⟩ := this
  refine ⟨h1, h2, by omega, by omega, fun j hj0 hj => ?_, ?_, fun j hj => ?_⟩
  · have := qbh.1 h5 j hj
    unfold treeB at this
    rw [show decide (j = 0) = false by simp; omega] at this
    simp only [cond_false, qdC] at this
    omega
  · rw [qg0]
    unfold snkN at h6
    omega
  · rw [qgI (d := 0), qbh] at h7
    have := h7 j hj
    rw [qdC] at this
    unfold at0
    omega
theorem qnO {b : qD} (h : blockB b = true) : b.Wires.length = b.Design.Nets.length := by
  unfold blockB at h
  simp only [Bool.and_eq_true, beq_iff_eq] at h
  omega

theorem qpB {b : qD} (h : blockB b = true) {j : Nat} (hj : j < (places b.Design).length) : ∃ c, ∀ n, qeq n b.Design b.Library (gt (places b.Design) j) = some c := by
  have hd := qdT h
  rcases qnx hj with ⟨i, k, hi, hk, _, e⟩ | ⟨i, hi, _, e⟩
  · rw [e]
    obtain ⟨⟨c0, c1⟩, hn, _⟩ := qmq hd hi
    refine ⟨(gt (gt b.Library.Cells (gt b.Design.Instances i).Cell.toNat).Pins k).Cap, fun n => ?_⟩
    unfold place1
    simp only [qeq, show decide ((i : Int) < 0) = false by simp, cond_false, qat hi, Option.bind_some, qg9 c0 c1, qat (show k < (gt b.Library.Cells (gt b.Design.Instances i).Cell.toNat).Pins.length by omega)]
  · rw [e]
    exact ⟨0, fun n => rfl⟩

theorem qkd {b : qD} (h : blockB b = true) {i : Nat} (hi : i < b.Wires.length) : ∃ r : List Int, r.length = (gt b.Wires i).Parent.length ∧ Ev (fun n => qcp n b (i : Int)) r := by
  have hw := qjj h hi
  have hs := qcc (qdT h)
  have hlo := hw.lo
  have hhi := hw.hi
  have hcap := hw.cap
  have hl := qet hs
  obtain ⟨x1, i1, e1⟩ := loopE (Lf := qa2 b (gt b.Wires i) (places b.Design) (sinksL b.Design (i : Int) (places b.Design).length)) (fin := fun t => (t, ((sinksL b.Design (i : Int) (places b.Design).length).length : Int))) (fun _ t => t.length = (gt b.Wires i).Parent.length) (len := (sinksL b.Design (i : Int) (places b.Design).length).length)
    (fun n t => by simp only [qa2, qv (Nat.le_refl _), cond_false])
    (fun j t hj ht => by
      obtain ⟨y, hy, ey, _⟩ := qoJ hj
      obtain ⟨c, hc⟩ := qpB h hy
      have hjs : j < (gt b.Wires i).Sink.length := by rw [hw.snk]; exact hj
      have hsn := hw.sin j hjs
      have hb : j < 9223372036854775807 := by
        rw [qg0] at hj
        have : cntP (snkQ b.Design (i : Int)) (places b.Design).length ≤ (places b.Design).length := qfd
        omega
      refine ⟨setS t (at0 (gt b.Wires i).Sink j) (W64 (gt t (at0 (gt b.Wires i).Sink j).toNat + c)), by rw [qi7]; exact ht, fun X hX => ?_⟩
      simp only [qa2, qu hj, cond_true, ey, Option.bind_some, qb5 hjs, qg9 hsn.1 (show at0 (gt b.Wires i).Sink j < (t.length : Int) by omega), qat hy, qr hb]
      exact Ev.bind ⟨0, fun n _ => hc n⟩ hX) 0 (Nat.zero_le _) (gt b.Wires i).Cap hcap
  obtain ⟨x2, i2, e2⟩ := loopDn (Lf := qa3 (gt b.Wires i)) (fin := fun t => (t, (0 : Int))) (fun t => t.length = (gt b.Wires i).Parent.length) ((gt b.Wires i).Parent.length - 1)
    (fun n t => by simp only [qa3, show decide ((0 : Int) > 0) = false from rfl, cond_false])
    (fun j t h0 hj ht => by
      have hp := hw.par j h0 (by omega)
      refine ⟨setS t (at0 (gt b.Wires i).Parent j) (W64 (gt t (at0 (gt b.Wires i).Parent j).toNat + gt t j)), by rw [qi7]; exact ht, fun X hX => ?_⟩
      simp only [qa3, show decide ((j : Int) > 0) = true by simp; omega, cond_true, qb5 (show j < (gt b.Wires i).Parent.length by omega), Option.bind_some, qg9 hp.1 (show at0 (gt b.Wires i).Parent j < (t.length : Int) by omega), qat (show j < t.length by omega), show (j : Int) - 1 = ((j - 1 : Nat) : Int) by omega, qf5 (show -9223372036854775808 ≤ ((j - 1 : Nat) : Int) by omega) (by omega)]
      exact hX) x1 i1
  refine ⟨x2, i2, ?_⟩
  unfold qcp qf4
  rw [qat hi]
  simp only [Option.bind_some, qee (show ([] : List Int).length + (gt b.Wires i).Cap.length ≤ 2147483648 by simp; omega), List.nil_append]
  refine Ev.bind (qjr hs) (Ev.bind (qlW hs) (Ev.bind e1 ?_))
  rw [qcZ (show (gt b.Wires i).Cap.length ≤ 9223372036854775807 by omega), show ((gt b.Wires i).Cap.length : Int) - 1 = (((gt b.Wires i).Parent.length - 1 : Nat) : Int) by omega]
  exact Ev.bind e2 .done

theorem qlN {b : qD} (h : blockB b = true) {i : Nat} (hi : i < b.Wires.length) : ∃ r : List Int, r.length = (gt b.Wires i).Sink.length ∧ Ev (fun n => qcG n b (i : Int)) r := by
  have hw := qjj h hi
  have hs := qcc (qdT h)
  have hlo := hw.lo
  have hhi := hw.hi
  have hres := hw.res
  have hl := qet hs
  have hsl : (gt b.Wires i).Sink.length ≤ 78 := by
    rw [hw.snk, qg0]
    have : cntP (snkQ b.Design (i : Int)) (places b.Design).length ≤ (places b.Design).length := qfd
    omega
  obtain ⟨r1, l1, e1⟩ := qkd h hi
  have hmk : mkS (r1.length : Int) (0 : Int) = some (List.replicate r1.length 0) := qgo (by omega)
  obtain ⟨x2, i2, e2⟩ := loopE (Lf := qaU (gt b.Wires i) r1 (List.replicate r1.length 0)) (fin := fun t => (t, (r1.length : Int))) (fun j t => 1 ≤ j ∧ t.length = (gt b.Wires i).Parent.length) (len := r1.length)
    (fun n t => by simp only [qaU, List.length_replicate, qv (Nat.le_refl _), cond_false])
    (fun j t hj ht => by
      obtain ⟨h1, ht⟩ := ht
      have hp := hw.par j (by omega) (by omega)
      refine ⟨setS t (j : Int) (W64 (gt t (at0 (gt b.Wires i).Parent j).toNat + W64 (at0 (gt b.Wires i).Res j * gt r1 j))), ⟨by omega, by rw [qi7]; exact ht⟩, fun X hX => ?_⟩
      simp only [qaU, List.length_replicate, qu hj, cond_true, qb5 (show j < (gt b.Wires i).Parent.length by omega), Option.bind_some, qg9 hp.1 (show at0 (gt b.Wires i).Parent j < (t.length : Int) by omega), qb5 (show j < (gt b.Wires i).Res.length by omega), qat hj, qat (show j < t.length by omega), qr (show j < 9223372036854775807 by omega)]
      exact hX) 1 (by omega) (List.replicate r1.length 0) ⟨Nat.le_refl _, by rw [List.length_replicate]; exact l1⟩
  obtain ⟨x3, i3, e3⟩ := loopE (Lf := qaN x2 (gt b.Wires i)) (fin := fun t => (t, ((gt b.Wires i).Sink.length : Int))) (fun j t => t.length = j) (len := (gt b.Wires i).Sink.length)
    (fun n t => by simp only [qaN, qv (Nat.le_refl _), cond_false])
    (fun j t hj ht => by
      have hsn := hw.sin j hj
      have hx2 := i2.2
      refine ⟨t ++ [gt x2 (at0 (gt b.Wires i).Sink j).toNat], by simp [ht], fun X hX => ?_⟩
      simp only [qaN, qu hj, cond_true, qb5 hj, Option.bind_some, qg9 hsn.1 (show at0 (gt b.Wires i).Sink j < (x2.length : Int) by omega), qee (show t.length + [gt x2 (at0 (gt b.Wires i).Sink j).toNat].length ≤ 2147483648 by simp; omega), qr (show j < 9223372036854775807 by omega)]
      exact hX) 0 (Nat.zero_le _) [] rfl
  refine ⟨x3, i3, ?_⟩
  unfold qcG qd5
  rw [qat hi]
  simp only [Option.bind_some]
  refine Ev.bind (b := x2) (Ev.bind e1 ?_) (Ev.bind e3 .done)
  rw [hmk]
  simp only [Option.bind_some]
  exact Ev.bind e2 .done
end Go.Fw


namespace Go.Fw
open Go
set_option maxRecDepth 100000

instance : Inhabited qbb := ⟨⟨0, 0, 0, 0⟩⟩
instance : Inhabited qU := ⟨⟨0, 0⟩⟩

theorem qoo {α : Type} {m : Nat} {z : α} (h : m ≤ 2147483648) : mkS (m : Int) z = some (List.replicate m z) := by
  unfold mkS big
  rw [if_pos ⟨by omega, by omega⟩, Int.toNat_natCast]
theorem qo8 {α : Type} [Inhabited α] {xs : List α} {a k : Nat} {y : α} (h : k ≠ a) : gt (xs.set a y) k = gt xs k := by
  unfold gt
  rw [List.getD_eq_getElem?_getD, List.getElem?_set_ne (by omega), ← List.getD_eq_getElem?_getD]
theorem qnv {α : Type} [Inhabited α] {xs : List α} {a : Nat} {y : α} (h : a < xs.length) : gt (xs.set a y) a = y := by
  rw [qiV (by rw [List.length_set]; exact h), List.getElem_set_self]
theorem qpg {a : qag} : ∃ r : List qU, r.length ≤ 4 ∧ ∀ n, qdk n a = some r := by
  unfold qdk
  simp only [bne, qbg]
  cases (a.Kind == 2)
  · cases (a.Kind == 3)
    · cases (a.Kind == 1)
      · exact ⟨_, by decide, fun _ => rfl⟩
      · cases (a.Sense == 1)
        · cases (a.Sense == 2)
          · exact ⟨[⟨0, 0⟩, ⟨0, 1⟩, ⟨1, 0⟩, ⟨1, 1⟩], by decide, fun _ => rfl⟩
          · exact ⟨[⟨0, 1⟩, ⟨1, 0⟩], by decide, fun _ => rfl⟩
        · exact ⟨[⟨0, 0⟩, ⟨1, 1⟩], by decide, fun _ => rfl⟩
    · exact ⟨[⟨1, 0⟩, ⟨1, 1⟩], by decide, fun _ => rfl⟩
  · exact ⟨[⟨0, 0⟩, ⟨0, 1⟩], by decide, fun _ => rfl⟩

theorem qmP {b : qD} {first : Int} (h : blockB b = true) {i : Nat} (hi : i < b.Design.Instances.length) : ∃ r : List qbb, r.length ≤ 32 ∧ Ev (fun n => qdl n b (gt b.Design.Instances i) first) r := by
  obtain ⟨⟨c0, c1⟩, _, hcb⟩ := qmq (qdT h) hi
  have ha := qoa hcb
  obtain ⟨x1, i1, e1⟩ := loopE (Lf := qa4 first (gt b.Library.Cells (gt b.Design.Instances i).Cell.toNat)) (fin := fun t => (t, ((gt b.Library.Cells (gt b.Design.Instances i).Cell.toNat).Arcs.length : Int))) (fun j t => t.length ≤ 4 * j) (len := (gt b.Library.Cells (gt b.Design.Instances i).Cell.toNat).Arcs.length)
    (fun n t => by simp only [qa4, qv (Nat.le_refl _), cond_false])
    (fun j t hj ht => by
      obtain ⟨r, hr, er⟩ := qpg (a := gt (gt b.Library.Cells (gt b.Design.Instances i).Cell.toNat).Arcs j)
      obtain ⟨x2, i2, e2⟩ := loopE (Lf := qa5 first (j : Int) (gt (gt b.Library.Cells (gt b.Design.Instances i).Cell.toNat).Arcs j) r) (fin := fun t => (t, (r.length : Int))) (fun k t' => t'.length = t.length + k) (len := r.length)
        (fun n t => by simp only [qa5, qv (Nat.le_refl _), cond_false])
        (fun k t' hk ht' => ⟨t' ++ [_], by rw [List.length_append, ht', List.length_singleton]; omega, fun X hX => by
          simp only [qa5, qu hk, cond_true, qat hk, Option.bind_some, qr (show k < 9223372036854775807 by omega)]
          rw [qee (by rw [List.length_singleton]; omega)]
          exact hX⟩) 0 (Nat.zero_le _) t rfl
      refine ⟨x2, by omega, fun X hX => ?_⟩
      simp only [qa4, qu hj, cond_true, qat hj, Option.bind_some, er, qr (show j < 9223372036854775807 by omega)]
      exact Ev.bind e2 hX) 0 (Nat.zero_le _) [] (Nat.le_refl _)
  refine ⟨x1, by omega, ?_⟩
  unfold qdl
  rw [qg9 c0 c1]
  simp only [Option.bind_some]
  exact Ev.bind e1 .done

theorem qoe {b : qD} (h : blockB b = true) : ∃ ls lo de, Ev (fun n => qgO n b) (some ⟨b, places b.Design, ls, lo, de, []⟩) := by
  have hd := qdT h
  have hs := qcc hd
  have hl := qet hs
  have hni := hs.ni
  have hnn := hs.nn
  have hwl := qnO h
  obtain ⟨⟨x1, z1⟩, i1, e1⟩ := loopE (τ := List qbb × Int) (Lf := fun n t j => qcP b n t.1 t.2 j) (fin := fun t => (t.1, t.2, (b.Design.Instances.length : Int))) (fun j t => t.1.length ≤ 32 * j) (len := b.Design.Instances.length)
    (fun n t => by simp only [qcP, qv (Nat.le_refl _), cond_false])
    (fun j t hj ht => by
      obtain ⟨r, hr, er⟩ := qmP (first := t.2) h hj
      refine ⟨(t.1 ++ r, W64 (t.2 + ((gt b.Design.Instances j).Nets.length : Int))), by rw [List.length_append]; omega, fun X hX => ?_⟩
      simp only [qcP, qu hj, cond_true, qat hj, Option.bind_some, qap, qr (show j < 9223372036854775807 by omega)]
      have ht' : t.1.length ≤ 32 * j := ht
      refine Ev.bind er ?_
      rw [qee (show t.1.length + r.length ≤ 2147483648 by omega)]
      exact hX) 0 (Nat.zero_le _) ([], 0) (Nat.le_refl _)
  have hm1 : mkS (b.Wires.length : Int) (0 : Int) = some (List.replicate b.Wires.length 0) := qoo (by omega)
  have hm2 : mkS (b.Wires.length : Int) ([] : List Int) = some (List.replicate b.Wires.length []) := qoo (by omega)
  obtain ⟨⟨x5, x6⟩, ⟨i5, i6, i56⟩, e2⟩ := loopE (τ := List (List Int) × List Int) (Lf := fun n t j => qbT (places b.Design) n t.1 t.2 j) (fin := fun t => (t.1, t.2, ((places b.Design).length : Int))) (fun j t => t.1.length = b.Wires.length ∧ t.2.length = b.Wires.length ∧ ∀ k, (gt t.1 k).length ≤ j) (len := (places b.Design).length)
    (fun n t => by simp only [qbT, qv (Nat.le_refl _), cond_false])
    (fun j t hj ht => by
      obtain ⟨h1, h2, h3⟩ := ht
      obtain ⟨n0, n1⟩ := qlS hd hj
      cases hdr : (gt (places b.Design) j).drives
      · refine ⟨(setS t.1 (gt (places b.Design) j).net (gt t.1 (gt (places b.Design) j).net.toNat ++ [(j : Int)]), t.2), ⟨by rw [qi7]; exact h1, h2, fun k => ?_⟩, fun X hX => ?_⟩
        · show (gt (t.1.set _ _) k).length ≤ j + 1
          by_cases hk : k = (gt (places b.Design) j).net.toNat
          · subst hk
            rw [qnv (by omega), List.length_append, List.length_singleton]
            have := h3 (gt (places b.Design) j).net.toNat
            omega
          · rw [qo8 hk]
            have := h3 k
            omega
        · have := h3 (gt (places b.Design) j).net.toNat
          simp only [qbT, qu hj, cond_true, qat hj, Option.bind_some, hdr, cond_false, qg9 n0 (show (gt (places b.Design) j).net < (t.1.length : Int) by omega), qr (show j < 9223372036854775807 by omega)]
          rw [qee (by rw [List.length_singleton]; omega)]
          exact hX
      · refine ⟨(t.1, setS t.2 (gt (places b.Design) j).net (j : Int)), ⟨h1, by rw [qi7]; exact h2, fun k => Nat.le_succ_of_le (h3 k)⟩, fun X hX => ?_⟩
        simp only [qbT, qu hj, cond_true, qat hj, Option.bind_some, hdr, qg9 n0 (show (gt (places b.Design) j).net < (t.2.length : Int) by omega), qr (show j < 9223372036854775807 by omega)]
        exact hX) 0 (Nat.zero_le _) (List.replicate b.Wires.length [], List.replicate b.Wires.length 0) ⟨by simp, by simp, fun k => by
      have : gt (List.replicate b.Wires.length ([] : List Int)) k = [] := by
        unfold gt
        rw [List.getD_eq_getElem?_getD, List.getElem?_replicate]
        by_cases hk : k < b.Wires.length <;> simp [hk] <;> rfl
      rw [this]; exact Nat.le_refl _⟩
  have i5 : x5.length = b.Wires.length := i5
  have i6 : x6.length = b.Wires.length := i6
  have i56 : ∀ k, (gt x5 k).length ≤ (places b.Design).length := i56
  have hL5 : ∀ (i4 i5 y7 : Int) (y8 : Int) (t : List qbb), idx x6 i4 = some y8 → t.length ≤ 1000000 → ∃ t', t'.length = t.length + 2 ∧ Ev (fun n => qcj x6 i4 i5 y7 n t 0) (t', 2) := by
    intro i4 i5 y7 y8 t hy ht
    obtain ⟨t', h1, h2⟩ := loopE (Lf := qcj x6 i4 i5 y7) (fin := fun t => (t, (2 : Int))) (fun k t' => t'.length = t.length + k) (len := 2)
      (fun n t => by simp only [qcj]; rfl)
      (fun k t' hk ht' => ⟨t' ++ [_], by rw [List.length_append, ht', List.length_singleton]; omega, fun X hX => by
        simp only [qcj, show decide ((k : Int) < 2) = true by simp; omega, cond_true, hy, Option.bind_some, qr (show k < 9223372036854775807 by omega)]
        rw [qee (by rw [List.length_singleton]; omega)]
        exact hX⟩) 0 (Nat.zero_le _) t rfl
    exact ⟨t', h1, h2⟩
  have hL4 : ∀ (i4 y8 : Int) (y6 : List Int) (t : List qbb), idx x6 i4 = some y8 → y6.length ≤ 78 → t.length ≤ 900000 → ∃ t', t'.length = t.length + 2 * y6.length ∧ Ev (fun n => qcg x6 i4 y6 n t 0) (t', (y6.length : Int)) := by
    intro i4 y8 y6 t hy hy6 ht
    obtain ⟨t', h1, h2⟩ := loopE (Lf := qcg x6 i4 y6) (fin := fun t => (t, (y6.length : Int))) (fun k t' => t'.length = t.length + 2 * k) (len := y6.length)
      (fun n t => by simp only [qcg, qv (Nat.le_refl _), cond_false])
      (fun k t' hk ht' => by
        obtain ⟨t2, q1, q2⟩ := hL5 i4 (k : Int) (gt y6 k) y8 t' hy (by omega)
        refine ⟨t2, by omega, fun X hX => ?_⟩
        simp only [qcg, qu hk, cond_true, qat hk, Option.bind_some, qr (show k < 9223372036854775807 by omega)]
        exact Ev.bind q2 hX) 0 (Nat.zero_le _) t rfl
    exact ⟨t', h1, h2⟩
  obtain ⟨⟨x8, x9, x10⟩, _, e3⟩ := loopE (τ := List (List Int) × List Int × List qbb) (Lf := fun n t j => qcV b x5 x6 n t.1 t.2.1 t.2.2 j) (fin := fun t => (t.1, t.2.1, t.2.2, (b.Wires.length : Int))) (fun j t => t.1.length = j ∧ t.2.1.length = j ∧ t.2.2.length ≤ 448 + 156 * j) (len := b.Wires.length)
    (fun n t => by simp only [qcV, qv (Nat.le_refl _), cond_false])
    (fun j t hj ht => by
      obtain ⟨h1, h2, h3⟩ := ht
      have h1 : t.1.length = j := h1
      have h2 : t.2.1.length = j := h2
      have h3 : t.2.2.length ≤ 448 + 156 * j := h3
      have hw := qjj h hj
      have hlo := hw.lo
      obtain ⟨r4, l4, e4⟩ := qkd h hj
      obtain ⟨r5, l5, e5⟩ := qlN h hj
      have h6 := i56 j
      have hy8 : idx x6 (j : Int) = some (gt x6 j) := qat (by omega)
      obtain ⟨t', q1, q2⟩ := hL4 (j : Int) (gt x6 j) (gt x5 j) t.2.2 hy8 (by omega) (by omega)
      refine ⟨(t.1 ++ [r5], t.2.1 ++ [gt r4 0], t'), ⟨by simp [h1], by simp [h2], ?_⟩, fun X hX => ?_⟩
      · show t'.length ≤ _
        omega
      · simp only [qcV, qu hj, cond_true, qr (show j < 9223372036854775807 by omega)]
        refine Ev.bind e4 ?_
        rw [show idx r4 (0 : Int) = some (gt r4 0) from qat (j := 0) (by omega)]
        simp only [Option.bind_some]
        rw [qee (by rw [List.length_singleton]; omega)]
        simp only [Option.bind_some]
        refine Ev.bind e5 ?_
        rw [qee (by rw [List.length_singleton]; omega), qat (show j < x5.length by omega)]
        simp only [Option.bind_some]
        exact Ev.bind q2 hX) 0 (Nat.zero_le _) ([], [], x1) ⟨rfl, rfl, by show x1.length ≤ _; have : x1.length ≤ 32 * b.Design.Instances.length := i1; omega⟩
  refine ⟨x10, x9, x8, ?_⟩
  unfold qgO
  refine Ev.bind (qjr hs) (Ev.bind e1 ?_)
  rw [hm1, hm2]
  simp only [Option.bind_some]
  exact Ev.bind e2 (Ev.bind e3 .done)
end Go.Fw


namespace Go.Fw
open Go
set_option maxRecDepth 100000

/-! ### Successors -/

def inPl (b : qD) (x : Int) : Bool := inI x 0 (((places b.Design).length : Int) - 1)
end Go.Fw


namespace Go.Fw
open Go Go.Proofs
open Go.RowKit (Below)
set_option maxRecDepth 100000
set_option maxHeartbeats 1600000
def qdE (n : Nat) (b : qD) : Option Int :=
 (qeA n (⟨b.Design.Instances, b.Design.Nets, b.Design.Ports⟩ : qk)).bind fun r1 =>
 some (r1.length : Int)

theorem qil {n : Nat} {w : World} {b : qD} {cs1 : List Value} (ha1 : GoT.R w (old w) b cs1) {r : Int} (hF : qdE n b = some r) : RetV Tryz.prog 78 [GoT.v qD cs1] w r := by
 obtain ⟨p1, k1, p2, k2, p3, k3, p4, k4, p5, k5, rfl, s1, s2, s3, s4, s5⟩ := qax ha1
 refine qf Tryz.func78 rfl (m := 7) rfl rfl (fun h => ?_)
 rw [qdE] at hF
 refine zSR (qS h rfl rfl ?_)
 intro w1 bb1 h
 refine zp1 rfl (zNSR (zp1 rfl (zl 0 1 h rfl ?_)))
 obtain ⟨r1, hr1, hF⟩ := qd hF
 refine qay r1 h call124 (qh6 (qb6 (⟨b.Design.Instances, b.Design.Nets, b.Design.Ports⟩ : qk) (h.oldS s2) (h.oldS s3) (h.oldS s4)) hr1) rfl rfl rfl rfl ?_
 intro w2 S1 p6 k6 h
 exact zp2 rfl (qb (qar qc h hF ⟨rfl, trivial⟩))

def qbp (b : qD) (list : (List Int)) (sorted : Bool) : Nat → Int → Option (Flow Bool Int)
 | 0, _ => none
 | n + 1, i1 =>
  bif decide (i1 < (list.length : Int)) then
   (idx list i1).bind fun y1 =>
   (qdE n b).bind fun r1 =>
   (qan n y1 0 (W64 (r1 - 1))).bind fun r2 =>
   bif (!r2) then
    some (.ret false)
   else
    bif sorted then
     bif decide (i1 > 0) then
      (idx list (W64 (i1 - 1))).bind fun y2 =>
      (idx list i1).bind fun y3 =>
      bif decide (y2 ≥ y3) then
       some (.ret false)
      else
       qbp b list sorted n (W64 (i1 + 1))
     else
      qbp b list sorted n (W64 (i1 + 1))
    else
     qbp b list sorted n (W64 (i1 + 1))
  else
   some (.nxt i1)

def qd2 (n : Nat) (b : qD) (list : (List Int)) (sorted : Bool) : Option Bool :=
 (qbp b list sorted n 0).bind fun o => match o with
 | .ret r => some r
 | .nxt _ =>
  some (decide ((list.length : Int) ≤ 4))

theorem qgN {n : Nat} {w : World} {b : qD} {list : (List Int)} {sorted : Bool} {cs1 : List Value} (ha1 : GoT.R w (old w) b cs1) {cs2 : List Value} (ha2 : GoT.R w (old w) list cs2) {r : Bool} (hF : qd2 n b list sorted = some r) : RetV Tryz.prog 139 [GoT.v qD cs1, GoT.v (List Int) cs2, .bool sorted] w r := by
 obtain ⟨p1, k1, p2, k2, p3, k3, p4, k4, p5, k5, rfl, s1, s2, s3, s4, s5⟩ := qax ha1
 obtain ⟨p6, k6, rfl, s6⟩ := ha2
 refine qf Tryz.func139 rfl (m := 45) rfl rfl (fun h => ?_)
 rw [qd2] at hF
 refine zSR (qS h rfl rfl ?_)
 intro w1 bb1 h
 refine zp1 rfl (zNSSR (zp1 rfl (qb ?_)))
 obtain ⟨o1, hF, hK1⟩ := qd hF
 refine qy (qW [(1, _), (2, _), (3, _), (7, _)] ⟨rfl, rfl, rfl, rfl, trivial⟩ ?_)
 refine qI (fun m e w' => ∃ (i1 : Int), qbp b list sorted m i1 = some o1 ∧ e = [(1, .slice p6 list.length k6), (2, .bool sorted), (3, .pointer (some ⟨bb1, 0, none⟩)), (7, .int .i64 i1)] ∧ SH w w' [Ch.box bb1 [.slice p1 b.Library.Cells.length k1, .slice p2 b.Design.Instances.length k2, .slice p3 b.Design.Nets.length k3, .slice p4 b.Design.Ports.length k4, .slice p5 b.Wires.length k5] 50]) n ⟨_, hF, rfl, h⟩ ?_
 rintro m1 e1 w2 ⟨i1, hF, rfl, h⟩
 rcases m1 with _ | m1
 ·rw [qbp] at hF
  cases hF
 rw [qbp] at hF
 refine zSSR (zp4 rfl (qb ?_))
 refine qp rfl hF ?_ ?_ <;> intro hF
 ·refine zKSB (qbm ?_)
  refine qcf rfl (by kernel_rfl) ?_
  refine zd2 rfl ?_
  obtain ⟨y1, hy1, hF⟩ := qd hF
  have he1 := qg hy1
  obtain ⟨b1, o_1, q1, cs3, hp1, hq1, -, hr1, hc2⟩ := s6.at hy1
  obtain rfl := hr1
  refine zdxe hp1 hq1 he1 rfl ?_
  refine zdc 0 (hc2.below h.below) rfl ?_
  refine zdl 0 0 h rfl ?_
  obtain ⟨r1, hr2, hF⟩ := qd hF
  refine qb4 r1 (vsI _) call78 (fun _ hb => qil ((h.ext hb).old ha1) hr2) rfl rfl rfl rfl ?_
  refine zd1 rfl ?_
  obtain ⟨r2, hr3, hF⟩ := qd hF
  refine qb4 r2 (vsB _) call77 (fun _ hb => qae  hr3) rfl rfl rfl rfl ?_
  refine zd2 rfl ?_
  by_cases hc3 : (!r2) = true
  ·replace hF := bifT hc3 hF
   refine qc0 hc3 (t := 23) rfl (qj rfl rfl rfl (qj rfl rfl rfl (qj rfl rfl rfl (qj rfl rfl rfl (qj rfl rfl rfl (qj rfl rfl rfl (qj rfl rfl rfl (qj rfl rfl rfl (qj rfl rfl rfl (qj rfl rfl rfl (qj rfl rfl rfl ?_)))))))))))
   refine qj rfl rfl rfl (qj rfl rfl rfl (qj rfl rfl rfl (qj rfl rfl rfl (qj rfl rfl rfl (qj rfl rfl rfl (zd1 rfl ?_))))))
   refine qbc (fun w3 hb => ?_)
   replace h := h.ext hb
   clear hb
   refine qej rfl rfl (zSR (zp1 rfl (qb ?_)))
   obtain rfl := qh hF; replace hF := hK1
   exact qt qc h hF ⟨rfl, trivial⟩
  replace hc3 := zb hc3
  replace hF := bifF hc3 hF
  refine qc7 hc3 (t := 23) rfl (qi rfl (zd1 rfl (qi rfl (zd1 rfl ?_))))
  by_cases hc4 : sorted = true
  ·replace hF := bifT hc4 hF
   refine qc0 hc4 (t := 25) rfl (qi rfl (zd1 rfl (qi rfl (zd1 rfl (qi rfl (zd1 rfl (qi rfl (zd1 rfl ?_))))))))
   by_cases hc5 : (decide (i1 > 0)) = true
   ·replace hF := bifT hc5 hF
    refine qc0 hc5 (t := 29) rfl (qi rfl (zd1 rfl (qi rfl (zd1 rfl (qi rfl (zd1 rfl (qi rfl ?_)))))))
    obtain ⟨y2, hy2, hF⟩ := qd hF
    have he2 := qg hy2
    obtain ⟨b2, o_2, q2, cs4, hp2, hq2, -, hr4, hc6⟩ := s6.at hy2
    obtain rfl := hr4
    refine zdxe hp2 hq2 he2 rfl ?_
    refine qi rfl ?_
    refine zdc 0 (hc6.below h.below) rfl ?_
    refine qi rfl (zd1 rfl (qi rfl (zd1 rfl (qi rfl ?_))))
    obtain ⟨y3, hy3, hF⟩ := qd hF
    have he3 := qg hy3
    obtain ⟨b3, o_3, q3, cs5, hp3, hq3, -, hr5, hc7⟩ := s6.at hy3
    obtain rfl := hr5
    refine zdxe hp3 hq3 he3 rfl ?_
    refine qi rfl ?_
    refine zdc 0 (hc7.below h.below) rfl ?_
    refine qi rfl (zd1 rfl (qi rfl (zd2 rfl ?_)))
    refine qbc (fun w4 hb => ?_)
    replace h := h.ext hb
    clear hb
    refine qp rfl hF ?_ ?_ <;> intro hF
    ·refine zSR (zp1 rfl (qb ?_))
     obtain rfl := qh hF; replace hF := hK1
     exact qt qc h hF ⟨rfl, trivial⟩
    exact zKER (zp3 rfl (qb (qz m1 [(1, _), (2, _), (3, _), (7, _)] (Nat.lt_succ_self m1) ⟨rfl, rfl, rfl, rfl, trivial⟩ ⟨_, hF, rfl, h⟩)))
   replace hc5 := zb hc5
   replace hF := bifF hc5 hF
   refine qc7 hc5 (t := 29) rfl (qj rfl rfl rfl (qj rfl rfl rfl (qj rfl rfl rfl (qj rfl rfl rfl (qj rfl rfl rfl (qj rfl rfl rfl (qj rfl rfl rfl (qj rfl rfl rfl (qj rfl rfl rfl (qj rfl rfl rfl (qi rfl ?_)))))))))))
   refine zd2 rfl ?_
   refine qbc (fun w5 hb => ?_)
   replace h := h.ext hb
   clear hb
   exact qd6 rfl rfl (zKER (zp3 rfl (qb (qz m1 [(1, _), (2, _), (3, _), (7, _)] (Nat.lt_succ_self m1) ⟨rfl, rfl, rfl, rfl, trivial⟩ ⟨_, hF, rfl, h⟩))))
  replace hc4 := zb hc4
  replace hF := bifF hc4 hF
  refine qc7 hc4 (t := 25) rfl (qj rfl rfl rfl (qj rfl rfl rfl (qi rfl (zd1 rfl (qi rfl (zd1 rfl (qj rfl rfl rfl (qj rfl rfl rfl (qj rfl rfl rfl (qj rfl rfl rfl (qj rfl rfl rfl ?_)))))))))))
  refine qj rfl rfl rfl (qj rfl rfl rfl (qj rfl rfl rfl (qj rfl rfl rfl (qj rfl rfl rfl (qi rfl (zd2 rfl ?_))))))
  refine qbc (fun w6 hb => ?_)
  replace h := h.ext hb
  clear hb
  exact qd6 rfl rfl (zKER (zp3 rfl (qb (qz m1 [(1, _), (2, _), (3, _), (7, _)] (Nat.lt_succ_self m1) ⟨rfl, rfl, rfl, rfl, trivial⟩ ⟨_, hF, rfl, h⟩))))
 refine qG rfl ?_
 obtain rfl := qh hF; replace hF := hK1
 exact zSR (zp4 rfl (qb (qt qc h hF ⟨rfl, trivial⟩)))

def qeB (n : Nat) (b : qD) (a_e : qe) : Option Bool :=
 (
  (qfG n b).bind fun r4 =>
  bif (!r4) then
   some true
  else
   (qd2 n b a_e.From true).bind fun r5 =>
   bif (!r5) then
    some true
   else
    (qd2 n b a_e.Through false).bind fun r6 =>
    bif (!r6) then
     some true
    else
     (qd2 n b a_e.To true).bind fun r7 =>
     some (!r7)).bind fun b1 =>
 bif b1 then
  some false
 else
  bif (a_e.Kind == 1) then
   some (a_e.Value == 0)
  else
   bif (a_e.Kind == 2) then
    (qan n a_e.Value 1 10).bind fun r1 =>
    some r1
   else
    bif (a_e.Kind == 3) then
     bif (a_e.Kind == 3) then
      (qan n a_e.Value 0 1000000000).bind fun r2 =>
      some r2
     else
      some false
    else
     bif (a_e.Kind == 4) then
      (qan n a_e.Value 0 1000000000).bind fun r3 =>
      some r3
     else
      some false

theorem qjD {n : Nat} {w : World} {b : qD} {a_e : qe} {cs1 : List Value} (ha1 : GoT.R w (old w) b cs1) {cs2 : List Value} (ha2 : GoT.R w (old w) a_e cs2) {r : Bool} (hF : qeB n b a_e = some r) : RetV Tryz.prog 105 [GoT.v qD cs1, GoT.v qe cs2] w r := by
 obtain ⟨p1, k1, p2, k2, p3, k3, p4, k4, p5, k5, rfl, s1, s2, s3, s4, s5⟩ := qax ha1
 obtain ⟨p6, k6, p7, k7, p8, k8, rfl, s6, s7, s8⟩ := qF ha2
 refine qf Tryz.func105 rfl (m := 47) rfl rfl (fun h => ?_)
 rw [qeB] at hF
 refine zSR (qS h rfl rfl ?_)
 intro w1 bb1 h
 refine qS h rfl rfl ?_
 intro w2 bb2 h
 refine zp1 rfl (zNSS ?_)
 obtain ⟨KF1, hKF1, o1, hF, hK1⟩ := bindE hF
 refine qdS (fun e w' => ∃ (b1 : Bool), KF1 b1 = some r ∧ e = [(3, .pointer (some ⟨bb2, 0, none⟩)), (28, .bool b1)] ∧ SH w w' [Ch.box bb2 [.int .i64 a_e.Kind, .int .i64 a_e.Value, .slice p6 a_e.From.length k6, .slice p7 a_e.Through.length k7, .slice p8 a_e.To.length k8] 87]) ?_ ?_
 ·refine qx (zl 1 0 h rfl ?_)
  obtain ⟨r4, hr4, hF⟩ := qd hF
  refine qm r4 h call104 (qiN (h.old ha1) hr4) rfl rfl rfl rfl ?_
  intro w6 h
  refine zp2 rfl ?_
  by_cases hc7 : (!r4) = true
  ·replace hF := bifT hc7 hF
   refine qC hc7 (t := 8) rfl (zn5 rfl (zp2 rfl (zn4 rfl ?_)))
   refine zn1 rfl (zp2 rfl (zn5 rfl (zp1 rfl (qb ?_))))
   replace h := h.pick [0] rfl
   obtain rfl := qh hF
   exact qw [(3, _), (28, _)] ⟨rfl, rfl, trivial⟩ ⟨_, hK1, rfl, h⟩
  replace hc7 := zb hc7
  replace hF := bifF hc7 hF
  refine qB hc7 (t := 8) rfl (qa rfl (zl 1 0 h rfl (qa rfl (zp1 rfl (qa rfl (zl 0 2 h rfl (qa rfl ?_)))))))
  obtain ⟨r5, hr5, hF⟩ := qd hF
  refine qm r5 h call139 (qgN (h.old ha1) ⟨_, _, rfl, (h.oldS s6)⟩ hr5) rfl rfl rfl rfl ?_
  intro w7 h
  refine qa rfl (zp3 rfl ?_)
  by_cases hc8 : (!r5) = true
  ·replace hF := bifT hc8 hF
   refine qC hc8 (t := 15) rfl (zn5 rfl (zp2 rfl (zn4 rfl ?_)))
   refine zn1 rfl (zp1 rfl (qb ?_))
   replace h := h.pick [0] rfl
   obtain rfl := qh hF
   exact qw [(3, _), (28, _)] ⟨rfl, rfl, trivial⟩ ⟨_, hK1, rfl, h⟩
  replace hc8 := zb hc8
  replace hF := bifF hc8 hF
  refine qB hc8 (t := 15) rfl (qa rfl (zl 1 0 h rfl (qa rfl (zp1 rfl (qa rfl (zl 0 3 h rfl (qa rfl ?_)))))))
  obtain ⟨r6, hr6, hF⟩ := qd hF
  refine qm r6 h call139 (qgN (h.old ha1) ⟨_, _, rfl, (h.oldS s7)⟩ hr6) rfl rfl rfl rfl ?_
  intro w8 h
  refine qa rfl (zp3 rfl ?_)
  by_cases hc9 : (!r6) = true
  ·replace hF := bifT hc9 hF
   refine qC hc9 (t := 22) rfl (zn5 rfl (zp1 rfl (qb ?_)))
   replace h := h.pick [0] rfl
   obtain rfl := qh hF
   exact qw [(3, _), (28, _)] ⟨rfl, rfl, trivial⟩ ⟨_, hK1, rfl, h⟩
  replace hc9 := zb hc9
  replace hF := bifF hc9 hF
  refine qB hc9 (t := 22) rfl (qa rfl (zl 1 0 h rfl (qa rfl (zp1 rfl (qa rfl (zl 0 4 h rfl (qa rfl ?_)))))))
  obtain ⟨r7, hr7, hF⟩ := qd hF
  refine qm r7 h call139 (qgN (h.old ha1) ⟨_, _, rfl, (h.oldS s8)⟩ hr7) rfl rfl rfl rfl ?_
  intro w9 h
  refine qa rfl (zp2 rfl (qb ?_))
  replace h := h.pick [0] rfl
  obtain rfl := qh hF
  exact qw [(3, _), (28, _)] ⟨rfl, rfl, trivial⟩ ⟨_, hK1, rfl, h⟩
 rintro e1 w10 ⟨b1, hF, rfl, h⟩
 subst hKF1
 refine qp rfl hF ?_ ?_ <;> intro hF
 ·exact zSR (zp1 rfl (qb (qt qc h hF ⟨rfl, trivial⟩)))
 refine zKSSR (zp1 rfl (zl 0 0 h rfl (qb (zBSR (zp2 rfl ?_)))))
 refine qb ?_
 refine qp rfl hF ?_ ?_ <;> intro hF
 ·exact zSR (zp1 rfl (zl 0 1 h rfl (zp2 rfl (qb (qt qc h hF ⟨rfl, trivial⟩)))))
 refine zSR (zp2 rfl (qb ?_))
 refine qp rfl hF ?_ ?_ <;> intro hF
 ·refine zSR (zp1 rfl (zl 0 1 h rfl ?_))
  obtain ⟨r1, hr1, hF⟩ := qd hF
  refine qm r1 h call77 (qae hr1) rfl rfl rfl rfl ?_
  intro w3 h
  exact zp1 rfl (qb (qt qc h hF ⟨rfl, trivial⟩))
 refine zSSR (zp2 rfl (qb ?_))
 refine qp rfl hF ?_ ?_ <;> intro hF
 ·refine qdQ ?_
  refine qp rfl hF ?_ ?_ <;> intro hF
  ·refine zSR (zp1 rfl (zl 0 1 h rfl ?_))
   obtain ⟨r2, hr2, hF⟩ := qd hF
   refine qm r2 h call77 (qae hr2) rfl rfl rfl rfl ?_
   intro w4 h
   exact zp1 rfl (qb (qt qc h hF ⟨rfl, trivial⟩))
  exact zKE (zSR (zp1 rfl (qb (qt qc h hF ⟨rfl, trivial⟩))))
 refine qx (zp2 rfl (qb ?_))
 refine qp rfl hF ?_ ?_ <;> intro hF
 ·refine zSR (zp1 rfl (zl 0 1 h rfl ?_))
  obtain ⟨r3, hr3, hF⟩ := qd hF
  refine qm r3 h call77 (qae hr3) rfl rfl rfl rfl ?_
  intro w5 h
  exact zp1 rfl (qb (qt qc h hF ⟨rfl, trivial⟩))
 exact zKE (zSR (zp1 rfl (qb (qt qc h hF ⟨rfl, trivial⟩))))

def qbe (_ : Nat) (list : (List Tplace)) : Option Int :=
 some (list.length : Int)

theorem qfH {n : Nat} {w : World} {list : (List Tplace)} {cs1 : List Value} (ha1 : GoT.R w (old w) list cs1) {r : Int} (hF : qbe n list = some r) : RetV Tryz.prog 113 [GoT.v (List Tplace) cs1] w r := by
 obtain ⟨p1, k1, rfl, s1⟩ := ha1
 refine qf Tryz.func113 rfl (m := 5) rfl rfl (fun h => ?_)
 rw [qbe] at hF
 exact zSR (zp1 rfl (zNSR (zp3 rfl (qb (qar qc h hF ⟨rfl, trivial⟩)))))

def qgC (n : Nat) (kind : Int) (value : Int) : Option Bool :=
 bif (kind == 1) then
  some (value == 0)
 else
  bif (kind == 2) then
   (qaD n value 1 10).bind fun r1 =>
   some r1
  else
   bif (kind == 3) then
    bif (kind == 3) then
     (qaD n value 0 1000000000).bind fun r2 =>
     some r2
    else
     some false
   else
    bif (kind == 4) then
     (qaD n value 0 1000000000).bind fun r3 =>
     some r3
    else
     some false

theorem qk6 {n : Nat} {w : World} {kind : Int} {value : Int}  {r : Bool} (hF : qgC n kind value = some r) : RetV Tryz.prog 153 [.int .i64 kind, .int .i64 value] w r := by
 refine qf Tryz.func153 rfl (m := 19) rfl rfl (fun h => ?_)
 rw [qgC] at hF
 refine zSR (zp1 rfl (zNSSR (zp1 rfl (qb (zBSR ?_)))))
 refine zp2 rfl (qb ?_)
 refine qp rfl hF ?_ ?_ <;> intro hF
 ·exact zSR (zp3 rfl (qb (qt qc h hF ⟨rfl, trivial⟩)))
 refine zSR (zp2 rfl (qb ?_))
 refine qp rfl hF ?_ ?_ <;> intro hF
 ·refine zSR (zp1 rfl ?_)
  obtain ⟨r1, hr1, hF⟩ := qd hF
  refine qm r1 h call86 (qam hr1) rfl rfl rfl rfl ?_
  intro w1 h
  exact zp1 rfl (qb (qt qc h hF ⟨rfl, trivial⟩))
 refine zSSR (zp2 rfl (qb ?_))
 refine qp rfl hF ?_ ?_ <;> intro hF
 ·refine qdQ ?_
  refine qp rfl hF ?_ ?_ <;> intro hF
  ·refine zSR (zp1 rfl ?_)
   obtain ⟨r2, hr2, hF⟩ := qd hF
   refine qm r2 h call86 (qam hr2) rfl rfl rfl rfl ?_
   intro w2 h
   exact zp1 rfl (qb (qt qc h hF ⟨rfl, trivial⟩))
  exact zKE (zSR (zp1 rfl (qb (qt qc h hF ⟨rfl, trivial⟩))))
 refine qx (zp2 rfl (qb ?_))
 refine qp rfl hF ?_ ?_ <;> intro hF
 ·refine zSR (zp1 rfl ?_)
  obtain ⟨r3, hr3, hF⟩ := qd hF
  refine qm r3 h call86 (qam hr3) rfl rfl rfl rfl ?_
  intro w3 h
  exact zp1 rfl (qb (qt qc h hF ⟨rfl, trivial⟩))
 exact zKE (zSR (zp1 rfl (qb (qt qc h hF ⟨rfl, trivial⟩))))

def qab (v : (Option Tview)) (a_e : qe) : Nat → Int → Option (Flow Bool Int)
 | 0, _ => none
 | n + 1, i1 =>
  bif decide (i1 < ((3 : Nat) : Int)) then
   (idx ([a_e.From, a_e.Through, a_e.To] : List (List Int)) i1).bind fun y1 =>
   bif decide ((y1.length : Int) > 4) then
    some (.ret false)
   else
    (v).bind fun y2 =>
    (qbe n y2.places).bind fun r1 =>
    (qbv n y1 0 (W64 (r1 - 1))).bind fun r2 =>
    bif (!r2) then
     some (.ret false)
    else
     qab v a_e n (W64 (i1 + 1))
  else
   some (.nxt i1)

def qcX (n : Nat) (v : (Option Tview)) (a_e : qe) : Option Bool :=
 (qab v a_e n 0).bind fun o => match o with
 | .ret r => some r
 | .nxt _ =>
  (qgC n a_e.Kind a_e.Value).bind fun r3 =>
  bif r3 then
   (qcA n a_e.From).bind fun r4 =>
   bif r4 then
    (qcA n a_e.To).bind fun r5 =>
    some r5
   else
    some false
  else
   some false

theorem qig {n : Nat} {w : World} {v : (Option Tview)} {a_e : qe} {cs1 : List Value} (ha1 : GoT.R w (old w) v cs1) {cs2 : List Value} (ha2 : GoT.R w (old w) a_e cs2) {r : Bool} (hF : qcX n v a_e = some r) : RetV Tryz.prog 111 [GoT.v (Option Tview) cs1, GoT.v qe cs2] w r := by
 obtain ⟨p1, rfl, s1⟩ := qho ha1
 obtain ⟨p2, k1, p3, k2, p4, k3, rfl, s2, s3, s4⟩ := qF ha2
 refine qf Tryz.func111 rfl (m := 49) rfl rfl (fun h => ?_)
 rw [qcX] at hF
 refine zSR (qS h rfl rfl ?_)
 intro w1 bb1 h
 refine zp1 rfl (zNSSR (zp1 rfl (zl 0 2 h rfl (zp1 rfl (zl 0 3 h rfl (zp1 rfl (zl 0 4 h rfl (qkD qc [.tmp 8, .tmp 10, .tmp 12] _ ([a_e.From, a_e.Through, a_e.To] : List (List Int)) h rfl rfl rfl rfl rfl rfl rfl rfl rfl ⟨⟨_, _, rfl, s2⟩, ⟨_, _, rfl, s3⟩, ⟨_, _, rfl, s4⟩, trivial⟩ rfl ?_))))))))
 intro w2 p5 S1 h
 refine zp2 rfl (qb ?_)
 obtain ⟨o1, hF, hK1⟩ := qd hF
 refine qy (qW [(0, _), (3, _), (13, _), (14, _), (15, _)] ⟨rfl, rfl, rfl, rfl, rfl, trivial⟩ ?_)
 refine qI (fun m e w' => ∃ (i1 : Int), qab v a_e m i1 = some o1 ∧ e = [(0, .pointer p1), (3, .pointer (some ⟨bb1, 0, none⟩)), (13, .slice p5 3 3), (14, .int .i64 ((3 : Nat) : Int)), (15, .int .i64 i1)] ∧ SH w w' [Ch.rowD w S1 (([a_e.From, a_e.Through, a_e.To] : List (List Int)) : List (List Int)) p5 3, Ch.box bb1 [.int .i64 a_e.Kind, .int .i64 a_e.Value, .slice p2 a_e.From.length k1, .slice p3 a_e.Through.length k2, .slice p4 a_e.To.length k3] 87]) n ⟨_, hF, rfl, h⟩ ?_
 rintro m1 e1 w3 ⟨i1, hF, rfl, h⟩
 rcases m1 with _ | m1
 ·rw [qab] at hF
  cases hF
 rw [qab] at hF
 refine zSR (zp1 rfl (zNS ?_))
 refine qp rfl hF ?_ ?_ <;> intro hF
 ·refine zKSBSR ?_
  obtain ⟨y1, hy1, hF⟩ := qd hF
  have he1 := qg hy1
  obtain ⟨b1, o_1, q1, cs3, hp1, hq1, -, hr1, hc2⟩ := h.atD 0 rfl hy1
  obtain ⟨p6, k4, rfl, s5⟩ := hr1
  refine zxe hp1 hq1 he1 rfl (zc 0 hc2 rfl (zp1 rfl (zNSR (zp4 rfl ?_))))
  by_cases hc3 : (decide ((y1.length : Int) > 4)) = true
  ·replace hF := bifT hc3 hF
   refine qC hc3 (t := 22) rfl (zn5 rfl (zn4 rfl (zp1 rfl (qb ?_))))
   refine qej rfl rfl (zSR (zp1 rfl (qb ?_)))
   obtain rfl := qh hF; replace hF := hK1
   exact qt qc h hF ⟨rfl, trivial⟩
  replace hc3 := zb hc3
  replace hF := bifF hc3 hF
  refine qB hc3 (t := 22) rfl (qa rfl (zp1 rfl (qa rfl (zp1 rfl (qa rfl ?_)))))
  obtain ⟨y2, hy2, hF⟩ := qd hF
  obtain ⟨b2, o_2, cs4, rfl, -, hr2, hc4⟩ := PtR.get s1 hy2
  obtain ⟨p7, k5, p8, k6, p9, k7, p10, k8, p11, k9, p12, k10, p13, k11, p14, k12, p15, k13, p16, k14, rfl, s6, s7, s8, s9, s10, s11, s12, s13, s14, s15⟩ := qlR hr2
  refine zp1 rfl (qa rfl (zp1 rfl (qa rfl (zc 5 (hc4.below h.below) rfl (qa rfl ?_)))))
  obtain ⟨r1, hr3, hF⟩ := qd hF
  refine qP r1 h call113 (qfH ⟨_, _, rfl, (h.oldS s11)⟩ hr3) rfl rfl rfl rfl ?_
  intro w4 h
  refine qa rfl (zp1 rfl (qa rfl ?_))
  obtain ⟨r2, hr4, hF⟩ := qd hF
  refine qm r2 h call112 (qcD ⟨_, _, rfl, (h.oldS s5)⟩ hr4) rfl rfl rfl rfl ?_
  intro w5 h
  refine qa rfl (zp2 rfl (qb ?_))
  refine qp rfl hF ?_ ?_ <;> intro hF
  ·refine zSR (zp1 rfl (qb ?_))
   obtain rfl := qh hF; replace hF := hK1
   exact qt qc h hF ⟨rfl, trivial⟩
  exact zKER (zp2 rfl (qb (qz m1 [(0, _), (3, _), (13, _), (14, _), (15, _)] (Nat.lt_succ_self m1) ⟨rfl, rfl, rfl, rfl, rfl, trivial⟩ ⟨_, hF, rfl, h⟩)))
 refine qG rfl ?_
 obtain rfl := qh hF; replace hF := hK1
 refine zSR (zp1 rfl (zl 1 0 h rfl (zp1 rfl (zl 1 1 h rfl ?_))))
 obtain ⟨r3, hr5, hF⟩ := qd hF
 refine qm r3 h call153 (qk6 hr5) rfl rfl rfl rfl ?_
 intro w6 h
 refine zp1 rfl ?_
 by_cases hc6 : r3 = true
 ·replace hF := bifT hc6 hF
  refine qC hc6 (t := 39) rfl (qa rfl (zp1 rfl (qa rfl (zl 1 2 h rfl (qa rfl ?_)))))
  obtain ⟨r4, hr6, hF⟩ := qd hF
  refine qm r4 h call154 (qfq ⟨_, _, rfl, (h.oldS s2)⟩ hr6) rfl rfl rfl rfl ?_
  intro w7 h
  refine zp2 rfl ?_
  by_cases hc7 : r4 = true
  ·replace hF := bifT hc7 hF
   refine qC hc7 (t := 44) rfl (qa rfl (zp1 rfl (qa rfl (zl 1 4 h rfl (qa rfl ?_)))))
   obtain ⟨r5, hr7, hF⟩ := qd hF
   refine qm r5 h call154 (qfq ⟨_, _, rfl, (h.oldS s4)⟩ hr7) rfl rfl rfl rfl ?_
   intro w8 h
   exact zp2 rfl (qb (qt qc h hF ⟨rfl, trivial⟩))
  replace hc7 := zb hc7
  replace hF := bifF hc7 hF
  exact qB hc7 (t := 44) rfl (zn3 rfl (zp2 rfl (qb (qt qc h hF ⟨rfl, trivial⟩))))
 replace hc6 := zb hc6
 replace hF := bifF hc6 hF
 refine qB hc6 (t := 39) rfl (zn3 rfl (zp2 rfl (zn3 rfl (zp2 rfl (qb ?_)))))
 exact qt qc h hF ⟨rfl, trivial⟩

def qdI (n : Nat) (a : qe) (left : Int) : Option Int :=
 (qbf n a.From left).bind fun r1 =>
 bif decide (r1 < 0) then
  some (-1)
 else
  (qbf n a.Through r1).bind fun r2 =>
  bif decide (r2 < 0) then
   some (-1)
  else
   (qbf n a.To r2).bind fun r3 =>
   bif decide (r3 < 0) then
    some (-1)
   else
    some r3

theorem qjy {n : Nat} {w : World} {a : qe} {left : Int} {cs1 : List Value} (ha1 : GoT.R w (old w) a cs1) {r : Int} (hF : qdI n a left = some r) : RetV Tryz.prog 40 [GoT.v qe cs1, .int .i64 left] w r := by
 obtain ⟨p1, k1, p2, k2, p3, k3, rfl, s1, s2, s3⟩ := qF ha1
 refine qf Tryz.func40 rfl (m := 24) rfl rfl (fun h => ?_)
 rw [qdI] at hF
 refine zSR (qS h rfl rfl ?_)
 intro w1 bb1 h
 refine zp1 rfl (zNSR (zp1 rfl (zl 0 2 h rfl (zp1 rfl ?_))))
 obtain ⟨r1, hr1, hF⟩ := qd hF
 refine qP r1 h call76 (qa9 ⟨_, _, rfl, (h.oldS s1)⟩ hr1) rfl rfl rfl rfl ?_
 intro w2 h
 refine zp1 rfl (zNSSR (zp2 rfl (qb ?_)))
 refine qp rfl hF ?_ ?_ <;> intro hF
 ·exact zSR (zp1 rfl (qb (qar qc h hF ⟨rfl, trivial⟩)))
 refine zKSR (zp1 rfl (zl 0 3 h rfl (zp1 rfl ?_)))
 obtain ⟨r2, hr2, hF⟩ := qd hF
 refine qP r2 h call76 (qa9 ⟨_, _, rfl, (h.oldS s2)⟩ hr2) rfl rfl rfl rfl ?_
 intro w3 h
 refine zp1 rfl (zNSSR (zp2 rfl (qb ?_)))
 refine qp rfl hF ?_ ?_ <;> intro hF
 ·exact zSR (zp1 rfl (qb (qar qc h hF ⟨rfl, trivial⟩)))
 refine zKSR (zp1 rfl (zl 0 4 h rfl (zp1 rfl ?_)))
 obtain ⟨r3, hr3, hF⟩ := qd hF
 refine qP r3 h call76 (qa9 ⟨_, _, rfl, (h.oldS s3)⟩ hr3) rfl rfl rfl rfl ?_
 intro w4 h
 refine zp1 rfl (zNSSR (zp2 rfl (qb ?_)))
 refine qp rfl hF ?_ ?_ <;> intro hF
 ·exact zSR (zp1 rfl (qb (qar qc h hF ⟨rfl, trivial⟩)))
 exact zKSR (zp2 rfl (qb (qar qc h hF ⟨rfl, trivial⟩)))

def qbq (a : (List qe)) : Nat → Int → Int → Option (Flow Int (Int × Int))
 | 0, _, _ => none
 | n + 1, i1, i2 =>
  bif decide (i2 < (a.length : Int)) then
   (idx a i2).bind fun y1 =>
   (qdI n y1 i1).bind fun r1 =>
   bif decide (r1 < 0) then
    some (.ret (-1))
   else
    qbq a n r1 (W64 (i2 + 1))
  else
   some (.nxt (i1, i2))

def qff (n : Nat) (a : (List qe)) (left : Int) : Option Int :=
 bif decide ((W64 (left - (a.length : Int))) < 0) then
  some (-1)
 else
  (qbq a n (W64 (left - (a.length : Int))) 0).bind fun o => match o with
  | .ret r => some r
  | .nxt (i1, _) =>
   some i1

theorem qjh {n : Nat} {w : World} {a : (List qe)} {left : Int} {cs1 : List Value} (ha1 : GoT.R w (old w) a cs1) {r : Int} (hF : qff n a left = some r) : RetV Tryz.prog 10 [GoT.v (List qe) cs1, .int .i64 left] w r := by
 obtain ⟨p1, k1, rfl, s1⟩ := ha1
 refine qf Tryz.func10 rfl (m := 27) rfl rfl (fun h => ?_)
 rw [qff] at hF
 refine zSR (zp1 rfl (zNSR (zp5 rfl (qb ?_))))
 refine zSSR (zp2 rfl (qb ?_))
 refine qp rfl hF ?_ ?_ <;> intro hF
 ·exact zSR (zp1 rfl (qb (qar qc h hF ⟨rfl, trivial⟩)))
 refine zKSSR (zp1 rfl (qb ?_))
 obtain ⟨o1, hF, hK1⟩ := qd hF
 refine qy (qW [(0, _), (1, _), (5, _)] ⟨rfl, rfl, rfl, trivial⟩ ?_)
 refine qI (fun m e w' => ∃ (i1 : Int) (i2 : Int), qbq a m i1 i2 = some o1 ∧ e = [(0, .slice p1 a.length k1), (1, .int .i64 i1), (5, .int .i64 i2)] ∧ SH w w' []) n ⟨_, _, hF, rfl, h⟩ ?_
 rintro m1 e1 w1 ⟨i1, i2, hF, rfl, h⟩
 rcases m1 with _ | m1
 ·rw [qbq] at hF
  cases hF
 rw [qbq] at hF
 refine zSSR (zp4 rfl (qb ?_))
 refine qp rfl hF ?_ ?_ <;> intro hF
 ·refine zKSBSR (zp2 rfl ?_)
  obtain ⟨y1, hy1, hF⟩ := qd hF
  have he1 := qg hy1
  obtain ⟨b1, o_1, q1, cs2, hp1, hq1, -, hr1, hc3⟩ := s1.at hy1
  obtain ⟨p2, k2, p3, k3, p4, k4, rfl, s2, s3, s4⟩ := qF hr1
  refine zxe hp1 hq1 he1 rfl (zc 0 (hc3.below h.below) rfl (zp1 rfl ?_))
  obtain ⟨r1, hr2, hF⟩ := qd hF
  refine qP r1 h call40 (qjy (qbd y1 (h.oldS s2) (h.oldS s3) (h.oldS s4)) hr2) rfl rfl rfl rfl ?_
  intro w2 h
  refine zp1 rfl (zNSR (zp2 rfl (qb ?_)))
  refine qp rfl hF ?_ ?_ <;> intro hF
  ·refine zSR (zp1 rfl (qb ?_))
   obtain rfl := qh hF; replace hF := hK1
   exact qar qc h hF ⟨rfl, trivial⟩
  exact zKER (zp3 rfl (qb (qz m1 [(0, _), (1, _), (5, _)] (Nat.lt_succ_self m1) ⟨rfl, rfl, rfl, trivial⟩ ⟨_, _, hF, rfl, h⟩)))
 refine qG rfl ?_
 obtain rfl := qh hF; replace hF := hK1
 exact zSR (zp2 rfl (qb (qar qc h hF ⟨rfl, trivial⟩)))

def qdF (n : Nat) (a : qe) : Option qe :=
 (qaC n a.From).bind fun r1 =>
 (qaC n a.Through).bind fun r2 =>
 (qaC n a.To).bind fun r3 =>
 some (⟨a.Kind, a.Value, r1, r2, r3⟩ : qe)

theorem qjw {n : Nat} {w : World} {a : qe} {cs1 : List Value} (ha1 : GoT.R w (old w) a cs1) {r : qe} (hF : qdF n a = some r) : RetV Tryz.prog 47 [GoT.v qe cs1] w r := by
 obtain ⟨p1, k1, p2, k2, p3, k3, rfl, s1, s2, s3⟩ := qF ha1
 refine qf Tryz.func47 rfl (m := 23) rfl rfl (fun h => ?_)
 rw [qdF] at hF
 refine zSR (qS h rfl rfl ?_)
 intro w1 bb1 h
 refine qY qc h rfl rfl rfl ?_
 intro w2 bb2 h
 refine zNSR (qY qc h rfl rfl rfl ?_)
 intro w3 bb3 h
 refine zNSR (zp1 rfl (zl 2 0 h rfl (zp1 rfl (zs 0 h rfl ?_))))
 intro w4 h
 refine zNSR (zp1 rfl (zl 2 1 h rfl (zp1 rfl (zs 0 h rfl ?_))))
 intro w5 h
 replace h : SH _ _ [Ch.box bb3 [.int .i64 a.Kind, .int .i64 a.Value, .slice none 0 0, .slice none 0 0, .slice none 0 0] 87, Ch.box bb2 [.int .i64 0, .int .i64 0, .slice none 0 0, .slice none 0 0, .slice none 0 0] 87, Ch.box bb1 [.int .i64 a.Kind, .int .i64 a.Value, .slice p1 a.From.length k1, .slice p2 a.Through.length k2, .slice p3 a.To.length k3] 80] := h
 refine zNSR (zp1 rfl (zl 2 2 h rfl ?_))
 obtain ⟨r1, hr1, hF⟩ := qd hF
 refine qay r1 h call14 (qaA ⟨_, _, rfl, (h.oldS s1)⟩ hr1) rfl rfl rfl rfl ?_
 intro w6 S1 p4 k4 h
 refine zp1 rfl (zs 1 h rfl ?_)
 intro w7 h
 refine zNSR (zp1 rfl (zl 3 3 h rfl ?_))
 obtain ⟨r2, hr2, hF⟩ := qd hF
 refine qay r2 h call14 (qaA ⟨_, _, rfl, (h.oldS s2)⟩ hr2) rfl rfl rfl rfl ?_
 intro w8 S2 p5 k5 h
 refine zp1 rfl (zs 2 h rfl ?_)
 intro w9 h
 replace h : SH _ _ [Ch.own S2 (r2 : List Int) [.slice p5 r2.length k5], Ch.own S1 (r1 : List Int) [.slice p4 r1.length k4], Ch.box bb3 [.int .i64 a.Kind, .int .i64 a.Value, .slice p4 r1.length k4, .slice p5 r2.length k5, .slice none 0 0] 87, Ch.box bb2 [.int .i64 0, .int .i64 0, .slice none 0 0, .slice none 0 0, .slice none 0 0] 87, Ch.box bb1 [.int .i64 a.Kind, .int .i64 a.Value, .slice p1 a.From.length k1, .slice p2 a.Through.length k2, .slice p3 a.To.length k3] 80] := h
 refine zNSR (zp1 rfl (zl 4 4 h rfl ?_))
 obtain ⟨r3, hr3, hF⟩ := qd hF
 refine qay r3 h call14 (qaA ⟨_, _, rfl, (h.oldS s3)⟩ hr3) rfl rfl rfl rfl ?_
 intro w10 S3 p6 k6 h
 refine zp1 rfl (zs 3 h rfl ?_)
 intro w11 h
 refine zNSR (zl 3 0 h rfl (zs 4 h rfl ?_))
 intro w12 h
 replace h : SH _ _ [Ch.own S3 (r3 : List Int) [.slice p6 r3.length k6], Ch.own S2 (r2 : List Int) [.slice p5 r2.length k5], Ch.own S1 (r1 : List Int) [.slice p4 r1.length k4], Ch.box bb3 [.int .i64 a.Kind, .int .i64 a.Value, .slice p4 r1.length k4, .slice p5 r2.length k5, .slice p6 r3.length k6] 87, Ch.box bb2 [.int .i64 a.Kind, .int .i64 a.Value, .slice p4 r1.length k4, .slice p5 r2.length k5, .slice p6 r3.length k6] 87, Ch.box bb1 [.int .i64 a.Kind, .int .i64 a.Value, .slice p1 a.From.length k1, .slice p2 a.Through.length k2, .slice p3 a.To.length k3] 80] := h
 refine qb ?_
 obtain rfl := qh hF
 exact qal qc (ρ := qe) [GoT.v qe [.int .i64 a.Kind, .int .i64 a.Value, .slice p4 r1.length k4, .slice p5 r2.length k5, .slice p6 r3.length k6]] h ⟨⟨_, _, _, rfl, rfl, h.box 4 rfl, rfl⟩, trivial⟩ (PV.done h (qaq (qlZ (⟨a.Kind, a.Value, r1, r2, r3⟩ : qe) h (qaz (S := fun _ => False) rfl) (qaz (S := fun _ => False) rfl) (qaG 2 h rfl) (qaG 1 h rfl) (qaG 0 h rfl) (by rfl) (by rfl) (by rfl) (by rfl))))

def qbP (a : (List qe)) : Nat → (List qe) → Int → Option ((List qe) × Int)
 | 0, _, _ => none
 | n + 1, x2, i1 =>
  bif decide (i1 < (a.length : Int)) then
   (idx a i1).bind fun y1 =>
   (qdF n y1).bind fun r1 =>
   (idx x2 i1).bind fun _ =>
   qbP a n (setS x2 i1 r1) (W64 (i1 + 1))
  else
   some (x2, i1)

def qcI (n : Nat) (a : (List qe)) : Option (List qe) :=
 (mkS (a.length : Int) ((⟨0, 0, [], [], []⟩ : qe) : qe)).bind fun x1 =>
 (qbP a n x1 0).bind fun o => match o with
 | (x2, _) =>
  some x2

theorem qfo {n : Nat} {w : World} {a : (List qe)} {cs1 : List Value} (ha1 : GoT.R w (old w) a cs1) {r : (List qe)} (hF : qcI n a = some r) : RetV Tryz.prog 13 [GoT.v (List qe) cs1] w r := by
 obtain ⟨p1, k1, rfl, s1⟩ := ha1
 refine qf Tryz.func13 rfl (m := 23) rfl rfl (fun h => ?_)
 rw [qcI] at hF
 refine zSR (zp1 rfl (zNSR (zp2 rfl ?_)))
 obtain ⟨x1, hx1, hF⟩ := qd hF
 obtain ⟨g1, g2, hx1⟩ := qda hx1
 refine qer qc qe h rfl rfl rfl rfl rfl rfl rfl rfl rfl g1 g2 hx1 rfl ?_
 intro w1 S1 p2 h
 refine zp1 rfl (zNSSR (zp1 rfl (qb ?_)))
 obtain ⟨o1, hF, hK1⟩ := qd hF
 refine qy (qW [(0, _), (3, _), (4, _)] ⟨rfl, rfl, rfl, trivial⟩ ?_)
 refine qI (fun m e w' => ∃ (S2 : Nat → Prop) (x2 : (List qe)) (i1 : Int), qbP a m x2 i1 = some o1 ∧ e = [(0, .slice p1 a.length k1), (3, .slice p2 x1.length x1.length), (4, .int .i64 i1)] ∧ SH w w' [Ch.own S2 (x2 : List qe) [.slice p2 x1.length x1.length]]) n ⟨_, _, _, hF, rfl, h⟩ ?_
 rintro m1 e1 w2 ⟨S2, x2, i1, hF, rfl, h⟩
 rcases m1 with _ | m1
 ·rw [qbP] at hF
  cases hF
 rw [qbP] at hF
 refine zSSR (zp4 rfl (qb ?_))
 refine qp rfl hF ?_ ?_ <;> intro hF
 ·refine zKSBR (zp4 rfl ?_)
  obtain ⟨y1, hy1, hF⟩ := qd hF
  have he1 := qg hy1
  obtain ⟨b1, o_1, q1, cs2, hp1, hq1, -, hr1, hc2⟩ := s1.at hy1
  obtain ⟨p3, k2, p4, k3, p5, k4, rfl, s2, s3, s4⟩ := qF hr1
  refine zxe hp1 hq1 he1 rfl (zc 0 (hc2.below h.below) rfl ?_)
  obtain ⟨r1, hr2, hF⟩ := qd hF
  refine qex r1 h call47 (qjw (qbd y1 (h.oldS s2) (h.oldS s3) (h.oldS s4)) hr2) rfl rfl rfl rfl ?_
  intro w3 S3 cs3 h
  obtain ⟨p6, k5, p7, k6, p8, k7, rfl, -, -, -⟩ := qF (h.own 0 rfl)
  obtain ⟨y2, hy2, hF⟩ := qd hF
  have he2 := qg hy2
  replace h := h.lrn0 1 rfl
  obtain ⟨b2, o_2, q2, cs4, hp2, hq2, -, hr3, hc3⟩ := (qhz (h.lrnO 1 rfl)).1.at hy2
  have hr4 := hr3
  obtain ⟨p9, k8, p10, k9, p11, k10, rfl, s8, s9, s10⟩ := qF hr3
  replace h := h.lrnAdd 1 rfl hr4
  refine zx hp2 hq2 ⟨he2.1, qbo he2.2.1 (qhz (h.lrnO 1 rfl)).2⟩ rfl ?_
  replace h := h.unlrn 1 rfl
  refine qir qc r1 h hy2 hp2 hq2 rfl rfl rfl rfl rfl ?_
  intro w4 S4 h
  exact zNER (zp3 rfl (qb (qz m1 [(0, _), (3, _), (4, _)] (Nat.lt_succ_self m1) ⟨rfl, rfl, rfl, trivial⟩ ⟨_, _, _, hF, rfl, h⟩)))
 refine qG rfl ?_
 obtain rfl := qh hF; replace hF := hK1
 refine zSR (zp2 rfl (qb ?_))
 obtain rfl := qh hF
 exact qal qc (ρ := (List qe)) [GoT.v (List qe) [.slice p2 x1.length x1.length]] h ⟨rfl, trivial⟩ (PV.done h (qaq (qaG 0 h rfl)))

def qdH (n : Nat) (a : qe) (b : qe) : Option Bool :=
 bif (a.Kind != b.Kind) then
  some false
 else
  bif (a.Value != b.Value) then
   some false
  else
   (qaS n a.From b.From).bind fun r1 =>
   bif (!r1) then
    some false
   else
    (qaS n a.Through b.Through).bind fun r2 =>
    bif (!r2) then
     some false
    else
     (qaS n a.To b.To).bind fun r3 =>
     bif (!r3) then
      some false
     else
      some true

theorem qjI {n : Nat} {w : World} {a : qe} {b : qe} {cs1 : List Value} (ha1 : GoT.R w (old w) a cs1) {cs2 : List Value} (ha2 : GoT.R w (old w) b cs2) {r : Bool} (hF : qdH n a b = some r) : RetV Tryz.prog 54 [GoT.v qe cs1, GoT.v qe cs2] w r := by
 obtain ⟨p1, k1, p2, k2, p3, k3, rfl, s1, s2, s3⟩ := qF ha1
 obtain ⟨p4, k4, p5, k5, p6, k6, rfl, s4, s5, s6⟩ := qF ha2
 refine qf Tryz.func54 rfl (m := 33) rfl rfl (fun h => ?_)
 rw [qdH] at hF
 refine zSR (qS h rfl rfl ?_)
 intro w1 bb1 h
 refine qS h rfl rfl ?_
 intro w2 bb2 h
 refine zp1 rfl (zNSSR (zp1 rfl (zl 1 0 h rfl (zp1 rfl (zl 0 0 h rfl (zp1 rfl (qb ?_)))))))
 refine qp rfl hF ?_ ?_ <;> intro hF
 ·exact zSR (zp1 rfl (qb (qt qc h hF ⟨rfl, trivial⟩)))
 refine zKSSR (zp1 rfl (zl 1 1 h rfl (zp1 rfl (zl 0 1 h rfl (zp1 rfl (qb ?_))))))
 refine qp rfl hF ?_ ?_ <;> intro hF
 ·exact zSR (zp1 rfl (qb (qt qc h hF ⟨rfl, trivial⟩)))
 refine zKSSR (zp1 rfl (zl 1 2 h rfl (zp1 rfl (zl 0 2 h rfl ?_))))
 obtain ⟨r1, hr1, hF⟩ := qd hF
 refine qm r1 h call19 (qaX ⟨_, _, rfl, (h.oldS s1)⟩ ⟨_, _, rfl, (h.oldS s4)⟩ hr1) rfl rfl rfl rfl ?_
 intro w3 h
 refine zp1 rfl (qb ?_)
 refine qp rfl hF ?_ ?_ <;> intro hF
 ·exact zSR (zp1 rfl (qb (qt qc h hF ⟨rfl, trivial⟩)))
 refine zKSSR (zp1 rfl (zl 1 3 h rfl (zp1 rfl (zl 0 3 h rfl ?_))))
 obtain ⟨r2, hr2, hF⟩ := qd hF
 refine qm r2 h call19 (qaX ⟨_, _, rfl, (h.oldS s2)⟩ ⟨_, _, rfl, (h.oldS s5)⟩ hr2) rfl rfl rfl rfl ?_
 intro w4 h
 refine zp1 rfl (qb ?_)
 refine qp rfl hF ?_ ?_ <;> intro hF
 ·exact zSR (zp1 rfl (qb (qt qc h hF ⟨rfl, trivial⟩)))
 refine zKSSR (zp1 rfl (zl 1 4 h rfl (zp1 rfl (zl 0 4 h rfl ?_))))
 obtain ⟨r3, hr3, hF⟩ := qd hF
 refine qm r3 h call19 (qaX ⟨_, _, rfl, (h.oldS s3)⟩ ⟨_, _, rfl, (h.oldS s6)⟩ hr3) rfl rfl rfl rfl ?_
 intro w5 h
 refine zp1 rfl (qb ?_)
 refine qp rfl hF ?_ ?_ <;> intro hF
 ·exact zSR (zp1 rfl (qb (qt qc h hF ⟨rfl, trivial⟩)))
 exact zKSR (zp1 rfl (qb (qt qc h hF ⟨rfl, trivial⟩)))

def qbQ (a : (List qe)) (b : (List qe)) : Nat → Int → Option (Flow Bool Int)
 | 0, _ => none
 | n + 1, i1 =>
  bif decide (i1 < (a.length : Int)) then
   (idx a i1).bind fun y1 =>
   (idx b i1).bind fun y2 =>
   (qdH n y1 y2).bind fun r1 =>
   bif (!r1) then
    some (.ret false)
   else
    qbQ a b n (W64 (i1 + 1))
  else
   some (.nxt i1)

def qef (n : Nat) (a : (List qe)) (b : (List qe)) : Option Bool :=
 bif ((a.length : Int) != (b.length : Int)) then
  some false
 else
  (qbQ a b n 0).bind fun o => match o with
  | .ret r => some r
  | .nxt _ =>
   some true

theorem qiW {n : Nat} {w : World} {a : (List qe)} {b : (List qe)} {cs1 : List Value} (ha1 : GoT.R w (old w) a cs1) {cs2 : List Value} (ha2 : GoT.R w (old w) b cs2) {r : Bool} (hF : qef n a b = some r) : RetV Tryz.prog 18 [GoT.v (List qe) cs1, GoT.v (List qe) cs2] w r := by
 obtain ⟨p1, k1, rfl, s1⟩ := ha1
 obtain ⟨p2, k2, rfl, s2⟩ := ha2
 refine qf Tryz.func18 rfl (m := 27) rfl rfl (fun h => ?_)
 rw [qef] at hF
 refine zSR (zp1 rfl (zNSSR (zp5 rfl ?_)))
 refine qb ?_
 refine qp rfl hF ?_ ?_ <;> intro hF
 ·exact zSR (zp1 rfl (qb (qt qc h hF ⟨rfl, trivial⟩)))
 refine zKSSR (zp1 rfl (qb ?_))
 obtain ⟨o1, hF, hK1⟩ := qd hF
 refine qy (qW [(0, _), (1, _), (5, _)] ⟨rfl, rfl, rfl, trivial⟩ ?_)
 refine qI (fun m e w' => ∃ (i1 : Int), qbQ a b m i1 = some o1 ∧ e = [(0, .slice p1 a.length k1), (1, .slice p2 b.length k2), (5, .int .i64 i1)] ∧ SH w w' []) n ⟨_, hF, rfl, h⟩ ?_
 rintro m1 e1 w1 ⟨i1, hF, rfl, h⟩
 rcases m1 with _ | m1
 ·rw [qbQ] at hF
  cases hF
 rw [qbQ] at hF
 refine zSSR (zp4 rfl (qb ?_))
 refine qp rfl hF ?_ ?_ <;> intro hF
 ·refine zKSB (qbm ?_)
  refine qcf rfl (by kernel_rfl) ?_
  refine zd2 rfl ?_
  obtain ⟨y1, hy1, hF⟩ := qd hF
  have he1 := qg hy1
  obtain ⟨b1, o_1, q1, cs3, hp1, hq1, -, hr1, hc3⟩ := s1.at hy1
  obtain ⟨p3, k3, p4, k4, p5, k5, rfl, s3, s4, s5⟩ := qF hr1
  refine zdxe hp1 hq1 he1 rfl ?_
  refine zdc 0 (hc3.below h.below) rfl ?_
  refine zd2 rfl ?_
  obtain ⟨y2, hy2, hF⟩ := qd hF
  have he2 := qg hy2
  obtain ⟨b2, o_2, q2, cs4, hp2, hq2, -, hr2, hc4⟩ := s2.at hy2
  obtain ⟨p6, k6, p7, k7, p8, k8, rfl, s6, s7, s8⟩ := qF hr2
  refine zdxe hp2 hq2 he2 rfl ?_
  refine zdc 0 (hc4.below h.below) rfl ?_
  obtain ⟨r1, hr3, hF⟩ := qd hF
  refine qb4 r1 (vsB _) call54 (fun _ hb => qjI (qbd y1 ((h.ext hb).oldS s3) ((h.ext hb).oldS s4) ((h.ext hb).oldS s5)) (qbd y2 ((h.ext hb).oldS s6) ((h.ext hb).oldS s7) ((h.ext hb).oldS s8)) hr3) rfl rfl rfl rfl ?_
  refine zd1 rfl ?_
  refine qbc (fun w2 hb => ?_)
  replace h := h.ext hb
  clear hb
  refine qp rfl hF ?_ ?_ <;> intro hF
  ·refine zSR (zp1 rfl (qb ?_))
   obtain rfl := qh hF; replace hF := hK1
   exact qt qc h hF ⟨rfl, trivial⟩
  exact zKER (zp3 rfl (qb (qz m1 [(0, _), (1, _), (5, _)] (Nat.lt_succ_self m1) ⟨rfl, rfl, rfl, trivial⟩ ⟨_, hF, rfl, h⟩)))
 refine qG rfl ?_
 obtain rfl := qh hF; replace hF := hK1
 exact zSR (zp1 rfl (qb (qt qc h hF ⟨rfl, trivial⟩)))

end Go.Fw


namespace Go.Fw
open Go Go.Proofs
open Go.RowKit (Below)
set_option maxRecDepth 100000
set_option maxHeartbeats 1600000
def qdb (list : (List Int)) (x : Int) : Nat → Int → Option (Flow Int Int)
 | 0, _ => none
 | n + 1, i1 =>
  bif decide (i1 < (list.length : Int)) then
   (idx list i1).bind fun y1 =>
   bif (y1 == x) then
    some (.ret i1)
   else
    qdb list x n (W64 (i1 + 1))
  else
   some (.nxt i1)

def qhe (n : Nat) (list : (List Int)) (x : Int) : Option Int :=
 (qdb list x n 0).bind fun o => match o with
 | .ret r => some r
 | .nxt _ =>
  some (-1)

theorem qlJ {n : Nat} {w : World} {list : (List Int)} {x : Int} {cs1 : List Value} (ha1 : GoT.R w (old w) list cs1) {r : Int} (hF : qhe n list x = some r) : RetV Tryz.prog 79 [GoT.v (List Int) cs1, .int .i64 x] w r := by
 obtain ⟨p1, k1, rfl, s1⟩ := ha1
 refine qf Tryz.func79 rfl (m := 19) rfl rfl (fun h => ?_)
 rw [qhe] at hF
 refine zSR (zp1 rfl (zNSSR (zp1 rfl (qb ?_))))
 obtain ⟨o1, hF, hK1⟩ := qd hF
 refine qy (qW [(0, _), (1, _), (5, _)] ⟨rfl, rfl, rfl, trivial⟩ ?_)
 refine qI (fun m e w' => ∃ (i1 : Int), qdb list x m i1 = some o1 ∧ e = [(0, .slice p1 list.length k1), (1, .int .i64 x), (5, .int .i64 i1)] ∧ SH w w' []) n ⟨_, hF, rfl, h⟩ ?_
 rintro m1 e1 w1 ⟨i1, hF, rfl, h⟩
 rcases m1 with _ | m1
 ·rw [qdb] at hF
  cases hF
 rw [qdb] at hF
 refine zSSR (zp4 rfl (qb ?_))
 refine qp rfl hF ?_ ?_ <;> intro hF
 ·refine zKSBSR (zp2 rfl ?_)
  obtain ⟨y1, hy1, hF⟩ := qd hF
  have he1 := qg hy1
  obtain ⟨b1, o_1, q1, cs2, hp1, hq1, -, hr1, hc2⟩ := s1.at hy1
  obtain rfl := hr1
  refine zxe hp1 hq1 he1 rfl (zc 0 (hc2.below h.below) rfl (zp2 rfl (qb ?_)))
  refine qp rfl hF ?_ ?_ <;> intro hF
  ·refine zSR (zp2 rfl (qb ?_))
   obtain rfl := qh hF; replace hF := hK1
   exact qar qc h hF ⟨rfl, trivial⟩
  exact zKER (zp3 rfl (qb (qz m1 [(0, _), (1, _), (5, _)] (Nat.lt_succ_self m1) ⟨rfl, rfl, rfl, trivial⟩ ⟨_, hF, rfl, h⟩)))
 refine qG rfl ?_
 obtain rfl := qh hF; replace hF := hK1
 exact zSR (zp1 rfl (qb (qar qc h hF ⟨rfl, trivial⟩)))

def qbi (s : (List Int)) (v : Int) : Nat → Int → Option (Flow Int Int)
 | 0, _ => none
 | n + 1, i1 =>
  bif decide (i1 < (s.length : Int)) then
   (idx s i1).bind fun y1 =>
   bif (v == y1) then
    some (.ret i1)
   else
    qbi s v n (W64 (i1 + 1))
  else
   some (.nxt i1)

def qeW (n : Nat) (s : (List Int)) (v : Int) : Option Int :=
 (qbi s v n 0).bind fun o => match o with
 | .ret r => some r
 | .nxt _ =>
  some (-1)

theorem qiQ {n : Nat} {w : World} {s : (List Int)} {v : Int} {cs1 : List Value} (ha1 : GoT.R w (old w) s cs1) {r : Int} (hF : qeW n s v = some r) : RetV Tryz.prog 157 [GoT.v (List Int) cs1, .int .i64 v] w r := by
 obtain ⟨p1, k1, rfl, s1⟩ := ha1
 refine qf Tryz.func157 rfl (m := 19) rfl rfl (fun h => ?_)
 rw [qeW] at hF
 refine zSR (zp1 rfl (zNSSR (zp3 rfl (qb ?_))))
 obtain ⟨o1, hF, hK1⟩ := qd hF
 refine qy (qW [(0, _), (1, _), (7, _), (8, _)] ⟨rfl, rfl, rfl, rfl, trivial⟩ ?_)
 refine qI (fun m e w' => ∃ (i1 : Int), qbi s v m i1 = some o1 ∧ e = [(0, .slice p1 s.length k1), (1, .int .i64 v), (7, .int .i64 (s.length : Int)), (8, .int .i64 i1)] ∧ SH w w' []) n ⟨_, hF, rfl, h⟩ ?_
 rintro m1 e1 w1 ⟨i1, hF, rfl, h⟩
 rcases m1 with _ | m1
 ·rw [qbi] at hF
  cases hF
 rw [qbi] at hF
 refine zSR (zp1 rfl (zNS ?_))
 refine qp rfl hF ?_ ?_ <;> intro hF
 ·refine zKSBSR (zp2 rfl (zNSR (zp2 rfl ?_)))
  refine zp1 rfl ?_
  obtain ⟨y1, hy1, hF⟩ := qd hF
  have he1 := qg hy1
  obtain ⟨b1, o_1, q1, cs2, hp1, hq1, -, hr1, hc2⟩ := s1.at hy1
  obtain rfl := hr1
  refine zxe hp1 hq1 he1 rfl (zc 0 (hc2.below h.below) rfl (zp1 rfl (qb ?_)))
  refine qp rfl hF ?_ ?_ <;> intro hF
  ·refine zSR (zp2 rfl (qb ?_))
   obtain rfl := qh hF; replace hF := hK1
   exact qar qc h hF ⟨rfl, trivial⟩
  exact zKER (zp2 rfl (qb (qz m1 [(0, _), (1, _), (7, _), (8, _)] (Nat.lt_succ_self m1) ⟨rfl, rfl, rfl, rfl, trivial⟩ ⟨_, hF, rfl, h⟩)))
 refine qG rfl ?_
 obtain rfl := qh hF; replace hF := hK1
 exact zSR (zp1 rfl (qb (qar qc h hF ⟨rfl, trivial⟩)))

def qcY (n : Nat) (s : (List Int)) (v : Int) : Option Bool :=
 (qeW n s v).bind fun r1 =>
 some (decide (r1 ≥ 0))

theorem qid {n : Nat} {w : World} {s : (List Int)} {v : Int} {cs1 : List Value} (ha1 : GoT.R w (old w) s cs1) {r : Bool} (hF : qcY n s v = some r) : RetV Tryz.prog 114 [GoT.v (List Int) cs1, .int .i64 v] w r := by
 obtain ⟨p1, k1, rfl, s1⟩ := ha1
 refine qf Tryz.func114 rfl (m := 9) rfl rfl (fun h => ?_)
 rw [qcY] at hF
 refine zSR (zp1 rfl (zNSR (zp2 rfl ?_)))
 obtain ⟨r1, hr1, hF⟩ := qd hF
 refine qP r1 h call157 (qiQ ⟨_, _, rfl, (h.oldS s1)⟩ hr1) rfl rfl rfl rfl ?_
 intro w1 h
 exact zp2 rfl (qb (qt qc h hF ⟨rfl, trivial⟩))

def qcJ (n : Nat) (a_e : qe) (found : Int) (a_end : Int) : Option Bool :=
 (qap n a_e.Through).bind fun r1 =>
 bif (found == r1) then
  bif ((a_e.To.length : Int) == 0) then
   some true
  else
   (qcY n a_e.To a_end).bind fun r2 =>
   some r2
 else
  some false

theorem qh3 {n : Nat} {w : World} {a_e : qe} {found : Int} {a_end : Int} {cs1 : List Value} (ha1 : GoT.R w (old w) a_e cs1) {r : Bool} (hF : qcJ n a_e found a_end = some r) : RetV Tryz.prog 88 [GoT.v qe cs1, .int .i64 found, .int .i64 a_end] w r := by
 obtain ⟨p1, k1, p2, k2, p3, k3, rfl, s1, s2, s3⟩ := qF ha1
 refine qf Tryz.func88 rfl (m := 24) rfl rfl (fun h => ?_)
 rw [qcJ] at hF
 refine zSR (qS h rfl rfl ?_)
 intro w1 bb1 h
 refine zp1 rfl (zNSR (zp2 rfl (zl 0 3 h rfl ?_)))
 obtain ⟨r1, hr1, hF⟩ := qd hF
 refine qP r1 h call87 (qbr ⟨_, _, rfl, (h.oldS s2)⟩ hr1) rfl rfl rfl rfl ?_
 intro w2 h
 refine zp2 rfl ?_
 by_cases hc1 : (found == r1) = true
 ·replace hF := bifT hc1 hF
  refine qC hc1 (t := 12) rfl (qa rfl (zp1 rfl (qa rfl (zl 0 4 h rfl (qa rfl (zp1 rfl (qa rfl (zp1 rfl (qa rfl (zp1 rfl ?_))))))))))
  by_cases hc2 : ((a_e.To.length : Int) == 0) = true
  ·replace hF := bifT hc2 hF
   exact qC hc2 (t := 17) rfl (zn4 rfl (qa rfl (zp3 rfl (qb (qt qc h hF ⟨rfl, trivial⟩)))))
  replace hc2 := zb hc2
  replace hF := bifF hc2 hF
  refine qB hc2 (t := 17) rfl (qa rfl (zp1 rfl (qa rfl (zl 0 4 h rfl (qa rfl (zp1 rfl (qa rfl ?_)))))))
  obtain ⟨r2, hr2, hF⟩ := qd hF
  refine qm r2 h call114 (qid ⟨_, _, rfl, (h.oldS s3)⟩ hr2) rfl rfl rfl rfl ?_
  intro w3 h
  exact qa rfl (zp3 rfl (qb (qt qc h hF ⟨rfl, trivial⟩)))
 replace hc1 := zb hc1
 replace hF := bifF hc1 hF
 refine qB hc1 (t := 12) rfl (zn5 rfl (zn5 rfl (zp1 rfl ?_)))
 exact zp1 rfl (qb (qt qc h hF ⟨rfl, trivial⟩))

end Go.Fw


namespace Go.Fw
open Go Go.Proofs
open Go.RowKit (Below)
set_option maxRecDepth 100000
set_option maxHeartbeats 1600000
def qcN (b : qD) (list : (List qe)) : Nat → Int → Option (Flow Int Int)
 | 0, _ => none
 | n + 1, i1 =>
  bif decide (i1 < (list.length : Int)) then
   (idx list i1).bind fun y1 =>
   (qeB n b y1).bind fun r2 =>
   bif (!r2) then
    some (.ret 5)
   else
    qcN b list n (W64 (i1 + 1))
  else
   some (.nxt i1)

def qgB (n : Nat) (b : qD) (list : (List qe)) : Option Int :=
 (qfG n b).bind fun r1 =>
 bif (!r1) then
  some 1
 else
  bif decide ((list.length : Int) > 6) then
   some 3
  else
   (qcN b list n 0).bind fun o => match o with
   | .ret r => some r
   | .nxt _ =>
    some 0

theorem qkS {n : Nat} {w : World} {b : qD} {list : (List qe)} {cs1 : List Value} (ha1 : GoT.R w (old w) b cs1) {cs2 : List Value} (ha2 : GoT.R w (old w) list cs2) {r : Int} (hF : qgB n b list = some r) : RetV Tryz.prog 62 [GoT.v qD cs1, GoT.v (List qe) cs2] w r := by
 obtain ⟨p1, k1, p2, k2, p3, k3, p4, k4, p5, k5, rfl, s1, s2, s3, s4, s5⟩ := qax ha1
 obtain ⟨p6, k6, rfl, s6⟩ := ha2
 refine qf Tryz.func62 rfl (m := 25) rfl rfl (fun h => ?_)
 rw [qgB] at hF
 refine zSR (qS h rfl rfl ?_)
 intro w1 bb1 h
 refine zp1 rfl (zNSSR (zl 0 0 h rfl ?_))
 obtain ⟨r1, hr1, hF⟩ := qd hF
 refine qm r1 h call104 (qiN (h.old ha1) hr1) rfl rfl rfl rfl ?_
 intro w2 h
 refine zp1 rfl (qb ?_)
 refine qp rfl hF ?_ ?_ <;> intro hF
 ·exact zSR (zp1 rfl (qb (qar qc h hF ⟨rfl, trivial⟩)))
 refine zKSSR (zp3 rfl (qb ?_))
 refine qp rfl hF ?_ ?_ <;> intro hF
 ·exact zSR (zp1 rfl (qb (qar qc h hF ⟨rfl, trivial⟩)))
 refine zKSSR (zp1 rfl (qb ?_))
 obtain ⟨o1, hF, hK1⟩ := qd hF
 refine qy (qW [(1, _), (2, _), (5, _)] ⟨rfl, rfl, rfl, trivial⟩ ?_)
 refine qI (fun m e w' => ∃ (i1 : Int), qcN b list m i1 = some o1 ∧ e = [(1, .slice p6 list.length k6), (2, .pointer (some ⟨bb1, 0, none⟩)), (5, .int .i64 i1)] ∧ SH w w' [Ch.box bb1 [.slice p1 b.Library.Cells.length k1, .slice p2 b.Design.Instances.length k2, .slice p3 b.Design.Nets.length k3, .slice p4 b.Design.Ports.length k4, .slice p5 b.Wires.length k5] 50]) n ⟨_, hF, rfl, h⟩ ?_
 rintro m1 e1 w3 ⟨i1, hF, rfl, h⟩
 rcases m1 with _ | m1
 ·rw [qcN] at hF
  cases hF
 rw [qcN] at hF
 refine zSSR (zp4 rfl (qb ?_))
 refine qp rfl hF ?_ ?_ <;> intro hF
 ·refine zKSB (qbm ?_)
  refine qcf rfl (by kernel_rfl) ?_
  refine zdl 0 0 h rfl ?_
  refine zd2 rfl ?_
  obtain ⟨y1, hy1, hF⟩ := qd hF
  have he1 := qg hy1
  obtain ⟨b1, o_1, q1, cs3, hp1, hq1, -, hr2, hc4⟩ := s6.at hy1
  obtain ⟨p7, k7, p8, k8, p9, k9, rfl, s7, s8, s9⟩ := qF hr2
  refine zdxe hp1 hq1 he1 rfl ?_
  refine zdc 0 (hc4.below h.below) rfl ?_
  obtain ⟨r2, hr3, hF⟩ := qd hF
  refine qb4 r2 (vsB _) call105 (fun _ hb => qjD ((h.ext hb).old ha1) (qbd y1 ((h.ext hb).oldS s7) ((h.ext hb).oldS s8) ((h.ext hb).oldS s9)) hr3) rfl rfl rfl rfl ?_
  refine zd1 rfl ?_
  refine qbc (fun w4 hb => ?_)
  replace h := h.ext hb
  clear hb
  refine qp rfl hF ?_ ?_ <;> intro hF
  ·refine zSR (zp1 rfl (qb ?_))
   obtain rfl := qh hF; replace hF := hK1
   exact qar qc h hF ⟨rfl, trivial⟩
  exact zKER (zp3 rfl (qb (qz m1 [(1, _), (2, _), (5, _)] (Nat.lt_succ_self m1) ⟨rfl, rfl, rfl, trivial⟩ ⟨_, hF, rfl, h⟩)))
 refine qG rfl ?_
 obtain rfl := qh hF; replace hF := hK1
 exact zSR (zp1 rfl (qb (qar qc h hF ⟨rfl, trivial⟩)))

def qgv (n : Nat) (b : qD) (list : (List qe)) (place : Int) : Option Int :=
 (qgB n b list).bind fun r1 =>
 bif (r1 == 0) then
  (qdE n b).bind fun r2 =>
  (qan n place 0 (W64 (r2 - 1))).bind fun r3 =>
  bif (!r3) then
   some 2
  else
   some r1
 else
  some r1

theorem qkV {n : Nat} {w : World} {b : qD} {list : (List qe)} {place : Int} {cs1 : List Value} (ha1 : GoT.R w (old w) b cs1) {cs2 : List Value} (ha2 : GoT.R w (old w) list cs2) {r : Int} (hF : qgv n b list place = some r) : RetV Tryz.prog 41 [GoT.v qD cs1, GoT.v (List qe) cs2, .int .i64 place] w r := by
 obtain ⟨p1, k1, p2, k2, p3, k3, p4, k4, p5, k5, rfl, s1, s2, s3, s4, s5⟩ := qax ha1
 obtain ⟨p6, k6, rfl, s6⟩ := ha2
 refine qf Tryz.func41 rfl (m := 22) rfl rfl (fun h => ?_)
 rw [qgv] at hF
 refine zSR (qS h rfl rfl ?_)
 intro w1 bb1 h
 refine zp1 rfl (zNSR (zl 0 0 h rfl (zp1 rfl ?_)))
 obtain ⟨r1, hr1, hF⟩ := qd hF
 refine qP r1 h call62 (qkS (h.old ha1) ⟨_, _, rfl, (h.oldS s6)⟩ hr1) rfl rfl rfl rfl ?_
 intro w2 h
 refine zp1 rfl (zNSSR (zp3 rfl ?_))
 by_cases hc1 : (r1 == 0) = true
 ·replace hF := bifT hc1 hF
  refine qC hc1 (t := 13) rfl (qa rfl (zp1 rfl (qa rfl (zl 0 0 h rfl (qa rfl ?_)))))
  obtain ⟨r2, hr2, hF⟩ := qd hF
  refine qP r2 h call78 (qil (h.old ha1) hr2) rfl rfl rfl rfl ?_
  intro w3 h
  refine qa rfl (zp1 rfl (qa rfl ?_))
  obtain ⟨r3, hr3, hF⟩ := qd hF
  refine qm r3 h call77 (qae hr3) rfl rfl rfl rfl ?_
  intro w4 h
  refine qa rfl (zp2 rfl (qb ?_))
  refine qp rfl hF ?_ ?_ <;> intro hF
  ·exact zSR (zp1 rfl (qb (qar qc h hF ⟨rfl, trivial⟩)))
  exact zKSR (zp2 rfl (qb (qar qc h hF ⟨rfl, trivial⟩)))
 replace hc1 := zb hc1
 replace hF := bifF hc1 hF
 refine qB hc1 (t := 13) rfl (zn5 rfl (zn1 rfl (zp1 rfl (qb (qd6 rfl rfl (zKS ?_))))))
 exact qx (zp2 rfl (qb (qar qc h hF ⟨rfl, trivial⟩)))

def qdm (n : Nat) (a_e : qe) (v0 : (Option Tview)) : Option Bool :=
 (qcX n v0 a_e).bind fun r1 =>
 some (!r1)

theorem qiq {n : Nat} {w : World} {a_e : qe} {v0 : (Option Tview)} {cs1 : List Value} (ha1 : GoT.R w (old w) a_e cs1) {p4 : Option Addr} (ha2 : GoT.R w (old w) (some v0) [.pointer p4]) {r : Bool} (hF : qdm n a_e v0 = some r) : RetV Tryz.prog 110 [GoT.v qe cs1, .pointer p4] w r := by
 obtain ⟨p1, k1, p2, k2, p3, k3, rfl, s1, s2, s3⟩ := qF ha1
 obtain ⟨b1, o_1, cs2, rfl, -, hr1, hc1⟩ := PtR.get ha2 rfl
 obtain ⟨p5, rfl, s4⟩ := qho hr1
 refine qf Tryz.func110 rfl (m := 8) rfl rfl (fun h => ?_)
 rw [qdm] at hF
 refine zSR (qS h rfl rfl ?_)
 intro w1 bb1 h
 refine zp1 rfl (zNSR (zc 0 (hc1.below h.below) rfl (zl 0 0 h rfl ?_)))
 obtain ⟨r1, hr2, hF⟩ := qd hF
 refine qm r1 h call111 (qig (h.old s4) (h.old ha1) hr2) rfl rfl rfl rfl ?_
 intro w2 h
 exact zp2 rfl (qb (qt qc h hF ⟨rfl, trivial⟩))

def qE (s : (List qe)) (f_0 : (Option Tview)) : Nat → Int → Option (Flow Int Int)
 | 0, _ => none
 | n + 1, i1 =>
  bif decide (i1 < (s.length : Int)) then
   (idx s i1).bind fun y1 =>
   (qdm n y1 f_0).bind fun r1 =>
   bif r1 then
    some (.ret i1)
   else
    qE s f_0 n (W64 (i1 + 1))
  else
   some (.nxt i1)

def qai (n : Nat) (s : (List qe)) (f_0 : (Option Tview)) : Option Int :=
 (qE s f_0 n 0).bind fun o => match o with
 | .ret r => some r
 | .nxt _ =>
  some (-1)

theorem qdn {n : Nat} {w : World} {s : (List qe)} {f_0 : (Option Tview)} {cs1 : List Value} (ha1 : GoT.R w (old w) s cs1) {p2 : Option Addr} (ha2 : GoT.R w (old w) (some f_0) [.pointer p2]) {r : Int} (hF : qai n s f_0 = some r) : RetV Tryz.prog 129 [GoT.v (List qe) cs1, .func (.func 110) #[] #[.pointer p2]] w r := by
 obtain ⟨p1, k1, rfl, s1⟩ := ha1
 obtain ⟨b1, o_1, cs2, rfl, -, hr1, hc1⟩ := PtR.get ha2 rfl
 obtain ⟨p3, rfl, s2⟩ := qho hr1
 refine qf Tryz.func129 rfl (m := 19) rfl rfl (fun h => ?_)
 rw [qai] at hF
 refine zSR (zp1 rfl (zNSSR (zp3 rfl (qb ?_))))
 obtain ⟨o1, hF, hK1⟩ := qd hF
 refine qy (qW [(0, _), (1, _), (7, _), (8, _)] ⟨rfl, rfl, rfl, rfl, trivial⟩ ?_)
 refine qI (fun m e w' => ∃ (i1 : Int), qE s f_0 m i1 = some o1 ∧ e = [(0, .slice p1 s.length k1), (1, .func (.func 110) #[] #[.pointer (some ⟨b1, o_1, none⟩)]), (7, .int .i64 (s.length : Int)), (8, .int .i64 i1)] ∧ SH w w' []) n ⟨_, hF, rfl, h⟩ ?_
 rintro m1 e1 w1 ⟨i1, hF, rfl, h⟩
 rcases m1 with _ | m1
 ·rw [qE] at hF
  cases hF
 rw [qE] at hF
 refine zSR (zp1 rfl (zNS ?_))
 refine qp rfl hF ?_ ?_ <;> intro hF
 ·refine zKSBSR (zp2 rfl (zNSR (zp2 rfl ?_)))
  refine zp1 rfl ?_
  obtain ⟨y1, hy1, hF⟩ := qd hF
  have he1 := qg hy1
  obtain ⟨b2, o_2, q1, cs3, hp1, hq1, -, hr2, hc3⟩ := s1.at hy1
  obtain ⟨p4, k2, p5, k3, p6, k4, rfl, s3, s4, s5⟩ := qF hr2
  refine zxe hp1 hq1 he1 rfl (zc 0 (hc3.below h.below) rfl ?_)
  obtain ⟨r1, hr3, hF⟩ := qd hF
  refine qm r1 h call110 (qiq (qbd y1 (h.oldS s3) (h.oldS s4) (h.oldS s5)) (h.old ha2) hr3) rfl rfl rfl rfl ?_
  intro w2 h
  refine qb ?_
  refine qp rfl hF ?_ ?_ <;> intro hF
  ·refine zSR (zp2 rfl (qb ?_))
   obtain rfl := qh hF; replace hF := hK1
   exact qar qc h hF ⟨rfl, trivial⟩
  exact zKER (zp2 rfl (qb (qz m1 [(0, _), (1, _), (7, _), (8, _)] (Nat.lt_succ_self m1) ⟨rfl, rfl, rfl, rfl, trivial⟩ ⟨_, hF, rfl, h⟩)))
 refine qG rfl ?_
 obtain rfl := qh hF; replace hF := hK1
 exact zSR (zp1 rfl (qb (qar qc h hF ⟨rfl, trivial⟩)))

def qX (n : Nat) (s : (List qe)) (f_0 : (Option Tview)) : Option Bool :=
 (qai n s f_0).bind fun r1 =>
 some (decide (r1 ≥ 0))

theorem qc6 {n : Nat} {w : World} {s : (List qe)} {f_0 : (Option Tview)} {cs1 : List Value} (ha1 : GoT.R w (old w) s cs1) {p2 : Option Addr} (ha2 : GoT.R w (old w) (some f_0) [.pointer p2]) {r : Bool} (hF : qX n s f_0 = some r) : RetV Tryz.prog 90 [GoT.v (List qe) cs1, .func (.func 110) #[] #[.pointer p2]] w r := by
 obtain ⟨p1, k1, rfl, s1⟩ := ha1
 obtain ⟨b1, o_1, cs2, rfl, -, hr1, hc1⟩ := PtR.get ha2 rfl
 obtain ⟨p3, rfl, s2⟩ := qho hr1
 refine qf Tryz.func90 rfl (m := 9) rfl rfl (fun h => ?_)
 rw [qX] at hF
 refine zSR (zp1 rfl (zNSR (zp2 rfl ?_)))
 obtain ⟨r1, hr2, hF⟩ := qd hF
 refine qP r1 h call129 (qdn ⟨_, _, rfl, (h.oldS s1)⟩ (h.old ha2) hr2) rfl rfl rfl rfl ?_
 intro w1 h
 exact zp2 rfl (qb (qt qc h hF ⟨rfl, trivial⟩))

def qdV (n : Nat) (b : qD) (list : (List qe)) : Option ((Option Tview) × Int) :=
 (qgG n b).bind fun r1 =>
 bif (!r1) then
  some (none, 1)
 else
  bif decide ((list.length : Int) > 6) then
   some (none, 3)
  else
   (qgO n b).bind fun r2 =>
   (qX n list r2).bind fun r3 =>
   bif r3 then
    some (none, 5)
   else
    some (r2, 0)

theorem qiP {n : Nat} {w : World} {A : Nat → Prop} (hA : ∀ b, A b → old w b) {b : qD} {list : (List qe)} {cs1 : List Value} (ha1 : GoT.R w A b cs1) {cs2 : List Value} (ha2 : GoT.R w A list cs2) {r : ((Option Tview) × Int)} (hF : qdV n b list = some r) : RetG Tryz.prog 66 [GoT.v qD cs1, GoT.v (List qe) cs2] w A r := by
 obtain ⟨p1, k1, p2, k2, p3, k3, p4, k4, p5, k5, rfl, s1, s2, s3, s4, s5⟩ := qax ha1
 obtain ⟨p6, k6, rfl, s6⟩ := ha2
 have hg := Rg.start hA
 refine qiY Tryz.func66 rfl (m := 21) rfl rfl (fun h => ?_)
 rw [qdV] at hF
 refine zSR (qS h rfl rfl ?_)
 intro w1 bb1 h
 refine zp2 rfl (zNSB (zSR (zl 0 0 h rfl ?_)))
 obtain ⟨r1, hr1, hF⟩ := qd hF
 refine qm r1 h call108 (qk8 (h.old (GoT.mono ha1 hg.old)) hr1) rfl rfl rfl rfl ?_
 intro w2 h
 refine zp2 rfl (qb ?_)
 refine qp rfl hF ?_ ?_ <;> intro hF
 ·refine zSR (zp2 rfl (qb ?_))
  obtain rfl := qh hF
  have hv1 : GoRs.Rs (ρ := ((Option Tview) × Int)) h.wc (reg A w h.wc) (none, 1) [GoT.v (Option Tview) [.pointer none], GoT.v Int [.int .i64 1]] := ⟨_, _, rfl, rfl, ⟨_, rfl, rfl⟩⟩
  exact qiX qc (ρ := ((Option Tview) × Int)) (r := (none, 1)) [GoT.v (Option Tview) [.pointer none], GoT.v Int [.int .i64 1]] h ⟨rfl, rfl, trivial⟩ hv1
 refine zSR (zp4 rfl (qb ?_))
 refine qp rfl hF ?_ ?_ <;> intro hF
 ·refine zSR (zp2 rfl (qb ?_))
  obtain rfl := qh hF
  have hv2 : GoRs.Rs (ρ := ((Option Tview) × Int)) h.wc (reg A w h.wc) (none, 3) [GoT.v (Option Tview) [.pointer none], GoT.v Int [.int .i64 3]] := ⟨_, _, rfl, rfl, ⟨_, rfl, rfl⟩⟩
  exact qiX qc (ρ := ((Option Tview) × Int)) (r := (none, 3)) [GoT.v (Option Tview) [.pointer none], GoT.v Int [.int .i64 3]] h ⟨rfl, rfl, trivial⟩ hv2
 refine zKE (zSR (zl 0 0 h rfl ?_))
 obtain ⟨r2, hr2, hF⟩ := qd hF
 refine qmN r2 hg h call109 (qkT (hg.regOld h) (hg.inR h ha1) hr2) rfl rfl rfl rfl ?_
 intro w3 us1 B1 hg1 hu1 hz1 hv3
 have hL1 := h.ext hu1.below
 have s7 := Up.S hg h hu1 s6
 have hb1 := h.below.trans (hu1.below.mono h.below.size)
 replace h := hz1
 obtain ⟨cs3, rfl, hr3⟩ := qnU hv3
 obtain ⟨p7, rfl, s8⟩ := qho hr3
 refine qY qc h rfl rfl rfl ?_
 intro w4 bb2 h
 refine zs 0 h rfl ?_
 intro w5 h
 refine zNSSR (zp2 rfl ?_)
 obtain ⟨r3, hr4, hF⟩ := qd hF
 refine qm r3 h call90 (qc6 ⟨_, _, rfl, (h.oldS (s7.mono hg1.old))⟩ (qhZ (x := r2) 0 h rfl (h.old (GoT.mono s8 hg1.old))) hr4) rfl rfl rfl rfl ?_
 intro w6 h
 refine qb ?_
 refine qp rfl hF ?_ ?_ <;> intro hF
 ·refine zSR (zp2 rfl (qb ?_))
  obtain rfl := qh hF
  have hv4 : GoRs.Rs (ρ := ((Option Tview) × Int)) h.wc (reg A w h.wc) (none, 5) [GoT.v (Option Tview) [.pointer none], GoT.v Int [.int .i64 5]] := ⟨_, _, rfl, rfl, ⟨_, rfl, rfl⟩⟩
  exact qiX qc (ρ := ((Option Tview) × Int)) (r := (none, 5)) [GoT.v (Option Tview) [.pointer none], GoT.v Int [.int .i64 5]] (h.unbase hg1.below ⟨fun _ h => h, trivial⟩) ⟨rfl, rfl, trivial⟩ hv4
 refine zKSR (zl 0 0 h rfl (zp2 rfl (qb ?_)))
 obtain rfl := qh hF
 have hv5 : GoRs.Rs (ρ := ((Option Tview) × Int)) h.wc (reg A w h.wc) (r2, 0) [GoT.v (Option Tview) [.pointer p7], GoT.v Int [.int .i64 0]] := ⟨_, _, rfl, (hg1.outR h (hg1.inR h s8)), ⟨_, rfl, rfl⟩⟩
 exact qiX qc (ρ := ((Option Tview) × Int)) (r := (r2, 0)) [GoT.v (Option Tview) [.pointer p7], GoT.v Int [.int .i64 0]] (h.unbase hg1.below ⟨fun _ h => h, trivial⟩) ⟨rfl, rfl, trivial⟩ hv5

def qeh (n : Nat) (v : (Option Tview)) (place : Int) : Option Bool :=
 (v).bind fun y1 =>
 (qbe n y1.places).bind fun r1 =>
 (qaD n place 0 (W64 (r1 - 1))).bind fun r2 =>
 some r2

theorem qi0 {n : Nat} {w : World} {v : (Option Tview)} {place : Int} {cs1 : List Value} (ha1 : GoT.R w (old w) v cs1) {r : Bool} (hF : qeh n v place = some r) : RetV Tryz.prog 85 [GoT.v (Option Tview) cs1, .int .i64 place] w r := by
 obtain ⟨p1, rfl, s1⟩ := qho ha1
 refine qf Tryz.func85 rfl (m := 13) rfl rfl (fun h => ?_)
 rw [qeh] at hF
 refine zSR (zp1 rfl (zNSR (zp2 rfl ?_)))
 obtain ⟨y1, hy1, hF⟩ := qd hF
 obtain ⟨b1, o_1, cs2, rfl, -, hr1, hc1⟩ := PtR.get s1 hy1
 obtain ⟨p2, k1, p3, k2, p4, k3, p5, k4, p6, k5, p7, k6, p8, k7, p9, k8, p10, k9, p11, k10, rfl, s2, s3, s4, s5, s6, s7, s8, s9, s10, s11⟩ := qlR hr1
 refine zp2 rfl (zc 5 (hc1.below h.below) rfl ?_)
 obtain ⟨r1, hr2, hF⟩ := qd hF
 refine qP r1 h call113 (qfH ⟨_, _, rfl, (h.oldS s7)⟩ hr2) rfl rfl rfl rfl ?_
 intro w1 h
 refine zp1 rfl ?_
 obtain ⟨r2, hr3, hF⟩ := qd hF
 refine qm r2 h call86 (qam hr3) rfl rfl rfl rfl ?_
 intro w2 h
 exact zp1 rfl (qb (qt qc h hF ⟨rfl, trivial⟩))

def qgq (n : Nat) (b : qD) (list : (List qe)) (place : Int) : Option ((Option Tview) × Int) :=
 (qdV n b list).bind fun o => match o with
  | (r2, r3) =>
   bif (r3 == 0) then
    (qeh n r2 place).bind fun r4 =>
    bif (!r4) then
     some (none, 2)
    else
     some (r2, r3)
   else
    some (r2, r3)

theorem qlc {n : Nat} {w : World} {A : Nat → Prop} (hA : ∀ b, A b → old w b) {b : qD} {list : (List qe)} {place : Int} {cs1 : List Value} (ha1 : GoT.R w A b cs1) {cs2 : List Value} (ha2 : GoT.R w A list cs2) {r : ((Option Tview) × Int)} (hF : qgq n b list place = some r) : RetG Tryz.prog 48 [GoT.v qD cs1, GoT.v (List qe) cs2, .int .i64 place] w A r := by
 obtain ⟨p1, k1, p2, k2, p3, k3, p4, k4, p5, k5, rfl, s1, s2, s3, s4, s5⟩ := qax ha1
 obtain ⟨p6, k6, rfl, s6⟩ := ha2
 have hg := Rg.start hA
 refine qiY Tryz.func48 rfl (m := 26) rfl rfl (fun h => ?_)
 rw [qgq] at hF
 refine zSR (qS h rfl rfl ?_)
 intro w1 bb1 h
 refine zp2 rfl (zNSR (zl 0 0 h rfl (zp1 rfl ?_)))
 obtain ⟨r1, hr1, hF⟩ := qd hF
 obtain ⟨r2, r3⟩ := r1
 refine qmN (r2, r3) hg h call66 (qiP (hg.regOld h) (hg.inR h ha1) ⟨_, _, rfl, (hg.inS h s6)⟩ hr1) rfl rfl rfl rfl ?_
 intro w2 us1 B1 hg1 hu1 hz1 hv1
 have hL1 := h.ext hu1.below
 have hb1 := h.below.trans (hu1.below.mono h.below.size)
 replace h := hz1
 obtain ⟨cs3, us2, rfl, hr2, hv2⟩ := qon hv1
 obtain ⟨p7, rfl, s7⟩ := qho hr2
 obtain ⟨cs4, rfl, hr3⟩ := qnU hv2
 obtain rfl := hr3
 refine zp5 rfl (zNSSR (zp3 rfl ?_))
 by_cases hc1 : (r3 == 0) = true
 ·replace hF := bifT hc1 hF
  refine qC hc1 (t := 18) rfl (qa rfl (zp1 rfl (qa rfl (zp1 rfl (qa rfl ?_)))))
  obtain ⟨r4, hr4, hF⟩ := qd hF
  refine qm r4 h call85 (qi0 (h.old (GoT.mono s7 hg1.old)) hr4) rfl rfl rfl rfl ?_
  intro w3 h
  refine qa rfl (zp2 rfl (qb ?_))
  refine qp rfl hF ?_ ?_ <;> intro hF
  ·refine zSR (zp2 rfl (qb ?_))
   obtain rfl := qh hF
   have hv3 : GoRs.Rs (ρ := ((Option Tview) × Int)) h.wc (reg A w h.wc) (none, 2) [GoT.v (Option Tview) [.pointer none], GoT.v Int [.int .i64 2]] := ⟨_, _, rfl, rfl, ⟨_, rfl, rfl⟩⟩
   exact qiX qc (ρ := ((Option Tview) × Int)) (r := (none, 2)) [GoT.v (Option Tview) [.pointer none], GoT.v Int [.int .i64 2]] (h.unbase hg1.below (show NoD [] from trivial)) ⟨rfl, rfl, trivial⟩ hv3
  refine zKSR (zp4 rfl (qb ?_))
  obtain rfl := qh hF
  have hv4 : GoRs.Rs (ρ := ((Option Tview) × Int)) h.wc (reg A w h.wc) (r2, r3) [GoT.v (Option Tview) [.pointer p7], GoT.v Int [.int .i64 r3]] := ⟨_, _, rfl, (hg1.outR h (hg1.inR h s7)), ⟨_, rfl, rfl⟩⟩
  exact qiX qc (ρ := ((Option Tview) × Int)) (r := (r2, r3)) [GoT.v (Option Tview) [.pointer p7], GoT.v Int [.int .i64 r3]] (h.unbase hg1.below (show NoD [] from trivial)) ⟨rfl, rfl, trivial⟩ hv4
 replace hc1 := zb hc1
 replace hF := bifF hc1 hF
 refine qB hc1 (t := 18) rfl (zn4 rfl (zp1 rfl (qb (qd6 rfl rfl (zKSR (zp1 rfl ?_))))))
 refine zp3 rfl (qb ?_)
 obtain rfl := qh hF
 have hv5 : GoRs.Rs (ρ := ((Option Tview) × Int)) h.wc (reg A w h.wc) (r2, r3) [GoT.v (Option Tview) [.pointer p7], GoT.v Int [.int .i64 r3]] := ⟨_, _, rfl, (hg1.outR h (hg1.inR h s7)), ⟨_, rfl, rfl⟩⟩
 exact qiX qc (ρ := ((Option Tview) × Int)) (r := (r2, r3)) [GoT.v (Option Tview) [.pointer p7], GoT.v Int [.int .i64 r3]] (h.unbase hg1.below (show NoD [] from trivial)) ⟨rfl, rfl, trivial⟩ hv5

def qcS (list : (List qe)) (tag : (List Int)) : Nat → Int → Option (Flow Bool Int)
 | 0, _ => none
 | n + 1, i1 =>
  bif decide (i1 < (tag.length : Int)) then
   (idx tag i1).bind fun y1 =>
   (idx list i1).bind fun y2 =>
   (qan n y1 (-1) (y2.Through.length : Int)).bind fun r1 =>
   bif (!r1) then
    some (.ret false)
   else
    qcS list tag n (W64 (i1 + 1))
  else
   some (.nxt i1)

def qgM (n : Nat) (list : (List qe)) (tag : (List Int)) : Option Bool :=
 bif ((tag.length : Int) != (list.length : Int)) then
  some false
 else
  (qcS list tag n 0).bind fun o => match o with
  | .ret r => some r
  | .nxt _ =>
   some true

theorem qkP {n : Nat} {w : World} {list : (List qe)} {tag : (List Int)} {cs1 : List Value} (ha1 : GoT.R w (old w) list cs1) {cs2 : List Value} (ha2 : GoT.R w (old w) tag cs2) {r : Bool} (hF : qgM n list tag = some r) : RetV Tryz.prog 42 [GoT.v (List qe) cs1, GoT.v (List Int) cs2] w r := by
 obtain ⟨p1, k1, rfl, s1⟩ := ha1
 obtain ⟨p2, k2, rfl, s2⟩ := ha2
 refine qf Tryz.func42 rfl (m := 29) rfl rfl (fun h => ?_)
 rw [qgM] at hF
 refine zSR (zp1 rfl (zNSSR (zp5 rfl ?_)))
 refine qb ?_
 refine qp rfl hF ?_ ?_ <;> intro hF
 ·exact zSR (zp1 rfl (qb (qt qc h hF ⟨rfl, trivial⟩)))
 refine zKSSR (zp1 rfl (qb ?_))
 obtain ⟨o1, hF, hK1⟩ := qd hF
 refine qy (qW [(0, _), (1, _), (5, _)] ⟨rfl, rfl, rfl, trivial⟩ ?_)
 refine qI (fun m e w' => ∃ (i1 : Int), qcS list tag m i1 = some o1 ∧ e = [(0, .slice p1 list.length k1), (1, .slice p2 tag.length k2), (5, .int .i64 i1)] ∧ SH w w' []) n ⟨_, hF, rfl, h⟩ ?_
 rintro m1 e1 w1 ⟨i1, hF, rfl, h⟩
 rcases m1 with _ | m1
 ·rw [qcS] at hF
  cases hF
 rw [qcS] at hF
 refine zSSR (zp4 rfl (qb ?_))
 refine qp rfl hF ?_ ?_ <;> intro hF
 ·refine zKSB (qbm ?_)
  refine qcf rfl (by kernel_rfl) ?_
  refine zd2 rfl ?_
  obtain ⟨y1, hy1, hF⟩ := qd hF
  have he1 := qg hy1
  obtain ⟨b1, o_1, q1, cs3, hp1, hq1, -, hr1, hc3⟩ := s2.at hy1
  obtain rfl := hr1
  refine zdxe hp1 hq1 he1 rfl ?_
  refine zdc 0 (hc3.below h.below) rfl ?_
  refine zd2 rfl ?_
  obtain ⟨y2, hy2, hF⟩ := qd hF
  have he2 := qg hy2
  obtain ⟨b2, o_2, q2, cs4, hp2, hq2, -, hr2, hc4⟩ := s1.at hy2
  obtain ⟨p3, k3, p4, k4, p5, k5, rfl, s3, s4, s5⟩ := qF hr2
  refine zdxe hp2 hq2 he2 rfl ?_
  refine zd1 rfl ?_
  refine zdc 3 (hc4.below h.below) rfl ?_
  refine zd1 rfl ?_
  obtain ⟨r1, hr3, hF⟩ := qd hF
  refine qb4 r1 (vsB _) call77 (fun _ hb => qae  hr3) rfl rfl rfl rfl ?_
  refine zd1 rfl ?_
  refine qbc (fun w2 hb => ?_)
  replace h := h.ext hb
  clear hb
  refine qp rfl hF ?_ ?_ <;> intro hF
  ·refine zSR (zp1 rfl (qb ?_))
   obtain rfl := qh hF; replace hF := hK1
   exact qt qc h hF ⟨rfl, trivial⟩
  exact zKER (zp3 rfl (qb (qz m1 [(0, _), (1, _), (5, _)] (Nat.lt_succ_self m1) ⟨rfl, rfl, rfl, trivial⟩ ⟨_, hF, rfl, h⟩)))
 refine qG rfl ?_
 obtain rfl := qh hF; replace hF := hK1
 exact zSR (zp1 rfl (qb (qt qc h hF ⟨rfl, trivial⟩)))

def qep (list : (List qe)) (tag : (List Int)) : Nat → Int → Option (Flow Bool Int)
 | 0, _ => none
 | n + 1, i1 =>
  bif decide (i1 < (list.length : Int)) then
   (idx list i1).bind fun y1 =>
   (idx tag i1).bind fun y2 =>
   (qap n y1.Through).bind fun r1 =>
   (qaD n y2 (-1) r1).bind fun r2 =>
   bif (!r2) then
    some (.ret false)
   else
    qep list tag n (W64 (i1 + 1))
  else
   some (.nxt i1)

def qip (n : Nat) (list : (List qe)) (tag : (List Int)) : Option Bool :=
 bif ((tag.length : Int) != (list.length : Int)) then
  some false
 else
  (qep list tag n 0).bind fun o => match o with
  | .ret r => some r
  | .nxt _ =>
   some true

theorem qmT {n : Nat} {w : World} {list : (List qe)} {tag : (List Int)} {cs1 : List Value} (ha1 : GoT.R w (old w) list cs1) {cs2 : List Value} (ha2 : GoT.R w (old w) tag cs2) {r : Bool} (hF : qip n list tag = some r) : RetV Tryz.prog 49 [GoT.v (List qe) cs1, GoT.v (List Int) cs2] w r := by
 obtain ⟨p1, k1, rfl, s1⟩ := ha1
 obtain ⟨p2, k2, rfl, s2⟩ := ha2
 refine qf Tryz.func49 rfl (m := 29) rfl rfl (fun h => ?_)
 rw [qip] at hF
 refine zSR (zp1 rfl (zNSSR (zp5 rfl ?_)))
 refine qb ?_
 refine qp rfl hF ?_ ?_ <;> intro hF
 ·exact zSR (zp1 rfl (qb (qt qc h hF ⟨rfl, trivial⟩)))
 refine zKSSR (zp3 rfl (qb ?_))
 obtain ⟨o1, hF, hK1⟩ := qd hF
 refine qy (qW [(1, _), (12, _), (13, _), (14, _)] ⟨rfl, rfl, rfl, rfl, trivial⟩ ?_)
 refine qI (fun m e w' => ∃ (i1 : Int), qep list tag m i1 = some o1 ∧ e = [(1, .slice p2 tag.length k2), (12, .slice p1 list.length k1), (13, .int .i64 (list.length : Int)), (14, .int .i64 i1)] ∧ SH w w' []) n ⟨_, hF, rfl, h⟩ ?_
 rintro m1 e1 w1 ⟨i1, hF, rfl, h⟩
 rcases m1 with _ | m1
 ·rw [qep] at hF
  cases hF
 rw [qep] at hF
 refine zSR (zp1 rfl (zNS ?_))
 refine qp rfl hF ?_ ?_ <;> intro hF
 ·refine zKSBSR (zp1 rfl ?_)
  obtain ⟨y1, hy1, hF⟩ := qd hF
  have he1 := qg hy1
  obtain ⟨b1, o_1, q1, cs3, hp1, hq1, -, hr1, hc3⟩ := s1.at hy1
  obtain ⟨p3, k3, p4, k4, p5, k5, rfl, s3, s4, s5⟩ := qF hr1
  refine zxe hp1 hq1 he1 rfl (zc 0 (hc3.below h.below) rfl (qY qc h rfl rfl rfl ?_))
  intro w2 bb1 h
  refine zp1 rfl (zs 0 h rfl ?_)
  intro w3 h
  refine zNS ?_
  refine qcf rfl (by kernel_rfl) ?_
  refine zd2 rfl ?_
  obtain ⟨y2, hy2, hF⟩ := qd hF
  have he2 := qg hy2
  obtain ⟨b2, o_2, q2, cs4, hp2, hq2, -, hr2, hc4⟩ := s2.at hy2
  obtain rfl := hr2
  refine zdxe hp2 hq2 he2 rfl ?_
  refine zdc 0 (hc4.below h.below) rfl ?_
  refine zd1 rfl ?_
  refine zdl 0 3 h rfl ?_
  obtain ⟨r1, hr3, hF⟩ := qd hF
  refine qb4 r1 (vsI _) call87 (fun _ hb => qbr ⟨_, _, rfl, ((h.ext hb).oldS s4)⟩ hr3) rfl rfl rfl rfl ?_
  obtain ⟨r2, hr4, hF⟩ := qd hF
  refine qb4 r2 (vsB _) call86 (fun _ hb => qam  hr4) rfl rfl rfl rfl ?_
  refine zd1 rfl ?_
  refine qbc (fun w4 hb => ?_)
  replace h := h.ext hb
  clear hb
  refine qp rfl hF ?_ ?_ <;> intro hF
  ·refine zSR (zp1 rfl (qb ?_))
   obtain rfl := qh hF; replace hF := hK1
   exact qt qc h hF ⟨rfl, trivial⟩
  refine zKER (zp2 rfl (qb ?_))
  replace h := h.pick [] rfl
  exact qz m1 [(1, _), (12, _), (13, _), (14, _)] (Nat.lt_succ_self m1) ⟨rfl, rfl, rfl, rfl, trivial⟩ ⟨_, hF, rfl, h⟩
 refine qG rfl ?_
 obtain rfl := qh hF; replace hF := hK1
 exact zSR (zp1 rfl (qb (qt qc h hF ⟨rfl, trivial⟩)))

def qd1 (a_e : qe) : Nat → Int → Int → Option (Int × Int)
 | 0, _, _ => none
 | n + 1, i1, i2 =>
  bif decide (i2 < ((3 : Nat) : Int)) then
   (idx ([a_e.Through, a_e.To, a_e.From] : List (List Int)) i2).bind fun y1 =>
   bif decide ((y1.length : Int) > 0) then
    (shlS 1 i2).bind fun y2 =>
    qd1 a_e n (W64 (i1 + y2)) (W64 (i2 + 1))
   else
    qd1 a_e n i1 (W64 (i2 + 1))
  else
   some (i1, i2)

def qhs (n : Nat) (a_e : qe) : Option Int :=
 (qd1 a_e n 0 0).bind fun o => match o with
 | (i1, _) =>
  some i1

theorem qlB {n : Nat} {w : World} {a_e : qe} {cs1 : List Value} (ha1 : GoT.R w (old w) a_e cs1) {r : Int} (hF : qhs n a_e = some r) : RetV Tryz.prog 128 [GoT.v qe cs1] w r := by
 obtain ⟨p1, k1, p2, k2, p3, k3, rfl, s1, s2, s3⟩ := qF ha1
 refine qf Tryz.func128 rfl (m := 28) rfl rfl (fun h => ?_)
 rw [qhs] at hF
 refine zSR (qS h rfl rfl ?_)
 intro w1 bb1 h
 refine zp1 rfl (zNSR (zp1 rfl (zNSSR (zp1 rfl (zl 0 3 h rfl (zp1 rfl ?_))))))
 refine zl 0 4 h rfl (zp1 rfl (zl 0 2 h rfl (qkD qc [.tmp 7, .tmp 9, .tmp 11] _ ([a_e.Through, a_e.To, a_e.From] : List (List Int)) h rfl rfl rfl rfl rfl rfl rfl rfl rfl ⟨⟨_, _, rfl, s2⟩, ⟨_, _, rfl, s3⟩, ⟨_, _, rfl, s1⟩, trivial⟩ rfl ?_)))
 intro w2 p4 S1 h
 refine zp2 rfl (qb ?_)
 obtain ⟨o1, hF, hK1⟩ := qd hF
 refine qy ?_
 replace h := h.pick [0] rfl
 refine qW [(3, _), (12, _), (13, _), (14, _)] ⟨rfl, rfl, rfl, rfl, trivial⟩ ?_
 refine qI (fun m e w' => ∃ (i1 : Int) (i2 : Int), qd1 a_e m i1 i2 = some o1 ∧ e = [(3, .int .i64 i1), (12, .slice p4 3 3), (13, .int .i64 ((3 : Nat) : Int)), (14, .int .i64 i2)] ∧ SH w w' [Ch.rowD w S1 (([a_e.Through, a_e.To, a_e.From] : List (List Int)) : List (List Int)) p4 3]) n ⟨_, _, hF, rfl, h⟩ ?_
 rintro m1 e1 w3 ⟨i1, i2, hF, rfl, h⟩
 rcases m1 with _ | m1
 ·rw [qd1] at hF
  cases hF
 rw [qd1] at hF
 refine zSR (zp1 rfl (zNS ?_))
 refine qp rfl hF ?_ ?_ <;> intro hF
 ·refine zKSBSR (zp1 rfl ?_)
  obtain ⟨y1, hy1, hF⟩ := qd hF
  have he1 := qg hy1
  obtain ⟨b1, o_1, q1, cs2, hp1, hq1, -, hr1, hc2⟩ := h.atD 0 rfl hy1
  obtain ⟨p5, k4, rfl, s4⟩ := hr1
  refine zxe hp1 hq1 he1 rfl (zc 0 hc2 rfl (zp2 rfl (zNSR (zp3 rfl (qb ?_)))))
  refine qp rfl hF ?_ ?_ <;> intro hF
  ·refine qx (zp2 rfl ?_)
   obtain ⟨y2, hx1, hF⟩ := qd hF
   obtain ⟨g1, hx1⟩ := qkl hx1
   refine r_v (qqe g1 rfl rfl) rfl ?_
   rw [hx1]
   exact zp2 rfl (zNER (zp2 rfl (qb (qz m1 [(3, _), (12, _), (13, _), (14, _)] (Nat.lt_succ_self m1) ⟨rfl, rfl, rfl, rfl, trivial⟩ ⟨_, _, hF, rfl, h⟩))))
  exact zKER (zp2 rfl (qb (qz m1 [(3, _), (12, _), (13, _), (14, _)] (Nat.lt_succ_self m1) ⟨rfl, rfl, rfl, rfl, trivial⟩ ⟨_, _, hF, rfl, h⟩)))
 refine qG rfl ?_
 obtain rfl := qh hF; replace hF := hK1
 exact zSR (zp2 rfl (qb (qar qc h hF ⟨rfl, trivial⟩)))

def qaJ (list : (List qe)) (kind : Int) (greatest : Bool) : Nat → Int → Int → Int → Option (Int × Int × Int)
 | 0, _, _, _ => none
 | n + 1, i1, i2, i3 =>
  bif decide (i3 < (list.length : Int)) then
   (idx list i3).bind fun y1 =>
   bif (y1.Kind != kind) then
    qaJ list kind greatest n i1 i2 (W64 (i3 + 1))
   else
    (qhs n y1).bind fun r1 =>
    bif decide (r1 > i1) then
     qaJ list kind greatest n r1 y1.Value (W64 (i3 + 1))
    else
     bif (r1 == i1) then
      bif ((decide (y1.Value > i2)) == greatest) then
       qaJ list kind greatest n r1 y1.Value (W64 (i3 + 1))
      else
       qaJ list kind greatest n i1 i2 (W64 (i3 + 1))
     else
      qaJ list kind greatest n i1 i2 (W64 (i3 + 1))
  else
   some (i1, i2, i3)

def qdW (n : Nat) (list : (List qe)) (kind : Int) (greatest : Bool) : Option Int :=
 (qaJ list kind greatest n (-1) (-1) 0).bind fun o => match o with
 | (_, i2, _) =>
  some i2

theorem qgF {n : Nat} {w : World} {list : (List qe)} {kind : Int} {greatest : Bool} {cs1 : List Value} (ha1 : GoT.R w (old w) list cs1) {r : Int} (hF : qdW n list kind greatest = some r) : RetV Tryz.prog 89 [GoT.v (List qe) cs1, .int .i64 kind, .bool greatest] w r := by
 obtain ⟨p1, k1, rfl, s1⟩ := ha1
 refine qf Tryz.func89 rfl (m := 45) rfl rfl (fun h => ?_)
 rw [qdW] at hF
 refine zSR (zp1 rfl (zNSR (zp2 rfl (zNSSR ?_))))
 refine zp3 rfl (qb ?_)
 obtain ⟨o1, hF, hK1⟩ := qd hF
 refine qy (qW [(1, _), (2, _), (7, _), (8, _), (12, _), (13, _), (14, _)] ⟨rfl, rfl, rfl, rfl, rfl, rfl, rfl, trivial⟩ ?_)
 refine qI (fun m e w' => ∃ (i1 : Int) (i2 : Int) (i3 : Int), qaJ list kind greatest m i1 i2 i3 = some o1 ∧ e = [(1, .int .i64 kind), (2, .bool greatest), (7, .int .i64 i1), (8, .int .i64 i2), (12, .slice p1 list.length k1), (13, .int .i64 (list.length : Int)), (14, .int .i64 i3)] ∧ SH w w' []) n ⟨_, _, _, hF, rfl, h⟩ ?_
 rintro m1 e1 w1 ⟨i1, i2, i3, hF, rfl, h⟩
 rcases m1 with _ | m1
 ·rw [qaJ] at hF
  cases hF
 rw [qaJ] at hF
 refine zSR (zp1 rfl (zNS ?_))
 refine qp rfl hF ?_ ?_ <;> intro hF
 ·refine zKSBSR ?_
  obtain ⟨y1, hy1, hF⟩ := qd hF
  have he1 := qg hy1
  obtain ⟨b1, o_1, q1, cs2, hp1, hq1, -, hr1, hc2⟩ := s1.at hy1
  obtain ⟨p2, k2, p3, k3, p4, k4, rfl, s2, s3, s4⟩ := qF hr1
  refine zxe hp1 hq1 he1 rfl (zc 0 (hc2.below h.below) rfl (qY qc h rfl rfl rfl ?_))
  intro w2 bb1 h
  refine zs 0 h rfl ?_
  intro w3 h
  refine zNSSR (zp1 rfl (zl 0 0 h rfl (zp2 rfl (qb ?_))))
  refine qp rfl hF ?_ ?_ <;> intro hF
  ·refine qG rfl (qx (zp2 rfl (qb ?_)))
   replace h := h.pick [] rfl
   exact qz m1 [(1, _), (2, _), (7, _), (8, _), (12, _), (13, _), (14, _)] (Nat.lt_succ_self m1) ⟨rfl, rfl, rfl, rfl, rfl, rfl, rfl, trivial⟩ ⟨_, _, _, hF, rfl, h⟩
  refine zKSR (zl 0 0 h rfl ?_)
  obtain ⟨r1, hr2, hF⟩ := qd hF
  refine qP r1 h call128 (qlB (qbd y1 (h.oldS s2) (h.oldS s3) (h.oldS s4)) hr2) rfl rfl rfl rfl ?_
  intro w4 h
  refine zp1 rfl (zNSR (zp4 rfl ?_))
  by_cases hc4 : (decide (r1 > i1)) = true
  ·replace hF := bifT hc4 hF
   refine qC hc4 (t := 27) rfl (zn5 rfl (zn5 rfl (zn1 rfl ?_)))
   refine zp1 rfl (qb (qej rfl rfl ?_))
   refine qcf rfl (by kernel_rfl) ?_
   refine zd2 rfl ?_
   refine zdl 0 1 h rfl ?_
   refine zd2 rfl ?_
   refine qbc (fun w5 hb => ?_)
   replace h := h.ext hb
   clear hb
   refine qe1 (qx (zp2 rfl (qb ?_)))
   replace h := h.pick [] rfl
   exact qz m1 [(1, _), (2, _), (7, _), (8, _), (12, _), (13, _), (14, _)] (Nat.lt_succ_self m1) ⟨rfl, rfl, rfl, rfl, rfl, rfl, rfl, trivial⟩ ⟨_, _, _, hF, rfl, h⟩
  replace hc4 := zb hc4
  replace hF := bifF hc4 hF
  refine qB hc4 (t := 27) rfl (qa rfl (zp1 rfl (qa rfl (zp1 rfl (qa rfl (zp1 rfl (qa rfl (zp1 rfl ?_))))))))
  by_cases hc5 : (r1 == i1) = true
  ·replace hF := bifT hc5 hF
   refine qC hc5 (t := 31) rfl (qa rfl (zp1 rfl (qa rfl (zl 0 1 h rfl (qa rfl (zp1 rfl (qa rfl (zp1 rfl (qa rfl (zp1 rfl (qa rfl ?_)))))))))))
   refine zp1 rfl (qa rfl (zp2 rfl (qb ?_)))
   refine qp rfl hF ?_ ?_ <;> intro hF
   ·refine qcf rfl (by kernel_rfl) ?_
    refine zd2 rfl ?_
    refine zdl 0 1 h rfl ?_
    refine zd2 rfl ?_
    refine qbc (fun w6 hb => ?_)
    replace h := h.ext hb
    clear hb
    refine qe1 (qx (zp2 rfl (qb ?_)))
    replace h := h.pick [] rfl
    exact qz m1 [(1, _), (2, _), (7, _), (8, _), (12, _), (13, _), (14, _)] (Nat.lt_succ_self m1) ⟨rfl, rfl, rfl, rfl, rfl, rfl, rfl, trivial⟩ ⟨_, _, _, hF, rfl, h⟩
   refine zKER (zp2 rfl (qb ?_))
   replace h := h.pick [] rfl
   exact qz m1 [(1, _), (2, _), (7, _), (8, _), (12, _), (13, _), (14, _)] (Nat.lt_succ_self m1) ⟨rfl, rfl, rfl, rfl, rfl, rfl, rfl, trivial⟩ ⟨_, _, _, hF, rfl, h⟩
  replace hc5 := zb hc5
  replace hF := bifF hc5 hF
  refine qB hc5 (t := 31) rfl (zn5 rfl (zn1 rfl (qa rfl (zp2 rfl (qb (qd6 rfl rfl ?_))))))
  refine zKER (zp2 rfl (qb ?_))
  replace h := h.pick [] rfl
  exact qz m1 [(1, _), (2, _), (7, _), (8, _), (12, _), (13, _), (14, _)] (Nat.lt_succ_self m1) ⟨rfl, rfl, rfl, rfl, rfl, rfl, rfl, trivial⟩ ⟨_, _, _, hF, rfl, h⟩
 refine qG rfl ?_
 obtain rfl := qh hF; replace hF := hK1
 exact zSR (zp2 rfl (qb (qar qc h hF ⟨rfl, trivial⟩)))

def qf2 (_ : Nat) (a_e : qe) : Option Bool :=
 some (a_e.Kind == 1)

theorem qjR {n : Nat} {w : World} {a_e : qe} {cs1 : List Value} (ha1 : GoT.R w (old w) a_e cs1) {r : Bool} (hF : qf2 n a_e = some r) : RetV Tryz.prog 91 [GoT.v qe cs1] w r := by
 obtain ⟨p1, k1, p2, k2, p3, k3, rfl, s1, s2, s3⟩ := qF ha1
 refine qf Tryz.func91 rfl (m := 6) rfl rfl (fun h => ?_)
 rw [qf2] at hF
 refine zSR (qS h rfl rfl ?_)
 intro w1 bb1 h
 exact zp1 rfl (zNSR (zp1 rfl (zl 0 0 h rfl (zp2 rfl (qb (qt qc h hF ⟨rfl, trivial⟩))))))

def qL (s : (List qe)) : Nat → Int → Option (Flow Int Int)
 | 0, _ => none
 | n + 1, i1 =>
  bif decide (i1 < (s.length : Int)) then
   (idx s i1).bind fun y1 =>
   (qf2 n y1).bind fun r1 =>
   bif r1 then
    some (.ret i1)
   else
    qL s n (W64 (i1 + 1))
  else
   some (.nxt i1)

def qau (n : Nat) (s : (List qe)) : Option Int :=
 (qL s n 0).bind fun o => match o with
 | .ret r => some r
 | .nxt _ =>
  some (-1)

theorem qdN {n : Nat} {w : World} {s : (List qe)} {cs1 : List Value} (ha1 : GoT.R w (old w) s cs1) {r : Int} (hF : qau n s = some r) : RetV Tryz.prog 129 [GoT.v (List qe) cs1, .func (.func 91) #[] #[]] w r := by
 obtain ⟨p1, k1, rfl, s1⟩ := ha1
 refine qf Tryz.func129 rfl (m := 19) rfl rfl (fun h => ?_)
 rw [qau] at hF
 refine zSR (zp1 rfl (zNSSR (zp3 rfl (qb ?_))))
 obtain ⟨o1, hF, hK1⟩ := qd hF
 refine qy (qW [(0, _), (1, _), (7, _), (8, _)] ⟨rfl, rfl, rfl, rfl, trivial⟩ ?_)
 refine qI (fun m e w' => ∃ (i1 : Int), qL s m i1 = some o1 ∧ e = [(0, .slice p1 s.length k1), (1, .func (.func 91) #[] #[]), (7, .int .i64 (s.length : Int)), (8, .int .i64 i1)] ∧ SH w w' []) n ⟨_, hF, rfl, h⟩ ?_
 rintro m1 e1 w1 ⟨i1, hF, rfl, h⟩
 rcases m1 with _ | m1
 ·rw [qL] at hF
  cases hF
 rw [qL] at hF
 refine zSR (zp1 rfl (zNS ?_))
 refine qp rfl hF ?_ ?_ <;> intro hF
 ·refine zKSBSR (zp2 rfl (zNSR (zp2 rfl ?_)))
  refine zp1 rfl ?_
  obtain ⟨y1, hy1, hF⟩ := qd hF
  have he1 := qg hy1
  obtain ⟨b1, o_1, q1, cs2, hp1, hq1, -, hr1, hc2⟩ := s1.at hy1
  obtain ⟨p2, k2, p3, k3, p4, k4, rfl, s2, s3, s4⟩ := qF hr1
  refine zxe hp1 hq1 he1 rfl (zc 0 (hc2.below h.below) rfl ?_)
  obtain ⟨r1, hr2, hF⟩ := qd hF
  refine qm r1 h call91 (qjR (qbd y1 (h.oldS s2) (h.oldS s3) (h.oldS s4)) hr2) rfl rfl rfl rfl ?_
  intro w2 h
  refine qb ?_
  refine qp rfl hF ?_ ?_ <;> intro hF
  ·refine zSR (zp2 rfl (qb ?_))
   obtain rfl := qh hF; replace hF := hK1
   exact qar qc h hF ⟨rfl, trivial⟩
  exact zKER (zp2 rfl (qb (qz m1 [(0, _), (1, _), (7, _), (8, _)] (Nat.lt_succ_self m1) ⟨rfl, rfl, rfl, rfl, trivial⟩ ⟨_, hF, rfl, h⟩)))
 refine qG rfl ?_
 obtain rfl := qh hF; replace hF := hK1
 exact zSR (zp1 rfl (qb (qar qc h hF ⟨rfl, trivial⟩)))

def qZ (n : Nat) (s : (List qe)) : Option Bool :=
 (qau n s).bind fun r1 =>
 some (decide (r1 ≥ 0))

theorem qdx {n : Nat} {w : World} {s : (List qe)} {cs1 : List Value} (ha1 : GoT.R w (old w) s cs1) {r : Bool} (hF : qZ n s = some r) : RetV Tryz.prog 90 [GoT.v (List qe) cs1, .func (.func 91) #[] #[]] w r := by
 obtain ⟨p1, k1, rfl, s1⟩ := ha1
 refine qf Tryz.func90 rfl (m := 9) rfl rfl (fun h => ?_)
 rw [qZ] at hF
 refine zSR (zp1 rfl (zNSR (zp2 rfl ?_)))
 obtain ⟨r1, hr1, hF⟩ := qd hF
 refine qP r1 h call129 (qdN ⟨_, _, rfl, (h.oldS s1)⟩ hr1) rfl rfl rfl rfl ?_
 intro w1 h
 exact zp2 rfl (qb (qt qc h hF ⟨rfl, trivial⟩))

def qby (list : (List qe)) (tag : (List Int)) (a_end : Int) : Nat → (List qe) → Int → Option ((List qe) × Int)
 | 0, _, _ => none
 | n + 1, x1, i1 =>
  bif decide (i1 < (list.length : Int)) then
   (idx list i1).bind fun y1 =>
   (idx tag i1).bind fun y2 =>
   (qcJ n y1 y2 a_end).bind fun r1 =>
   bif r1 then
    (appS x1 ([y1] : List qe)).bind fun x2 =>
    qby list tag a_end n x2 (W64 (i1 + 1))
   else
    qby list tag a_end n x1 (W64 (i1 + 1))
  else
   some (x1, i1)

def qfP (n : Nat) (list : (List qe)) (tag : (List Int)) (a_end : Int) : Option qR :=
 (qby list tag a_end n ([] : List qe) 0).bind fun o => match o with
 | (x1, _) =>
  (qdW n x1 3 false).bind fun r2 =>
  (qdW n x1 4 true).bind fun r3 =>
  (qZ n x1).bind fun r4 =>
  (qdW n x1 2 false).bind fun r5 =>
  bif decide (r5 > 0) then
   bif (r2 == (-1)) then
    some (⟨r4, r5, r2, r3⟩ : qR)
   else
    some (⟨r4, 1, r2, r3⟩ : qR)
  else
   some (⟨r4, 1, r2, r3⟩ : qR)

theorem qkn {n : Nat} {w : World} {list : (List qe)} {tag : (List Int)} {a_end : Int} {cs1 : List Value} (ha1 : GoT.R w (old w) list cs1) {cs2 : List Value} (ha2 : GoT.R w (old w) tag cs2) {r : qR} (hF : qfP n list tag a_end = some r) : RetV Tryz.prog 50 [GoT.v (List qe) cs1, GoT.v (List Int) cs2, .int .i64 a_end] w r := by
 obtain ⟨p1, k1, rfl, s1⟩ := ha1
 obtain ⟨p2, k2, rfl, s2⟩ := ha2
 refine qf Tryz.func50 rfl (m := 51) rfl rfl (fun h => ?_)
 rw [qfP] at hF
 refine zSR (qY qc h rfl rfl rfl ?_)
 intro w1 bb1 h
 refine zNSR (zp1 rfl (zNSSR (zp3 rfl (qb ?_))))
 replace h := SH.nilD (α := qe) h
 obtain ⟨o1, hF, hK1⟩ := qd hF
 refine qy (qW [(1, _), (2, _), (6, _), (7, _), (12, _), (13, _), (14, _)] ⟨rfl, rfl, rfl, rfl, rfl, rfl, rfl, trivial⟩ ?_)
 refine qI (fun m e w' => ∃ (S1 : Nat → Prop) (p3 : Option Addr) (k3 : Nat) (x1 : (List qe)) (i1 : Int), qby list tag a_end m x1 i1 = some o1 ∧ e = [(1, .slice p2 tag.length k2), (2, .int .i64 a_end), (6, .pointer (some ⟨bb1, 0, none⟩)), (7, .slice p3 x1.length k3), (12, .slice p1 list.length k1), (13, .int .i64 (list.length : Int)), (14, .int .i64 i1)] ∧ SH w w' [Ch.rowD w S1 (x1 : List qe) p3 k3, Ch.box bb1 [.bool false, .int .i64 0, .int .i64 0, .int .i64 0] 38]) n ⟨_, _, _, _, _, hF, rfl, h⟩ ?_
 rintro m1 e1 w2 ⟨S1, p3, k3, x1, i1, hF, rfl, h⟩
 rcases m1 with _ | m1
 ·rw [qby] at hF
  cases hF
 rw [qby] at hF
 refine zSR (zp1 rfl (zNS ?_))
 refine qp rfl hF ?_ ?_ <;> intro hF
 ·refine zKSBSR (zp1 rfl ?_)
  obtain ⟨y1, hy1, hF⟩ := qd hF
  have he1 := qg hy1
  obtain ⟨b1, o_1, q1, cs3, hp1, hq1, -, hr1, hc2⟩ := s1.at hy1
  obtain ⟨p4, k4, p5, k5, p6, k6, rfl, s3, s4, s5⟩ := qF hr1
  refine zxe hp1 hq1 he1 rfl (zc 0 (hc2.below h.below) rfl (qY qc h rfl rfl rfl ?_))
  intro w3 bb2 h
  refine zp1 rfl (zs 0 h rfl ?_)
  intro w4 h
  replace h : SH _ _ [Ch.box bb2 [.int .i64 y1.Kind, .int .i64 y1.Value, .slice p4 y1.From.length k4, .slice p5 y1.Through.length k5, .slice p6 y1.To.length k6] 87, Ch.rowD w S1 (x1 : List qe) p3 k3, Ch.box bb1 [.bool false, .int .i64 0, .int .i64 0, .int .i64 0] 38] := h
  refine zNS ?_
  refine qcf rfl (by kernel_rfl) ?_
  refine zdl 0 0 h rfl ?_
  refine zd2 rfl ?_
  obtain ⟨y2, hy2, hF⟩ := qd hF
  have he2 := qg hy2
  obtain ⟨b2, o_2, q2, cs4, hp2, hq2, -, hr2, hc3⟩ := s2.at hy2
  obtain rfl := hr2
  refine zdxe hp2 hq2 he2 rfl ?_
  refine zdc 0 (hc3.below h.below) rfl ?_
  refine zd1 rfl ?_
  obtain ⟨r1, hr3, hF⟩ := qd hF
  refine qb4 r1 (vsB _) call88 (fun _ hb => qh3 (qbd y1 ((h.ext hb).oldS s3) ((h.ext hb).oldS s4) ((h.ext hb).oldS s5)) hr3) rfl rfl rfl rfl ?_
  refine qbc (fun w5 hb => ?_)
  replace h := h.ext hb
  clear hb
  refine qp rfl hF ?_ ?_ <;> intro hF
  ·refine qx (zp1 rfl (zl 0 0 h rfl (qkD qc [.tmp 27] _ ([y1] : List qe) h rfl rfl rfl rfl rfl rfl rfl rfl rfl ⟨(qbd y1 s3 s4 s5), trivial⟩ rfl ?_)))
   intro w6 p7 S2 h
   obtain ⟨x2, hx1, hF⟩ := qd hF
   obtain ⟨g1, hx1⟩ := qbl hx1
   replace h := h.pick [0, 2, 1, 3] rfl
   refine qq3 qc h rfl rfl rfl rfl rfl rfl rfl rfl rfl rfl rfl g1 hx1 rfl ?_
   intro w7 p8 k7 S3 h
   refine zp1 rfl (zNER (zp2 rfl (qb ?_)))
   replace h := h.pick [0, 2] rfl
   exact qz m1 [(1, _), (2, _), (6, _), (7, _), (12, _), (13, _), (14, _)] (Nat.lt_succ_self m1) ⟨rfl, rfl, rfl, rfl, rfl, rfl, rfl, trivial⟩ ⟨_, _, _, _, _, hF, rfl, h⟩
  refine zKER (zp2 rfl (qb ?_))
  replace h := h.pick [1, 2] rfl
  exact qz m1 [(1, _), (2, _), (6, _), (7, _), (12, _), (13, _), (14, _)] (Nat.lt_succ_self m1) ⟨rfl, rfl, rfl, rfl, rfl, rfl, rfl, trivial⟩ ⟨_, _, _, _, _, hF, rfl, h⟩
 refine qG rfl ?_
 obtain rfl := qh hF; replace hF := hK1
 refine zSR (zp1 rfl ?_)
 obtain ⟨r2, hr4, hF⟩ := qd hF
 refine qP r2 h call89 (qgF ⟨_, _, rfl, (h.rowS 0 rfl)⟩ hr4) rfl rfl rfl rfl ?_
 intro w8 h
 refine zp1 rfl ?_
 obtain ⟨r3, hr5, hF⟩ := qd hF
 refine qP r3 h call89 (qgF ⟨_, _, rfl, (h.rowS 0 rfl)⟩ hr5) rfl rfl rfl rfl ?_
 intro w9 h
 refine r_v (qeP qc [1, 2, 3] [.const (.int .i64 (1)), .tmp 32, .tmp 34] rfl rfl rfl rfl rfl rfl rfl rfl) rfl (qY qc h rfl rfl rfl ?_)
 intro w10 bb3 h
 refine zs 0 h rfl ?_
 intro w11 h
 refine zNSR (zp1 rfl ?_)
 obtain ⟨r4, hr6, hF⟩ := qd hF
 refine qm r4 h call90 (qdx ⟨_, _, rfl, (h.rowS 1 rfl)⟩ hr6) rfl rfl rfl rfl ?_
 intro w12 h
 refine zp1 rfl (zs 0 h rfl ?_)
 intro w13 h
 replace h : SH _ _ [Ch.box bb3 [.bool r4, .int .i64 1, .int .i64 r2, .int .i64 r3] 38, Ch.rowD w S1 (x1 : List qe) p3 k3, Ch.box bb1 [.bool false, .int .i64 0, .int .i64 0, .int .i64 0] 38] := h
 refine zNSSR (zp1 rfl ?_)
 obtain ⟨r5, hr7, hF⟩ := qd hF
 refine qP r5 h call89 (qgF ⟨_, _, rfl, (h.rowS 1 rfl)⟩ hr7) rfl rfl rfl rfl ?_
 intro w14 h
 refine zp1 rfl (zNSR (zp3 rfl ?_))
 by_cases hc5 : (decide (r5 > 0)) = true
 ·replace hF := bifT hc5 hF
  refine qC hc5 (t := 43) rfl (qa rfl (zp1 rfl (qa rfl (zl 0 2 h rfl (qa rfl (zp2 rfl (qb ?_)))))))
  refine qp rfl hF ?_ ?_ <;> intro hF
  ·refine qx (zp2 rfl (zs 0 h rfl ?_))
   intro w15 h
   refine zNSR (zl 0 0 h rfl (zs 2 h rfl ?_))
   intro w16 h
   replace h : SH _ _ [Ch.box bb3 [.bool r4, .int .i64 r5, .int .i64 r2, .int .i64 r3] 38, Ch.rowD w S1 (x1 : List qe) p3 k3, Ch.box bb1 [.bool r4, .int .i64 r5, .int .i64 r2, .int .i64 r3] 38] := h
   refine qb ?_
   obtain rfl := qh hF
   exact qal qc (ρ := qR) [GoT.v qR [.bool r4, .int .i64 r5, .int .i64 r2, .int .i64 r3]] h ⟨⟨_, _, _, rfl, rfl, h.box 2 rfl, rfl⟩, trivial⟩ (PV.done h (qaq (qaz (S := fun _ => False) (qdi (⟨r4, r5, r2, r3⟩ : qR)))))
  refine zKSR (zl 0 0 h rfl (zs 2 h rfl ?_))
  intro w17 h
  refine qb ?_
  obtain rfl := qh hF
  exact qal qc (ρ := qR) [GoT.v qR [.bool r4, .int .i64 1, .int .i64 r2, .int .i64 r3]] h ⟨⟨_, _, _, rfl, rfl, h.box 2 rfl, rfl⟩, trivial⟩ (PV.done h (qaq (qaz (S := fun _ => False) (qdi (⟨r4, 1, r2, r3⟩ : qR)))))
 replace hc5 := zb hc5
 replace hF := bifF hc5 hF
 refine qB hc5 (t := 43) rfl (zn3 rfl (zp1 rfl (qb (qd6 rfl rfl (zKSR (zl 0 0 h rfl (zs 2 h rfl ?_)))))))
 intro w18 h
 replace h : SH _ _ [Ch.box bb3 [.bool r4, .int .i64 1, .int .i64 r2, .int .i64 r3] 38, Ch.rowD w S1 (x1 : List qe) p3 k3, Ch.box bb1 [.bool r4, .int .i64 1, .int .i64 r2, .int .i64 r3] 38] := h
 refine qb ?_
 obtain rfl := qh hF
 exact qal qc (ρ := qR) [GoT.v qR [.bool r4, .int .i64 1, .int .i64 r2, .int .i64 r3]] h ⟨⟨_, _, _, rfl, rfl, h.box 2 rfl, rfl⟩, trivial⟩ (PV.done h (qaq (qaz (S := fun _ => False) (qdi (⟨r4, 1, r2, r3⟩ : qR)))))

def qed (_ : Nat) (a_e : qe) : Option Int :=
 (
  bif decide ((a_e.From.length : Int) > 0) then
   some (W64 (0 + 4))
  else
   some 0).bind fun i1 =>
 bif decide ((a_e.To.length : Int) > 0) then
  bif decide ((a_e.Through.length : Int) > 0) then
   some (W64 ((W64 (i1 + 2)) + 1))
  else
   some (W64 (i1 + 2))
 else
  bif decide ((a_e.Through.length : Int) > 0) then
   some (W64 (i1 + 1))
  else
   some i1

theorem qgu {n : Nat} {w : World} {a_e : qe} {cs1 : List Value} (ha1 : GoT.R w (old w) a_e cs1) {r : Int} (hF : qed n a_e = some r) : RetV Tryz.prog 146 [GoT.v qe cs1] w r := by
 obtain ⟨p1, k1, p2, k2, p3, k3, rfl, s1, s2, s3⟩ := qF ha1
 refine qf Tryz.func146 rfl (m := 23) rfl rfl (fun h => ?_)
 rw [qed] at hF
 refine zSR (qS h rfl rfl ?_)
 intro w1 bb1 h
 refine zp1 rfl (zNSR (zp1 rfl (zNSSR (zp1 rfl (zl 0 2 h rfl (zp1 rfl ?_))))))
 refine zp1 rfl (qb ?_)
 obtain ⟨KF1, hKF1, o1, hF, hK1⟩ := bindE hF
 refine qdS (fun e w' => ∃ (i1 : Int), KF1 i1 = some r ∧ e = [(1, .pointer (some ⟨bb1, 0, none⟩)), (3, .int .i64 i1)] ∧ SH w w' [Ch.box bb1 [.int .i64 a_e.Kind, .int .i64 a_e.Value, .slice p1 a_e.From.length k1, .slice p2 a_e.Through.length k2, .slice p3 a_e.To.length k3] 87]) ?_ ?_
 ·refine qp rfl hF ?_ ?_ <;> intro hF
  ·refine qx (zp3 rfl (qb ?_))
   obtain rfl := qh hF
   exact qw [(1, _), (3, _)] ⟨rfl, rfl, trivial⟩ ⟨_, hK1, rfl, h⟩
  refine qdQ ?_
  obtain rfl := qh hF
  exact qw [(1, _), (3, _)] ⟨rfl, rfl, trivial⟩ ⟨_, hK1, rfl, h⟩
 rintro e1 w2 ⟨i1, hF, rfl, h⟩
 subst hKF1
 refine zSSR (zp1 rfl (zl 0 4 h rfl (zp2 rfl (qb ?_))))
 refine qp rfl hF ?_ ?_ <;> intro hF
 ·refine qx (zp3 rfl (zNSSR (zp1 rfl (zl 0 3 h rfl (zp2 rfl ?_)))))
  refine qb ?_
  refine qp rfl hF ?_ ?_ <;> intro hF
  ·exact qx (zp3 rfl (zNSR (zp2 rfl (qb (qar qc h hF ⟨rfl, trivial⟩)))))
  exact zKSR (zp2 rfl (qb (qar qc h hF ⟨rfl, trivial⟩)))
 refine zKSSR (zp1 rfl (zl 0 3 h rfl (zp2 rfl (qb ?_))))
 refine qp rfl hF ?_ ?_ <;> intro hF
 ·exact qx (zp3 rfl (zNSR (zp2 rfl (qb (qar qc h hF ⟨rfl, trivial⟩)))))
 exact zKSR (zp2 rfl (qb (qar qc h hF ⟨rfl, trivial⟩)))

def qbu (a_0 : (List qe)) (a_1 : (List Bool)) (a_2 : Int) : Nat → Int → Int → Int → Option (Int × Int × Int)
 | 0, _, _, _ => none
 | n + 1, i1, i2, i3 =>
  bif decide (i3 < (a_0.length : Int)) then
   (
    (idx a_1 i3).bind fun y7 =>
    bif (!y7) then
     some true
    else
     (idx a_0 i3).bind fun y8 =>
     bif (y8.Kind != a_2) then
      some true
     else
      (idx a_0 i3).bind fun y9 =>
      (qed n y9).bind fun r4 =>
      some (decide (r4 < i1))).bind fun b1 =>
   bif b1 then
    qbu a_0 a_1 a_2 n i1 i2 (W64 (i3 + 1))
   else
    (idx a_0 i3).bind fun y1 =>
    (
     bif (a_2 == 4) then
      (idx a_0 i3).bind fun y6 =>
      some (decide (y6.Value > i2))
     else
      some (decide (y1.Value < i2))).bind fun b3 =>
    (
     (idx a_0 i3).bind fun y5 =>
     (qed n y5).bind fun r3 =>
     bif decide (r3 > i1) then
      some true
     else
      some b3).bind fun b4 =>
    bif b4 then
     (idx a_0 i3).bind fun y2 =>
     (idx a_0 i3).bind fun y3 =>
     (qed n y3).bind fun r1 =>
     qbu a_0 a_1 a_2 n r1 y2.Value (W64 (i3 + 1))
    else
     (idx a_0 i3).bind fun y4 =>
     (qed n y4).bind fun r2 =>
     qbu a_0 a_1 a_2 n r2 i2 (W64 (i3 + 1))
  else
   some (i1, i2, i3)

def qeo (n : Nat) (a_0 : (List qe)) (a_1 : (List Bool)) (a_2 : Int) : Option Int :=
 (qbu a_0 a_1 a_2 n (-1) (-1) 0).bind fun o => match o with
 | (_, i2, _) =>
  some i2

theorem qf0 {n : Nat} {w : World} {a_0 : (List qe)} {a_1 : (List Bool)} {a_2 : Int} {cs1 : List Value} (ha1 : GoT.R w (old w) a_0 cs1) {cs2 : List Value} (ha2 : GoT.R w (old w) a_1 cs2) {r : Int} (hF : qeo n a_0 a_1 a_2 = some r) : RetV Tryz.prog 107 [GoT.v (List qe) cs1, GoT.v (List Bool) cs2, .int .i64 a_2] w r := by
 obtain ⟨p1, k1, rfl, s1⟩ := ha1
 obtain ⟨p2, k2, rfl, s2⟩ := ha2
 refine qf Tryz.func107 rfl (m := 77) rfl rfl (fun h => ?_)
 rw [qeo] at hF
 refine zSR (zp1 rfl (zNSR (zp1 rfl (zNSR (zp1 rfl (qb ?_))))))
 refine zSSR (zp1 rfl (qb ?_))
 obtain ⟨o1, hF, hK1⟩ := qd hF
 refine qy (qW [(0, _), (1, _), (2, _), (7, _), (8, _), (9, _)] ⟨rfl, rfl, rfl, rfl, rfl, rfl, trivial⟩ ?_)
 refine qI (fun m e w' => ∃ (i1 : Int) (i2 : Int) (i3 : Int), qbu a_0 a_1 a_2 m i1 i2 i3 = some o1 ∧ e = [(0, .slice p1 a_0.length k1), (1, .slice p2 a_1.length k2), (2, .int .i64 a_2), (7, .int .i64 i1), (8, .int .i64 i2), (9, .int .i64 i3)] ∧ SH w w' []) n ⟨_, _, _, hF, rfl, h⟩ ?_
 rintro m1 e1 w1 ⟨i1, i2, i3, hF, rfl, h⟩
 rcases m1 with _ | m1
 ·rw [qbu] at hF
  cases hF
 rw [qbu] at hF
 refine zSSR (zp4 rfl (qb ?_))
 refine qp rfl hF ?_ ?_ <;> intro hF
 ·refine zKSB (zSS ?_)
  obtain ⟨KF3, hKF3, o4, hF, hK4⟩ := bindE hF
  refine qdS (fun e w' => ∃ (b1 : Bool), KF3 b1 = some o1 ∧ e = [(0, .slice p1 a_0.length k1), (1, .slice p2 a_1.length k2), (2, .int .i64 a_2), (7, .int .i64 i1), (8, .int .i64 i2), (9, .int .i64 i3), (39, .bool b1)] ∧ SH w w' []) ?_ ?_
  ·refine qx (zp2 rfl ?_)
   obtain ⟨y7, hy7, hF⟩ := qd hF
   have he7 := qg hy7
   obtain ⟨b10, o_7, q7, cs9, hp7, hq7, -, hr10, hc12⟩ := s2.at hy7
   obtain rfl := hr10
   refine zxe hp7 hq7 he7 rfl (zc 0 (hc12.below h.below) rfl (zp2 rfl ?_))
   by_cases hc13 : (!y7) = true
   ·replace hF := bifT hc13 hF
    refine qC hc13 (t := 22) rfl (zn5 rfl (zn2 rfl (zp2 rfl (zn2 rfl ?_))))
    refine zn5 rfl (zp1 rfl (qb ?_))
    obtain rfl := qh hF
    exact qw [(0, _), (1, _), (2, _), (7, _), (8, _), (9, _), (39, _)] ⟨rfl, rfl, rfl, rfl, rfl, rfl, rfl, trivial⟩ ⟨_, hK4, rfl, h⟩
   replace hc13 := zb hc13
   replace hF := bifF hc13 hF
   refine qB hc13 (t := 22) rfl (qa rfl (zp1 rfl (qa rfl (zp1 rfl (qa rfl ?_)))))
   obtain ⟨y8, hy8, hF⟩ := qd hF
   have he8 := qg hy8
   obtain ⟨b11, o_8, q8, cs10, hp8, hq8, -, hr11, hc14⟩ := s1.at hy8
   obtain ⟨p21, k21, p22, k22, p23, k23, rfl, s21, s22, s23⟩ := qF hr11
   refine zxe hp8 hq8 he8 rfl (qa rfl (zp1 rfl (qa rfl (zc 0 (hc14.below h.below) rfl (qa rfl (zp1 rfl (qa rfl (zp3 rfl ?_))))))))
   by_cases hc15 : (y8.Kind != a_2) = true
   ·replace hF := bifT hc15 hF
    refine qC hc15 (t := 31) rfl (zn5 rfl (zn2 rfl (zp1 rfl (qb ?_))))
    obtain rfl := qh hF
    exact qw [(0, _), (1, _), (2, _), (7, _), (8, _), (9, _), (39, _)] ⟨rfl, rfl, rfl, rfl, rfl, rfl, rfl, trivial⟩ ⟨_, hK4, rfl, h⟩
   replace hc15 := zb hc15
   replace hF := bifF hc15 hF
   refine qB hc15 (t := 31) rfl (qa rfl (zp1 rfl (qa rfl (zp1 rfl (qa rfl ?_)))))
   obtain ⟨y9, hy9, hF⟩ := qd hF
   have he9 := qg hy9
   obtain ⟨b12, o_9, q9, cs11, hp9, hq9, -, hr12, hc16⟩ := s1.at hy9
   obtain ⟨p24, k24, p25, k25, p26, k26, rfl, s24, s25, s26⟩ := qF hr12
   refine zxe hp9 hq9 he9 rfl (qa rfl (zc 0 (hc16.below h.below) rfl (qa rfl ?_)))
   obtain ⟨r4, hr13, hF⟩ := qd hF
   refine qP r4 h call146 (qgu (qbd y9 (h.oldS s24) (h.oldS s25) (h.oldS s26)) hr13) rfl rfl rfl rfl ?_
   intro w7 h
   refine qa rfl (zp1 rfl (qa rfl (zp2 rfl (qb ?_))))
   obtain rfl := qh hF
   exact qw [(0, _), (1, _), (2, _), (7, _), (8, _), (9, _), (39, _)] ⟨rfl, rfl, rfl, rfl, rfl, rfl, rfl, trivial⟩ ⟨_, hK4, rfl, h⟩
  rintro e4 w8 ⟨b1, hF, rfl, h⟩
  subst hKF3
  refine qp rfl hF ?_ ?_ <;> intro hF
  ·exact qG rfl (qx (zp3 rfl (qb (qz m1 [(0, _), (1, _), (2, _), (7, _), (8, _), (9, _)] (Nat.lt_succ_self m1) ⟨rfl, rfl, rfl, rfl, rfl, rfl, trivial⟩ ⟨_, _, _, hF, rfl, h⟩))))
  refine zKSR (zp2 rfl ?_)
  obtain ⟨y1, hy1, hF⟩ := qd hF
  have he1 := qg hy1
  obtain ⟨b2, o_1, q1, cs3, hp1, hq1, -, hr1, hc3⟩ := s1.at hy1
  obtain ⟨p3, k3, p4, k4, p5, k5, rfl, s3, s4, s5⟩ := qF hr1
  refine zxe hp1 hq1 he1 rfl (zp1 rfl (zc 1 (hc3.below h.below) rfl (zp3 rfl (zNSSR (zp2 rfl ?_)))))
  refine qb ?_
  obtain ⟨KF2, hKF2, o3, hF, hK3⟩ := bindE hF
  refine qdS (fun e w' => ∃ (b3 : Bool), KF2 b3 = some o1 ∧ e = [(0, .slice p1 a_0.length k1), (1, .slice p2 a_1.length k2), (2, .int .i64 a_2), (7, .int .i64 i1), (8, .int .i64 i2), (9, .int .i64 i3), (10, .bool b3)] ∧ SH w w' []) ?_ ?_
  ·refine qp rfl hF ?_ ?_ <;> intro hF
   ·refine qx (zp2 rfl ?_)
    obtain ⟨y6, hy6, hF⟩ := qd hF
    have he6 := qg hy6
    obtain ⟨b9, o_6, q6, cs8, hp6, hq6, -, hr9, hc11⟩ := s1.at hy6
    obtain ⟨p18, k18, p19, k19, p20, k20, rfl, s18, s19, s20⟩ := qF hr9
    refine zxe hp6 hq6 he6 rfl (zp1 rfl (zc 1 (hc11.below h.below) rfl (zp3 rfl (qb ?_))))
    obtain rfl := qh hF
    exact qw [(0, _), (1, _), (2, _), (7, _), (8, _), (9, _), (10, _)] ⟨rfl, rfl, rfl, rfl, rfl, rfl, rfl, trivial⟩ ⟨_, hK3, rfl, h⟩
   refine qdQ ?_
   obtain rfl := qh hF
   exact qw [(0, _), (1, _), (2, _), (7, _), (8, _), (9, _), (10, _)] ⟨rfl, rfl, rfl, rfl, rfl, rfl, rfl, trivial⟩ ⟨_, hK3, rfl, h⟩
  rintro e3 w6 ⟨b3, hF, rfl, h⟩
  subst hKF2
  refine zSS ?_
  obtain ⟨KF1, hKF1, o2, hF, hK2⟩ := bindE hF
  refine qdS (fun e w' => ∃ (b4 : Bool), KF1 b4 = some o1 ∧ e = [(0, .slice p1 a_0.length k1), (1, .slice p2 a_1.length k2), (2, .int .i64 a_2), (8, .int .i64 i2), (9, .int .i64 i3), (65, .bool b4)] ∧ SH w w' []) ?_ ?_
  ·refine qx (zp2 rfl ?_)
   obtain ⟨y5, hy5, hF⟩ := qd hF
   have he5 := qg hy5
   obtain ⟨b8, o_5, q5, cs7, hp5, hq5, -, hr7, hc8⟩ := s1.at hy5
   obtain ⟨p15, k15, p16, k16, p17, k17, rfl, s15, s16, s17⟩ := qF hr7
   refine zxe hp5 hq5 he5 rfl (zc 0 (hc8.below h.below) rfl ?_)
   obtain ⟨r3, hr8, hF⟩ := qd hF
   refine qP r3 h call146 (qgu (qbd y5 (h.oldS s15) (h.oldS s16) (h.oldS s17)) hr8) rfl rfl rfl rfl ?_
   intro w4 h
   refine zp3 rfl ?_
   by_cases hc9 : (decide (r3 > i1)) = true
   ·replace hF := bifT hc9 hF
    refine qC hc9 (t := 63) rfl (zn1 rfl (zp1 rfl (qb ?_)))
    obtain rfl := qh hF
    exact qw [(0, _), (1, _), (2, _), (8, _), (9, _), (65, _)] ⟨rfl, rfl, rfl, rfl, rfl, rfl, trivial⟩ ⟨_, hK2, rfl, h⟩
   replace hc9 := zb hc9
   replace hF := bifF hc9 hF
   refine qB hc9 (t := 63) rfl (qa rfl (zp2 rfl (qb ?_)))
   obtain rfl := qh hF
   exact qw [(0, _), (1, _), (2, _), (8, _), (9, _), (65, _)] ⟨rfl, rfl, rfl, rfl, rfl, rfl, trivial⟩ ⟨_, hK2, rfl, h⟩
  rintro e2 w5 ⟨b4, hF, rfl, h⟩
  subst hKF1
  refine qp rfl hF ?_ ?_ <;> intro hF
  ·refine qx (zp2 rfl ?_)
   obtain ⟨y2, hy2, hF⟩ := qd hF
   have he2 := qg hy2
   obtain ⟨b5, o_2, q2, cs4, hp2, hq2, -, hr2, hc5⟩ := s1.at hy2
   obtain ⟨p6, k6, p7, k7, p8, k8, rfl, s6, s7, s8⟩ := qF hr2
   refine zxe hp2 hq2 he2 rfl (zp1 rfl (zc 1 (hc5.below h.below) rfl (zp1 rfl (qb (qx (zp2 rfl ?_))))))
   obtain ⟨y3, hy3, hF⟩ := qd hF
   have he3 := qg hy3
   obtain ⟨b6, o_3, q3, cs5, hp3, hq3, -, hr3, hc6⟩ := s1.at hy3
   obtain ⟨p9, k9, p10, k10, p11, k11, rfl, s9, s10, s11⟩ := qF hr3
   refine zxe hp3 hq3 he3 rfl (zc 0 (hc6.below h.below) rfl ?_)
   obtain ⟨r1, hr4, hF⟩ := qd hF
   refine qP r1 h call146 (qgu (qbd y3 (h.oldS s9) (h.oldS s10) (h.oldS s11)) hr4) rfl rfl rfl rfl ?_
   intro w2 h
   exact zp1 rfl (zNER (zp3 rfl (qb (qz m1 [(0, _), (1, _), (2, _), (7, _), (8, _), (9, _)] (Nat.lt_succ_self m1) ⟨rfl, rfl, rfl, rfl, rfl, rfl, trivial⟩ ⟨_, _, _, hF, rfl, h⟩))))
  refine qdQ (qx (zp2 rfl ?_))
  obtain ⟨y4, hy4, hF⟩ := qd hF
  have he4 := qg hy4
  obtain ⟨b7, o_4, q4, cs6, hp4, hq4, -, hr5, hc7⟩ := s1.at hy4
  obtain ⟨p12, k12, p13, k13, p14, k14, rfl, s12, s13, s14⟩ := qF hr5
  refine zxe hp4 hq4 he4 rfl (zc 0 (hc7.below h.below) rfl ?_)
  obtain ⟨r2, hr6, hF⟩ := qd hF
  refine qP r2 h call146 (qgu (qbd y4 (h.oldS s12) (h.oldS s13) (h.oldS s14)) hr6) rfl rfl rfl rfl ?_
  intro w3 h
  exact zp1 rfl (zNER (zp3 rfl (qb (qz m1 [(0, _), (1, _), (2, _), (7, _), (8, _), (9, _)] (Nat.lt_succ_self m1) ⟨rfl, rfl, rfl, rfl, rfl, rfl, trivial⟩ ⟨_, _, _, hF, rfl, h⟩))))
 refine qG rfl ?_
 obtain rfl := qh hF; replace hF := hK1
 exact zSR (zp2 rfl (qb (qar qc h hF ⟨rfl, trivial⟩)))

def qfk (n : Nat) (list : (List qe)) (matching : (List Bool)) : Option qR :=
 (qeo n list matching 3).bind fun r1 =>
 (qeo n list matching 4).bind fun r2 =>
 (qeo n list matching 1).bind fun r3 =>
 (qeo n list matching 2).bind fun r4 =>
 bif (r1 == (-1)) then
  bif decide (r4 > 0) then
   some (⟨(r3 == 0), r4, r1, r2⟩ : qR)
  else
   some (⟨(r3 == 0), 1, r1, r2⟩ : qR)
 else
  some (⟨(r3 == 0), 1, r1, r2⟩ : qR)

theorem qki {n : Nat} {w : World} {list : (List qe)} {matching : (List Bool)} {cs1 : List Value} (ha1 : GoT.R w (old w) list cs1) {cs2 : List Value} (ha2 : GoT.R w (old w) matching cs2) {r : qR} (hF : qfk n list matching = some r) : RetV Tryz.prog 65 [GoT.v (List qe) cs1, GoT.v (List Bool) cs2] w r := by
 obtain ⟨p1, k1, rfl, s1⟩ := ha1
 obtain ⟨p2, k2, rfl, s2⟩ := ha2
 refine qf Tryz.func65 rfl (m := 32) rfl rfl (fun h => ?_)
 rw [qfk] at hF
 refine zSR (qY qc h rfl rfl rfl ?_)
 intro w1 bb1 h
 refine zNSR (zp2 rfl ?_)
 obtain ⟨r1, hr1, hF⟩ := qd hF
 refine qP r1 h call107 (qf0 ⟨_, _, rfl, (h.oldS s1)⟩ ⟨_, _, rfl, (h.oldS s2)⟩ hr1) rfl rfl rfl rfl ?_
 intro w2 h
 refine zp2 rfl ?_
 obtain ⟨r2, hr2, hF⟩ := qd hF
 refine qP r2 h call107 (qf0 ⟨_, _, rfl, (h.oldS s1)⟩ ⟨_, _, rfl, (h.oldS s2)⟩ hr2) rfl rfl rfl rfl ?_
 intro w3 h
 refine r_v (qeP qc [1, 2, 3] [.const (.int .i64 (1)), .tmp 9, .tmp 12] rfl rfl rfl rfl rfl rfl rfl rfl) rfl (qY qc h rfl rfl rfl ?_)
 intro w4 bb2 h
 refine zs 0 h rfl ?_
 intro w5 h
 refine zNSR (zp2 rfl ?_)
 obtain ⟨r3, hr3, hF⟩ := qd hF
 refine qP r3 h call107 (qf0 ⟨_, _, rfl, (h.oldS s1)⟩ ⟨_, _, rfl, (h.oldS s2)⟩ hr3) rfl rfl rfl rfl ?_
 intro w6 h
 refine zp2 rfl (zs 0 h rfl ?_)
 intro w7 h
 replace h : SH _ _ [Ch.box bb2 [.bool (r3 == 0), .int .i64 1, .int .i64 r1, .int .i64 r2] 38, Ch.box bb1 [.bool false, .int .i64 0, .int .i64 0, .int .i64 0] 38] := h
 refine zNSR (zp2 rfl ?_)
 obtain ⟨r4, hr4, hF⟩ := qd hF
 refine qP r4 h call107 (qf0 ⟨_, _, rfl, (h.oldS s1)⟩ ⟨_, _, rfl, (h.oldS s2)⟩ hr4) rfl rfl rfl rfl ?_
 intro w8 h
 refine zp1 rfl (zNSSR (zp1 rfl (zl 0 2 h rfl (zp2 rfl ?_))))
 by_cases hc1 : (r1 == (-1)) = true
 ·replace hF := bifT hc1 hF
  refine qC hc1 (t := 25) rfl (qa rfl (zp1 rfl (qa rfl (zp2 rfl (qb ?_)))))
  refine qp rfl hF ?_ ?_ <;> intro hF
  ·refine qx (zp2 rfl (zs 0 h rfl ?_))
   intro w9 h
   refine zNSR (zl 0 0 h rfl (zs 1 h rfl ?_))
   intro w10 h
   replace h : SH _ _ [Ch.box bb2 [.bool (r3 == 0), .int .i64 r4, .int .i64 r1, .int .i64 r2] 38, Ch.box bb1 [.bool (r3 == 0), .int .i64 r4, .int .i64 r1, .int .i64 r2] 38] := h
   refine qb ?_
   obtain rfl := qh hF
   exact qal qc (ρ := qR) [GoT.v qR [.bool (r3 == 0), .int .i64 r4, .int .i64 r1, .int .i64 r2]] h ⟨⟨_, _, _, rfl, rfl, h.box 1 rfl, rfl⟩, trivial⟩ (PV.done h (qaq (qaz (S := fun _ => False) (qdi (⟨(r3 == 0), r4, r1, r2⟩ : qR)))))
  refine zKSR (zl 0 0 h rfl (zs 1 h rfl ?_))
  intro w11 h
  refine qb ?_
  obtain rfl := qh hF
  exact qal qc (ρ := qR) [GoT.v qR [.bool (r3 == 0), .int .i64 1, .int .i64 r1, .int .i64 r2]] h ⟨⟨_, _, _, rfl, rfl, h.box 1 rfl, rfl⟩, trivial⟩ (PV.done h (qaq (qaz (S := fun _ => False) (qdi (⟨(r3 == 0), 1, r1, r2⟩ : qR)))))
 replace hc1 := zb hc1
 replace hF := bifF hc1 hF
 refine qB hc1 (t := 25) rfl (zn2 rfl (zp1 rfl (qb (qd6 rfl rfl (zKSR (zl 0 0 h rfl (zs 1 h rfl ?_)))))))
 intro w12 h
 replace h : SH _ _ [Ch.box bb2 [.bool (r3 == 0), .int .i64 1, .int .i64 r1, .int .i64 r2] 38, Ch.box bb1 [.bool (r3 == 0), .int .i64 1, .int .i64 r1, .int .i64 r2] 38] := h
 refine qb ?_
 obtain rfl := qh hF
 exact qal qc (ρ := qR) [GoT.v qR [.bool (r3 == 0), .int .i64 1, .int .i64 r1, .int .i64 r2]] h ⟨⟨_, _, _, rfl, rfl, h.box 1 rfl, rfl⟩, trivial⟩ (PV.done h (qaq (qaz (S := fun _ => False) (qdi (⟨(r3 == 0), 1, r1, r2⟩ : qR)))))

def qbn (list : (List qe)) (tag : (List Int)) (a_end : Int) : Nat → (List Bool) → Int → Option ((List Bool) × Int)
 | 0, _, _ => none
 | n + 1, x1, i1 =>
  bif decide (i1 < (list.length : Int)) then
   (
    (idx list i1).bind fun y3 =>
    bif ((y3.To.length : Int) == 0) then
     some true
    else
     (idx list i1).bind fun y4 =>
     (qhe n y4.To a_end).bind fun r1 =>
     some (decide (r1 ≥ 0))).bind fun b1 =>
   bif b1 then
    (idx tag i1).bind fun y1 =>
    (idx list i1).bind fun y2 =>
    (appS x1 ([(y1 == (y2.Through.length : Int))] : List Bool)).bind fun x2 =>
    qbn list tag a_end n x2 (W64 (i1 + 1))
   else
    (appS x1 ([false] : List Bool)).bind fun x3 =>
    qbn list tag a_end n x3 (W64 (i1 + 1))
  else
   some (x1, i1)

def qft (n : Nat) (list : (List qe)) (tag : (List Int)) (a_end : Int) : Option qR :=
 (qbn list tag a_end n ([] : List Bool) 0).bind fun o => match o with
 | (x1, _) =>
  (qfk n list x1).bind fun r2 =>
  some r2

theorem qj9 {n : Nat} {w : World} {list : (List qe)} {tag : (List Int)} {a_end : Int} {cs1 : List Value} (ha1 : GoT.R w (old w) list cs1) {cs2 : List Value} (ha2 : GoT.R w (old w) tag cs2) {r : qR} (hF : qft n list tag a_end = some r) : RetV Tryz.prog 43 [GoT.v (List qe) cs1, GoT.v (List Int) cs2, .int .i64 a_end] w r := by
 obtain ⟨p1, k1, rfl, s1⟩ := ha1
 obtain ⟨p2, k2, rfl, s2⟩ := ha2
 refine qf Tryz.func43 rfl (m := 54) rfl rfl (fun h => ?_)
 rw [qft] at hF
 refine zSR (qY qc h rfl rfl rfl ?_)
 intro w1 bb1 h
 refine zNSR (qa7 qc [] _ ([] : List Bool) h rfl rfl rfl rfl rfl rfl rfl rfl rfl trivial rfl ?_)
 intro w2 p3 S1 h
 refine zp1 rfl (zNSSR (zp1 rfl (qb ?_)))
 obtain ⟨o1, hF, hK1⟩ := qd hF
 refine qy (qW [(0, _), (1, _), (2, _), (6, _), (7, _), (8, _)] ⟨rfl, rfl, rfl, rfl, rfl, rfl, trivial⟩ ?_)
 refine qI (fun m e w' => ∃ (S2 : Nat → Prop) (p4 : Option Addr) (ln1 : Nat) (k3 : Nat) (x1 : (List Bool)) (i1 : Int), qbn list tag a_end m x1 i1 = some o1 ∧ e = [(0, .slice p1 list.length k1), (1, .slice p2 tag.length k2), (2, .int .i64 a_end), (6, .pointer (some ⟨bb1, 0, none⟩)), (7, .slice p4 ln1 k3), (8, .int .i64 i1)] ∧ SH w w' [Ch.own S2 (x1 : List Bool) [.slice p4 ln1 k3], Ch.box bb1 [.bool false, .int .i64 0, .int .i64 0, .int .i64 0] 38]) n ⟨_, _, _, _, _, _, hF, rfl, h⟩ ?_
 rintro m1 e1 w3 ⟨S2, p4, ln1, k3, x1, i1, hF, rfl, h⟩
 obtain rfl := (h.sl 0 rfl).2
 rcases m1 with _ | m1
 ·rw [qbn] at hF
  cases hF
 rw [qbn] at hF
 refine zSSR (zp4 rfl (qb ?_))
 refine qp rfl hF ?_ ?_ <;> intro hF
 ·refine zKSB (qbm ?_)
  obtain ⟨KF1, hKF1, o2, hF, hK2⟩ := bindE hF
  refine qdS (fun e w' => ∃ (b1 : Bool), KF1 b1 = some o1 ∧ e = [(0, .slice p1 list.length k1), (1, .slice p2 tag.length k2), (2, .int .i64 a_end), (6, .pointer (some ⟨bb1, 0, none⟩)), (7, .slice p4 x1.length k3), (8, .int .i64 i1), (9, .bool b1)] ∧ SH w w' [Ch.own S2 (x1 : List Bool) [.slice p4 x1.length k3], Ch.box bb1 [.bool false, .int .i64 0, .int .i64 0, .int .i64 0] 38]) ?_ ?_
  ·refine qx (zp2 rfl ?_)
   obtain ⟨y3, hy3, hF⟩ := qd hF
   have he3 := qg hy3
   obtain ⟨b4, o_3, q3, cs5, hp3, hq3, -, hr3, hc5⟩ := s1.at hy3
   obtain ⟨p12, k9, p13, k10, p14, k11, rfl, s6, s7, s8⟩ := qF hr3
   refine zxe hp3 hq3 he3 rfl (zp1 rfl (zc 4 (hc5.below h.below) rfl (zp3 rfl ?_)))
   by_cases hc6 : ((y3.To.length : Int) == 0) = true
   ·replace hF := bifT hc6 hF
    refine qC hc6 (t := 24) rfl (zn5 rfl (zn3 rfl (zp2 rfl (qb ?_))))
    obtain rfl := qh hF
    exact qw [(0, _), (1, _), (2, _), (6, _), (7, _), (8, _), (9, _)] ⟨rfl, rfl, rfl, rfl, rfl, rfl, rfl, trivial⟩ ⟨_, hK2, rfl, h⟩
   replace hc6 := zb hc6
   replace hF := bifF hc6 hF
   refine qB hc6 (t := 24) rfl (qa rfl (zp1 rfl (qa rfl (zp1 rfl (qa rfl ?_)))))
   obtain ⟨y4, hy4, hF⟩ := qd hF
   have he4 := qg hy4
   obtain ⟨b5, o_4, q4, cs6, hp4, hq4, -, hr4, hc7⟩ := s1.at hy4
   obtain ⟨p15, k12, p16, k13, p17, k14, rfl, s9, s10, s11⟩ := qF hr4
   refine zxe hp4 hq4 he4 rfl (qa rfl (zp1 rfl (qa rfl (zc 4 (hc7.below h.below) rfl (qa rfl (zp1 rfl (qa rfl ?_)))))))
   obtain ⟨r1, hr5, hF⟩ := qd hF
   refine qP r1 h call79 (qlJ ⟨_, _, rfl, (h.oldS s11)⟩ hr5) rfl rfl rfl rfl ?_
   intro w9 h
   refine qa rfl (zp3 rfl (qb ?_))
   obtain rfl := qh hF
   exact qw [(0, _), (1, _), (2, _), (6, _), (7, _), (8, _), (9, _)] ⟨rfl, rfl, rfl, rfl, rfl, rfl, rfl, trivial⟩ ⟨_, hK2, rfl, h⟩
  rintro e2 w10 ⟨b1, hF, rfl, h⟩
  subst hKF1
  refine qht [] (fun w' => SH w w' []) rfl 18 rfl #[ff, ff, ff, ff, ff, ff, ff, ff, ff, ff, ff, ff, ff, ff, ff, ff, ff, ff] (by kernel_rfl) (fun w4 hb => ?_)
  replace h := h.ext hb
  clear hb
  refine ql 0 rfl #[tt, ff, ff, ff, ff, ff, ff, ff, ff, ff, ff, ff, ff, ff, ff, ff, ff, ff] (by kernel_rfl) (by kernel_rfl) (fun w' hw => v_p qc rfl w') (h.pick [] rfl) rfl ?_
  refine ql 1 rfl #[tt, tt, ff, ff, ff, ff, ff, ff, ff, ff, ff, ff, ff, ff, ff, ff, ff, ff] (by kernel_rfl) (by kernel_rfl) (fun w' hw => v_p qc rfl w') (h.pick [] rfl) rfl ?_
  refine ql 2 rfl #[tt, tt, tt, ff, ff, ff, ff, ff, ff, ff, ff, ff, ff, ff, ff, ff, ff, ff] (by kernel_rfl) (by kernel_rfl) (fun w' hw => v_p qc rfl w') (h.pick [] rfl) rfl ?_
  by_cases hc2 : b1 = true
  ·replace hF := bifT hc2 hF
   refine qqW hc2 (t := 36) rfl ?_
   refine qgP 3 rfl (by kernel_rfl) #[tt, tt, tt, tt, ff, ff, ff, ff, ff, ff, ff, ff, ff, ff, ff, ff, ff, ff] (by kernel_rfl) (by kernel_rfl) (fun w' hw => v_p qc rfl w') (h.pick [] rfl) rfl ?_
   refine qgP 4 rfl (by kernel_rfl) #[tt, tt, tt, tt, tt, ff, ff, ff, ff, ff, ff, ff, ff, ff, ff, ff, ff, ff] (by kernel_rfl) (by kernel_rfl) (fun w' hw => v_p qc rfl w') (h.pick [] rfl) rfl ?_
   obtain ⟨y1, hy1, hF⟩ := qd hF
   have he1 := qg hy1
   obtain ⟨b2, o_1, q1, cs3, hp1, hq1, -, hr1, hc3⟩ := s2.at hy1
   obtain rfl := hr1
   refine qgP 5 rfl (by kernel_rfl) #[tt, tt, tt, tt, tt, tt, ff, ff, ff, ff, ff, ff, ff, ff, ff, ff, ff, ff] (by kernel_rfl) (by kernel_rfl) (fun w' hw => qgT qc hp1 hq1 ⟨he1.1, he1.2.1⟩ rfl rfl rfl rfl rfl rfl) (h.pick [] rfl) rfl ?_
   refine qgP 6 rfl (by kernel_rfl) #[tt, tt, tt, tt, tt, tt, tt, ff, ff, ff, ff, ff, ff, ff, ff, ff, ff, ff] (by kernel_rfl) (by kernel_rfl) (fun w' hw => qcK qc (hc3.below hw.below) (j := 0) rfl rfl rfl) (h.pick [] rfl) rfl ?_
   refine qgP 7 rfl (by kernel_rfl) #[tt, tt, tt, tt, tt, tt, tt, tt, ff, ff, ff, ff, ff, ff, ff, ff, ff, ff] (by kernel_rfl) (by kernel_rfl) (fun w' hw => v_p qc rfl w') (h.pick [] rfl) rfl ?_
   refine qgP 8 rfl (by kernel_rfl) #[tt, tt, tt, tt, tt, tt, tt, tt, tt, ff, ff, ff, ff, ff, ff, ff, ff, ff] (by kernel_rfl) (by kernel_rfl) (fun w' hw => v_p qc rfl w') (h.pick [] rfl) rfl ?_
   obtain ⟨y2, hy2, hF⟩ := qd hF
   have he2 := qg hy2
   obtain ⟨b3, o_2, q2, cs4, hp2, hq2, -, hr2, hc4⟩ := s1.at hy2
   obtain ⟨p5, k4, p6, k5, p7, k6, rfl, s3, s4, s5⟩ := qF hr2
   refine qgP 9 rfl (by kernel_rfl) #[tt, tt, tt, tt, tt, tt, tt, tt, tt, tt, ff, ff, ff, ff, ff, ff, ff, ff] (by kernel_rfl) (by kernel_rfl) (fun w' hw => qgT qc hp2 hq2 ⟨he2.1, he2.2.1⟩ rfl rfl rfl rfl rfl rfl) (h.pick [] rfl) rfl ?_
   refine qgP 10 rfl (by kernel_rfl) #[tt, tt, tt, tt, tt, tt, tt, tt, tt, tt, tt, ff, ff, ff, ff, ff, ff, ff] (by kernel_rfl) (by kernel_rfl) (fun w' hw => v_p qc rfl w') (h.pick [] rfl) rfl ?_
   refine qgP 11 rfl (by kernel_rfl) #[tt, tt, tt, tt, tt, tt, tt, tt, tt, tt, tt, tt, ff, ff, ff, ff, ff, ff] (by kernel_rfl) (by kernel_rfl) (fun w' hw => qcK qc (hc4.below hw.below) (j := 3) rfl rfl rfl) (h.pick [] rfl) rfl ?_
   refine qgP 12 rfl (by kernel_rfl) #[tt, tt, tt, tt, tt, tt, tt, tt, tt, tt, tt, tt, tt, ff, ff, ff, ff, ff] (by kernel_rfl) (by kernel_rfl) (fun w' hw => v_p qc rfl w') (h.pick [] rfl) rfl ?_
   refine qgP 13 rfl (by kernel_rfl) #[tt, tt, tt, tt, tt, tt, tt, tt, tt, tt, tt, tt, tt, tt, ff, ff, ff, ff] (by kernel_rfl) (by kernel_rfl) (fun w' hw => v_p qc rfl w') (h.pick [] rfl) rfl ?_
   refine ql 14 rfl #[tt, tt, tt, tt, tt, tt, tt, tt, tt, tt, tt, tt, tt, tt, tt, ff, ff, ff] (by kernel_rfl) (by kernel_rfl) (fun w' hw => v_p qc rfl w') (h.pick [] rfl) rfl ?_
   refine qa6 15 rfl #[tt, tt, tt, tt, tt, tt, tt, tt, tt, tt, tt, tt, tt, tt, tt, tt, ff, ff] (by kernel_rfl) (by kernel_rfl) ?_
   refine qa7 qc [.tmp 48] _ ([(y1 == (y2.Through.length : Int))] : List Bool) h rfl rfl rfl rfl rfl rfl rfl rfl rfl ⟨rfl, trivial⟩ rfl ?_
   intro w5 p8 S3 h
   refine qaW (fun _ => (h.pick [] rfl)) ?_
   refine qa6 16 rfl #[tt, tt, tt, tt, tt, tt, tt, tt, tt, tt, tt, tt, tt, tt, tt, tt, tt, ff] (by kernel_rfl) (by kernel_rfl) ?_
   obtain ⟨x2, hx1, hF⟩ := qd hF
   obtain ⟨g1, hx1⟩ := qbl hx1
   refine qeE qc 1 h rfl (h.sl 0 rfl).1 (h.sl 0 rfl).2 rfl rfl rfl rfl rfl rfl rfl rfl rfl g1 hx1 rfl ?_
   intro w6 p9 k7 S4 h
   refine qaW (fun _ => (h.pick [] rfl)) ?_
   refine ql 17 rfl #[tt, tt, tt, tt, tt, tt, tt, tt, tt, tt, tt, tt, tt, tt, tt, tt, tt, tt] (by kernel_rfl) (by kernel_rfl) (fun w' hw => v_p qc rfl w') (h.pick [] rfl) rfl ?_
   refine qfa (by kernel_rfl) ?_
   refine qe1 (qx (zp3 rfl (qb ?_)))
   replace h := h.pick [1, 2] rfl
   exact qz m1 [(0, _), (1, _), (2, _), (6, _), (7, _), (8, _)] (Nat.lt_succ_self m1) ⟨rfl, rfl, rfl, rfl, rfl, rfl, trivial⟩ ⟨_, _, _, _, _, _, hF, rfl, h⟩
  replace hc2 := zb hc2
  replace hF := bifF hc2 hF
  refine qqZ hc2 (t := 36) rfl ?_
  refine qi1 3 rfl (by kernel_rfl) rfl #[tt, tt, tt, tt, ff, ff, ff, ff, ff, ff, ff, ff, ff, ff, ff, ff, ff, ff] (by kernel_rfl) (by kernel_rfl) (h.pick [] rfl) rfl ?_
  refine qi1 4 rfl (by kernel_rfl) rfl #[tt, tt, tt, tt, tt, ff, ff, ff, ff, ff, ff, ff, ff, ff, ff, ff, ff, ff] (by kernel_rfl) (by kernel_rfl) (h.pick [] rfl) rfl ?_
  refine qi1 5 rfl (by kernel_rfl) rfl #[tt, tt, tt, tt, tt, tt, ff, ff, ff, ff, ff, ff, ff, ff, ff, ff, ff, ff] (by kernel_rfl) (by kernel_rfl) (h.pick [] rfl) rfl ?_
  refine qi1 6 rfl (by kernel_rfl) rfl #[tt, tt, tt, tt, tt, tt, tt, ff, ff, ff, ff, ff, ff, ff, ff, ff, ff, ff] (by kernel_rfl) (by kernel_rfl) (h.pick [] rfl) rfl ?_
  refine qi1 7 rfl (by kernel_rfl) rfl #[tt, tt, tt, tt, tt, tt, tt, tt, ff, ff, ff, ff, ff, ff, ff, ff, ff, ff] (by kernel_rfl) (by kernel_rfl) (h.pick [] rfl) rfl ?_
  refine qi1 8 rfl (by kernel_rfl) rfl #[tt, tt, tt, tt, tt, tt, tt, tt, tt, ff, ff, ff, ff, ff, ff, ff, ff, ff] (by kernel_rfl) (by kernel_rfl) (h.pick [] rfl) rfl ?_
  refine qi1 9 rfl (by kernel_rfl) rfl #[tt, tt, tt, tt, tt, tt, tt, tt, tt, tt, ff, ff, ff, ff, ff, ff, ff, ff] (by kernel_rfl) (by kernel_rfl) (h.pick [] rfl) rfl ?_
  refine qi1 10 rfl (by kernel_rfl) rfl #[tt, tt, tt, tt, tt, tt, tt, tt, tt, tt, tt, ff, ff, ff, ff, ff, ff, ff] (by kernel_rfl) (by kernel_rfl) (h.pick [] rfl) rfl ?_
  refine qi1 11 rfl (by kernel_rfl) rfl #[tt, tt, tt, tt, tt, tt, tt, tt, tt, tt, tt, tt, ff, ff, ff, ff, ff, ff] (by kernel_rfl) (by kernel_rfl) (h.pick [] rfl) rfl ?_
  refine qi1 12 rfl (by kernel_rfl) rfl #[tt, tt, tt, tt, tt, tt, tt, tt, tt, tt, tt, tt, tt, ff, ff, ff, ff, ff] (by kernel_rfl) (by kernel_rfl) (h.pick [] rfl) rfl ?_
  refine qi1 13 rfl (by kernel_rfl) rfl #[tt, tt, tt, tt, tt, tt, tt, tt, tt, tt, tt, tt, tt, tt, ff, ff, ff, ff] (by kernel_rfl) (by kernel_rfl) (h.pick [] rfl) rfl ?_
  refine ql 14 rfl #[tt, tt, tt, tt, tt, tt, tt, tt, tt, tt, tt, tt, tt, tt, tt, ff, ff, ff] (by kernel_rfl) (by kernel_rfl) (fun w' hw => v_p qc rfl w') (h.pick [] rfl) rfl ?_
  refine qa6 15 rfl #[tt, tt, tt, tt, tt, tt, tt, tt, tt, tt, tt, tt, tt, tt, tt, tt, ff, ff] (by kernel_rfl) (by kernel_rfl) ?_
  refine qa7 qc [.tmp 48] _ ([false] : List Bool) h rfl rfl rfl rfl rfl rfl rfl rfl rfl ⟨rfl, trivial⟩ rfl ?_
  intro w7 p10 S5 h
  refine qaW (fun _ => (h.pick [] rfl)) ?_
  refine qa6 16 rfl #[tt, tt, tt, tt, tt, tt, tt, tt, tt, tt, tt, tt, tt, tt, tt, tt, tt, ff] (by kernel_rfl) (by kernel_rfl) ?_
  obtain ⟨x3, hx2, hF⟩ := qd hF
  obtain ⟨g2, hx2⟩ := qbl hx2
  refine qeE qc 1 h rfl (h.sl 0 rfl).1 (h.sl 0 rfl).2 rfl rfl rfl rfl rfl rfl rfl rfl rfl g2 hx2 rfl ?_
  intro w8 p11 k8 S6 h
  refine qaW (fun _ => (h.pick [] rfl)) ?_
  refine ql 17 rfl #[tt, tt, tt, tt, tt, tt, tt, tt, tt, tt, tt, tt, tt, tt, tt, tt, tt, tt] (by kernel_rfl) (by kernel_rfl) (fun w' hw => v_p qc rfl w') (h.pick [] rfl) rfl ?_
  refine qfa (by kernel_rfl) ?_
  refine qe1 (qx (zp3 rfl (qb ?_)))
  replace h := h.pick [1, 2] rfl
  exact qz m1 [(0, _), (1, _), (2, _), (6, _), (7, _), (8, _)] (Nat.lt_succ_self m1) ⟨rfl, rfl, rfl, rfl, rfl, rfl, trivial⟩ ⟨_, _, _, _, _, _, hF, rfl, h⟩
 refine qG rfl ?_
 obtain rfl := qh hF; replace hF := hK1
 refine zSR (zp2 rfl ?_)
 obtain ⟨r2, hr6, hF⟩ := qd hF
 refine qex r2 h call65 (qki ⟨_, _, rfl, (h.oldS s1)⟩ (h.own 0 rfl) hr6) rfl rfl rfl rfl ?_
 intro w11 S7 cs7 h
 obtain rfl := qeY (h.own 0 rfl)
 refine zs 2 h rfl ?_
 intro w12 h
 refine qb ?_
 obtain rfl := qh hF
 exact qal qc (ρ := qR) [GoT.v qR [.bool r2.False, .int .i64 r2.Cycles, .int .i64 r2.MaxLimit, .int .i64 r2.MinLimit]] h ⟨⟨_, _, _, rfl, rfl, h.box 2 rfl, rfl⟩, trivial⟩ (PV.done h (qaq (qaG 0 h rfl)))

end Go.Fw


namespace Go.Fw
open Go

def qes (x : qe) : Prop := rngI x.Kind ∧ rngI x.Value ∧ (rngL rngI) x.From ∧ (rngL rngI) x.Through ∧ (rngL rngI) x.To
def qbL (x : qe) : Nat := qcd x.From + qcd x.Through + qcd x.To
structure qci (x : qe) : Prop where
  Kind : okI x.Kind
  Value : okI x.Value
  From : (okL okI) x.From
  Through : (okL okI) x.Through
  To : (okL okI) x.To
theorem qlT {x : qe} (h : qes x) (w : qbL x ≤ 1048576) : qci x := ⟨h.1, h.2.1, qcr (h.2.2.1) (by simp only [qbL] at w; omega), qcr (h.2.2.2.1) (by simp only [qbL] at w; omega), qcr (h.2.2.2.2) (by simp only [qbL] at w; omega)⟩
theorem qmX {a : qe} (h : qbL a ≤ 1048576) : Ev (fun n => qdH n a a) true := by
  unfold qdH
  simp only [qbL] at h
  exact Ev.ff qbt (Ev.ff qbt (Ev.bind (qdJ (a := a.From) (by omega)) (Ev.ff rfl (Ev.bind (qdJ (a := a.Through) (by omega)) (Ev.ff rfl (Ev.bind (qdJ (a := a.To) (by omega)) (Ev.ff rfl (.done))))))))

def qcH (a : (List qe)) : Nat := a.length + (a.map fun x => qbL x).sum
theorem qk2 {a : (List qe)} (h : (rngL qes) a) (w : qcH a ≤ 1048576) : (okL qci) a :=
  ⟨by simp only [qcH] at w; omega, fun x hx => qlT (h.2 x hx) (by have := qds (wt := fun x : qe => qbL x) hx; simp only [qcH] at w; omega)⟩
theorem ql6 {a : (List qe)} (h : qcH a ≤ 1048576) : Ev (fun n => qef n a a) true := by
  have hl : a.length ≤ 1048576 := by simp only [qcH] at h; omega
  unfold qef
  exact Ev.ff (by simp) (Ev.bind (b := .nxt (a.length : Int)) (qhb (eqf := qdH) (fun x hx => qmX (by have := qds (wt := fun x : qe => qbL x) hx; simp only [qcH] at h; omega))
    (fun n => by simp only [qbQ, qv (Nat.le_refl _), cond_false])
    (fun n j x hx => by
      have hj := (List.getElem?_eq_some_iff.1 hx).1
      simp only [qbQ, qu hj, cond_true, qaH hx, Option.bind_some, qr (show j < 9223372036854775807 by omega)])) .done)

theorem qmO {a : qe} {left : Int} (h : qes a) (h0 : 0 ≤ left) (h1 : left ≤ 1048576) : Sz (fun n => qdI n a left) (fun r => r = left - (qbL a : Int)) := by
  unfold qdI
  obtain ⟨h_0, h_1, h_2, h_3, h_4⟩ := h
  exact Sz.step (qec (a := a.From) h_2 (by omega) (by omega)) fun r0 p0 q0 => Sz.step (qec (a := a.Through) h_3 (by omega) (by omega)) fun r1 p1 q1 => Sz.step (qec (a := a.To) h_4 (by omega) (by omega)) fun r2 p2 q2 => Sz.done p2 (by simp only [qbL]; omega)

theorem qlY {a : (List qe)} {left : Int} (h : (rngL qes) a) (h0 : 0 ≤ left) (h1 : left ≤ 1048576) : Sz (fun n => qff n a left) (fun r => r = left - (qcH a : Int)) :=
  Sz.list (Lf := qbq a) (wt := fun x : qe => qbL x) (el := qdI) h0 h1 h.1 (fun x hx left p q => qmO (h.2 x hx) p q)
    (fun acc n => by simp only [qbq, qv (Nat.le_refl _), cond_false])
    (fun acc n j x hx => by
      have hj := (List.getElem?_eq_some_iff.1 hx).1
      have hl := h.1
      simp only [qbq, qu hj, cond_true, qaH hx, Option.bind_some, qr (show j < 9223372036854775807 by omega)])
    (fun _ => rfl)

theorem qmQ {a : qe} (h : qbL a ≤ 1048576) : Ev (fun n => qdF n a) a := by
  unfold qdF
  simp only [qbL] at h
  exact Ev.bind (qc5 (a := a.From) (by omega)) (Ev.bind (qc5 (a := a.Through) (by omega)) (Ev.bind (qc5 (a := a.To) (by omega)) (.done)))

theorem qie {a : (List qe)} (h : qcH a ≤ 1048576) : Ev (fun n => qcI n a) a := by
  have hl : a.length ≤ 1048576 := by simp only [qcH] at h; omega
  unfold qcI
  exact Ev.bindN (qgo (by omega)) (Ev.bind (b := (a, (a.length : Int))) (qhc (cp := qdF) (fun x hx => qmQ (by have := qds (wt := fun x : qe => qbL x) hx; simp only [qcH] at h; omega))
    (fun acc n => by simp only [qbP, qv (Nat.le_refl _), cond_false])
    (fun acc n j x y hx hy => by
      have hj := (List.getElem?_eq_some_iff.1 hx).1
      simp only [qbP, qu hj, cond_true, qaH hx, qaH hy, Option.bind_some, qr (show j < 9223372036854775807 by omega)])) .done)

end Go.Fw


namespace Go.Fw
open Go
set_option maxRecDepth 100000

theorem qmF {b : qD} (h : blockB b = true) : Ev (fun n => qdE n b) ((places b.Design).length : Int) := by
  unfold qdE
  exact Ev.bind (qjS (qcc (qdT h))) (Ev.now (by rw [List.length_map]))

def plsB (b : qD) (xs : List Int) : Bool := decide (xs.length ≤ 4) && allN (fun j => inPl b (at0 xs j)) xs.length
def valB (k v : Int) : Bool := bif k == 1 then v == 0 else bif k == 2 then inI v 1 10 else bif (k == 3) || (k == 4) then inI v 0 1000000000 else false
def excB (b : qD) (e : qe) : Bool := (plsB b e.From && (plsB b e.Through && plsB b e.To)) && (valB e.Kind e.Value && (incB e.From && incB e.To))

theorem qiB {b : qD} {xs : List Int} {sorted : Bool} (h : blockB b = true) (hl : xs.length ≤ 1048576) : Ev (fun n => qd2 n b xs sorted) (plsB b xs && (!sorted || incB xs)) := by
  have hpl := qet (qcc (qdT h))
  have hL : Ev (fun n => qbp b xs sorted n 0) (bif allN (fun j => inPl b (at0 xs j) && (!sorted || stepB xs j)) xs.length then .nxt (xs.length : Int) else .ret false) := by
    refine qdP ?_ (fun j hj X hX => Ev.succ ?_)
    · exact Ev.succ (by simp only [qbp, qv (Nat.le_refl _), cond_false]; exact .done)
    · simp only [qbp, qu hj, cond_true, qb5 hj, Option.bind_some, qdX, qr (show j < 9223372036854775807 by omega)]
      refine Ev.bind (qmF h) ?_
      rw [qcZ (show (places b.Design).length ≤ 9223372036854775807 by omega)]
      simp only [qbg]
      refine Ev.okP (a := inPl b (at0 xs j)) fun _ => ?_
      cases sorted
      · exact hX
      · refine Ev.tt rfl ?_
        unfold stepB
        by_cases h0 : j = 0
        · subst h0
          exact Ev.ff (by decide) hX
        · refine Ev.tt (by simp; omega) ?_
          simp only [show (j : Int) - 1 = ((j - 1 : Nat) : Int) by omega, qf5 (show -9223372036854775808 ≤ ((j - 1 : Nat) : Int) by omega) (by omega), qb5 (show j - 1 < xs.length by omega), Option.bind_some]
          rw [show decide (at0 xs (j - 1) ≥ at0 xs j) = !decide (at0 xs (j - 1) < at0 xs j) by rw [Bool.eq_iff_iff]; simp, show decide (j = 0) = false by simp; omega]
          simp only [qbg, Bool.not_true, Bool.false_or]
          exact Ev.okP1 fun _ => hX
  unfold qd2
  have e : (plsB b xs && (!sorted || incB xs)) = (allN (fun j => inPl b (at0 xs j) && (!sorted || stepB xs j)) xs.length && decide (xs.length ≤ 4)) := by
    unfold plsB incB
    rw [qij]
    cases sorted
    · simp only [Bool.not_false, Bool.true_or, Bool.and_true]
      rw [show allN (fun _ => true) xs.length = true from qbh.2 (fun _ _ => rfl), Bool.and_true, Bool.and_comm]
    · simp only [Bool.not_true, Bool.false_or]
      rw [Bool.and_assoc, Bool.and_comm]
  rw [e]
  refine Ev.bind hL ?_
  cases allN (fun j => inPl b (at0 xs j) && (!sorted || stepB xs j)) xs.length
  · exact .done
  · refine Ev.now ?_
    show some (decide ((xs.length : Int) ≤ ((4 : Nat) : Int))) = some (true && decide (xs.length ≤ 4))
    rw [qiG, Bool.true_and]

theorem qn6 {n : Nat} {k v : Int} : qgC n k v = some (valB k v) := by
  simp only [qgC, qdp, Option.bind_some]
  unfold valB
  cases (k == 1) <;> cases (k == 2) <;> cases (k == 3) <;> cases (k == 4) <;> rfl

theorem qlz {b : qD} {V : Tview} {e : qe} (h : blockB b = true) (hP : V.places = places b.Design) (he : qci e) : Ev (fun n => qcX n (some V) e) (excB b e) := by
  have hpl := qet (qcc (qdT h))
  have one : ∀ xs : List Int, xs.length ≤ 1048576 → ∀ {F : Nat → Option (Flow Bool Int)} {X : Flow Bool Int}, Ev F X →
      Ev (fun n => bif decide ((xs.length : Int) > 4) then some (.ret false) else (qbv n xs 0 (((places b.Design).length : Int) - 1)).bind fun r2 => bif (!r2) then some (.ret false) else F n) (bif plsB b xs then X else .ret false) := by
    intro xs hx F X hX
    unfold plsB
    rw [show decide ((xs.length : Int) > 4) = !decide (xs.length ≤ 4) from qjq (k := 4)]
    simp only [qbg]
    refine Ev.okP fun _ => Ev.ok1 ((qeT hx).cast (by rw [qgI (d := 0)]; rfl)) fun _ => hX
  have hL : Ev (fun n => qab (some V) e n 0) (bif plsB b e.From then (bif plsB b e.Through then (bif plsB b e.To then .nxt 3 else .ret false) else .ret false) else .ret false) := by
    refine Ev.succ ?_
    simp only [qab, Option.bind_some, qbe, hP, qcZ (show (places b.Design).length ≤ 9223372036854775807 by omega)]
    refine one e.From he.From.len (F := fun n => qab (some V) e n 1) (Ev.succ ?_)
    simp only [qab, Option.bind_some, qbe, hP, qcZ (show (places b.Design).length ≤ 9223372036854775807 by omega)]
    refine one e.Through he.Through.len (F := fun n => qab (some V) e n 2) (Ev.succ ?_)
    simp only [qab, Option.bind_some, qbe, hP, qcZ (show (places b.Design).length ≤ 9223372036854775807 by omega)]
    refine one e.To he.To.len (F := fun n => qab (some V) e n 3) (Ev.succ ?_)
    exact .done
  unfold qcX excB
  refine Ev.bind hL ?_
  cases plsB b e.From
  · exact .done
  · cases plsB b e.Through
    · exact .done
    · cases plsB b e.To
      · exact .done
      · simp only [cond_true, qn6, Option.bind_some, Bool.and_self, Bool.true_and]
        exact Ev.andP fun _ => Ev.and (qhx he.From.len) fun _ => Ev.last (qhx he.To.len)

theorem qkU {b : qD} {e : qe} (hok : qgk b) (he : qci e) : Ev (fun n => qeB n b e) (blockB b && excB b e) := by
  have eq : (blockB b && excB b e) = ((blockB b && ((plsB b e.From && (!true || incB e.From)) && ((plsB b e.Through && (!false || incB e.Through)) && (plsB b e.To && (!true || incB e.To))))) && valB e.Kind e.Value) := by
    unfold excB
    generalize blockB b = a1
    generalize plsB b e.From = a2
    generalize plsB b e.Through = a3
    generalize plsB b e.To = a4
    generalize valB e.Kind e.Value = a5
    generalize incB e.From = a6
    generalize incB e.To = a7
    cases a1 <;> cases a2 <;> cases a3 <;> cases a4 <;> cases a5 <;> cases a6 <;> cases a7 <;> rfl
  rw [eq]
  unfold qeB
  refine Ev.guardB (Ev.or (qkI hok) fun h => Ev.or (qiB h he.From.len) fun _ => Ev.or (qiB h he.Through.len) fun _ => Ev.neg (qiB h he.To.len)) fun _ => ?_
  simp only [qdX, Option.bind_some]
  unfold valB
  cases (e.Kind == 1) <;> cases (e.Kind == 2) <;> cases (e.Kind == 3) <;> cases (e.Kind == 4) <;> exact .done

end Go.Fw


namespace Go.Fw
open Go
set_option maxRecDepth 100000

/-! ### Data paths -/

def hasI (xs : List Int) (y : Int) : Bool := xs.any fun x => x == y
theorem qoM {xs : List Int} {y : Int} (hl : xs.length ≤ 1048576) : Ev (fun n => qhe n xs y) (ixL (fun x => x == y) xs) :=
  qe3 (fin := (xs.length : Int)) (Lf := qdb xs y) (pf := fun _ x => some (x == y)) (fun _ _ => .done)
    (fun n => by simp only [qdb, qv (Nat.le_refl _), cond_false])
    (fun n j x hx => by
      have hj := (List.getElem?_eq_some_iff.1 hx).1
      simp only [qdb, qu hj, cond_true, qaH hx, Option.bind_some, qr (show j < 9223372036854775807 by omega)])
    (fun n => by unfold qhe; congr 1; funext o; cases o <;> rfl)
theorem qm7 {xs : List Int} {y : Int} (hl : xs.length ≤ 1048576) : Ev (fun n => qcY n xs y) (hasI xs y) := by
  unfold qcY
  refine Ev.bind (b := ixL (fun x => y == x) xs) (qe3 (fin := (xs.length : Int)) (Lf := qbi xs y) (pf := fun _ x => some (y == x)) (fun _ _ => .done)
    (fun n => by simp only [qbi, qv (Nat.le_refl _), cond_false])
    (fun n j x hx => by
      have hj := (List.getElem?_eq_some_iff.1 hx).1
      simp only [qbi, qu hj, cond_true, qaH hx, Option.bind_some, qr (show j < 9223372036854775807 by omega)])
    (fun n => by unfold qeW; congr 1; funext o; cases o <;> rfl)) (Ev.now ?_)
  rw [qhO]
  unfold hasI
  congr 2
  funext x
  rw [Bool.eq_iff_iff, beq_iff_eq, beq_iff_eq]
  exact eq_comm
/-! ### Tags -/

instance : Inhabited qe := ⟨⟨0, 0, [], [], []⟩⟩
def toB (e : qe) (p : Int) : Bool := decide (e.To.length = 0) || hasI e.To p
def matT (e : qe) (found p : Int) : Bool := (found == (e.Through.length : Int)) && toB e p
theorem qnF {e : qe} {found p : Int} (he : qci e) : Ev (fun n => qcJ n e found p) (matT e found p) := by
  unfold qcJ matT toB
  simp only [qap, Option.bind_some]
  refine Ev.andP fun _ => ?_
  by_cases h0 : e.To.length = 0
  · exact Ev.tt (by simp [h0]) (by rw [decide_eq_true h0]; exact .done)
  · refine Ev.ff (by rw [Bool.eq_false_iff, Ne, beq_iff_eq]; omega) ?_
    rw [decide_eq_false h0, Bool.false_or]
    exact Ev.last (qm7 he.To.len)

end Go.Fw


namespace Go.Fw
open Go
set_option maxRecDepth 100000

end Go.Fw
