/- Plain laws: the places of a design, one by one. -/
import Derived.Test.YtihkipojhdehnaaGreatDoorB7
import Derived.Test.YtihkipojhdehnaaGreatDoorFw34

namespace Go.Fw
open Go
set_option maxRecDepth 100000

def off (d : ql) (i : Nat) : Nat := (plI d i).length
def place1 (d : ql) (i k : Nat) : Tplace := ⟨(i : Int), (k : Int), at0 (gt d.Instances i).Nets k, decide (k + 1 = (gt d.Instances i).Nets.length)⟩
def place2 (d : ql) (i : Nat) : Tplace := ⟨-1, (i : Int), (gt d.Ports i).Net, (gt d.Ports i).Dir == 1⟩

theorem ql4 {d : ql} {i : Nat} : off d (i + 1) = off d i + (gt d.Instances i).Nets.length := by
  unfold off; rw [qi8, List.length_append, qlz]
theorem qjn {d : ql} : (places d).length = off d d.Instances.length + d.Ports.length := by
  unfold places off; rw [List.length_append, qlB]
theorem qrE {d : ql} {n i k : Nat} (hi : i < n) (hk : k < (gt d.Instances i).Nets.length) : off d i + k < off d n ∧ gt (plI d n) (off d i + k) = place1 d i k := by
  induction n with
  | zero => omega
  | succ n ih =>
    rw [qi8, qkS]
    rcases Nat.lt_succ_iff_lt_or_eq.1 hi with h | rfl
    · obtain ⟨h1, h2⟩ := ih h
      refine ⟨by rw [ql4]; omega, ?_⟩
      rw [if_pos (show off d i + k < (plI d n).length from h1), h2]
    · refine ⟨by rw [ql4]; omega, ?_⟩
      rw [if_neg (by unfold off; omega), show off d i + k - (plI d i).length = k by unfold off; omega]
      exact qnY hk
theorem qpA {d : ql} {i k : Nat} (hi : i < d.Instances.length) (hk : k < (gt d.Instances i).Nets.length) : off d i + k < (places d).length ∧ gt (places d) (off d i + k) = place1 d i k := by
  obtain ⟨h1, h2⟩ := qrE hi hk
  refine ⟨by rw [qjn]; omega, ?_⟩
  unfold places
  rw [qkS, if_pos (show off d i + k < (plI d d.Instances.length).length from h1), h2]
theorem qpj {d : ql} {i : Nat} (hi : i < d.Ports.length) : off d d.Instances.length + i < (places d).length ∧ gt (places d) (off d d.Instances.length + i) = place2 d i := by
  refine ⟨by rw [qjn]; omega, ?_⟩
  unfold places
  rw [qkS, if_neg (by unfold off; omega), show off d d.Instances.length + i - (plI d d.Instances.length).length = i by unfold off; omega]
  exact qnY hi
theorem qpt {d : ql} {n j : Nat} (hj : j < off d n) : ∃ i k, i < n ∧ k < (gt d.Instances i).Nets.length ∧ j = off d i + k := by
  induction n with
  | zero => exact absurd hj (Nat.not_lt_zero _)
  | succ n ih =>
    by_cases h : j < off d n
    · obtain ⟨i, k, h1, h2, h3⟩ := ih h
      exact ⟨i, k, by omega, h2, h3⟩
    · rw [ql4] at hj
      exact ⟨n, j - off d n, by omega, by omega, by omega⟩
/-- Every place is a pin of an instance or a port. -/
theorem qof {d : ql} {j : Nat} (hj : j < (places d).length) :
    (∃ i k, i < d.Instances.length ∧ k < (gt d.Instances i).Nets.length ∧ j = off d i + k ∧ gt (places d) j = place1 d i k) ∨
    (∃ i, i < d.Ports.length ∧ j = off d d.Instances.length + i ∧ gt (places d) j = place2 d i) := by
  rw [qjn] at hj
  by_cases h : j < off d d.Instances.length
  · obtain ⟨i, k, h1, h2, rfl⟩ := qpt h
    exact .inl ⟨i, k, h1, h2, rfl, (qpA h1 h2).2⟩
  · refine .inr ⟨j - off d d.Instances.length, by omega, by omega, ?_⟩
    have := (qpj (d := d) (i := j - off d d.Instances.length) (by omega)).2
    rwa [show off d d.Instances.length + (j - off d d.Instances.length) = j by omega] at this

/-! ### Drivers -/

/-! ### Cells of instances -/

theorem qmK {l : qx} {d : ql} (h : designB l d = true) {i : Nat} (hi : i < d.Instances.length) :
    (0 ≤ (gt d.Instances i).Cell ∧ (gt d.Instances i).Cell < l.Cells.length) ∧ (gt d.Instances i).Nets.length = (gt l.Cells (gt d.Instances i).Cell.toNat).Pins.length ∧ cellB (gt l.Cells (gt d.Instances i).Cell.toNat) = true := by
  unfold designB libB at h
  simp only [Bool.and_eq_true] at h
  obtain ⟨⟨⟨hc, _⟩, _⟩, hI, _⟩ := h
  rw [qhk, qbi] at hI hc
  have := hI i hi
  unfold instB at this
  simp only [Bool.and_eq_true, qdN, beq_iff_eq] at this
  exact ⟨⟨this.1.1, by omega⟩, by omega, hc _ (by omega)⟩
theorem qou {c : qB} (h : cellB c = true) : c.Arcs.length ≤ 8 := by
  unfold cellB at h
  simp only [Bool.and_eq_true, decide_eq_true_eq] at h
  exact h.2.2.1.2
theorem qef {b : qD} (h : blockB b = true) : designB b.Library b.Design = true := by
  unfold blockB at h; simp only [Bool.and_eq_true] at h; exact h.1.1
end Go.Fw


namespace Go.Fw
open Go Go.Proofs
open Go.RowKit (Below)
set_option maxRecDepth 100000
set_option maxHeartbeats 1600000
def qds (_ : Nat) (a : qX) : Option (List qS) :=
 bif (a.Kind == 2) then
  some ([(⟨0, 0⟩ : qS), (⟨0, 1⟩ : qS)] : List qS)
 else
  bif (a.Kind == 3) then
   some ([(⟨1, 0⟩ : qS), (⟨1, 1⟩ : qS)] : List qS)
  else
   bif (a.Kind != 1) then
    some []
   else
    bif (a.Sense == 1) then
     some ([(⟨0, 0⟩ : qS), (⟨1, 1⟩ : qS)] : List qS)
    else
     bif (a.Sense == 2) then
      some ([(⟨0, 1⟩ : qS), (⟨1, 0⟩ : qS)] : List qS)
     else
      some ([(⟨0, 0⟩ : qS), (⟨0, 1⟩ : qS), (⟨1, 0⟩ : qS), (⟨1, 1⟩ : qS)] : List qS)

theorem qiI {n : Nat} {w : World} {a : qX} {cs1 : List Value} (ha1 : GoT.R w (old w) a cs1) {r : (List qS)} (hF : qds n a = some r) : RetV Tryz.prog 186 [GoT.v qX cs1] w r := by
 obtain ⟨p1, k1, p2, k2, rfl, s1, s2⟩ := qaR ha1
 refine qe Tryz.func186 rfl (m := 44) rfl rfl (fun h => ?_)
 rw [qds] at hF
 refine zSR (qP h rfl rfl ?_)
 intro w1 bb1 h
 refine zp1 rfl (zNSR (r_v (qfm qc [0, 1] [.const (.int .i64 (0)), .const (.int .i64 (0))] rfl rfl rfl rfl rfl rfl rfl rfl rfl) rfl (r_v (qfm qc [0, 1] [.const (.int .i64 (1)), .const (.int .i64 (1))] rfl rfl rfl rfl rfl rfl rfl rfl rfl) rfl (qaY qc [.tmp 5, .tmp 6] _ ([(⟨0, 0⟩ : qS), (⟨1, 1⟩ : qS)] : List qS) h rfl rfl rfl rfl rfl rfl rfl rfl rfl ⟨(qc4 (⟨0, 0⟩ : qS)), (qc4 (⟨1, 1⟩ : qS)), trivial⟩ rfl ?_))))
 intro w2 p3 S1 h
 refine zp1 rfl (zNSR (r_v (qfm qc [0, 1] [.const (.int .i64 (0)), .const (.int .i64 (1))] rfl rfl rfl rfl rfl rfl rfl rfl rfl) rfl (r_v (qfm qc [0, 1] [.const (.int .i64 (1)), .const (.int .i64 (0))] rfl rfl rfl rfl rfl rfl rfl rfl rfl) rfl (qaY qc [.tmp 8, .tmp 9] _ ([(⟨0, 1⟩ : qS), (⟨1, 0⟩ : qS)] : List qS) h rfl rfl rfl rfl rfl rfl rfl rfl rfl ⟨(qc4 (⟨0, 1⟩ : qS)), (qc4 (⟨1, 0⟩ : qS)), trivial⟩ rfl ?_))))
 intro w3 p4 S2 h
 refine zp1 rfl (zNSB (zSR (zp1 rfl (zl 2 0 h rfl (zp2 rfl (qb ?_))))))
 refine qq rfl hF ?_ ?_ <;> intro hF
 ·refine zSR (r_v (qfm qc [0, 1] [.const (.int .i64 (0)), .const (.int .i64 (0))] rfl rfl rfl rfl rfl rfl rfl rfl rfl) rfl (r_v (qfm qc [0, 1] [.const (.int .i64 (0)), .const (.int .i64 (1))] rfl rfl rfl rfl rfl rfl rfl rfl rfl) rfl (qaY qc [.tmp 15, .tmp 16] _ ([(⟨0, 0⟩ : qS), (⟨0, 1⟩ : qS)] : List qS) h rfl rfl rfl rfl rfl rfl rfl rfl rfl ⟨(qc4 (⟨0, 0⟩ : qS)), (qc4 (⟨0, 1⟩ : qS)), trivial⟩ rfl ?_)))
  intro w4 p5 S3 h
  refine zp1 rfl (qb ?_)
  obtain rfl := qh hF
  exact qay qc (ρ := (List qS)) [GoT.v (List qS) [.slice p5 2 2]] h ⟨rfl, trivial⟩ (PV.done h (qaG (qab 0 h rfl)))
 refine zSR (zp1 rfl (zl 2 0 h rfl (zp2 rfl (qb ?_))))
 refine qq rfl hF ?_ ?_ <;> intro hF
 ·refine zSR (r_v (qfm qc [0, 1] [.const (.int .i64 (1)), .const (.int .i64 (0))] rfl rfl rfl rfl rfl rfl rfl rfl rfl) rfl (r_v (qfm qc [0, 1] [.const (.int .i64 (1)), .const (.int .i64 (1))] rfl rfl rfl rfl rfl rfl rfl rfl rfl) rfl (qaY qc [.tmp 22, .tmp 23] _ ([(⟨1, 0⟩ : qS), (⟨1, 1⟩ : qS)] : List qS) h rfl rfl rfl rfl rfl rfl rfl rfl rfl ⟨(qc4 (⟨1, 0⟩ : qS)), (qc4 (⟨1, 1⟩ : qS)), trivial⟩ rfl ?_)))
  intro w5 p6 S4 h
  refine zp1 rfl (qb ?_)
  obtain rfl := qh hF
  exact qay qc (ρ := (List qS)) [GoT.v (List qS) [.slice p6 2 2]] h ⟨rfl, trivial⟩ (PV.done h (qaG (qab 0 h rfl)))
 refine zSR (zp1 rfl (zl 2 0 h rfl (zp2 rfl (qb ?_))))
 refine qq rfl hF ?_ ?_ <;> intro hF
 ·refine zSR (zp1 rfl (qb ?_))
  obtain rfl := qh hF
  exact qay qc (ρ := (List qS)) [GoT.v (List qS) [.slice none 0 0]] h ⟨rfl, trivial⟩ (PV.done h (qaG qkN))
 refine zSR (zp1 rfl (zl 2 3 h rfl (zp2 rfl (qb ?_))))
 refine qq rfl hF ?_ ?_ <;> intro hF
 ·refine zSR (zp2 rfl (qb ?_))
  obtain rfl := qh hF
  exact qay qc (ρ := (List qS)) [GoT.v (List qS) [.slice p3 2 2]] h ⟨rfl, trivial⟩ (PV.done h (qaG (qab 1 h rfl)))
 refine zSR (zp1 rfl (zl 2 3 h rfl (zp2 rfl (qb ?_))))
 refine qq rfl hF ?_ ?_ <;> intro hF
 ·refine zSR (zp2 rfl (qb ?_))
  obtain rfl := qh hF
  exact qay qc (ρ := (List qS)) [GoT.v (List qS) [.slice p4 2 2]] h ⟨rfl, trivial⟩ (PV.done h (qaG (qab 0 h rfl)))
 refine zKE (zSR (r_v (qfm qc [0, 1] [.const (.int .i64 (0)), .const (.int .i64 (0))] rfl rfl rfl rfl rfl rfl rfl rfl rfl) rfl (r_v (qfm qc [0, 1] [.const (.int .i64 (0)), .const (.int .i64 (1))] rfl rfl rfl rfl rfl rfl rfl rfl rfl) rfl (r_v (qfm qc [0, 1] [.const (.int .i64 (1)), .const (.int .i64 (0))] rfl rfl rfl rfl rfl rfl rfl rfl rfl) rfl (r_v (qfm qc [0, 1] [.const (.int .i64 (1)), .const (.int .i64 (1))] rfl rfl rfl rfl rfl rfl rfl rfl rfl) rfl (qaY qc [.tmp 39, .tmp 40, .tmp 41, .tmp 42] _ ([(⟨0, 0⟩ : qS), (⟨0, 1⟩ : qS), (⟨1, 0⟩ : qS), (⟨1, 1⟩ : qS)] : List qS) h rfl rfl rfl rfl rfl rfl rfl rfl rfl ⟨(qc4 (⟨0, 0⟩ : qS)), (qc4 (⟨0, 1⟩ : qS)), (qc4 (⟨1, 0⟩ : qS)), (qc4 (⟨1, 1⟩ : qS)), trivial⟩ rfl ?_))))))
 intro w6 p7 S5 h
 refine zp1 rfl (qb ?_)
 obtain rfl := qh hF
 exact qay qc (ρ := (List qS)) [GoT.v (List qS) [.slice p7 4 4]] h ⟨rfl, trivial⟩ (PV.done h (qaG (qab 0 h rfl)))

def qa2 (first : Int) (i1 : Int) (y2 : qX) (r1 : (List qS)) : Nat → (List qbf) → Int → Option ((List qbf) × Int)
 | 0, _, _ => none
 | n + 1, x2, i2 =>
  bif decide (i2 < (r1.length : Int)) then
   (idx r1 i2).bind fun y3 =>
   (appS x2 ([(⟨W64 ((W64 (2 * (W64 (first + y2.From)))) + y3.e0), W64 ((W64 (2 * (W64 (first + y2.To)))) + y3.e1), 1, i1⟩ : qbf)] : List qbf)).bind fun x3 =>
   qa2 first i1 y2 r1 n x3 (W64 (i2 + 1))
  else
   some (x2, i2)

def qa5 (first : Int) (y1 : qB) : Nat → (List qbf) → Int → Option ((List qbf) × Int)
 | 0, _, _ => none
 | n + 1, x1, i1 =>
  bif decide (i1 < (y1.Arcs.length : Int)) then
   (idx y1.Arcs i1).bind fun y2 =>
   (qds n y2).bind fun r1 =>
   (qa2 first i1 y2 r1 n x1 0).bind fun o => match o with
   | (x2, _) =>
    qa5 first y1 n x2 (W64 (i1 + 1))
  else
   some (x1, i1)

def qdt (n : Nat) (b : qD) (x : qk) (first : Int) : Option (List qbf) :=
 (idx b.Library.Cells x.Cell).bind fun y1 =>
 (qa5 first y1 n ([] : List qbf) 0).bind fun o => match o with
 | (x1, _) =>
  some x1

theorem qiu {n : Nat} {w : World} {b : qD} {x : qk} {first : Int} {cs1 : List Value} (ha1 : GoT.R w (old w) b cs1) {cs2 : List Value} (ha2 : GoT.R w (old w) x cs2) {r : (List qbf)} (hF : qdt n b x first = some r) : RetV Tryz.prog 150 [GoT.v qD cs1, GoT.v qk cs2, .int .i64 first] w r := by
 obtain ⟨p1, k1, p2, k2, p3, k3, p4, k4, p5, k5, rfl, s1, s2, s3, s4, s5⟩ := qax ha1
 obtain ⟨p6, k6, rfl, s6⟩ := qae ha2
 refine qe Tryz.func150 rfl (m := 57) rfl rfl (fun h => ?_)
 rw [qdt] at hF
 refine zSR (qP h rfl rfl ?_)
 intro w1 bb1 h
 refine qP h rfl rfl ?_
 intro w2 bb2 h
 refine zp1 rfl (zNSR (zp1 rfl (zNSSR (zp2 rfl (zl 1 0 h rfl ?_)))))
 refine zp1 rfl (zl 0 1 h rfl ?_)
 obtain ⟨y1, hy1, hF⟩ := qd hF
 have he1 := qg hy1
 obtain ⟨b1, o_1, q1, cs3, hp1, hq1, -, hr1, hc1⟩ := s1.at hy1
 obtain ⟨p7, k7, p8, k8, p9, k9, rfl, s7, s8, s9⟩ := qaj hr1
 refine zxe hp1 hq1 he1 rfl (zp1 rfl (zc 3 (hc1.below h.below) rfl (zp2 rfl (qb ?_))))
 replace h := h.nil (α := qbf)
 obtain ⟨o1, hF, hK1⟩ := qd hF
 refine qw ?_
 replace h := h.pick [0] rfl
 refine qR [(2, _), (7, _), (19, _), (20, _), (21, _)] ⟨rfl, rfl, rfl, rfl, rfl, trivial⟩ ?_
 refine qH (fun m e w' => ∃ (S1 : Nat → Prop) (p10 : Option Addr) (ln1 : Nat) (k10 : Nat) (x1 : (List qbf)) (i1 : Int), qa5 first y1 m x1 i1 = some o1 ∧ e = [(2, .int .i64 first), (7, .slice p10 ln1 k10), (19, .slice p8 y1.Arcs.length k8), (20, .int .i64 (y1.Arcs.length : Int)), (21, .int .i64 i1)] ∧ SH w w' [Ch.own S1 (x1 : List qbf) [.slice p10 ln1 k10]]) n ⟨_, _, _, _, _, _, hF, rfl, h⟩ ?_
 rintro m1 e1 w3 ⟨S1, p10, ln1, k10, x1, i1, hF, rfl, h⟩
 obtain rfl := (h.sl 0 rfl).2
 rcases m1 with _ | m1
 ·rw [qa5] at hF
  cases hF
 rw [qa5] at hF
 refine zSR (zp1 rfl (zNS ?_))
 refine qq rfl hF ?_ ?_ <;> intro hF
 ·refine zKSBSR (zp1 rfl ?_)
  obtain ⟨y2, hy2, hF⟩ := qd hF
  have he2 := qg hy2
  obtain ⟨b2, o_2, q2, cs4, hp2, hq2, -, hr2, hc3⟩ := s8.at hy2
  obtain ⟨p11, k11, p12, k12, rfl, s10, s11⟩ := qaR hr2
  refine zxe hp2 hq2 he2 rfl (zc 0 (hc3.below h.below) rfl (qah qc h rfl rfl rfl ?_))
  intro w4 bb3 h
  refine zp1 rfl (zs 0 h rfl ?_)
  intro w5 h
  replace h : SH _ _ [Ch.box bb3 [.int .i64 y2.Kind, .int .i64 y2.From, .int .i64 y2.To, .int .i64 y2.Sense, .slice p11 y2.Delay.length k11, .slice p12 y2.Slew.length k12] 211, Ch.own S1 (x1 : List qbf) [.slice p10 x1.length k10]] := h
  refine zNSR (zl 0 0 h rfl ?_)
  obtain ⟨r1, hr3, hF⟩ := qd hF
  refine qam r1 h call186 (qiI (qf3 y2 (h.oldS s10) (h.oldS s11)) hr3) rfl rfl rfl rfl ?_
  intro w6 S2 p13 k13 h
  refine zp2 rfl (qb ?_)
  obtain ⟨o2, hF, hK2⟩ := qd hF
  refine qw (qR [(2, _), (7, _), (8, _), (9, _), (19, _), (20, _), (21, _), (27, _), (28, _), (29, _)] ⟨rfl, rfl, rfl, rfl, rfl, rfl, rfl, rfl, rfl, rfl, trivial⟩ ?_)
  refine qH (fun m e w' => ∃ (S3 : Nat → Prop) (p14 : Option Addr) (ln2 : Nat) (k14 : Nat) (x2 : (List qbf)) (i2 : Int), qa2 first i1 y2 r1 m x2 i2 = some o2 ∧ e = [(2, .int .i64 first), (7, .slice p14 ln2 k14), (8, .int .i64 i1), (9, .pointer (some ⟨bb3, 0, none⟩)), (19, .slice p8 y1.Arcs.length k8), (20, .int .i64 (y1.Arcs.length : Int)), (21, .int .i64 i1), (27, .slice p13 r1.length k13), (28, .int .i64 (r1.length : Int)), (29, .int .i64 i2)] ∧ SH w w' [Ch.own S2 (r1 : List qS) [.slice p13 r1.length k13], Ch.box bb3 [.int .i64 y2.Kind, .int .i64 y2.From, .int .i64 y2.To, .int .i64 y2.Sense, .slice p11 y2.Delay.length k11, .slice p12 y2.Slew.length k12] 211, Ch.own S3 (x2 : List qbf) [.slice p14 ln2 k14]]) m1 ⟨_, _, _, _, _, _, hF, rfl, h⟩ ?_
  rintro m2 e2 w7 ⟨S3, p14, ln2, k14, x2, i2, hF, rfl, h⟩
  obtain rfl := (h.sl 2 rfl).2
  rcases m2 with _ | m2
  ·rw [qa2] at hF
   cases hF
  rw [qa2] at hF
  refine zSR (zp1 rfl (zNS ?_))
  refine qq rfl hF ?_ ?_ <;> intro hF
  ·refine zKSBSR ?_
   obtain ⟨y3, hy3, hF⟩ := qd hF
   have he3 := qg hy3
   obtain ⟨b3, o_3, q3, cs5, hp3, hq3, -, hr4, hc5⟩ := (h.sl 0 rfl).1.at hy3
   obtain rfl := qnk hr4
   refine zx hp3 hq3 ⟨he3.1, qac he3.2.1 (h.sl 0 rfl).2⟩ rfl (zc 0 hc5 rfl (qah qc h rfl rfl rfl ?_))
   intro w8 bb4 h
   refine zs 0 h rfl ?_
   intro w9 h
   refine qb (qz (zp3 rfl (zl 2 1 h rfl (zp2 rfl ?_))))
   refine r_v (qrq (iv := 0) qc rfl rfl (by decide) ⟨rfl, rfl⟩ rfl rfl) rfl ?_
   refine zl 0 0 h rfl (zp3 rfl (zl 2 2 h rfl (zp2 rfl ?_)))
   refine r_v (qrq (iv := 1) qc rfl rfl (by decide) ⟨rfl, rfl⟩ rfl rfl) rfl ?_
   refine zl 0 1 h rfl (zp2 rfl (r_v (qhU qc [0, 1, 2, 3] [.tmp 41, .tmp 49, .const (.int .i64 (1)), .tmp 50] rfl rfl rfl rfl rfl rfl rfl rfl) rfl (qaY qc [.tmp 51] _ ([(⟨W64 ((W64 (2 * (W64 (first + y2.From)))) + y3.e0), W64 ((W64 (2 * (W64 (first + y2.To)))) + y3.e1), 1, i1⟩ : qbf)] : List qbf) h rfl rfl rfl rfl rfl rfl rfl rfl rfl ⟨(qmP (⟨W64 ((W64 (2 * (W64 (first + y2.From)))) + y3.e0), W64 ((W64 (2 * (W64 (first + y2.To)))) + y3.e1), 1, i1⟩ : qbf)), trivial⟩ rfl ?_)))
   intro w10 p15 S4 h
   obtain ⟨x3, hx1, hF⟩ := qd hF
   obtain ⟨g1, hx1⟩ := qbt hx1
   refine qeW qc 4 h rfl (h.sl 0 rfl).1 (h.sl 0 rfl).2 rfl rfl rfl rfl rfl rfl rfl rfl rfl g1 hx1 rfl ?_
   intro w11 p16 k15 S5 h
   refine zp1 rfl (zNER (zp2 rfl (qb ?_)))
   replace h := h.pick [2, 3, 4] rfl
   exact qA m2 [(2, _), (7, _), (8, _), (9, _), (19, _), (20, _), (21, _), (27, _), (28, _), (29, _)] (Nat.lt_succ_self m2) ⟨rfl, rfl, rfl, rfl, rfl, rfl, rfl, rfl, rfl, rfl, trivial⟩ ⟨_, _, _, _, _, _, hF, rfl, h⟩
  refine qI rfl ?_
  obtain rfl := qh hF; replace hF := hK2
  refine qfE (qz (zp2 rfl (qb ?_)))
  replace h := h.pick [2] rfl
  exact qA m1 [(2, _), (7, _), (19, _), (20, _), (21, _)] (Nat.lt_succ_self m1) ⟨rfl, rfl, rfl, rfl, rfl, trivial⟩ ⟨_, _, _, _, _, _, hF, rfl, h⟩
 refine qI rfl ?_
 obtain rfl := qh hF; replace hF := hK1
 refine zSR (zp2 rfl (qb ?_))
 obtain rfl := qh hF
 exact qay qc (ρ := (List qbf)) [GoT.v (List qbf) [.slice p10 x1.length k10]] h ⟨rfl, trivial⟩ (PV.done h (qaG (qab 0 h rfl)))

def qdi (_ : Nat) (s : (List Int)) : Option (List Int) :=
 appS ([] : List Int) s

theorem qhc {n : Nat} {w : World} {s : (List Int)} {cs1 : List Value} (ha1 : GoT.R w (old w) s cs1) {r : (List Int)} (hF : qdi n s = some r) : RetV Tryz.prog 97 [GoT.v (List Int) cs1] w r := by
 obtain ⟨p, k, rfl, s1⟩ := ha1
 obtain ⟨g1, hx⟩ := qbt (show appS ([] : List Int) s = some r from hF)
 cases p with
 | none =>
  obtain rfl := qn2 s1
  obtain rfl : [] = r := hx
  refine qe Tryz.func97 rfl (m := 8) rfl rfl (fun h => ?_)
  refine zSR (zp1 rfl (zNSSR (zp1 rfl (r_v (qnS qc rfl rfl rfl rfl rfl) rfl (qb (qeN rfl rfl (qbm ?_)))))))
  exact qz (zp1 rfl (qb (qay qc (ρ := (List Int)) [GoT.v (List Int) [.slice none 0 0]] h ⟨rfl, trivial⟩ (PV.done h (qaG qkN)))))
 | some a =>
  refine qe Tryz.func97 rfl (m := 8) rfl rfl (fun h => ?_)
  refine zSR (zp1 rfl (zNSSR (zp1 rfl (r_v (qnS qc rfl rfl rfl rfl rfl) rfl (qb (qey rfl rfl (qdO ?_)))))))
  refine zSR (qaY qc [] _ ([] : List Int) h rfl rfl rfl rfl rfl rfl rfl rfl rfl trivial rfl ?_)
  intro w1 p1 S1 h
  refine zp1 rfl (qrs qc 0 h rfl (h.oldS s1) rfl rfl rfl rfl rfl rfl rfl rfl rfl rfl g1 rfl ?_)
  intro w2 p2 k2 S2 h
  rw [hx] at h
  exact zp1 rfl (qb (qay qc (ρ := (List Int)) [GoT.v (List Int) [.slice p2 (([] : List Int).length + s.length) k2]] h ⟨rfl, trivial⟩ (PV.done h (qaG (qab 0 h rfl)))))

def qaH (net : Int) (r1 : (List Tplace)) : Nat → (List Int) → Int → Option ((List Int) × Int)
 | 0, _, _ => none
 | n + 1, x1, i1 =>
  bif decide (i1 < (r1.length : Int)) then
   (idx r1 i1).bind fun y1 =>
   bif (y1.net == net) then
    bif (!y1.drives) then
     (appS x1 ([i1] : List Int)).bind fun x2 =>
     qaH net r1 n x2 (W64 (i1 + 1))
    else
     qaH net r1 n x1 (W64 (i1 + 1))
   else
    qaH net r1 n x1 (W64 (i1 + 1))
  else
   some (x1, i1)

def qeq (n : Nat) (d : ql) (net : Int) : Option (List Int) :=
 (qbT n d).bind fun r1 =>
 (qaH net r1 n ([] : List Int) 0).bind fun o => match o with
 | (x1, _) =>
  some x1

theorem qi9 {n : Nat} {w : World} {d : ql} {net : Int} {cs1 : List Value} (ha1 : GoT.R w (old w) d cs1) {r : (List Int)} (hF : qeq n d net = some r) : RetV Tryz.prog 187 [GoT.v ql cs1, .int .i64 net] w r := by
 obtain ⟨p1, k1, p2, k2, p3, k3, rfl, s1, s2, s3⟩ := qaS ha1
 refine qe Tryz.func187 rfl (m := 31) rfl rfl (fun h => ?_)
 rw [qeq] at hF
 refine zSR (qP h rfl rfl ?_)
 intro w1 bb1 h
 refine zp1 rfl (zNSR (zp1 rfl (zNSSR (zl 0 0 h rfl ?_))))
 obtain ⟨r1, hr1, hF⟩ := qd hF
 refine qam r1 h call148 (qeh (h.old ha1) hr1) rfl rfl rfl rfl ?_
 intro w2 S1 p4 k4 h
 refine zp2 rfl (qb ?_)
 replace h := h.nil (α := Int)
 obtain ⟨o1, hF, hK1⟩ := qd hF
 refine qw ?_
 replace h := h.pick [0, 1] rfl
 refine qR [(1, _), (5, _), (9, _), (10, _), (11, _)] ⟨rfl, rfl, rfl, rfl, rfl, trivial⟩ ?_
 refine qH (fun m e w' => ∃ (S2 : Nat → Prop) (p5 : Option Addr) (ln1 : Nat) (k5 : Nat) (x1 : (List Int)) (i1 : Int), qaH net r1 m x1 i1 = some o1 ∧ e = [(1, .int .i64 net), (5, .slice p5 ln1 k5), (9, .slice p4 r1.length k4), (10, .int .i64 (r1.length : Int)), (11, .int .i64 i1)] ∧ SH w w' [Ch.own S2 (x1 : List Int) [.slice p5 ln1 k5], Ch.own S1 (r1 : List Tplace) [.slice p4 r1.length k4]]) n ⟨_, _, _, _, _, _, hF, rfl, h⟩ ?_
 rintro m1 e1 w3 ⟨S2, p5, ln1, k5, x1, i1, hF, rfl, h⟩
 obtain rfl := (h.sl 0 rfl).2
 rcases m1 with _ | m1
 ·rw [qaH] at hF
  cases hF
 rw [qaH] at hF
 refine zSR (zp1 rfl (zNS ?_))
 refine qq rfl hF ?_ ?_ <;> intro hF
 ·refine zKSBSR (zp1 rfl ?_)
  obtain ⟨y1, hy1, hF⟩ := qd hF
  have he1 := qg hy1
  obtain ⟨b1, o_1, q1, cs2, hp1, hq1, -, hr2, hc2⟩ := (h.sl 1 rfl).1.at hy1
  obtain rfl := qhO hr2
  refine zx hp1 hq1 ⟨he1.1, qac he1.2.1 (h.sl 1 rfl).2⟩ rfl (zc 0 hc2 rfl (qah qc h rfl rfl rfl ?_))
  intro w4 bb2 h
  refine zp1 rfl (zs 0 h rfl ?_)
  intro w5 h
  replace h : SH _ _ [Ch.box bb2 [.int .i64 y1.instance_, .int .i64 y1.pin, .int .i64 y1.net, .bool y1.drives] 156, Ch.own S2 (x1 : List Int) [.slice p5 x1.length k5], Ch.own S1 (r1 : List Tplace) [.slice p4 r1.length k4]] := h
  refine zNSR (zp1 rfl (zl 0 2 h rfl (zp3 rfl ?_)))
  by_cases hc3 : (y1.net == net) = true
  ·replace hF := bifT hc3 hF
   refine qF hc3 (t := 20) rfl (qa rfl (zp1 rfl (qa rfl (zl 0 3 h rfl (qa rfl (zp2 rfl (qb ?_)))))))
   refine qq rfl hF ?_ ?_ <;> intro hF
   ·refine qz (zp2 rfl (qaY qc [.tmp 26] _ ([i1] : List Int) h rfl rfl rfl rfl rfl rfl rfl rfl rfl ⟨rfl, trivial⟩ rfl ?_))
    intro w6 p6 S3 h
    obtain ⟨x2, hx1, hF⟩ := qd hF
    obtain ⟨g1, hx1⟩ := qbt hx1
    refine qeW qc 2 h rfl (h.sl 0 rfl).1 (h.sl 0 rfl).2 rfl rfl rfl rfl rfl rfl rfl rfl rfl g1 hx1 rfl ?_
    intro w7 p7 k6 S4 h
    refine zp1 rfl (zNER (zp2 rfl (qb ?_)))
    replace h := h.pick [2, 3] rfl
    exact qA m1 [(1, _), (5, _), (9, _), (10, _), (11, _)] (Nat.lt_succ_self m1) ⟨rfl, rfl, rfl, rfl, rfl, trivial⟩ ⟨_, _, _, _, _, _, hF, rfl, h⟩
   refine zKER (zp2 rfl (qb ?_))
   replace h := h.pick [1, 2] rfl
   exact qA m1 [(1, _), (5, _), (9, _), (10, _), (11, _)] (Nat.lt_succ_self m1) ⟨rfl, rfl, rfl, rfl, rfl, trivial⟩ ⟨_, _, _, _, _, _, hF, rfl, h⟩
  replace hc3 := zb hc3
  replace hF := bifF hc3 hF
  refine qE hc3 (t := 20) rfl (zn3 rfl (zp1 rfl (qb (qey rfl rfl (zKER (zp2 rfl ?_))))))
  refine qb ?_
  replace h := h.pick [1, 2] rfl
  exact qA m1 [(1, _), (5, _), (9, _), (10, _), (11, _)] (Nat.lt_succ_self m1) ⟨rfl, rfl, rfl, rfl, rfl, trivial⟩ ⟨_, _, _, _, _, _, hF, rfl, h⟩
 refine qI rfl ?_
 obtain rfl := qh hF; replace hF := hK1
 refine zSR (zp2 rfl (qb ?_))
 obtain rfl := qh hF
 exact qay qc (ρ := (List Int)) [GoT.v (List Int) [.slice p5 x1.length k5]] h ⟨rfl, trivial⟩ (PV.done h (qaG (qab 0 h rfl)))

def qeD (_ : Nat) (d : ql) (l : qx) (p : Tplace) : Option Int :=
 bif decide (p.instance_ < 0) then
  some 0
 else
  (idx d.Instances p.instance_).bind fun y1 =>
  (idx l.Cells y1.Cell).bind fun y2 =>
  (idx y2.Pins p.pin).bind fun y3 =>
  some y3.Cap

theorem qjk {n : Nat} {w : World} {d : ql} {l : qx} {p : Tplace} {cs1 : List Value} (ha1 : GoT.R w (old w) d cs1) {cs2 : List Value} (ha2 : GoT.R w (old w) l cs2) {cs3 : List Value} (ha3 : GoT.R w (old w) p cs3) {r : Int} (hF : qeD n d l p = some r) : RetV Tryz.prog 188 [GoT.v ql cs1, GoT.v qx cs2, GoT.v Tplace cs3] w r := by
 obtain ⟨p1, k1, p2, k2, p3, k3, rfl, s1, s2, s3⟩ := qaS ha1
 obtain ⟨p4, k4, rfl, s4⟩ := qbW ha2
 obtain rfl := qhO ha3
 refine qe Tryz.func188 rfl (m := 27) rfl rfl (fun h => ?_)
 rw [qeD] at hF
 refine zSR (qP h rfl rfl ?_)
 intro w1 bb1 h
 refine qP h rfl rfl ?_
 intro w2 bb2 h
 refine qP h rfl rfl ?_
 intro w3 bb3 h
 refine zp1 rfl (zNSSR (zp1 rfl (zl 0 0 h rfl (zp1 rfl (qb ?_)))))
 refine qq rfl hF ?_ ?_ <;> intro hF
 ·exact zSR (zp1 rfl (qb (qaF qc h hF ⟨rfl, trivial⟩)))
 refine zKS ?_
 refine qcU rfl (by kernel_rfl) ?_
 refine zd1 rfl ?_
 refine zdl 1 0 h rfl ?_
 refine zd1 rfl ?_
 refine zdl 2 0 h rfl ?_
 refine zd1 rfl ?_
 refine zdl 0 0 h rfl ?_
 obtain ⟨y1, hy1, hF⟩ := qd hF
 have he1 := qg hy1
 obtain ⟨b1, o_1, q1, cs4, hp1, hq1, -, hr1, hc2⟩ := s1.at hy1
 obtain ⟨p5, k5, rfl, s5⟩ := qae hr1
 refine zdxe hp1 hq1 he1 rfl ?_
 refine zd1 rfl ?_
 refine zdc 1 (hc2.below h.below) rfl ?_
 obtain ⟨y2, hy2, hF⟩ := qd hF
 have he2 := qg hy2
 obtain ⟨b2, o_2, q2, cs5, hp2, hq2, -, hr2, hc3⟩ := s4.at hy2
 obtain ⟨p6, k6, p7, k7, p8, k8, rfl, s6, s7, s8⟩ := qaj hr2
 refine zdxe hp2 hq2 he2 rfl ?_
 refine zd1 rfl ?_
 refine zdc 2 (hc3.below h.below) rfl ?_
 refine zd1 rfl ?_
 refine zdl 0 1 h rfl ?_
 obtain ⟨y3, hy3, hF⟩ := qd hF
 have he3 := qg hy3
 obtain ⟨b3, o_3, q3, cs6, hp3, hq3, -, hr3, hc4⟩ := s6.at hy3
 obtain rfl := qa8 hr3
 refine zdxe hp3 hq3 he3 rfl ?_
 refine zd1 rfl ?_
 refine zdc 2 (hc4.below h.below) rfl ?_
 refine zd1 rfl ?_
 refine qbk (fun w4 hb => ?_)
 replace h := h.ext hb
 clear hb
 exact qaF qc h hF ⟨rfl, trivial⟩

def qa3 (y1 : qQ) : Nat → (List Int) → Int → Option ((List Int) × Int)
 | 0, _, _ => none
 | n + 1, x2, i2 =>
  bif decide (i2 > 0) then
   (idx y1.Parent i2).bind fun y7 =>
   (idx x2 y7).bind fun y8 =>
   (idx x2 i2).bind fun y9 =>
   (idx x2 y7).bind fun _ =>
   qa3 y1 n (setS x2 y7 (W64 (y8 + y9))) (W64 (i2 - 1))
  else
   some (x2, i2)

def qa4 (a_0 : qD) (y1 : qQ) (r2 : (List Tplace)) (r3 : (List Int)) : Nat → (List Int) → Int → Option ((List Int) × Int)
 | 0, _, _ => none
 | n + 1, x1, i1 =>
  bif decide (i1 < (r3.length : Int)) then
   (idx r3 i1).bind fun y2 =>
   (idx y1.Sink i1).bind fun y3 =>
   (idx x1 y3).bind fun y4 =>
   (idx r2 y2).bind fun y5 =>
   (qeD n (⟨a_0.Design.Instances, a_0.Design.Nets, a_0.Design.Ports⟩ : ql) (⟨a_0.Library.Cells⟩ : qx) y5).bind fun r4 =>
   (idx x1 y3).bind fun _ =>
   qa4 a_0 y1 r2 r3 n (setS x1 y3 (W64 (y4 + r4))) (W64 (i1 + 1))
  else
   some (x1, i1)

def qcw (n : Nat) (a_0 : qD) (a_1 : Int) : Option (List Int) :=
 (idx a_0.Wires a_1).bind fun y1 =>
 (qdi n y1.Cap).bind fun r1 =>
 (qbT n (⟨a_0.Design.Instances, a_0.Design.Nets, a_0.Design.Ports⟩ : ql)).bind fun r2 =>
 (qeq n (⟨a_0.Design.Instances, a_0.Design.Nets, a_0.Design.Ports⟩ : ql) a_1).bind fun r3 =>
 (qa4 a_0 y1 r2 r3 n r1 0).bind fun o => match o with
 | (x1, _) =>
  (qa3 y1 n x1 (W64 ((r1.length : Int) - 1))).bind fun o => match o with
  | (x2, _) =>
   some x2

theorem qe6 {n : Nat} {w : World} {a_0 : qD} {a_1 : Int} {cs1 : List Value} (ha1 : GoT.R w (old w) a_0 cs1) {r : (List Int)} (hF : qcw n a_0 a_1 = some r) : RetV Tryz.prog 151 [GoT.v qD cs1, .int .i64 a_1] w r := by
 obtain ⟨p1, k1, p2, k2, p3, k3, p4, k4, p5, k5, rfl, s1, s2, s3, s4, s5⟩ := qax ha1
 refine qe Tryz.func151 rfl (m := 74) rfl rfl (fun h => ?_)
 rw [qcw] at hF
 refine zSR (qP h rfl rfl ?_)
 intro w1 bb1 h
 refine zp1 rfl (zNSR (zp1 rfl (zl 0 4 h rfl (zp1 rfl ?_))))
 obtain ⟨y1, hy1, hF⟩ := qd hF
 have he1 := qg hy1
 obtain ⟨b1, o_1, q1, cs2, hp1, hq1, -, hr1, hc1⟩ := s5.at hy1
 obtain ⟨p6, k6, p7, k7, p8, k8, p9, k9, rfl, s6, s7, s8, s9⟩ := qbu hr1
 refine zxe hp1 hq1 he1 rfl (zc 0 (hc1.below h.below) rfl (qah qc h rfl rfl rfl ?_))
 intro w2 bb2 h
 refine zs 0 h rfl ?_
 intro w3 h
 refine zNSR (zp1 rfl (zl 0 2 h rfl ?_))
 obtain ⟨r1, hr2, hF⟩ := qd hF
 refine qam r1 h call97 (qhc ⟨_, _, rfl, (h.oldS s8)⟩ hr2) rfl rfl rfl rfl ?_
 intro w4 S1 p10 k10 h
 refine zp1 rfl (zNSR (zp1 rfl (zl 2 1 h rfl ?_)))
 obtain ⟨r2, hr3, hF⟩ := qd hF
 refine qam r2 h call148 (qeh (qck (⟨a_0.Design.Instances, a_0.Design.Nets, a_0.Design.Ports⟩ : ql) (h.oldS s2) (h.oldS s3) (h.oldS s4)) hr3) rfl rfl rfl rfl ?_
 intro w5 S2 p11 k11 h
 refine zp1 rfl (zNSSR (zp1 rfl (zl 3 1 h rfl (zp1 rfl ?_))))
 obtain ⟨r3, hr4, hF⟩ := qd hF
 refine qam r3 h call187 (qi9 (qck (⟨a_0.Design.Instances, a_0.Design.Nets, a_0.Design.Ports⟩ : ql) (h.oldS s2) (h.oldS s3) (h.oldS s4)) hr4) rfl rfl rfl rfl ?_
 intro w6 S3 p12 k12 h
 refine zp2 rfl (qb ?_)
 obtain ⟨o1, hF, hK1⟩ := qd hF
 refine qw (qR [(2, _), (5, _), (6, _), (7, _), (25, _), (26, _), (27, _)] ⟨rfl, rfl, rfl, rfl, rfl, rfl, rfl, trivial⟩ ?_)
 refine qH (fun m e w' => ∃ (x1 : (List Int)) (i1 : Int), qa4 a_0 y1 r2 r3 m x1 i1 = some o1 ∧ e = [(2, .pointer (some ⟨bb1, 0, none⟩)), (5, .pointer (some ⟨bb2, 0, none⟩)), (6, .slice p10 r1.length k10), (7, .slice p11 r2.length k11), (25, .slice p12 r3.length k12), (26, .int .i64 (r3.length : Int)), (27, .int .i64 i1)] ∧ SH w w' [Ch.own S3 (r3 : List Int) [.slice p12 r3.length k12], Ch.own S2 (r2 : List Tplace) [.slice p11 r2.length k11], Ch.own S1 (x1 : List Int) [.slice p10 r1.length k10], Ch.box bb2 [.slice p6 y1.Parent.length k6, .slice p7 y1.Res.length k7, .slice p8 y1.Cap.length k8, .slice p9 y1.Sink.length k9] 130, Ch.box bb1 [.slice p1 a_0.Library.Cells.length k1, .slice p2 a_0.Design.Instances.length k2, .slice p3 a_0.Design.Nets.length k3, .slice p4 a_0.Design.Ports.length k4, .slice p5 a_0.Wires.length k5] 50]) n ⟨_, _, hF, rfl, h⟩ ?_
 rintro m1 e1 w7 ⟨x1, i1, hF, rfl, h⟩
 rcases m1 with _ | m1
 ·rw [qa4] at hF
  cases hF
 rw [qa4] at hF
 refine zSR (zp1 rfl (zNS ?_))
 refine qq rfl hF ?_ ?_ <;> intro hF
 ·refine zKSBSR (zp1 rfl ?_)
  obtain ⟨y2, hy2, hF⟩ := qd hF
  have he2 := qg hy2
  obtain ⟨b2, o_2, q2, cs3, hp2, hq2, -, hr5, hc3⟩ := (h.sl 0 rfl).1.at hy2
  obtain rfl := hr5
  refine zx hp2 hq2 ⟨he2.1, qac he2.2.1 (h.sl 0 rfl).2⟩ rfl (zc 0 hc3 rfl (zp2 rfl (qb ?_)))
  refine qhB [19] (fun w' => SH w w' [Ch.own S2 (r2 : List Tplace) [.slice p11 r2.length k11], Ch.own S1 (x1 : List Int) [.slice p10 r1.length k10], Ch.box bb2 [.slice p6 y1.Parent.length k6, .slice p7 y1.Res.length k7, .slice p8 y1.Cap.length k8, .slice p9 y1.Sink.length k9] 130, Ch.box bb1 [.slice p1 a_0.Library.Cells.length k1, .slice p2 a_0.Design.Instances.length k2, .slice p3 a_0.Design.Nets.length k3, .slice p4 a_0.Design.Ports.length k4, .slice p5 a_0.Wires.length k5] 50]) rfl 20 rfl #[ff, ff, ff, ff, ff, ff, ff, ff, ff, ff, ff, ff, ff, ff, ff, ff, ff, ff, ff, ff] (by kernel_rfl) (fun w8 hb => ?_)
  replace h := h.ext hb
  clear hb
  refine qm 0 rfl #[tt, ff, ff, ff, ff, ff, ff, ff, ff, ff, ff, ff, ff, ff, ff, ff, ff, ff, ff, ff] (by kernel_rfl) (by kernel_rfl) (fun w' hw => v_p qc rfl w') (h.pick [1, 2, 3, 4] rfl) rfl ?_
  refine qm 1 rfl #[tt, tt, ff, ff, ff, ff, ff, ff, ff, ff, ff, ff, ff, ff, ff, ff, ff, ff, ff, ff] (by kernel_rfl) (by kernel_rfl) (fun w' hw => v_p qc rfl w') (h.pick [1, 2, 3, 4] rfl) rfl ?_
  refine qm 2 rfl #[tt, tt, tt, ff, ff, ff, ff, ff, ff, ff, ff, ff, ff, ff, ff, ff, ff, ff, ff, ff] (by kernel_rfl) (by kernel_rfl) (fun w' hw => qcX qc (hw.box 2 rfl) (j := 3) rfl rfl rfl) (h.pick [1, 2, 3, 4] rfl) rfl ?_
  refine qm 3 rfl #[tt, tt, tt, tt, ff, ff, ff, ff, ff, ff, ff, ff, ff, ff, ff, ff, ff, ff, ff, ff] (by kernel_rfl) (by kernel_rfl) (fun w' hw => v_p qc rfl w') (h.pick [1, 2, 3, 4] rfl) rfl ?_
  obtain ⟨y3, hy3, hF⟩ := qd hF
  have he3 := qg hy3
  obtain ⟨b3, o_3, q3, cs4, hp3, hq3, -, hr6, hc4⟩ := s9.at hy3
  obtain rfl := hr6
  refine qm 4 rfl #[tt, tt, tt, tt, tt, ff, ff, ff, ff, ff, ff, ff, ff, ff, ff, ff, ff, ff, ff, ff] (by kernel_rfl) (by kernel_rfl) (fun w' hw => qg4 qc hp3 hq3 ⟨he3.1, he3.2.1⟩ rfl rfl rfl rfl rfl rfl) (h.pick [1, 2, 3, 4] rfl) rfl ?_
  refine qm 5 rfl #[tt, tt, tt, tt, tt, tt, ff, ff, ff, ff, ff, ff, ff, ff, ff, ff, ff, ff, ff, ff] (by kernel_rfl) (by kernel_rfl) (fun w' hw => qcX qc (hc4.below hw.below) (j := 0) rfl rfl rfl) (h.pick [1, 2, 3, 4] rfl) rfl ?_
  obtain ⟨y4, hy4, hF⟩ := qd hF
  have he4 := qg hy4
  obtain ⟨b4, o_4, q4, cs5, hp4, hq4, -, hr7, hc5⟩ := (h.sl 2 rfl).1.at hy4
  obtain rfl := hr7
  refine qm 6 rfl #[tt, tt, tt, tt, tt, tt, tt, ff, ff, ff, ff, ff, ff, ff, ff, ff, ff, ff, ff, ff] (by kernel_rfl) (by kernel_rfl) (fun w' hw => qg4 qc hp4 hq4 ⟨he4.1, qac he4.2.1 (h.sl 2 rfl).2⟩ rfl rfl rfl rfl rfl rfl) (h.pick [1, 2, 3, 4] rfl) rfl ?_
  refine qm 7 rfl #[tt, tt, tt, tt, tt, tt, tt, tt, ff, ff, ff, ff, ff, ff, ff, ff, ff, ff, ff, ff] (by kernel_rfl) (by kernel_rfl) (fun w' hw => qcX qc (qhs (w1 := w) (S1 := fun _ => False) hw 1 rfl hy4 hp4 hq4 rfl) (j := 0) rfl rfl rfl) (h.pick [1, 2, 3, 4] rfl) rfl ?_
  refine qm 8 rfl #[tt, tt, tt, tt, tt, tt, tt, tt, tt, ff, ff, ff, ff, ff, ff, ff, ff, ff, ff, ff] (by kernel_rfl) (by kernel_rfl) (fun w' hw => v_p qc rfl w') (h.pick [1, 2, 3, 4] rfl) rfl ?_
  refine qm 9 rfl #[tt, tt, tt, tt, tt, tt, tt, tt, tt, tt, ff, ff, ff, ff, ff, ff, ff, ff, ff, ff] (by kernel_rfl) (by kernel_rfl) (fun w' hw => qcX qc (hw.box 3 rfl) (j := 1) rfl rfl rfl) (h.pick [1, 2, 3, 4] rfl) rfl ?_
  refine qm 10 rfl #[tt, tt, tt, tt, tt, tt, tt, tt, tt, tt, tt, ff, ff, ff, ff, ff, ff, ff, ff, ff] (by kernel_rfl) (by kernel_rfl) (fun w' hw => v_p qc rfl w') (h.pick [1, 2, 3, 4] rfl) rfl ?_
  refine qm 11 rfl #[tt, tt, tt, tt, tt, tt, tt, tt, tt, tt, tt, tt, ff, ff, ff, ff, ff, ff, ff, ff] (by kernel_rfl) (by kernel_rfl) (fun w' hw => qcX qc (hw.box 3 rfl) (j := 0) rfl rfl rfl) (h.pick [1, 2, 3, 4] rfl) rfl ?_
  refine qm 12 rfl #[tt, tt, tt, tt, tt, tt, tt, tt, tt, tt, tt, tt, tt, ff, ff, ff, ff, ff, ff, ff] (by kernel_rfl) (by kernel_rfl) (fun w' hw => v_p qc rfl w') (h.pick [1, 2, 3, 4] rfl) rfl ?_
  refine qm 13 rfl #[tt, tt, tt, tt, tt, tt, tt, tt, tt, tt, tt, tt, tt, tt, ff, ff, ff, ff, ff, ff] (by kernel_rfl) (by kernel_rfl) (fun w' hw => v_p qc rfl w') (h.pick [1, 2, 3, 4] rfl) rfl ?_
  obtain ⟨y5, hy5, hF⟩ := qd hF
  have he5 := qg hy5
  obtain ⟨b5, o_5, q5, cs6, hp5, hq5, -, hr8, hc6⟩ := (h.sl 1 rfl).1.at hy5
  obtain rfl := qhO hr8
  refine qm 14 rfl #[tt, tt, tt, tt, tt, tt, tt, tt, tt, tt, tt, tt, tt, tt, tt, ff, ff, ff, ff, ff] (by kernel_rfl) (by kernel_rfl) (fun w' hw => qg4 qc hp5 hq5 ⟨he5.1, qac he5.2.1 (h.sl 1 rfl).2⟩ rfl rfl rfl rfl rfl rfl) (h.pick [1, 2, 3, 4] rfl) rfl ?_
  refine qm 15 rfl #[tt, tt, tt, tt, tt, tt, tt, tt, tt, tt, tt, tt, tt, tt, tt, tt, ff, ff, ff, ff] (by kernel_rfl) (by kernel_rfl) (fun w' hw => qcX qc (qhs hw 0 rfl hy5 hp5 hq5 (qiO (w := w) (S := fun _ => False) y5)) (j := 0) rfl rfl rfl) (h.pick [1, 2, 3, 4] rfl) rfl ?_
  refine qbe 16 rfl #[tt, tt, tt, tt, tt, tt, tt, tt, tt, tt, tt, tt, tt, tt, tt, tt, tt, ff, ff, ff] (by kernel_rfl) (by kernel_rfl) ?_
  obtain ⟨r4, hr9, hF⟩ := qd hF
  refine qU r4 h call188 (qjk (qck (⟨a_0.Design.Instances, a_0.Design.Nets, a_0.Design.Ports⟩ : ql) (h.oldS s2) (h.oldS s3) (h.oldS s4)) (qe9 (⟨a_0.Library.Cells⟩ : qx) (h.oldS s1)) (qiO y5) hr9) rfl rfl rfl rfl ?_
  intro w9 h
  refine qa6 (fun _ => (h.pick [1, 2, 3, 4] rfl)) ?_
  refine qm 17 rfl #[tt, tt, tt, tt, tt, tt, tt, tt, tt, tt, tt, tt, tt, tt, tt, tt, tt, tt, ff, ff] (by kernel_rfl) (by kernel_rfl) (fun w' hw => v_p qc rfl w') (h.pick [1, 2, 3, 4] rfl) rfl ?_
  obtain ⟨y6, hy6, hF⟩ := qd hF
  have he6 := qg hy6
  obtain ⟨b6, o_6, q6, cs7, hp6, hq6, -, hr10, hc7⟩ := (h.sl 2 rfl).1.at hy6
  obtain rfl := hr10
  refine qm 18 rfl #[tt, tt, tt, tt, tt, tt, tt, tt, tt, tt, tt, tt, tt, tt, tt, tt, tt, tt, tt, ff] (by kernel_rfl) (by kernel_rfl) (fun w' hw => qg4 qc hp6 hq6 ⟨he6.1, qac he6.2.1 (h.sl 2 rfl).2⟩ rfl rfl rfl rfl rfl rfl) (h.pick [1, 2, 3, 4] rfl) rfl ?_
  refine qbe 19 rfl #[tt, tt, tt, tt, tt, tt, tt, tt, tt, tt, tt, tt, tt, tt, tt, tt, tt, tt, tt, tt] (by kernel_rfl) (by kernel_rfl) ?_
  refine qcH qc 2 0 (W64 (y4 + r4)) h rfl hy6 hp6 hq6 rfl hc7 rfl rfl rfl rfl rfl rfl rfl ?_
  intro w10 h
  refine qa6 (fun hs => absurd (hs 19 (by decide)) (by decide)) ?_
  refine qfK (by kernel_rfl) ?_
  exact qfE (qz (zp2 rfl (qb (qA m1 [(2, _), (5, _), (6, _), (7, _), (25, _), (26, _), (27, _)] (Nat.lt_succ_self m1) ⟨rfl, rfl, rfl, rfl, rfl, rfl, rfl, trivial⟩ ⟨_, _, hF, rfl, h⟩))))
 refine qI rfl ?_
 obtain rfl := qh hF; replace hF := hK1
 refine zSSR (zp4 rfl (qb ?_))
 obtain ⟨o2, hF, hK2⟩ := qd hF
 refine qw ?_
 replace h := h.pick [2, 3] rfl
 refine qR [(5, _), (6, _), (10, _)] ⟨rfl, rfl, rfl, trivial⟩ ?_
 refine qH (fun m e w' => ∃ (x2 : (List Int)) (i2 : Int), qa3 y1 m x2 i2 = some o2 ∧ e = [(5, .pointer (some ⟨bb2, 0, none⟩)), (6, .slice p10 r1.length k10), (10, .int .i64 i2)] ∧ SH w w' [Ch.own S1 (x2 : List Int) [.slice p10 r1.length k10], Ch.box bb2 [.slice p6 y1.Parent.length k6, .slice p7 y1.Res.length k7, .slice p8 y1.Cap.length k8, .slice p9 y1.Sink.length k9] 130]) n ⟨_, _, hF, rfl, h⟩ ?_
 rintro m2 e2 w11 ⟨x2, i2, hF, rfl, h⟩
 rcases m2 with _ | m2
 ·rw [qa3] at hF
  cases hF
 rw [qa3] at hF
 refine zSSR (zp2 rfl (qb ?_))
 refine qq rfl hF ?_ ?_ <;> intro hF
 ·refine zKSB ?_
  refine qhB [14] (fun w' => SH w w' [Ch.own S1 (x2 : List Int) [.slice p10 r1.length k10], Ch.box bb2 [.slice p6 y1.Parent.length k6, .slice p7 y1.Res.length k7, .slice p8 y1.Cap.length k8, .slice p9 y1.Sink.length k9] 130]) rfl 15 rfl #[ff, ff, ff, ff, ff, ff, ff, ff, ff, ff, ff, ff, ff, ff, ff] (by kernel_rfl) (fun w12 hb => ?_)
  replace h := h.ext hb
  clear hb
  refine qm 0 rfl #[tt, ff, ff, ff, ff, ff, ff, ff, ff, ff, ff, ff, ff, ff, ff] (by kernel_rfl) (by kernel_rfl) (fun w' hw => v_p qc rfl w') (h.pick [0, 1] rfl) rfl ?_
  refine qm 1 rfl #[tt, tt, ff, ff, ff, ff, ff, ff, ff, ff, ff, ff, ff, ff, ff] (by kernel_rfl) (by kernel_rfl) (fun w' hw => v_p qc rfl w') (h.pick [0, 1] rfl) rfl ?_
  refine qm 2 rfl #[tt, tt, tt, ff, ff, ff, ff, ff, ff, ff, ff, ff, ff, ff, ff] (by kernel_rfl) (by kernel_rfl) (fun w' hw => qcX qc (hw.box 1 rfl) (j := 0) rfl rfl rfl) (h.pick [0, 1] rfl) rfl ?_
  refine qm 3 rfl #[tt, tt, tt, tt, ff, ff, ff, ff, ff, ff, ff, ff, ff, ff, ff] (by kernel_rfl) (by kernel_rfl) (fun w' hw => v_p qc rfl w') (h.pick [0, 1] rfl) rfl ?_
  obtain ⟨y7, hy7, hF⟩ := qd hF
  have he7 := qg hy7
  obtain ⟨b7, o_7, q7, cs8, hp7, hq7, -, hr11, hc9⟩ := s6.at hy7
  obtain rfl := hr11
  refine qm 4 rfl #[tt, tt, tt, tt, tt, ff, ff, ff, ff, ff, ff, ff, ff, ff, ff] (by kernel_rfl) (by kernel_rfl) (fun w' hw => qg4 qc hp7 hq7 ⟨he7.1, he7.2.1⟩ rfl rfl rfl rfl rfl rfl) (h.pick [0, 1] rfl) rfl ?_
  refine qm 5 rfl #[tt, tt, tt, tt, tt, tt, ff, ff, ff, ff, ff, ff, ff, ff, ff] (by kernel_rfl) (by kernel_rfl) (fun w' hw => qcX qc (hc9.below hw.below) (j := 0) rfl rfl rfl) (h.pick [0, 1] rfl) rfl ?_
  obtain ⟨y8, hy8, hF⟩ := qd hF
  have he8 := qg hy8
  obtain ⟨b8, o_8, q8, cs9, hp8, hq8, -, hr12, hc10⟩ := (h.sl 0 rfl).1.at hy8
  obtain rfl := hr12
  refine qm 6 rfl #[tt, tt, tt, tt, tt, tt, tt, ff, ff, ff, ff, ff, ff, ff, ff] (by kernel_rfl) (by kernel_rfl) (fun w' hw => qg4 qc hp8 hq8 ⟨he8.1, qac he8.2.1 (h.sl 0 rfl).2⟩ rfl rfl rfl rfl rfl rfl) (h.pick [0, 1] rfl) rfl ?_
  refine qm 7 rfl #[tt, tt, tt, tt, tt, tt, tt, tt, ff, ff, ff, ff, ff, ff, ff] (by kernel_rfl) (by kernel_rfl) (fun w' hw => qcX qc (qhs (w1 := w) (S1 := fun _ => False) hw 0 rfl hy8 hp8 hq8 rfl) (j := 0) rfl rfl rfl) (h.pick [0, 1] rfl) rfl ?_
  refine qm 8 rfl #[tt, tt, tt, tt, tt, tt, tt, tt, tt, ff, ff, ff, ff, ff, ff] (by kernel_rfl) (by kernel_rfl) (fun w' hw => v_p qc rfl w') (h.pick [0, 1] rfl) rfl ?_
  refine qm 9 rfl #[tt, tt, tt, tt, tt, tt, tt, tt, tt, tt, ff, ff, ff, ff, ff] (by kernel_rfl) (by kernel_rfl) (fun w' hw => v_p qc rfl w') (h.pick [0, 1] rfl) rfl ?_
  obtain ⟨y9, hy9, hF⟩ := qd hF
  have he9 := qg hy9
  obtain ⟨b9, o_9, q9, cs10, hp9, hq9, -, hr13, hc11⟩ := (h.sl 0 rfl).1.at hy9
  obtain rfl := hr13
  refine qm 10 rfl #[tt, tt, tt, tt, tt, tt, tt, tt, tt, tt, tt, ff, ff, ff, ff] (by kernel_rfl) (by kernel_rfl) (fun w' hw => qg4 qc hp9 hq9 ⟨he9.1, qac he9.2.1 (h.sl 0 rfl).2⟩ rfl rfl rfl rfl rfl rfl) (h.pick [0, 1] rfl) rfl ?_
  refine qm 11 rfl #[tt, tt, tt, tt, tt, tt, tt, tt, tt, tt, tt, tt, ff, ff, ff] (by kernel_rfl) (by kernel_rfl) (fun w' hw => qcX qc (qhs (w1 := w) (S1 := fun _ => False) hw 0 rfl hy9 hp9 hq9 rfl) (j := 0) rfl rfl rfl) (h.pick [0, 1] rfl) rfl ?_
  refine qm 12 rfl #[tt, tt, tt, tt, tt, tt, tt, tt, tt, tt, tt, tt, tt, ff, ff] (by kernel_rfl) (by kernel_rfl) (fun w' hw => v_p qc rfl w') (h.pick [0, 1] rfl) rfl ?_
  obtain ⟨y10, hy10, hF⟩ := qd hF
  have he10 := qg hy10
  obtain ⟨b10, o_10, q10, cs11, hp10, hq10, -, hr14, hc12⟩ := (h.sl 0 rfl).1.at hy10
  obtain rfl := hr14
  refine qm 13 rfl #[tt, tt, tt, tt, tt, tt, tt, tt, tt, tt, tt, tt, tt, tt, ff] (by kernel_rfl) (by kernel_rfl) (fun w' hw => qg4 qc hp10 hq10 ⟨he10.1, qac he10.2.1 (h.sl 0 rfl).2⟩ rfl rfl rfl rfl rfl rfl) (h.pick [0, 1] rfl) rfl ?_
  refine qbe 14 rfl #[tt, tt, tt, tt, tt, tt, tt, tt, tt, tt, tt, tt, tt, tt, tt] (by kernel_rfl) (by kernel_rfl) ?_
  refine qcH qc 0 0 (W64 (y8 + y9)) h rfl hy10 hp10 hq10 rfl hc12 rfl rfl rfl rfl rfl rfl rfl ?_
  intro w13 h
  refine qa6 (fun hs => absurd (hs 14 (by decide)) (by decide)) ?_
  refine qfK (by kernel_rfl) ?_
  exact qfE (qz (zp3 rfl (qb (qA m2 [(5, _), (6, _), (10, _)] (Nat.lt_succ_self m2) ⟨rfl, rfl, rfl, trivial⟩ ⟨_, _, hF, rfl, h⟩))))
 refine qI rfl ?_
 obtain rfl := qh hF; replace hF := hK2
 refine zSR (zp2 rfl (qb ?_))
 obtain rfl := qh hF
 exact qay qc (ρ := (List Int)) [GoT.v (List Int) [.slice p10 r1.length k10]] h ⟨rfl, trivial⟩ (PV.done h (qaG (qab 0 h rfl)))

def qaU (y1 : qQ) (r1 : (List Int)) (x1 : (List Int)) : Nat → (List Int) → Int → Option ((List Int) × Int)
 | 0, _, _ => none
 | n + 1, x2, i1 =>
  bif decide (i1 < (x1.length : Int)) then
   (idx y1.Parent i1).bind fun y2 =>
   (idx x2 y2).bind fun y3 =>
   (idx y1.Res i1).bind fun y4 =>
   (idx r1 i1).bind fun y5 =>
   (idx x2 i1).bind fun _ =>
   qaU y1 r1 x1 n (setS x2 i1 (W64 (y3 + (W64 (y4 * y5))))) (W64 (i1 + 1))
  else
   some (x2, i1)

def qei (n : Nat) (b : qD) (net : Int) : Option (List Int) :=
 (idx b.Wires net).bind fun y1 =>
 (qcw n b net).bind fun r1 =>
 (mkS (r1.length : Int) (0 : Int)).bind fun x1 =>
 (qaU y1 r1 x1 n x1 1).bind fun o => match o with
 | (x2, _) =>
  some x2

theorem qiq {n : Nat} {w : World} {b : qD} {net : Int} {cs1 : List Value} (ha1 : GoT.R w (old w) b cs1) {r : (List Int)} (hF : qei n b net = some r) : RetV Tryz.prog 189 [GoT.v qD cs1, .int .i64 net] w r := by
 obtain ⟨p1, k1, p2, k2, p3, k3, p4, k4, p5, k5, rfl, s1, s2, s3, s4, s5⟩ := qax ha1
 refine qe Tryz.func189 rfl (m := 49) rfl rfl (fun h => ?_)
 rw [qei] at hF
 refine zSR (qP h rfl rfl ?_)
 intro w1 bb1 h
 refine zp1 rfl (zNS ?_)
 refine qhB [] (fun w' => SH w w' [Ch.box bb1 [.slice p1 b.Library.Cells.length k1, .slice p2 b.Design.Instances.length k2, .slice p3 b.Design.Nets.length k3, .slice p4 b.Design.Ports.length k4, .slice p5 b.Wires.length k5] 50]) rfl 11 rfl #[ff, ff, ff, ff, ff, ff, ff, ff, ff, ff, ff] (by kernel_rfl) (fun w2 hb => ?_)
 replace h := h.ext hb
 clear hb
 refine qm 0 rfl #[tt, ff, ff, ff, ff, ff, ff, ff, ff, ff, ff] (by kernel_rfl) (by kernel_rfl) (fun w' hw => v_p qc rfl w') (h.pick [0] rfl) rfl ?_
 refine qm 1 rfl #[tt, tt, ff, ff, ff, ff, ff, ff, ff, ff, ff] (by kernel_rfl) (by kernel_rfl) (fun w' hw => qcX qc (hw.box 0 rfl) (j := 4) rfl rfl rfl) (h.pick [0] rfl) rfl ?_
 refine qm 2 rfl #[tt, tt, tt, ff, ff, ff, ff, ff, ff, ff, ff] (by kernel_rfl) (by kernel_rfl) (fun w' hw => v_p qc rfl w') (h.pick [0] rfl) rfl ?_
 obtain ⟨y1, hy1, hF⟩ := qd hF
 have he1 := qg hy1
 obtain ⟨b1, o_1, q1, cs2, hp1, hq1, -, hr1, hc1⟩ := s5.at hy1
 obtain ⟨p6, k6, p7, k7, p8, k8, p9, k9, rfl, s6, s7, s8, s9⟩ := qbu hr1
 refine qm 3 rfl #[tt, tt, tt, tt, ff, ff, ff, ff, ff, ff, ff] (by kernel_rfl) (by kernel_rfl) (fun w' hw => qg4 qc hp1 hq1 ⟨he1.1, he1.2.1⟩ rfl rfl rfl rfl rfl rfl) (h.pick [0] rfl) rfl ?_
 refine qm 4 rfl #[tt, tt, tt, tt, tt, ff, ff, ff, ff, ff, ff] (by kernel_rfl) (by kernel_rfl) (fun w' hw => qcX qc (hc1.below hw.below) (j := 0) rfl rfl rfl) (h.pick [0] rfl) rfl ?_
 refine qm 5 rfl #[tt, tt, tt, tt, tt, tt, ff, ff, ff, ff, ff] (by kernel_rfl) (by kernel_rfl) (fun w' hw => qcX qc (hw.box 0 rfl) (j := 0) rfl rfl rfl) (h.pick [0] rfl) rfl ?_
 refine qm 6 rfl #[tt, tt, tt, tt, tt, tt, tt, ff, ff, ff, ff] (by kernel_rfl) (by kernel_rfl) (fun w' hw => v_p qc rfl w') (h.pick [0] rfl) rfl ?_
 obtain ⟨r1, hr2, hF⟩ := qd hF
 refine qrf (fun e w' => ∃ (bb8 : Nat) (S7 : Nat → Prop) (p16 : Option Addr) (k16 : Nat), e = [(5, .pointer (some ⟨bb8, 0, none⟩)), (6, .slice p16 r1.length k16)] ∧ SH w w' [Ch.box bb8 [.slice p6 y1.Parent.length k6, .slice p7 y1.Res.length k7, .slice p8 y1.Cap.length k8, .slice p9 y1.Sink.length k9] 130, Ch.own S7 (r1 : List Int) [.slice p16 r1.length k16], Ch.box bb1 [.slice p1 b.Library.Cells.length k1, .slice p2 b.Design.Instances.length k2, .slice p3 b.Design.Nets.length k3, .slice p4 b.Design.Ports.length k4, .slice p5 b.Wires.length k5] 50]) 0 #[tt, tt, tt, tt, tt, tt, tt, tt, tt, tt, tt] ?_ ?_
 ·intro K
  refine qrL 7 8 rfl rfl #[tt, tt, tt, tt, tt, tt, tt, tt, ff, ff, ff] #[tt, tt, tt, tt, tt, tt, tt, ff, tt, ff, ff] (by kernel_rfl) (by kernel_rfl) (by kernel_rfl) ?_ ?_
  ·refine qam r1 h call151 (qe6 (h.old ha1) hr2) rfl rfl rfl rfl ?_
   intro w13 S5 p14 k14 h
   refine qa6 (fun _ => (h.pick [1] rfl)) ?_
   refine qbe 8 rfl #[tt, tt, tt, tt, tt, tt, tt, tt, tt, ff, ff] (by kernel_rfl) (by kernel_rfl) ?_
   refine qah qc h rfl rfl rfl ?_
   intro w14 bb6 h
   refine qa6 (fun _ => (h.pick [2] rfl)) ?_
   refine qbe 9 rfl #[tt, tt, tt, tt, tt, tt, tt, tt, tt, tt, ff] (by kernel_rfl) (by kernel_rfl) ?_
   refine zs 0 h rfl ?_
   intro w15 h
   refine qa6 (fun _ => (h.pick [2] rfl)) ?_
   refine qm 10 rfl #[tt, tt, tt, tt, tt, tt, tt, tt, tt, tt, tt] (by kernel_rfl) (by kernel_rfl) (fun w' hw => v_p qc rfl w') (h.pick [2] rfl) rfl ?_
   exact qrp [(5, _), (6, _)] ⟨rfl, rfl, trivial⟩ (K _ _ ⟨_, _, _, _, rfl, h⟩)
  refine qah qc h rfl rfl rfl ?_
  intro w16 bb7 h
  refine qa6 (fun _ => (h.pick [1] rfl)) ?_
  refine qbe 7 rfl #[tt, tt, tt, tt, tt, tt, tt, tt, tt, ff, ff] (by kernel_rfl) (by kernel_rfl) ?_
  refine qam r1 h call151 (qe6 (h.old ha1) hr2) rfl rfl rfl rfl ?_
  intro w17 S6 p15 k15 h
  refine qa6 (fun _ => (h.pick [2] rfl)) ?_
  refine qbe 9 rfl #[tt, tt, tt, tt, tt, tt, tt, tt, tt, tt, ff] (by kernel_rfl) (by kernel_rfl) ?_
  refine zs 1 h rfl ?_
  intro w18 h
  replace h : SH _ _ [Ch.own S6 (r1 : List Int) [.slice p15 r1.length k15], Ch.box bb7 [.slice p6 y1.Parent.length k6, .slice p7 y1.Res.length k7, .slice p8 y1.Cap.length k8, .slice p9 y1.Sink.length k9] 130, Ch.box bb1 [.slice p1 b.Library.Cells.length k1, .slice p2 b.Design.Instances.length k2, .slice p3 b.Design.Nets.length k3, .slice p4 b.Design.Ports.length k4, .slice p5 b.Wires.length k5] 50] := h
  refine qa6 (fun _ => (h.pick [2] rfl)) ?_
  refine qm 10 rfl #[tt, tt, tt, tt, tt, tt, tt, tt, tt, tt, tt] (by kernel_rfl) (by kernel_rfl) (fun w' hw => v_p qc rfl w') (h.pick [2] rfl) rfl ?_
  replace h := h.pick [1, 0, 2] rfl
  exact qrp [(5, _), (6, _)] ⟨rfl, rfl, trivial⟩ (K _ _ ⟨_, _, _, _, rfl, h⟩)
 rintro e2 w19 ⟨bb8, S7, p16, k16, rfl, h⟩
 refine qfK (by kernel_rfl) ?_
 refine zSR (zp2 rfl ?_)
 obtain ⟨x1, hx1, hF⟩ := qd hF
 obtain ⟨g1, g2, hx1⟩ := qdx hx1
 refine qeB qc Int h rfl rfl rfl rfl rfl rfl rfl rfl rfl g1 g2 hx1 rfl ?_
 intro w20 S8 p17 h
 refine zp1 rfl (zNSSR (zp1 rfl (qb ?_)))
 obtain ⟨o1, hF, hK1⟩ := qd hF
 refine qw ?_
 replace h := h.pick [0, 1, 2] rfl
 refine qR [(5, _), (6, _), (7, _), (8, _)] ⟨rfl, rfl, rfl, rfl, trivial⟩ ?_
 refine qH (fun m e w' => ∃ (x2 : (List Int)) (i1 : Int), qaU y1 r1 x1 m x2 i1 = some o1 ∧ e = [(5, .pointer (some ⟨bb8, 0, none⟩)), (6, .slice p16 r1.length k16), (7, .slice p17 x1.length x1.length), (8, .int .i64 i1)] ∧ SH w w' [Ch.own S8 (x2 : List Int) [.slice p17 x1.length x1.length], Ch.box bb8 [.slice p6 y1.Parent.length k6, .slice p7 y1.Res.length k7, .slice p8 y1.Cap.length k8, .slice p9 y1.Sink.length k9] 130, Ch.own S7 (r1 : List Int) [.slice p16 r1.length k16]]) n ⟨_, _, hF, rfl, h⟩ ?_
 rintro m1 e3 w21 ⟨x2, i1, hF, rfl, h⟩
 rcases m1 with _ | m1
 ·rw [qaU] at hF
  cases hF
 rw [qaU] at hF
 refine zSSR (zp4 rfl (qb ?_))
 refine qq rfl hF ?_ ?_ <;> intro hF
 ·refine zKSB ?_
  refine qhB [22] (fun w' => SH w w' [Ch.own S8 (x2 : List Int) [.slice p17 x1.length x1.length], Ch.box bb8 [.slice p6 y1.Parent.length k6, .slice p7 y1.Res.length k7, .slice p8 y1.Cap.length k8, .slice p9 y1.Sink.length k9] 130, Ch.own S7 (r1 : List Int) [.slice p16 r1.length k16]]) rfl 23 rfl #[ff, ff, ff, ff, ff, ff, ff, ff, ff, ff, ff, ff, ff, ff, ff, ff, ff, ff, ff, ff, ff, ff, ff] (by kernel_rfl) (fun w22 hb => ?_)
  replace h := h.ext hb
  clear hb
  refine qm 0 rfl #[tt, ff, ff, ff, ff, ff, ff, ff, ff, ff, ff, ff, ff, ff, ff, ff, ff, ff, ff, ff, ff, ff, ff] (by kernel_rfl) (by kernel_rfl) (fun w' hw => v_p qc rfl w') (h.pick [0, 1, 2] rfl) rfl ?_
  refine qm 1 rfl #[tt, tt, ff, ff, ff, ff, ff, ff, ff, ff, ff, ff, ff, ff, ff, ff, ff, ff, ff, ff, ff, ff, ff] (by kernel_rfl) (by kernel_rfl) (fun w' hw => v_p qc rfl w') (h.pick [0, 1, 2] rfl) rfl ?_
  refine qm 2 rfl #[tt, tt, tt, ff, ff, ff, ff, ff, ff, ff, ff, ff, ff, ff, ff, ff, ff, ff, ff, ff, ff, ff, ff] (by kernel_rfl) (by kernel_rfl) (fun w' hw => v_p qc rfl w') (h.pick [0, 1, 2] rfl) rfl ?_
  refine qm 3 rfl #[tt, tt, tt, tt, ff, ff, ff, ff, ff, ff, ff, ff, ff, ff, ff, ff, ff, ff, ff, ff, ff, ff, ff] (by kernel_rfl) (by kernel_rfl) (fun w' hw => v_p qc rfl w') (h.pick [0, 1, 2] rfl) rfl ?_
  refine qm 4 rfl #[tt, tt, tt, tt, tt, ff, ff, ff, ff, ff, ff, ff, ff, ff, ff, ff, ff, ff, ff, ff, ff, ff, ff] (by kernel_rfl) (by kernel_rfl) (fun w' hw => qcX qc (hw.box 1 rfl) (j := 0) rfl rfl rfl) (h.pick [0, 1, 2] rfl) rfl ?_
  refine qm 5 rfl #[tt, tt, tt, tt, tt, tt, ff, ff, ff, ff, ff, ff, ff, ff, ff, ff, ff, ff, ff, ff, ff, ff, ff] (by kernel_rfl) (by kernel_rfl) (fun w' hw => v_p qc rfl w') (h.pick [0, 1, 2] rfl) rfl ?_
  obtain ⟨y2, hy2, hF⟩ := qd hF
  have he2 := qg hy2
  obtain ⟨b2, o_2, q2, cs3, hp2, hq2, -, hr3, hc3⟩ := s6.at hy2
  obtain rfl := hr3
  refine qm 6 rfl #[tt, tt, tt, tt, tt, tt, tt, ff, ff, ff, ff, ff, ff, ff, ff, ff, ff, ff, ff, ff, ff, ff, ff] (by kernel_rfl) (by kernel_rfl) (fun w' hw => qg4 qc hp2 hq2 ⟨he2.1, he2.2.1⟩ rfl rfl rfl rfl rfl rfl) (h.pick [0, 1, 2] rfl) rfl ?_
  refine qm 7 rfl #[tt, tt, tt, tt, tt, tt, tt, tt, ff, ff, ff, ff, ff, ff, ff, ff, ff, ff, ff, ff, ff, ff, ff] (by kernel_rfl) (by kernel_rfl) (fun w' hw => qcX qc (hc3.below hw.below) (j := 0) rfl rfl rfl) (h.pick [0, 1, 2] rfl) rfl ?_
  obtain ⟨y3, hy3, hF⟩ := qd hF
  have he3 := qg hy3
  obtain ⟨b3, o_3, q3, cs4, hp3, hq3, -, hr4, hc4⟩ := (h.sl 0 rfl).1.at hy3
  obtain rfl := hr4
  refine qm 8 rfl #[tt, tt, tt, tt, tt, tt, tt, tt, tt, ff, ff, ff, ff, ff, ff, ff, ff, ff, ff, ff, ff, ff, ff] (by kernel_rfl) (by kernel_rfl) (fun w' hw => qg4 qc hp3 hq3 ⟨he3.1, qac he3.2.1 (h.sl 0 rfl).2⟩ rfl rfl rfl rfl rfl rfl) (h.pick [0, 1, 2] rfl) rfl ?_
  refine qm 9 rfl #[tt, tt, tt, tt, tt, tt, tt, tt, tt, tt, ff, ff, ff, ff, ff, ff, ff, ff, ff, ff, ff, ff, ff] (by kernel_rfl) (by kernel_rfl) (fun w' hw => qcX qc (qhs (w1 := w) (S1 := fun _ => False) hw 0 rfl hy3 hp3 hq3 rfl) (j := 0) rfl rfl rfl) (h.pick [0, 1, 2] rfl) rfl ?_
  refine qm 10 rfl #[tt, tt, tt, tt, tt, tt, tt, tt, tt, tt, tt, ff, ff, ff, ff, ff, ff, ff, ff, ff, ff, ff, ff] (by kernel_rfl) (by kernel_rfl) (fun w' hw => v_p qc rfl w') (h.pick [0, 1, 2] rfl) rfl ?_
  refine qm 11 rfl #[tt, tt, tt, tt, tt, tt, tt, tt, tt, tt, tt, tt, ff, ff, ff, ff, ff, ff, ff, ff, ff, ff, ff] (by kernel_rfl) (by kernel_rfl) (fun w' hw => qcX qc (hw.box 1 rfl) (j := 1) rfl rfl rfl) (h.pick [0, 1, 2] rfl) rfl ?_
  refine qm 12 rfl #[tt, tt, tt, tt, tt, tt, tt, tt, tt, tt, tt, tt, tt, ff, ff, ff, ff, ff, ff, ff, ff, ff, ff] (by kernel_rfl) (by kernel_rfl) (fun w' hw => v_p qc rfl w') (h.pick [0, 1, 2] rfl) rfl ?_
  obtain ⟨y4, hy4, hF⟩ := qd hF
  have he4 := qg hy4
  obtain ⟨b4, o_4, q4, cs5, hp4, hq4, -, hr5, hc5⟩ := s7.at hy4
  obtain rfl := hr5
  refine qm 13 rfl #[tt, tt, tt, tt, tt, tt, tt, tt, tt, tt, tt, tt, tt, tt, ff, ff, ff, ff, ff, ff, ff, ff, ff] (by kernel_rfl) (by kernel_rfl) (fun w' hw => qg4 qc hp4 hq4 ⟨he4.1, he4.2.1⟩ rfl rfl rfl rfl rfl rfl) (h.pick [0, 1, 2] rfl) rfl ?_
  refine qm 14 rfl #[tt, tt, tt, tt, tt, tt, tt, tt, tt, tt, tt, tt, tt, tt, tt, ff, ff, ff, ff, ff, ff, ff, ff] (by kernel_rfl) (by kernel_rfl) (fun w' hw => qcX qc (hc5.below hw.below) (j := 0) rfl rfl rfl) (h.pick [0, 1, 2] rfl) rfl ?_
  refine qm 15 rfl #[tt, tt, tt, tt, tt, tt, tt, tt, tt, tt, tt, tt, tt, tt, tt, tt, ff, ff, ff, ff, ff, ff, ff] (by kernel_rfl) (by kernel_rfl) (fun w' hw => v_p qc rfl w') (h.pick [0, 1, 2] rfl) rfl ?_
  refine qm 16 rfl #[tt, tt, tt, tt, tt, tt, tt, tt, tt, tt, tt, tt, tt, tt, tt, tt, tt, ff, ff, ff, ff, ff, ff] (by kernel_rfl) (by kernel_rfl) (fun w' hw => v_p qc rfl w') (h.pick [0, 1, 2] rfl) rfl ?_
  obtain ⟨y5, hy5, hF⟩ := qd hF
  have he5 := qg hy5
  obtain ⟨b5, o_5, q5, cs6, hp5, hq5, -, hr6, hc6⟩ := (h.sl 2 rfl).1.at hy5
  obtain rfl := hr6
  refine qm 17 rfl #[tt, tt, tt, tt, tt, tt, tt, tt, tt, tt, tt, tt, tt, tt, tt, tt, tt, tt, ff, ff, ff, ff, ff] (by kernel_rfl) (by kernel_rfl) (fun w' hw => qg4 qc hp5 hq5 ⟨he5.1, qac he5.2.1 (h.sl 2 rfl).2⟩ rfl rfl rfl rfl rfl rfl) (h.pick [0, 1, 2] rfl) rfl ?_
  refine qm 18 rfl #[tt, tt, tt, tt, tt, tt, tt, tt, tt, tt, tt, tt, tt, tt, tt, tt, tt, tt, tt, ff, ff, ff, ff] (by kernel_rfl) (by kernel_rfl) (fun w' hw => qcX qc (qhs (w1 := w) (S1 := fun _ => False) hw 2 rfl hy5 hp5 hq5 rfl) (j := 0) rfl rfl rfl) (h.pick [0, 1, 2] rfl) rfl ?_
  refine qm 19 rfl #[tt, tt, tt, tt, tt, tt, tt, tt, tt, tt, tt, tt, tt, tt, tt, tt, tt, tt, tt, tt, ff, ff, ff] (by kernel_rfl) (by kernel_rfl) (fun w' hw => v_p qc rfl w') (h.pick [0, 1, 2] rfl) rfl ?_
  refine qm 20 rfl #[tt, tt, tt, tt, tt, tt, tt, tt, tt, tt, tt, tt, tt, tt, tt, tt, tt, tt, tt, tt, tt, ff, ff] (by kernel_rfl) (by kernel_rfl) (fun w' hw => v_p qc rfl w') (h.pick [0, 1, 2] rfl) rfl ?_
  obtain ⟨y6, hy6, hF⟩ := qd hF
  have he6 := qg hy6
  obtain ⟨b6, o_6, q6, cs7, hp6, hq6, -, hr7, hc7⟩ := (h.sl 0 rfl).1.at hy6
  obtain rfl := hr7
  refine qm 21 rfl #[tt, tt, tt, tt, tt, tt, tt, tt, tt, tt, tt, tt, tt, tt, tt, tt, tt, tt, tt, tt, tt, tt, ff] (by kernel_rfl) (by kernel_rfl) (fun w' hw => qg4 qc hp6 hq6 ⟨he6.1, qac he6.2.1 (h.sl 0 rfl).2⟩ rfl rfl rfl rfl rfl rfl) (h.pick [0, 1, 2] rfl) rfl ?_
  refine qbe 22 rfl #[tt, tt, tt, tt, tt, tt, tt, tt, tt, tt, tt, tt, tt, tt, tt, tt, tt, tt, tt, tt, tt, tt, tt] (by kernel_rfl) (by kernel_rfl) ?_
  refine qcH qc 0 0 (W64 (y3 + (W64 (y4 * y5)))) h rfl hy6 hp6 hq6 rfl hc7 rfl rfl rfl rfl rfl rfl rfl ?_
  intro w23 h
  refine qa6 (fun hs => absurd (hs 22 (by decide)) (by decide)) ?_
  refine qfK (by kernel_rfl) ?_
  exact qfE (qz (zp3 rfl (qb (qA m1 [(5, _), (6, _), (7, _), (8, _)] (Nat.lt_succ_self m1) ⟨rfl, rfl, rfl, rfl, trivial⟩ ⟨_, _, hF, rfl, h⟩))))
 refine qI rfl ?_
 obtain rfl := qh hF; replace hF := hK1
 refine zSR (zp2 rfl (qb ?_))
 obtain rfl := qh hF
 exact qay qc (ρ := (List Int)) [GoT.v (List Int) [.slice p17 x1.length x1.length]] h ⟨rfl, trivial⟩ (PV.done h (qaG (qab 0 h rfl)))

def qaO (r1 : (List Int)) (y1 : qQ) : Nat → (List Int) → Int → Option ((List Int) × Int)
 | 0, _, _ => none
 | n + 1, x1, i1 =>
  bif decide (i1 < (y1.Sink.length : Int)) then
   (idx y1.Sink i1).bind fun y2 =>
   (idx r1 y2).bind fun y3 =>
   (appS x1 ([y3] : List Int)).bind fun x2 =>
   qaO r1 y1 n x2 (W64 (i1 + 1))
  else
   some (x1, i1)

def qcT (n : Nat) (b : qD) (net : Int) : Option (List Int) :=
 (qei n b net).bind fun r1 =>
 (idx b.Wires net).bind fun y1 =>
 (qaO r1 y1 n ([] : List Int) 0).bind fun o => match o with
 | (x1, _) =>
  some x1

theorem qie {n : Nat} {w : World} {b : qD} {net : Int} {cs1 : List Value} (ha1 : GoT.R w (old w) b cs1) {r : (List Int)} (hF : qcT n b net = some r) : RetV Tryz.prog 152 [GoT.v qD cs1, .int .i64 net] w r := by
 obtain ⟨p1, k1, p2, k2, p3, k3, p4, k4, p5, k5, rfl, s1, s2, s3, s4, s5⟩ := qax ha1
 refine qe Tryz.func152 rfl (m := 32) rfl rfl (fun h => ?_)
 rw [qcT] at hF
 refine zSR (qP h rfl rfl ?_)
 intro w1 bb1 h
 refine zp1 rfl (zNSR (zl 0 0 h rfl (zp1 rfl ?_)))
 obtain ⟨r1, hr1, hF⟩ := qd hF
 refine qam r1 h call189 (qiq (h.old ha1) hr1) rfl rfl rfl rfl ?_
 intro w2 S1 p6 k6 h
 refine zp1 rfl (zNSR (zp1 rfl (zNSSR (zp1 rfl (zl 1 4 h rfl (zp1 rfl ?_))))))
 obtain ⟨y1, hy1, hF⟩ := qd hF
 have he1 := qg hy1
 obtain ⟨b1, o_1, q1, cs2, hp1, hq1, -, hr2, hc1⟩ := s5.at hy1
 obtain ⟨p7, k7, p8, k8, p9, k9, p10, k10, rfl, s6, s7, s8, s9⟩ := qbu hr2
 refine zxe hp1 hq1 he1 rfl (zp1 rfl (zc 3 (hc1.below h.below) rfl (zp2 rfl (qb ?_))))
 replace h := h.nil (α := Int)
 obtain ⟨o1, hF, hK1⟩ := qd hF
 refine qw ?_
 replace h := h.pick [0, 1] rfl
 refine qR [(5, _), (6, _), (17, _), (18, _), (19, _)] ⟨rfl, rfl, rfl, rfl, rfl, trivial⟩ ?_
 refine qH (fun m e w' => ∃ (S2 : Nat → Prop) (p11 : Option Addr) (ln1 : Nat) (k11 : Nat) (x1 : (List Int)) (i1 : Int), qaO r1 y1 m x1 i1 = some o1 ∧ e = [(5, .slice p6 r1.length k6), (6, .slice p11 ln1 k11), (17, .slice p10 y1.Sink.length k10), (18, .int .i64 (y1.Sink.length : Int)), (19, .int .i64 i1)] ∧ SH w w' [Ch.own S2 (x1 : List Int) [.slice p11 ln1 k11], Ch.own S1 (r1 : List Int) [.slice p6 r1.length k6]]) n ⟨_, _, _, _, _, _, hF, rfl, h⟩ ?_
 rintro m1 e1 w3 ⟨S2, p11, ln1, k11, x1, i1, hF, rfl, h⟩
 obtain rfl := (h.sl 0 rfl).2
 rcases m1 with _ | m1
 ·rw [qaO] at hF
  cases hF
 rw [qaO] at hF
 refine zSR (zp1 rfl (zNS ?_))
 refine qq rfl hF ?_ ?_ <;> intro hF
 ·refine zKSBSR ?_
  obtain ⟨y2, hy2, hF⟩ := qd hF
  have he2 := qg hy2
  obtain ⟨b2, o_2, q2, cs3, hp2, hq2, -, hr3, hc3⟩ := s9.at hy2
  obtain rfl := hr3
  refine zxe hp2 hq2 he2 rfl (zc 0 (hc3.below h.below) rfl (zp1 rfl (qb (qz (zp3 rfl ?_)))))
  obtain ⟨y3, hy3, hF⟩ := qd hF
  have he3 := qg hy3
  obtain ⟨b3, o_3, q3, cs4, hp3, hq3, -, hr4, hc4⟩ := (h.sl 1 rfl).1.at hy3
  obtain rfl := hr4
  refine zx hp3 hq3 ⟨he3.1, qac he3.2.1 (h.sl 1 rfl).2⟩ rfl (zc 0 hc4 rfl (qaY qc [.tmp 27] _ ([y3] : List Int) h rfl rfl rfl rfl rfl rfl rfl rfl rfl ⟨rfl, trivial⟩ rfl ?_))
  intro w4 p12 S3 h
  obtain ⟨x2, hx1, hF⟩ := qd hF
  obtain ⟨g1, hx1⟩ := qbt hx1
  refine qeW qc 1 h rfl (h.sl 0 rfl).1 (h.sl 0 rfl).2 rfl rfl rfl rfl rfl rfl rfl rfl rfl g1 hx1 rfl ?_
  intro w5 p13 k12 S4 h
  refine zp1 rfl (zNER (zp2 rfl (qb ?_)))
  replace h := h.pick [1, 2] rfl
  exact qA m1 [(5, _), (6, _), (17, _), (18, _), (19, _)] (Nat.lt_succ_self m1) ⟨rfl, rfl, rfl, rfl, rfl, trivial⟩ ⟨_, _, _, _, _, _, hF, rfl, h⟩
 refine qI rfl ?_
 obtain rfl := qh hF; replace hF := hK1
 refine zSR (zp2 rfl (qb ?_))
 obtain rfl := qh hF
 exact qay qc (ρ := (List Int)) [GoT.v (List Int) [.slice p11 x1.length k11]] h ⟨rfl, trivial⟩ (PV.done h (qaG (qab 0 h rfl)))

def qcp (x6 : (List Int)) (i4 : Int) (i5 : Int) (y7 : Int) : Nat → (List qbf) → Int → Option ((List qbf) × Int)
 | 0, _, _ => none
 | n + 1, x14, i6 =>
  bif decide (i6 < 2) then
   (idx x6 i4).bind fun y8 =>
   (appS x14 ([(⟨W64 ((W64 (2 * y8)) + i6), W64 ((W64 (2 * y7)) + i6), 2, i5⟩ : qbf)] : List qbf)).bind fun x15 =>
   qcp x6 i4 i5 y7 n x15 (W64 (i6 + 1))
  else
   some (x14, i6)

def qcq (x6 : (List Int)) (i4 : Int) (y6 : (List Int)) : Nat → (List qbf) → Int → Option ((List qbf) × Int)
 | 0, _, _ => none
 | n + 1, x13, i5 =>
  bif decide (i5 < (y6.length : Int)) then
   (idx y6 i5).bind fun y7 =>
   (qcp x6 i4 i5 y7 n x13 0).bind fun o => match o with
   | (x14, _) =>
    qcq x6 i4 y6 n x14 (W64 (i5 + 1))
  else
   some (x13, i5)

def qcZ (a_0 : qD) (x5 : (List (List Int))) (x6 : (List Int)) : Nat → (List (List Int)) → (List Int) → (List qbf) → Int → Option ((List (List Int)) × (List Int) × (List qbf) × Int)
 | 0, _, _, _, _ => none
 | n + 1, x8, x9, x10, i4 =>
  bif decide (i4 < (a_0.Wires.length : Int)) then
   (qcw n a_0 i4).bind fun r4 =>
   (idx r4 0).bind fun y5 =>
   (appS x9 ([y5] : List Int)).bind fun x11 =>
   (qcT n a_0 i4).bind fun r5 =>
   (appS x8 ([r5] : List (List Int))).bind fun x12 =>
   (idx x5 i4).bind fun y6 =>
   (qcq x6 i4 y6 n x10 0).bind fun o => match o with
   | (x13, _) =>
    qcZ a_0 x5 x6 n x12 x11 x13 (W64 (i4 + 1))
  else
   some (x8, x9, x10, i4)

def qbX (r1 : (List Tplace)) : Nat → (List (List Int)) → (List Int) → Int → Option ((List (List Int)) × (List Int) × Int)
 | 0, _, _, _ => none
 | n + 1, x5, x6, i3 =>
  bif decide (i3 < (r1.length : Int)) then
   (idx r1 i3).bind fun y2 =>
   bif y2.drives then
    (idx x6 y2.net).bind fun _ =>
    qbX r1 n x5 (setS x6 y2.net i3) (W64 (i3 + 1))
   else
    (idx x5 y2.net).bind fun y4 =>
    (appS y4 ([i3] : List Int)).bind fun x7 =>
    qbX r1 n (setS x5 y2.net x7) x6 (W64 (i3 + 1))
  else
   some (x5, x6, i3)

def qc2 (a_0 : qD) : Nat → (List qbf) → Int → Int → Option ((List qbf) × Int × Int)
 | 0, _, _, _ => none
 | n + 1, x1, i1, i2 =>
  bif decide (i2 < (a_0.Design.Instances.length : Int)) then
   (idx a_0.Design.Instances i2).bind fun y1 =>
   (qdt n a_0 y1 i1).bind fun r2 =>
   (appS x1 r2).bind fun x2 =>
   (qas n y1.Nets).bind fun r3 =>
   qc2 a_0 n x2 (W64 (i1 + r3)) (W64 (i2 + 1))
  else
   some (x1, i1, i2)

def qg3 (n : Nat) (a_0 : qD) : Option (Option Tview) :=
 (qbT n (⟨a_0.Design.Instances, a_0.Design.Nets, a_0.Design.Ports⟩ : ql)).bind fun r1 =>
 (qc2 a_0 n ([] : List qbf) 0 0).bind fun o => match o with
 | (x1, _, _) =>
  (mkS (a_0.Wires.length : Int) (0 : Int)).bind fun x3 =>
  (mkS (a_0.Wires.length : Int) ([] : (List Int))).bind fun x4 =>
  (qbX r1 n x4 x3 0).bind fun o => match o with
  | (x5, x6, _) =>
   (qcZ a_0 x5 x6 n ([] : List (List Int)) ([] : List Int) x1 0).bind fun o => match o with
   | (x8, x9, x10, _) =>
    some (some (⟨(⟨(⟨a_0.Library.Cells⟩ : qx), (⟨a_0.Design.Instances, a_0.Design.Nets, a_0.Design.Ports⟩ : ql), a_0.Wires⟩ : qD), r1, x10, x9, x8, []⟩ : Tview))

theorem qk9 {n : Nat} {w : World} {A : Nat → Prop} (hA : ∀ b, A b → old w b) {a_0 : qD} {cs1 : List Value} (ha1 : GoT.R w A a_0 cs1) {r : (Option Tview)} (hF : qg3 n a_0 = some r) : RetG Tryz.prog 109 [GoT.v qD cs1] w A r := by
 obtain ⟨p1, k1, p2, k2, p3, k3, p4, k4, p5, k5, rfl, s1, s2, s3, s4, s5⟩ := qax ha1
 have hg := Rg.start hA
 refine qi5 Tryz.func109 rfl (m := 156) rfl rfl (fun h => ?_)
 rw [qg3] at hF
 refine zSR (qP h rfl rfl ?_)
 intro w1 bb1 h
 refine zp1 rfl (zNS ?_)
 refine qhB [] (fun w' => SH w w' [Ch.box bb1 [.slice p1 a_0.Library.Cells.length k1, .slice p2 a_0.Design.Instances.length k2, .slice p3 a_0.Design.Nets.length k3, .slice p4 a_0.Design.Ports.length k4, .slice p5 a_0.Wires.length k5] 50]) rfl 7 rfl #[ff, ff, ff, ff, ff, ff, ff] (by kernel_rfl) (fun w2 hb => ?_)
 replace h := h.ext hb
 clear hb
 refine qm 0 rfl #[tt, ff, ff, ff, ff, ff, ff] (by kernel_rfl) (by kernel_rfl) (fun w' hw => qcX qc (hw.box 0 rfl) (j := 0) rfl rfl rfl) (h.pick [0] rfl) rfl ?_
 refine qm 1 rfl #[tt, tt, ff, ff, ff, ff, ff] (by kernel_rfl) (by kernel_rfl) (fun w' hw => v_p qc rfl w') (h.pick [0] rfl) rfl ?_
 refine qm 2 rfl #[tt, tt, tt, ff, ff, ff, ff] (by kernel_rfl) (by kernel_rfl) (fun w' hw => qcX qc (hw.box 0 rfl) (j := 1) rfl rfl rfl) (h.pick [0] rfl) rfl ?_
 refine qbe 3 rfl #[tt, tt, tt, tt, ff, ff, ff] (by kernel_rfl) (by kernel_rfl) ?_
 obtain ⟨r1, hr1, hF⟩ := qd hF
 refine qam r1 h call148 (qeh (qck (⟨a_0.Design.Instances, a_0.Design.Nets, a_0.Design.Ports⟩ : ql) (h.oldS (s2.mono hg.old)) (h.oldS (s3.mono hg.old)) (h.oldS (s4.mono hg.old))) hr1) rfl rfl rfl rfl ?_
 intro w3 S1 p6 k6 h
 refine qa6 (fun _ => (h.pick [1] rfl)) ?_
 refine qm 4 rfl #[tt, tt, tt, tt, tt, ff, ff] (by kernel_rfl) (by kernel_rfl) (fun w' hw => qhU qc [0, 1] [.tmp 15, .tmp 18] rfl rfl rfl rfl rfl rfl rfl rfl) (h.pick [1] rfl) rfl ?_
 refine qbe 5 rfl #[tt, tt, tt, tt, tt, tt, ff] (by kernel_rfl) (by kernel_rfl) ?_
 refine qP h rfl rfl ?_
 intro w4 bb2 h
 refine qa6 (fun _ => (h.pick [2] rfl)) ?_
 refine qm 6 rfl #[tt, tt, tt, tt, tt, tt, tt] (by kernel_rfl) (by kernel_rfl) (fun w' hw => v_p qc rfl w') (h.pick [2] rfl) rfl ?_
 refine qfK (by kernel_rfl) ?_
 refine zSR (zp1 rfl (zNSSR (zp2 rfl (zl 2 1 h rfl (zp2 rfl ?_)))))
 refine qb ?_
 replace h := h.nil (α := qbf)
 obtain ⟨o1, hF, hK1⟩ := qd hF
 refine qw (qR [(1, _), (3, _), (4, _), (23, _), (24, _), (25, _)] ⟨rfl, rfl, rfl, rfl, rfl, rfl, trivial⟩ ?_)
 refine qH (fun m e w' => ∃ (S2 : Nat → Prop) (p7 : Option Addr) (ln1 : Nat) (k7 : Nat) (x1 : (List qbf)) (i1 : Int) (i2 : Int), qc2 a_0 m x1 i1 i2 = some o1 ∧ e = [(1, .pointer (some ⟨bb1, 0, none⟩)), (3, .pointer (some ⟨bb2, 0, none⟩)), (4, .int .i64 i1), (23, .slice p2 a_0.Design.Instances.length k2), (24, .int .i64 (a_0.Design.Instances.length : Int)), (25, .int .i64 i2)] ∧ SH w w' [Ch.own S2 (x1 : List qbf) [.slice p7 ln1 k7], Ch.box bb2 [.slice p1 a_0.Library.Cells.length k1, .slice p2 a_0.Design.Instances.length k2, .slice p3 a_0.Design.Nets.length k3, .slice p4 a_0.Design.Ports.length k4, .slice p5 a_0.Wires.length k5, .slice p6 r1.length k6, .slice p7 ln1 k7, .slice none 0 0, .slice none 0 0, .slice none 0 0] 160, Ch.own S1 (r1 : List Tplace) [.slice p6 r1.length k6], Ch.box bb1 [.slice p1 a_0.Library.Cells.length k1, .slice p2 a_0.Design.Instances.length k2, .slice p3 a_0.Design.Nets.length k3, .slice p4 a_0.Design.Ports.length k4, .slice p5 a_0.Wires.length k5] 50]) n ⟨_, _, _, _, _, _, _, hF, rfl, h⟩ ?_
 rintro m1 e1 w5 ⟨S2, p7, ln1, k7, x1, i1, i2, hF, rfl, h⟩
 obtain rfl := (h.sl 0 rfl).2
 rcases m1 with _ | m1
 ·rw [qc2] at hF
  cases hF
 rw [qc2] at hF
 refine zSR (zp1 rfl (zNS ?_))
 refine qq rfl hF ?_ ?_ <;> intro hF
 ·refine zKSBSR ?_
  obtain ⟨y1, hy1, hF⟩ := qd hF
  have he1 := qg hy1
  obtain ⟨b1, o_1, q1, cs2, hp1, hq1, -, hr2, hc2⟩ := s2.at hy1
  obtain ⟨p8, k8, rfl, s6⟩ := qae hr2
  refine zxe hp1 hq1 he1 rfl (zc 0 (hc2.below h.below) rfl (qah qc h rfl rfl rfl ?_))
  intro w6 bb3 h
  refine zs 0 h rfl ?_
  intro w7 h
  replace h : SH _ _ [Ch.box bb3 [.string y1.Name, .int .i64 y1.Cell, .slice p8 y1.Nets.length k8] 185, Ch.own S2 (x1 : List qbf) [.slice p7 x1.length k7], Ch.box bb2 [.slice p1 a_0.Library.Cells.length k1, .slice p2 a_0.Design.Instances.length k2, .slice p3 a_0.Design.Nets.length k3, .slice p4 a_0.Design.Ports.length k4, .slice p5 a_0.Wires.length k5, .slice p6 r1.length k6, .slice p7 x1.length k7, .slice none 0 0, .slice none 0 0, .slice none 0 0] 160, Ch.own S1 (r1 : List Tplace) [.slice p6 r1.length k6], Ch.box bb1 [.slice p1 a_0.Library.Cells.length k1, .slice p2 a_0.Design.Instances.length k2, .slice p3 a_0.Design.Nets.length k3, .slice p4 a_0.Design.Ports.length k4, .slice p5 a_0.Wires.length k5] 50] := h
  refine zNS ?_
  refine qhB [12] (fun w' => SH w w' [Ch.box bb3 [.string y1.Name, .int .i64 y1.Cell, .slice p8 y1.Nets.length k8] 185, Ch.box bb2 [.slice p1 a_0.Library.Cells.length k1, .slice p2 a_0.Design.Instances.length k2, .slice p3 a_0.Design.Nets.length k3, .slice p4 a_0.Design.Ports.length k4, .slice p5 a_0.Wires.length k5, .slice p6 r1.length k6, .slice p7 x1.length k7, .slice none 0 0, .slice none 0 0, .slice none 0 0] 160, Ch.box bb1 [.slice p1 a_0.Library.Cells.length k1, .slice p2 a_0.Design.Instances.length k2, .slice p3 a_0.Design.Nets.length k3, .slice p4 a_0.Design.Ports.length k4, .slice p5 a_0.Wires.length k5] 50]) rfl 13 rfl #[ff, ff, ff, ff, ff, ff, ff, ff, ff, ff, ff, ff, ff] (by kernel_rfl) (fun w8 hb => ?_)
  replace h := h.ext hb
  clear hb
  refine qm 0 rfl #[tt, ff, ff, ff, ff, ff, ff, ff, ff, ff, ff, ff, ff] (by kernel_rfl) (by kernel_rfl) (fun w' hw => v_p qc rfl w') (h.pick [0, 2, 4] rfl) rfl ?_
  refine qm 1 rfl #[tt, tt, ff, ff, ff, ff, ff, ff, ff, ff, ff, ff, ff] (by kernel_rfl) (by kernel_rfl) (fun w' hw => v_p qc rfl w') (h.pick [0, 2, 4] rfl) rfl ?_
  refine qm 2 rfl #[tt, tt, tt, ff, ff, ff, ff, ff, ff, ff, ff, ff, ff] (by kernel_rfl) (by kernel_rfl) (fun w' hw => v_p qc rfl w') (h.pick [0, 2, 4] rfl) rfl ?_
  refine qm 3 rfl #[tt, tt, tt, tt, ff, ff, ff, ff, ff, ff, ff, ff, ff] (by kernel_rfl) (by kernel_rfl) (fun w' hw => v_p qc rfl w') (h.pick [0, 2, 4] rfl) rfl ?_
  refine qm 4 rfl #[tt, tt, tt, tt, tt, ff, ff, ff, ff, ff, ff, ff, ff] (by kernel_rfl) (by kernel_rfl) (fun w' hw => qcX qc (hw.box 1 rfl) (j := 6) rfl rfl rfl) (h.pick [0, 2, 4] rfl) rfl ?_
  refine qm 5 rfl #[tt, tt, tt, tt, tt, tt, ff, ff, ff, ff, ff, ff, ff] (by kernel_rfl) (by kernel_rfl) (fun w' hw => qcX qc (hw.box 2 rfl) (j := 0) rfl rfl rfl) (h.pick [0, 2, 4] rfl) rfl ?_
  refine qm 6 rfl #[tt, tt, tt, tt, tt, tt, tt, ff, ff, ff, ff, ff, ff] (by kernel_rfl) (by kernel_rfl) (fun w' hw => qcX qc (hw.box 0 rfl) (j := 0) rfl rfl rfl) (h.pick [0, 2, 4] rfl) rfl ?_
  refine qm 7 rfl #[tt, tt, tt, tt, tt, tt, tt, tt, ff, ff, ff, ff, ff] (by kernel_rfl) (by kernel_rfl) (fun w' hw => v_p qc rfl w') (h.pick [0, 2, 4] rfl) rfl ?_
  refine qbe 8 rfl #[tt, tt, tt, tt, tt, tt, tt, tt, tt, ff, ff, ff, ff] (by kernel_rfl) (by kernel_rfl) ?_
  obtain ⟨r2, hr3, hF⟩ := qd hF
  refine qam r2 h call150 (qiu (h.old (GoT.mono ha1 hg.old)) (qfp y1 (h.oldS (s6.mono hg.old))) hr3) rfl rfl rfl rfl ?_
  intro w9 S3 p9 k9 h
  refine qa6 (fun _ => (h.pick [1, 3, 5] rfl)) ?_
  refine qbe 9 rfl #[tt, tt, tt, tt, tt, tt, tt, tt, tt, tt, ff, ff, ff] (by kernel_rfl) (by kernel_rfl) ?_
  obtain ⟨x2, hx1, hF⟩ := qd hF
  obtain ⟨g1, hx1⟩ := qbt hx1
  refine qeW qc 2 h rfl (h.sl 0 rfl).1 (h.sl 0 rfl).2 rfl rfl rfl rfl rfl rfl rfl rfl rfl g1 hx1 rfl ?_
  intro w10 p10 k10 S4 h
  refine qa6 (fun _ => (h.pick [1, 3, 5] rfl)) ?_
  refine qbe 10 rfl #[tt, tt, tt, tt, tt, tt, tt, tt, tt, tt, tt, ff, ff] (by kernel_rfl) (by kernel_rfl) ?_
  refine zp1 rfl ?_
  refine qa6 (fun _ => (h.pick [1, 3, 5] rfl)) ?_
  refine qm 11 rfl #[tt, tt, tt, tt, tt, tt, tt, tt, tt, tt, tt, tt, ff] (by kernel_rfl) (by kernel_rfl) (fun w' hw => v_p qc rfl w') (h.pick [1, 3, 5] rfl) rfl ?_
  refine qbe 12 rfl #[tt, tt, tt, tt, tt, tt, tt, tt, tt, tt, tt, tt, tt] (by kernel_rfl) (by kernel_rfl) ?_
  refine zs 3 h rfl ?_
  intro w11 h
  replace h : SH _ _ [Ch.own S3 (r2 : List qbf) [.slice p9 r2.length k9], Ch.box bb3 [.string y1.Name, .int .i64 y1.Cell, .slice p8 y1.Nets.length k8] 185, Ch.own S4 (x2 : List qbf) [.slice p10 x2.length k10], Ch.box bb2 [.slice p1 a_0.Library.Cells.length k1, .slice p2 a_0.Design.Instances.length k2, .slice p3 a_0.Design.Nets.length k3, .slice p4 a_0.Design.Ports.length k4, .slice p5 a_0.Wires.length k5, .slice p6 r1.length k6, .slice p10 x2.length k10, .slice none 0 0, .slice none 0 0, .slice none 0 0] 160, Ch.own S1 (r1 : List Tplace) [.slice p6 r1.length k6], Ch.box bb1 [.slice p1 a_0.Library.Cells.length k1, .slice p2 a_0.Design.Instances.length k2, .slice p3 a_0.Design.Nets.length k3, .slice p4 a_0.Design.Ports.length k4, .slice p5 a_0.Wires.length k5] 50] := h
  refine qa6 (fun hs => absurd (hs 12 (by decide)) (by decide)) ?_
  refine qfK (by kernel_rfl) ?_
  refine qz (zp2 rfl (zl 1 2 h rfl ?_))
  obtain ⟨r3, hr4, hF⟩ := qd hF
  refine qU r3 h call87 (qbp ⟨_, _, rfl, (h.oldS (s6.mono hg.old))⟩ hr4) rfl rfl rfl rfl ?_
  intro w12 h
  refine zp2 rfl (zNER (zp2 rfl (qb ?_)))
  replace h := h.pick [2, 3, 4, 5] rfl
  exact qA m1 [(1, _), (3, _), (4, _), (23, _), (24, _), (25, _)] (Nat.lt_succ_self m1) ⟨rfl, rfl, rfl, rfl, rfl, rfl, trivial⟩ ⟨_, _, _, _, _, _, _, hF, rfl, h⟩
 refine qI rfl ?_
 obtain rfl := qh hF; replace hF := hK1
 refine zSR (zp1 rfl (zl 3 4 h rfl (zp1 rfl ?_)))
 obtain ⟨x3, hx2, hF⟩ := qd hF
 obtain ⟨g2, g3, hx2⟩ := qdx hx2
 refine qeB qc Int h rfl rfl rfl rfl rfl rfl rfl rfl rfl g2 g3 hx2 rfl ?_
 intro w13 S5 p11 h
 refine zp1 rfl (zNSR (zp1 rfl (zl 4 4 h rfl (zp1 rfl ?_))))
 obtain ⟨x4, hx3, hF⟩ := qd hF
 obtain ⟨g4, g5, hx3⟩ := qdx hx3
 refine qeB qc (List Int) h rfl rfl rfl rfl rfl rfl rfl rfl rfl g4 g5 hx3 rfl ?_
 intro w14 S6 p12 h
 refine zp1 rfl (zNSSR (zp3 rfl (zl 3 5 h rfl (zp2 rfl (qb ?_)))))
 obtain ⟨o2, hF, hK2⟩ := qd hF
 refine qw (qR [(1, _), (3, _), (7, _), (8, _), (58, _), (59, _), (60, _)] ⟨rfl, rfl, rfl, rfl, rfl, rfl, rfl, trivial⟩ ?_)
 refine qH (fun m e w' => ∃ (S7 : Nat → Prop) (x5 : (List (List Int))) (x6 : (List Int)) (i3 : Int), qbX r1 m x5 x6 i3 = some o2 ∧ e = [(1, .pointer (some ⟨bb1, 0, none⟩)), (3, .pointer (some ⟨bb2, 0, none⟩)), (7, .slice p11 x3.length x3.length), (8, .slice p12 x4.length x4.length), (58, .slice p6 r1.length k6), (59, .int .i64 (r1.length : Int)), (60, .int .i64 i3)] ∧ SH w w' [Ch.own S7 (x5 : List (List Int)) [.slice p12 x4.length x4.length], Ch.own S5 (x6 : List Int) [.slice p11 x3.length x3.length], Ch.own S2 (x1 : List qbf) [.slice p7 x1.length k7], Ch.box bb2 [.slice p1 a_0.Library.Cells.length k1, .slice p2 a_0.Design.Instances.length k2, .slice p3 a_0.Design.Nets.length k3, .slice p4 a_0.Design.Ports.length k4, .slice p5 a_0.Wires.length k5, .slice p6 r1.length k6, .slice p7 x1.length k7, .slice none 0 0, .slice none 0 0, .slice none 0 0] 160, Ch.own S1 (r1 : List Tplace) [.slice p6 r1.length k6], Ch.box bb1 [.slice p1 a_0.Library.Cells.length k1, .slice p2 a_0.Design.Instances.length k2, .slice p3 a_0.Design.Nets.length k3, .slice p4 a_0.Design.Ports.length k4, .slice p5 a_0.Wires.length k5] 50]) n ⟨_, _, _, _, hF, rfl, h⟩ ?_
 rintro m2 e2 w15 ⟨S7, x5, x6, i3, hF, rfl, h⟩
 rcases m2 with _ | m2
 ·rw [qbX] at hF
  cases hF
 rw [qbX] at hF
 refine zSR (zp1 rfl (zNS ?_))
 refine qq rfl hF ?_ ?_ <;> intro hF
 ·refine zKSBSR (zp1 rfl ?_)
  obtain ⟨y2, hy2, hF⟩ := qd hF
  have he2 := qg hy2
  obtain ⟨b2, o_2, q2, cs3, hp2, hq2, -, hr5, hc4⟩ := (h.sl 4 rfl).1.at hy2
  obtain rfl := qhO hr5
  refine zx hp2 hq2 ⟨he2.1, qac he2.2.1 (h.sl 4 rfl).2⟩ rfl (zc 0 hc4 rfl (qah qc h rfl rfl rfl ?_))
  intro w16 bb4 h
  refine zp1 rfl (zs 0 h rfl ?_)
  intro w17 h
  refine zNSR (zp1 rfl (zl 0 3 h rfl (qb ?_)))
  refine qq rfl hF ?_ ?_ <;> intro hF
  ·refine qz (zp2 rfl (zl 0 2 h rfl (zp1 rfl ?_)))
   obtain ⟨y3, hy3, hF⟩ := qd hF
   have he3 := qg hy3
   obtain ⟨b3, o_3, q3, cs4, hp3, hq3, -, hr6, hc6⟩ := (h.sl 2 rfl).1.at hy3
   obtain rfl := hr6
   refine zx hp3 hq3 ⟨he3.1, qac he3.2.1 (h.sl 2 rfl).2⟩ rfl (qcH qc 2 0 i3 h rfl hy3 hp3 hq3 rfl hc6 rfl rfl rfl rfl rfl rfl rfl ?_)
   intro w18 h
   refine zNER (zp2 rfl (qb ?_))
   replace h := h.pick [1, 2, 3, 4, 5, 6] rfl
   exact qA m2 [(1, _), (3, _), (7, _), (8, _), (58, _), (59, _), (60, _)] (Nat.lt_succ_self m2) ⟨rfl, rfl, rfl, rfl, rfl, rfl, rfl, trivial⟩ ⟨_, _, _, _, hF, rfl, h⟩
  obtain ⟨y4, hy4, hF⟩ := qd hF
  have he4 := qg hy4
  replace h := h.pick [1, 0, 2, 3, 4, 5, 6] rfl
  obtain ⟨S8, S9, cs5, h⟩ := h.take hy4
  obtain ⟨p13, k11, rfl, -⟩ := h.own 0 rfl
  refine qhB [12] (fun w' => SH w w' [Ch.hole S9 (x5 : List (List Int)) p12 x4.length x4.length (y2.net).toNat [.slice p13 y4.length k11], Ch.box bb4 [.int .i64 y2.instance_, .int .i64 y2.pin, .int .i64 y2.net, .bool y2.drives] 156]) rfl 13 rfl #[ff, ff, ff, ff, ff, ff, ff, ff, ff, ff, ff, ff, ff] (by kernel_rfl) (fun w19 hb => ?_)
  replace h := h.ext hb
  clear hb
  refine qm 0 rfl #[tt, ff, ff, ff, ff, ff, ff, ff, ff, ff, ff, ff, ff] (by kernel_rfl) (by kernel_rfl) (fun w' hw => v_p qc rfl w') (h.pick [1, 2] rfl) rfl ?_
  refine qm 1 rfl #[tt, tt, ff, ff, ff, ff, ff, ff, ff, ff, ff, ff, ff] (by kernel_rfl) (by kernel_rfl) (fun w' hw => v_p qc rfl w') (h.pick [1, 2] rfl) rfl ?_
  refine qm 2 rfl #[tt, tt, tt, ff, ff, ff, ff, ff, ff, ff, ff, ff, ff] (by kernel_rfl) (by kernel_rfl) (fun w' hw => qcX qc (hw.box 1 rfl) (j := 2) rfl rfl rfl) (h.pick [1, 2] rfl) rfl ?_
  refine qm 3 rfl #[tt, tt, tt, tt, ff, ff, ff, ff, ff, ff, ff, ff, ff] (by kernel_rfl) (by kernel_rfl) (fun w' hw => v_p qc rfl w') (h.pick [1, 2] rfl) rfl ?_
  refine qm 4 rfl #[tt, tt, tt, tt, tt, ff, ff, ff, ff, ff, ff, ff, ff] (by kernel_rfl) (by kernel_rfl) (fun w' hw => v_p qc rfl w') (h.pick [1, 2] rfl) rfl ?_
  refine qm 5 rfl #[tt, tt, tt, tt, tt, tt, ff, ff, ff, ff, ff, ff, ff] (by kernel_rfl) (by kernel_rfl) (fun w' hw => qcX qc (hw.box 1 rfl) (j := 2) rfl rfl rfl) (h.pick [1, 2] rfl) rfl ?_
  obtain ⟨b4, hp4, -, -, hl2⟩ := h.holeAt 1 rfl
  obtain ⟨q4, hq4⟩ : ∃ q, q = 0 + (y2.net).toNat * GoT.k (List Int) := ⟨_, rfl⟩
  refine qm 6 rfl #[tt, tt, tt, tt, tt, tt, tt, ff, ff, ff, ff, ff, ff] (by kernel_rfl) (by kernel_rfl) (fun w' hw => qg4 qc hp4 hq4 ⟨he4.1, qac he4.2.1 hl2⟩ rfl rfl rfl rfl rfl rfl) (h.pick [1, 2] rfl) rfl ?_
  refine qm 7 rfl #[tt, tt, tt, tt, tt, tt, tt, tt, ff, ff, ff, ff, ff] (by kernel_rfl) (by kernel_rfl) (fun w' hw => qcX qc (qbV hw 0 rfl hp4 hq4) (j := 0) rfl rfl rfl) (h.pick [1, 2] rfl) rfl ?_
  refine qm 8 rfl #[tt, tt, tt, tt, tt, tt, tt, tt, tt, ff, ff, ff, ff] (by kernel_rfl) (by kernel_rfl) (fun w' hw => v_p qc rfl w') (h.pick [1, 2] rfl) rfl ?_
  refine qbe 9 rfl #[tt, tt, tt, tt, tt, tt, tt, tt, tt, tt, ff, ff, ff] (by kernel_rfl) (by kernel_rfl) ?_
  refine qaY qc [.tmp 80] _ ([i3] : List Int) h rfl rfl rfl rfl rfl rfl rfl rfl rfl ⟨rfl, trivial⟩ rfl ?_
  intro w20 p14 S10 h
  refine qa6 (fun _ => (h.pick [2, 3] rfl)) ?_
  refine qbe 10 rfl #[tt, tt, tt, tt, tt, tt, tt, tt, tt, tt, tt, ff, ff] (by kernel_rfl) (by kernel_rfl) ?_
  obtain ⟨x7, hx4, hF⟩ := qd hF
  obtain ⟨g6, hx4⟩ := qbt hx4
  refine qeW qc 1 h rfl (h.sl 0 rfl).1 (h.sl 0 rfl).2 rfl rfl rfl rfl rfl rfl rfl rfl rfl g6 hx4 rfl ?_
  intro w21 p15 k12 S11 h
  refine qa6 (fun _ => (h.pick [2, 3] rfl)) ?_
  obtain ⟨b5, hp5, -, -, hl4⟩ := h.holeAt 2 rfl
  obtain ⟨q5, hq5⟩ : ∃ q, q = 0 + (y2.net).toNat * GoT.k (List Int) := ⟨_, rfl⟩
  refine qm 11 rfl #[tt, tt, tt, tt, tt, tt, tt, tt, tt, tt, tt, tt, ff] (by kernel_rfl) (by kernel_rfl) (fun w' hw => qg4 qc hp5 hq5 ⟨he4.1, qac he4.2.1 hl4⟩ rfl rfl rfl rfl rfl rfl) (h.pick [2, 3] rfl) rfl ?_
  refine qbe 12 rfl #[tt, tt, tt, tt, tt, tt, tt, tt, tt, tt, tt, tt, tt] (by kernel_rfl) (by kernel_rfl) ?_
  refine qeX qc 2 0 h rfl hp5 hq5 rfl rfl rfl rfl rfl rfl ?_
  intro w22 h
  refine qa6 (fun hs => absurd (hs 12 (by decide)) (by decide)) ?_
  refine qfK (by kernel_rfl) ?_
  refine qfE (qz (zp2 rfl (qb ?_)))
  replace h := h.pick [1, 2, 0, 3, 4, 5, 6, 7, 8] rfl
  replace h := h.put
  obtain ⟨S12, h⟩ := qj0 (S := _) h
  replace h := h.pick [0, 3, 4, 5, 6, 7] rfl
  exact qA m2 [(1, _), (3, _), (7, _), (8, _), (58, _), (59, _), (60, _)] (Nat.lt_succ_self m2) ⟨rfl, rfl, rfl, rfl, rfl, rfl, rfl, trivial⟩ ⟨_, _, _, _, hF, rfl, h⟩
 refine qI rfl ?_
 obtain rfl := qh hF; replace hF := hK2
 refine zSSR (zp1 rfl (zl 5 4 h rfl (zp2 rfl (qb ?_))))
 replace h := h.nil (α := Int)
 replace h := h.nil (α := (List Int))
 obtain ⟨o3, hF, hK3⟩ := qd hF
 refine qw (qR [(1, _), (3, _), (7, _), (8, _), (87, _), (88, _)] ⟨rfl, rfl, rfl, rfl, rfl, rfl, trivial⟩ ?_)
 refine qH (fun m e w' => ∃ (S13 : Nat → Prop) (p16 : Option Addr) (ln2 : Nat) (k13 : Nat) (x8 : (List (List Int))) (S14 : Nat → Prop) (p17 : Option Addr) (ln3 : Nat) (k14 : Nat) (x9 : (List Int)) (S15 : Nat → Prop) (p18 : Option Addr) (ln4 : Nat) (k15 : Nat) (x10 : (List qbf)) (i4 : Int), qcZ a_0 x5 x6 m x8 x9 x10 i4 = some o3 ∧ e = [(1, .pointer (some ⟨bb1, 0, none⟩)), (3, .pointer (some ⟨bb2, 0, none⟩)), (7, .slice p11 x3.length x3.length), (8, .slice p12 x4.length x4.length), (87, .int .i64 (a_0.Wires.length : Int)), (88, .int .i64 i4)] ∧ SH w w' [Ch.own S13 (x8 : List (List Int)) [.slice p16 ln2 k13], Ch.own S14 (x9 : List Int) [.slice p17 ln3 k14], Ch.own S7 (x5 : List (List Int)) [.slice p12 x4.length x4.length], Ch.own S5 (x6 : List Int) [.slice p11 x3.length x3.length], Ch.own S15 (x10 : List qbf) [.slice p18 ln4 k15], Ch.box bb2 [.slice p1 a_0.Library.Cells.length k1, .slice p2 a_0.Design.Instances.length k2, .slice p3 a_0.Design.Nets.length k3, .slice p4 a_0.Design.Ports.length k4, .slice p5 a_0.Wires.length k5, .slice p6 r1.length k6, .slice p18 ln4 k15, .slice p17 ln3 k14, .slice p16 ln2 k13, .slice none 0 0] 160, Ch.own S1 (r1 : List Tplace) [.slice p6 r1.length k6], Ch.box bb1 [.slice p1 a_0.Library.Cells.length k1, .slice p2 a_0.Design.Instances.length k2, .slice p3 a_0.Design.Nets.length k3, .slice p4 a_0.Design.Ports.length k4, .slice p5 a_0.Wires.length k5] 50]) n ⟨_, _, _, _, _, _, _, _, _, _, _, _, _, _, _, _, hF, rfl, h⟩ ?_
 rintro m3 e3 w23 ⟨S13, p16, ln2, k13, x8, S14, p17, ln3, k14, x9, S15, p18, ln4, k15, x10, i4, hF, rfl, h⟩
 obtain rfl := (h.sl 0 rfl).2
 obtain rfl := (h.sl 1 rfl).2
 obtain rfl := (h.sl 4 rfl).2
 rcases m3 with _ | m3
 ·rw [qcZ] at hF
  cases hF
 rw [qcZ] at hF
 refine zSR (zp1 rfl (zNS ?_))
 refine qq rfl hF ?_ ?_ <;> intro hF
 ·refine zKSBSR (zp2 rfl (zNS ?_))
  refine qhB [14] (fun w' => SH w w' [Ch.box bb2 [.slice p1 a_0.Library.Cells.length k1, .slice p2 a_0.Design.Instances.length k2, .slice p3 a_0.Design.Nets.length k3, .slice p4 a_0.Design.Ports.length k4, .slice p5 a_0.Wires.length k5, .slice p6 r1.length k6, .slice p18 x10.length k15, .slice p17 x9.length k14, .slice p16 x8.length k13, .slice none 0 0] 160, Ch.box bb1 [.slice p1 a_0.Library.Cells.length k1, .slice p2 a_0.Design.Instances.length k2, .slice p3 a_0.Design.Nets.length k3, .slice p4 a_0.Design.Ports.length k4, .slice p5 a_0.Wires.length k5] 50]) rfl 15 rfl #[ff, ff, ff, ff, ff, ff, ff, ff, ff, ff, ff, ff, ff, ff, ff] (by kernel_rfl) (fun w24 hb => ?_)
  replace h := h.ext hb
  clear hb
  refine qm 0 rfl #[tt, ff, ff, ff, ff, ff, ff, ff, ff, ff, ff, ff, ff, ff, ff] (by kernel_rfl) (by kernel_rfl) (fun w' hw => v_p qc rfl w') (h.pick [5, 7] rfl) rfl ?_
  refine qm 1 rfl #[tt, tt, ff, ff, ff, ff, ff, ff, ff, ff, ff, ff, ff, ff, ff] (by kernel_rfl) (by kernel_rfl) (fun w' hw => v_p qc rfl w') (h.pick [5, 7] rfl) rfl ?_
  refine qm 2 rfl #[tt, tt, tt, ff, ff, ff, ff, ff, ff, ff, ff, ff, ff, ff, ff] (by kernel_rfl) (by kernel_rfl) (fun w' hw => v_p qc rfl w') (h.pick [5, 7] rfl) rfl ?_
  refine qm 3 rfl #[tt, tt, tt, tt, ff, ff, ff, ff, ff, ff, ff, ff, ff, ff, ff] (by kernel_rfl) (by kernel_rfl) (fun w' hw => v_p qc rfl w') (h.pick [5, 7] rfl) rfl ?_
  refine qm 4 rfl #[tt, tt, tt, tt, tt, ff, ff, ff, ff, ff, ff, ff, ff, ff, ff] (by kernel_rfl) (by kernel_rfl) (fun w' hw => qcX qc (hw.box 0 rfl) (j := 7) rfl rfl rfl) (h.pick [5, 7] rfl) rfl ?_
  refine qm 5 rfl #[tt, tt, tt, tt, tt, tt, ff, ff, ff, ff, ff, ff, ff, ff, ff] (by kernel_rfl) (by kernel_rfl) (fun w' hw => qcX qc (hw.box 1 rfl) (j := 0) rfl rfl rfl) (h.pick [5, 7] rfl) rfl ?_
  refine qm 6 rfl #[tt, tt, tt, tt, tt, tt, tt, ff, ff, ff, ff, ff, ff, ff, ff] (by kernel_rfl) (by kernel_rfl) (fun w' hw => v_p qc rfl w') (h.pick [5, 7] rfl) rfl ?_
  refine qbe 7 rfl #[tt, tt, tt, tt, tt, tt, tt, tt, ff, ff, ff, ff, ff, ff, ff] (by kernel_rfl) (by kernel_rfl) ?_
  obtain ⟨r4, hr7, hF⟩ := qd hF
  refine qam r4 h call151 (qe6 (h.old (GoT.mono ha1 hg.old)) hr7) rfl rfl rfl rfl ?_
  intro w25 S16 p19 k16 h
  refine qa6 (fun _ => (h.pick [6, 8] rfl)) ?_
  obtain ⟨y5, hy5, hF⟩ := qd hF
  have he5 := qg hy5
  obtain ⟨b6, o_4, q6, cs6, hp6, hq6, -, hr8, hc8⟩ := (h.sl 0 rfl).1.at hy5
  obtain rfl := hr8
  refine qm 8 rfl #[tt, tt, tt, tt, tt, tt, tt, tt, tt, ff, ff, ff, ff, ff, ff] (by kernel_rfl) (by kernel_rfl) (fun w' hw => qg4 qc hp6 hq6 ⟨he5.1, qac he5.2.1 (h.sl 0 rfl).2⟩ rfl rfl rfl rfl rfl rfl) (h.pick [6, 8] rfl) rfl ?_
  refine qbe 9 rfl #[tt, tt, tt, tt, tt, tt, tt, tt, tt, tt, ff, ff, ff, ff, ff] (by kernel_rfl) (by kernel_rfl) ?_
  refine zc 0 hc8 rfl ?_
  refine qa6 (fun _ => (h.pick [6, 8] rfl)) ?_
  refine qbe 10 rfl #[tt, tt, tt, tt, tt, tt, tt, tt, tt, tt, tt, ff, ff, ff, ff] (by kernel_rfl) (by kernel_rfl) ?_
  refine qaY qc [.tmp 100] _ ([y5] : List Int) h rfl rfl rfl rfl rfl rfl rfl rfl rfl ⟨rfl, trivial⟩ rfl ?_
  intro w26 p20 S17 h
  refine qa6 (fun _ => (h.pick [7, 9] rfl)) ?_
  refine qbe 11 rfl #[tt, tt, tt, tt, tt, tt, tt, tt, tt, tt, tt, tt, ff, ff, ff] (by kernel_rfl) (by kernel_rfl) ?_
  obtain ⟨x11, hx5, hF⟩ := qd hF
  obtain ⟨g7, hx5⟩ := qbt hx5
  refine qeW qc 3 h rfl (h.sl 0 rfl).1 (h.sl 0 rfl).2 rfl rfl rfl rfl rfl rfl rfl rfl rfl g7 hx5 rfl ?_
  intro w27 p21 k17 S18 h
  refine qa6 (fun _ => (h.pick [7, 9] rfl)) ?_
  refine qbe 12 rfl #[tt, tt, tt, tt, tt, tt, tt, tt, tt, tt, tt, tt, tt, ff, ff] (by kernel_rfl) (by kernel_rfl) ?_
  refine zp1 rfl ?_
  refine qa6 (fun _ => (h.pick [7, 9] rfl)) ?_
  refine qm 13 rfl #[tt, tt, tt, tt, tt, tt, tt, tt, tt, tt, tt, tt, tt, tt, ff] (by kernel_rfl) (by kernel_rfl) (fun w' hw => v_p qc rfl w') (h.pick [7, 9] rfl) rfl ?_
  refine qbe 14 rfl #[tt, tt, tt, tt, tt, tt, tt, tt, tt, tt, tt, tt, tt, tt, tt] (by kernel_rfl) (by kernel_rfl) ?_
  refine zs 7 h rfl ?_
  intro w28 h
  refine qa6 (fun hs => absurd (hs 14 (by decide)) (by decide)) ?_
  refine qfK (by kernel_rfl) ?_
  refine qbm ?_
  refine qhB [12] (fun w' => SH w w' [Ch.box bb2 [.slice p1 a_0.Library.Cells.length k1, .slice p2 a_0.Design.Instances.length k2, .slice p3 a_0.Design.Nets.length k3, .slice p4 a_0.Design.Ports.length k4, .slice p5 a_0.Wires.length k5, .slice p6 r1.length k6, .slice p18 x10.length k15, .slice p21 x11.length k17, .slice p16 x8.length k13, .slice none 0 0] 160, Ch.box bb1 [.slice p1 a_0.Library.Cells.length k1, .slice p2 a_0.Design.Instances.length k2, .slice p3 a_0.Design.Nets.length k3, .slice p4 a_0.Design.Ports.length k4, .slice p5 a_0.Wires.length k5] 50]) rfl 13 rfl #[ff, ff, ff, ff, ff, ff, ff, ff, ff, ff, ff, ff, ff] (by kernel_rfl) (fun w29 hb => ?_)
  replace h := h.ext hb
  clear hb
  refine qm 0 rfl #[tt, ff, ff, ff, ff, ff, ff, ff, ff, ff, ff, ff, ff] (by kernel_rfl) (by kernel_rfl) (fun w' hw => v_p qc rfl w') (h.pick [7, 9] rfl) rfl ?_
  refine qm 1 rfl #[tt, tt, ff, ff, ff, ff, ff, ff, ff, ff, ff, ff, ff] (by kernel_rfl) (by kernel_rfl) (fun w' hw => v_p qc rfl w') (h.pick [7, 9] rfl) rfl ?_
  refine qm 2 rfl #[tt, tt, tt, ff, ff, ff, ff, ff, ff, ff, ff, ff, ff] (by kernel_rfl) (by kernel_rfl) (fun w' hw => v_p qc rfl w') (h.pick [7, 9] rfl) rfl ?_
  refine qm 3 rfl #[tt, tt, tt, tt, ff, ff, ff, ff, ff, ff, ff, ff, ff] (by kernel_rfl) (by kernel_rfl) (fun w' hw => v_p qc rfl w') (h.pick [7, 9] rfl) rfl ?_
  refine qm 4 rfl #[tt, tt, tt, tt, tt, ff, ff, ff, ff, ff, ff, ff, ff] (by kernel_rfl) (by kernel_rfl) (fun w' hw => qcX qc (hw.box 0 rfl) (j := 8) rfl rfl rfl) (h.pick [7, 9] rfl) rfl ?_
  refine qm 5 rfl #[tt, tt, tt, tt, tt, tt, ff, ff, ff, ff, ff, ff, ff] (by kernel_rfl) (by kernel_rfl) (fun w' hw => qcX qc (hw.box 1 rfl) (j := 0) rfl rfl rfl) (h.pick [7, 9] rfl) rfl ?_
  refine qm 6 rfl #[tt, tt, tt, tt, tt, tt, tt, ff, ff, ff, ff, ff, ff] (by kernel_rfl) (by kernel_rfl) (fun w' hw => v_p qc rfl w') (h.pick [7, 9] rfl) rfl ?_
  refine qbe 7 rfl #[tt, tt, tt, tt, tt, tt, tt, tt, ff, ff, ff, ff, ff] (by kernel_rfl) (by kernel_rfl) ?_
  obtain ⟨r5, hr9, hF⟩ := qd hF
  refine qam r5 h call152 (qie (h.old (GoT.mono ha1 hg.old)) hr9) rfl rfl rfl rfl ?_
  intro w30 S19 p22 k18 h
  refine qa6 (fun _ => (h.pick [8, 10] rfl)) ?_
  refine qbe 8 rfl #[tt, tt, tt, tt, tt, tt, tt, tt, tt, ff, ff, ff, ff] (by kernel_rfl) (by kernel_rfl) ?_
  refine qpD qc [.tmp 112] _ ([r5] : List (List Int)) [1, 2, 3, 4, 5, 6, 7, 8, 9, 10] h rfl rfl rfl rfl rfl rfl rfl rfl rfl (qqH (qab 0 h rfl) qq2 rfl) rfl rfl ?_
  intro w31 p23 S20 h
  refine qa6 (fun _ => (h.pick [8, 10] rfl)) ?_
  refine qbe 9 rfl #[tt, tt, tt, tt, tt, tt, tt, tt, tt, tt, ff, ff, ff] (by kernel_rfl) (by kernel_rfl) ?_
  obtain ⟨x12, hx6, hF⟩ := qd hF
  obtain ⟨g8, hx6⟩ := qbt hx6
  replace h := h.pick [0, 3, 1, 2, 4, 5, 6, 7, 8, 9, 10] rfl
  refine qrl qc h rfl rfl rfl rfl rfl rfl rfl rfl rfl g8 hx6 rfl ?_
  intro w32 p24 k19 S21 h
  refine qa6 (fun _ => (h.pick [7, 9] rfl)) ?_
  refine qbe 10 rfl #[tt, tt, tt, tt, tt, tt, tt, tt, tt, tt, tt, ff, ff] (by kernel_rfl) (by kernel_rfl) ?_
  refine zp1 rfl ?_
  refine qa6 (fun _ => (h.pick [7, 9] rfl)) ?_
  refine qm 11 rfl #[tt, tt, tt, tt, tt, tt, tt, tt, tt, tt, tt, tt, ff] (by kernel_rfl) (by kernel_rfl) (fun w' hw => v_p qc rfl w') (h.pick [7, 9] rfl) rfl ?_
  refine qbe 12 rfl #[tt, tt, tt, tt, tt, tt, tt, tt, tt, tt, tt, tt, tt] (by kernel_rfl) (by kernel_rfl) ?_
  refine zs 7 h rfl ?_
  intro w33 h
  refine qa6 (fun hs => absurd (hs 12 (by decide)) (by decide)) ?_
  refine qfK (by kernel_rfl) ?_
  refine zSR (zp2 rfl ?_)
  obtain ⟨y6, hy6, hF⟩ := qd hF
  have he6 := qg hy6
  replace h := h.lrn0 4 rfl
  obtain ⟨b7, o_5, q7, cs7, hp7, hq7, -, hr10, hc9⟩ := (qhS (h.lrnO 4 rfl)).1.at hy6
  have hr11 := hr10
  obtain ⟨p25, k20, rfl, s7⟩ := hr10
  replace h := h.lrnAdd 4 rfl hr11
  refine zx hp7 hq7 ⟨he6.1, qac he6.2.1 (qhS (h.lrnO 4 rfl)).2⟩ rfl (zc 0 hc9 rfl (zp2 rfl (qb ?_)))
  obtain ⟨o4, hF, hK4⟩ := qd hF
  refine qw ?_
  replace h := h.pick [0, 3, 4, 5, 6, 7, 8, 9] rfl
  refine qR [(1, _), (3, _), (7, _), (8, _), (11, _), (87, _), (88, _), (120, _), (121, _), (122, _)] ⟨rfl, rfl, rfl, rfl, rfl, rfl, rfl, rfl, rfl, rfl, trivial⟩ ?_
  refine qH (fun m e w' => ∃ (S22 : Nat → Prop) (p26 : Option Addr) (ln5 : Nat) (k21 : Nat) (x13 : (List qbf)) (i5 : Int), qcq x6 i4 y6 m x13 i5 = some o4 ∧ e = [(1, .pointer (some ⟨bb1, 0, none⟩)), (3, .pointer (some ⟨bb2, 0, none⟩)), (7, .slice p11 x3.length x3.length), (8, .slice p12 x4.length x4.length), (11, .int .i64 i4), (87, .int .i64 (a_0.Wires.length : Int)), (88, .int .i64 i4), (120, .slice p25 y6.length k20), (121, .int .i64 (y6.length : Int)), (122, .int .i64 i5)] ∧ SH w w' [Ch.own S21 (x12 : List (List Int)) [.slice p24 x12.length k19], Ch.own S18 (x11 : List Int) [.slice p21 x11.length k17], Ch.lrn S7 (x5 : List (List Int)) [.slice p12 x4.length x4.length] [fct (y6 : (List Int)) [.slice p25 y6.length k20]], Ch.own S5 (x6 : List Int) [.slice p11 x3.length x3.length], Ch.own S22 (x13 : List qbf) [.slice p26 ln5 k21], Ch.box bb2 [.slice p1 a_0.Library.Cells.length k1, .slice p2 a_0.Design.Instances.length k2, .slice p3 a_0.Design.Nets.length k3, .slice p4 a_0.Design.Ports.length k4, .slice p5 a_0.Wires.length k5, .slice p6 r1.length k6, .slice p26 ln5 k21, .slice p21 x11.length k17, .slice p24 x12.length k19, .slice none 0 0] 160, Ch.own S1 (r1 : List Tplace) [.slice p6 r1.length k6], Ch.box bb1 [.slice p1 a_0.Library.Cells.length k1, .slice p2 a_0.Design.Instances.length k2, .slice p3 a_0.Design.Nets.length k3, .slice p4 a_0.Design.Ports.length k4, .slice p5 a_0.Wires.length k5] 50]) m3 ⟨_, _, _, _, _, _, hF, rfl, h⟩ ?_
  rintro m4 e4 w34 ⟨S22, p26, ln5, k21, x13, i5, hF, rfl, h⟩
  obtain rfl := (h.sl 4 rfl).2
  rcases m4 with _ | m4
  ·rw [qcq] at hF
   cases hF
  rw [qcq] at hF
  refine zSR (zp1 rfl (zNS ?_))
  refine qq rfl hF ?_ ?_ <;> intro hF
  ·refine zKSBSR (zp1 rfl ?_)
   obtain ⟨y7, hy7, hF⟩ := qd hF
   have he7 := qg hy7
   obtain ⟨b8, o_6, q8, cs8, hp8, hq8, -, hr12, hc11⟩ := (qhS (GoT.mono (h.lrnS 2 0 rfl rfl) (h.lrnB 2 rfl))).1.at hy7
   obtain rfl := hr12
   refine zx hp8 hq8 ⟨he7.1, qac he7.2.1 (qhS (GoT.mono (h.lrnS 2 0 rfl rfl) (h.lrnB 2 rfl))).2⟩ rfl (zc 0 hc11 rfl (zp2 rfl (zNSR (zp1 rfl (qb ?_)))))
   obtain ⟨o5, hF, hK5⟩ := qd hF
   refine qw (qR [(1, _), (3, _), (7, _), (8, _), (11, _), (12, _), (13, _), (87, _), (88, _), (120, _), (121, _), (122, _), (127, _)] ⟨rfl, rfl, rfl, rfl, rfl, rfl, rfl, rfl, rfl, rfl, rfl, rfl, rfl, trivial⟩ ?_)
   refine qH (fun m e w' => ∃ (S23 : Nat → Prop) (p27 : Option Addr) (ln6 : Nat) (k22 : Nat) (x14 : (List qbf)) (i6 : Int), qcp x6 i4 i5 y7 m x14 i6 = some o5 ∧ e = [(1, .pointer (some ⟨bb1, 0, none⟩)), (3, .pointer (some ⟨bb2, 0, none⟩)), (7, .slice p11 x3.length x3.length), (8, .slice p12 x4.length x4.length), (11, .int .i64 i4), (12, .int .i64 i5), (13, .int .i64 y7), (87, .int .i64 (a_0.Wires.length : Int)), (88, .int .i64 i4), (120, .slice p25 y6.length k20), (121, .int .i64 (y6.length : Int)), (122, .int .i64 i5), (127, .int .i64 i6)] ∧ SH w w' [Ch.own S21 (x12 : List (List Int)) [.slice p24 x12.length k19], Ch.own S18 (x11 : List Int) [.slice p21 x11.length k17], Ch.lrn S7 (x5 : List (List Int)) [.slice p12 x4.length x4.length] [fct (y6 : (List Int)) [.slice p25 y6.length k20]], Ch.own S5 (x6 : List Int) [.slice p11 x3.length x3.length], Ch.own S23 (x14 : List qbf) [.slice p27 ln6 k22], Ch.box bb2 [.slice p1 a_0.Library.Cells.length k1, .slice p2 a_0.Design.Instances.length k2, .slice p3 a_0.Design.Nets.length k3, .slice p4 a_0.Design.Ports.length k4, .slice p5 a_0.Wires.length k5, .slice p6 r1.length k6, .slice p27 ln6 k22, .slice p21 x11.length k17, .slice p24 x12.length k19, .slice none 0 0] 160, Ch.own S1 (r1 : List Tplace) [.slice p6 r1.length k6], Ch.box bb1 [.slice p1 a_0.Library.Cells.length k1, .slice p2 a_0.Design.Instances.length k2, .slice p3 a_0.Design.Nets.length k3, .slice p4 a_0.Design.Ports.length k4, .slice p5 a_0.Wires.length k5] 50]) m4 ⟨_, _, _, _, _, _, hF, rfl, h⟩ ?_
   rintro m5 e5 w35 ⟨S23, p27, ln6, k22, x14, i6, hF, rfl, h⟩
   obtain rfl := (h.sl 4 rfl).2
   rcases m5 with _ | m5
   ·rw [qcp] at hF
    cases hF
   rw [qcp] at hF
   refine zSR (zp1 rfl (zNS ?_))
   refine qq rfl hF ?_ ?_ <;> intro hF
   ·refine zKSBSR (zp2 rfl (qb ?_))
    refine qhB [22] (fun w' => SH w w' [Ch.own S5 (x6 : List Int) [.slice p11 x3.length x3.length], Ch.box bb2 [.slice p1 a_0.Library.Cells.length k1, .slice p2 a_0.Design.Instances.length k2, .slice p3 a_0.Design.Nets.length k3, .slice p4 a_0.Design.Ports.length k4, .slice p5 a_0.Wires.length k5, .slice p6 r1.length k6, .slice p27 x14.length k22, .slice p21 x11.length k17, .slice p24 x12.length k19, .slice none 0 0] 160]) rfl 23 rfl #[ff, ff, ff, ff, ff, ff, ff, ff, ff, ff, ff, ff, ff, ff, ff, ff, ff, ff, ff, ff, ff, ff, ff] (by kernel_rfl) (fun w36 hb => ?_)
    replace h := h.ext hb
    clear hb
    refine qm 0 rfl #[tt, ff, ff, ff, ff, ff, ff, ff, ff, ff, ff, ff, ff, ff, ff, ff, ff, ff, ff, ff, ff, ff, ff] (by kernel_rfl) (by kernel_rfl) (fun w' hw => v_p qc rfl w') (h.pick [3, 5] rfl) rfl ?_
    refine qm 1 rfl #[tt, tt, ff, ff, ff, ff, ff, ff, ff, ff, ff, ff, ff, ff, ff, ff, ff, ff, ff, ff, ff, ff, ff] (by kernel_rfl) (by kernel_rfl) (fun w' hw => v_p qc rfl w') (h.pick [3, 5] rfl) rfl ?_
    refine qm 2 rfl #[tt, tt, tt, ff, ff, ff, ff, ff, ff, ff, ff, ff, ff, ff, ff, ff, ff, ff, ff, ff, ff, ff, ff] (by kernel_rfl) (by kernel_rfl) (fun w' hw => v_p qc rfl w') (h.pick [3, 5] rfl) rfl ?_
    refine qm 3 rfl #[tt, tt, tt, tt, ff, ff, ff, ff, ff, ff, ff, ff, ff, ff, ff, ff, ff, ff, ff, ff, ff, ff, ff] (by kernel_rfl) (by kernel_rfl) (fun w' hw => v_p qc rfl w') (h.pick [3, 5] rfl) rfl ?_
    refine qm 4 rfl #[tt, tt, tt, tt, tt, ff, ff, ff, ff, ff, ff, ff, ff, ff, ff, ff, ff, ff, ff, ff, ff, ff, ff] (by kernel_rfl) (by kernel_rfl) (fun w' hw => qcX qc (hw.box 1 rfl) (j := 6) rfl rfl rfl) (h.pick [3, 5] rfl) rfl ?_
    refine qm 5 rfl #[tt, tt, tt, tt, tt, tt, ff, ff, ff, ff, ff, ff, ff, ff, ff, ff, ff, ff, ff, ff, ff, ff, ff] (by kernel_rfl) (by kernel_rfl) (fun w' hw => v_p qc rfl w') (h.pick [3, 5] rfl) rfl ?_
    refine qm 6 rfl #[tt, tt, tt, tt, tt, tt, tt, ff, ff, ff, ff, ff, ff, ff, ff, ff, ff, ff, ff, ff, ff, ff, ff] (by kernel_rfl) (by kernel_rfl) (fun w' hw => v_p qc rfl w') (h.pick [3, 5] rfl) rfl ?_
    obtain ⟨y8, hy8, hF⟩ := qd hF
    have he8 := qg hy8
    obtain ⟨b9, o_7, q9, cs9, hp9, hq9, -, hr13, hc13⟩ := (h.sl 3 rfl).1.at hy8
    obtain rfl := hr13
    refine qm 7 rfl #[tt, tt, tt, tt, tt, tt, tt, tt, ff, ff, ff, ff, ff, ff, ff, ff, ff, ff, ff, ff, ff, ff, ff] (by kernel_rfl) (by kernel_rfl) (fun w' hw => qg4 qc hp9 hq9 ⟨he8.1, qac he8.2.1 (h.sl 3 rfl).2⟩ rfl rfl rfl rfl rfl rfl) (h.pick [3, 5] rfl) rfl ?_
    refine qm 8 rfl #[tt, tt, tt, tt, tt, tt, tt, tt, tt, ff, ff, ff, ff, ff, ff, ff, ff, ff, ff, ff, ff, ff, ff] (by kernel_rfl) (by kernel_rfl) (fun w' hw => qcX qc (qhs (w1 := w) (S1 := fun _ => False) hw 0 rfl hy8 hp9 hq9 rfl) (j := 0) rfl rfl rfl) (h.pick [3, 5] rfl) rfl ?_
    refine qm 9 rfl #[tt, tt, tt, tt, tt, tt, tt, tt, tt, tt, ff, ff, ff, ff, ff, ff, ff, ff, ff, ff, ff, ff, ff] (by kernel_rfl) (by kernel_rfl) (fun w' hw => v_p qc rfl w') (h.pick [3, 5] rfl) rfl ?_
    refine qm 10 rfl #[tt, tt, tt, tt, tt, tt, tt, tt, tt, tt, tt, ff, ff, ff, ff, ff, ff, ff, ff, ff, ff, ff, ff] (by kernel_rfl) (by kernel_rfl) (fun w' hw => v_p qc rfl w') (h.pick [3, 5] rfl) rfl ?_
    refine qm 11 rfl #[tt, tt, tt, tt, tt, tt, tt, tt, tt, tt, tt, tt, ff, ff, ff, ff, ff, ff, ff, ff, ff, ff, ff] (by kernel_rfl) (by kernel_rfl) (fun w' hw => v_p qc rfl w') (h.pick [3, 5] rfl) rfl ?_
    refine qm 12 rfl #[tt, tt, tt, tt, tt, tt, tt, tt, tt, tt, tt, tt, tt, ff, ff, ff, ff, ff, ff, ff, ff, ff, ff] (by kernel_rfl) (by kernel_rfl) (fun w' hw => v_p qc rfl w') (h.pick [3, 5] rfl) rfl ?_
    refine qm 13 rfl #[tt, tt, tt, tt, tt, tt, tt, tt, tt, tt, tt, tt, tt, tt, ff, ff, ff, ff, ff, ff, ff, ff, ff] (by kernel_rfl) (by kernel_rfl) (fun w' hw => v_p qc rfl w') (h.pick [3, 5] rfl) rfl ?_
    refine qm 14 rfl #[tt, tt, tt, tt, tt, tt, tt, tt, tt, tt, tt, tt, tt, tt, tt, ff, ff, ff, ff, ff, ff, ff, ff] (by kernel_rfl) (by kernel_rfl) (fun w' hw => v_p qc rfl w') (h.pick [3, 5] rfl) rfl ?_
    refine qm 15 rfl #[tt, tt, tt, tt, tt, tt, tt, tt, tt, tt, tt, tt, tt, tt, tt, tt, ff, ff, ff, ff, ff, ff, ff] (by kernel_rfl) (by kernel_rfl) (fun w' hw => v_p qc rfl w') (h.pick [3, 5] rfl) rfl ?_
    refine qm 16 rfl #[tt, tt, tt, tt, tt, tt, tt, tt, tt, tt, tt, tt, tt, tt, tt, tt, tt, ff, ff, ff, ff, ff, ff] (by kernel_rfl) (by kernel_rfl) (fun w' hw => v_p qc rfl w') (h.pick [3, 5] rfl) rfl ?_
    refine qm 17 rfl #[tt, tt, tt, tt, tt, tt, tt, tt, tt, tt, tt, tt, tt, tt, tt, tt, tt, tt, ff, ff, ff, ff, ff] (by kernel_rfl) (by kernel_rfl) (fun w' hw => qhU qc [0, 1, 2, 3] [.tmp 141, .tmp 145, .const (.int .i64 (2)), .tmp 146] rfl rfl rfl rfl rfl rfl rfl rfl) (h.pick [3, 5] rfl) rfl ?_
    refine qbe 18 rfl #[tt, tt, tt, tt, tt, tt, tt, tt, tt, tt, tt, tt, tt, tt, tt, tt, tt, tt, tt, ff, ff, ff, ff] (by kernel_rfl) (by kernel_rfl) ?_
    refine qaY qc [.tmp 147] _ ([(⟨W64 ((W64 (2 * y8)) + i6), W64 ((W64 (2 * y7)) + i6), 2, i5⟩ : qbf)] : List qbf) h rfl rfl rfl rfl rfl rfl rfl rfl rfl ⟨(qmP (⟨W64 ((W64 (2 * y8)) + i6), W64 ((W64 (2 * y7)) + i6), 2, i5⟩ : qbf)), trivial⟩ rfl ?_
    intro w37 p28 S24 h
    refine qa6 (fun _ => (h.pick [4, 6] rfl)) ?_
    refine qbe 19 rfl #[tt, tt, tt, tt, tt, tt, tt, tt, tt, tt, tt, tt, tt, tt, tt, tt, tt, tt, tt, tt, ff, ff, ff] (by kernel_rfl) (by kernel_rfl) ?_
    obtain ⟨x15, hx7, hF⟩ := qd hF
    obtain ⟨g9, hx7⟩ := qbt hx7
    refine qeW qc 5 h rfl (h.sl 0 rfl).1 (h.sl 0 rfl).2 rfl rfl rfl rfl rfl rfl rfl rfl rfl g9 hx7 rfl ?_
    intro w38 p29 k23 S25 h
    refine qa6 (fun _ => (h.pick [4, 6] rfl)) ?_
    refine qbe 20 rfl #[tt, tt, tt, tt, tt, tt, tt, tt, tt, tt, tt, tt, tt, tt, tt, tt, tt, tt, tt, tt, tt, ff, ff] (by kernel_rfl) (by kernel_rfl) ?_
    refine zp1 rfl ?_
    refine qa6 (fun _ => (h.pick [4, 6] rfl)) ?_
    refine qm 21 rfl #[tt, tt, tt, tt, tt, tt, tt, tt, tt, tt, tt, tt, tt, tt, tt, tt, tt, tt, tt, tt, tt, tt, ff] (by kernel_rfl) (by kernel_rfl) (fun w' hw => v_p qc rfl w') (h.pick [4, 6] rfl) rfl ?_
    refine qbe 22 rfl #[tt, tt, tt, tt, tt, tt, tt, tt, tt, tt, tt, tt, tt, tt, tt, tt, tt, tt, tt, tt, tt, tt, tt] (by kernel_rfl) (by kernel_rfl) ?_
    refine zs 6 h rfl ?_
    intro w39 h
    refine qa6 (fun hs => absurd (hs 22 (by decide)) (by decide)) ?_
    refine qfK (by kernel_rfl) ?_
    refine qfE (qz (zp2 rfl (qb ?_)))
    replace h := h.pick [1, 2, 3, 4, 5, 6, 7, 8] rfl
    exact qA m5 [(1, _), (3, _), (7, _), (8, _), (11, _), (12, _), (13, _), (87, _), (88, _), (120, _), (121, _), (122, _), (127, _)] (Nat.lt_succ_self m5) ⟨rfl, rfl, rfl, rfl, rfl, rfl, rfl, rfl, rfl, rfl, rfl, rfl, rfl, trivial⟩ ⟨_, _, _, _, _, _, hF, rfl, h⟩
   refine qI rfl ?_
   obtain rfl := qh hF; replace hF := hK5
   exact qfE (qz (zp2 rfl (qb (qA m4 [(1, _), (3, _), (7, _), (8, _), (11, _), (87, _), (88, _), (120, _), (121, _), (122, _)] (Nat.lt_succ_self m4) ⟨rfl, rfl, rfl, rfl, rfl, rfl, rfl, rfl, rfl, rfl, trivial⟩ ⟨_, _, _, _, _, _, hF, rfl, h⟩))))
  refine qI rfl ?_
  obtain rfl := qh hF; replace hF := hK4
  refine qfE (qz (zp2 rfl (qb ?_)))
  replace h := h.unlrn 2 rfl
  exact qA m3 [(1, _), (3, _), (7, _), (8, _), (87, _), (88, _)] (Nat.lt_succ_self m3) ⟨rfl, rfl, rfl, rfl, rfl, rfl, trivial⟩ ⟨_, _, _, _, _, _, _, _, _, _, _, _, _, _, _, _, hF, rfl, h⟩
 refine qI rfl ?_
 obtain rfl := qh hF; replace hF := hK3
 refine zSR (zp2 rfl (qb ?_))
 obtain rfl := qh hF
 have hv1 : GoRs.Rs (ρ := (Option Tview)) h.wc (reg A w h.wc) (some (⟨(⟨(⟨a_0.Library.Cells⟩ : qx), (⟨a_0.Design.Instances, a_0.Design.Nets, a_0.Design.Ports⟩ : ql), a_0.Wires⟩ : qD), r1, x10, x9, x8, []⟩ : Tview)) [GoT.v (Option Tview) [.pointer (some ⟨bb2, 0, none⟩)]] := ⟨_, rfl, (hg.outR h (Rg.boxR (x := (⟨(⟨(⟨a_0.Library.Cells⟩ : qx), (⟨a_0.Design.Instances, a_0.Design.Nets, a_0.Design.Ports⟩ : ql), a_0.Wires⟩ : qD), r1, x10, x9, x8, []⟩ : Tview)) 5 h rfl (⟨[.slice p1 a_0.Library.Cells.length k1, .slice p2 a_0.Design.Instances.length k2, .slice p3 a_0.Design.Nets.length k3, .slice p4 a_0.Design.Ports.length k4, .slice p5 a_0.Wires.length k5], [.slice p6 r1.length k6, .slice p18 x10.length k15, .slice p17 x9.length k14, .slice p16 x8.length k13, .slice none 0 0], rfl, ⟨[.slice p1 a_0.Library.Cells.length k1], [.slice p2 a_0.Design.Instances.length k2, .slice p3 a_0.Design.Nets.length k3, .slice p4 a_0.Design.Ports.length k4, .slice p5 a_0.Wires.length k5], rfl, ⟨_, _, rfl, (hg.inS h s1)⟩, ⟨[.slice p2 a_0.Design.Instances.length k2, .slice p3 a_0.Design.Nets.length k3, .slice p4 a_0.Design.Ports.length k4], [.slice p5 a_0.Wires.length k5], rfl, ⟨[.slice p2 a_0.Design.Instances.length k2], [.slice p3 a_0.Design.Nets.length k3, .slice p4 a_0.Design.Ports.length k4], rfl, ⟨_, _, rfl, (hg.inS h s2)⟩, ⟨[.slice p3 a_0.Design.Nets.length k3], [.slice p4 a_0.Design.Ports.length k4], rfl, ⟨_, _, rfl, (hg.inS h s3)⟩, ⟨_, _, rfl, (hg.inS h s4)⟩⟩⟩, ⟨_, _, rfl, (hg.inS h s5)⟩⟩⟩, ⟨[.slice p6 r1.length k6], [.slice p18 x10.length k15, .slice p17 x9.length k14, .slice p16 x8.length k13, .slice none 0 0], rfl, (Rg.ownR 6 h rfl), ⟨[.slice p18 x10.length k15], [.slice p17 x9.length k14, .slice p16 x8.length k13, .slice none 0 0], rfl, (Rg.ownR 4 h rfl), ⟨[.slice p17 x9.length k14], [.slice p16 x8.length k13, .slice none 0 0], rfl, (Rg.ownR 1 h rfl), ⟨[.slice p16 x8.length k13], [.slice none 0 0], rfl, (Rg.ownR 0 h rfl), ⟨_, _, rfl, qq0⟩⟩⟩⟩⟩⟩)))⟩
 exact qjy qc (ρ := (Option Tview)) (r := (some (⟨(⟨(⟨a_0.Library.Cells⟩ : qx), (⟨a_0.Design.Instances, a_0.Design.Nets, a_0.Design.Ports⟩ : ql), a_0.Wires⟩ : qD), r1, x10, x9, x8, []⟩ : Tview))) [GoT.v (Option Tview) [.pointer (some ⟨bb2, 0, none⟩)]] h ⟨rfl, trivial⟩ hv1

end Go.Fw


namespace Go.Fw
open Go Go.Proofs
open Go.RowKit (Below)
set_option maxRecDepth 100000
set_option maxHeartbeats 1600000
end Go.Fw


namespace Go.Fw
open Go
set_option maxRecDepth 100000

theorem qpx {d : ql} {k : Int} {n i : Nat} (hi : i < (sinksL d k n).length) : ∃ y : Nat, y < n ∧ idx (sinksL d k n) (i : Int) = some (y : Int) ∧ snkQ d k y = true := by
  rw [qgB hi]
  have hm : (sinksL d k n)[i] ∈ sinksL d k n := List.getElem_mem hi
  generalize (sinksL d k n)[i] = z at hm
  unfold sinksL at hm
  obtain ⟨y, hy, rfl⟩ := List.mem_map.1 hm
  obtain ⟨h1, h2⟩ := List.mem_filter.1 hy
  exact ⟨y, List.mem_range.1 h1, rfl, h2⟩

theorem qmm {d : ql} {k : Int} (h : smallD d) : Ev (fun n => qeq n d k) (sinksL d k (places d).length) := by
  have hl := qeK h
  have hL : Ev (fun n => qaH k (places d) n ([] : List Int) 0) (sinksL d k (places d).length, ((places d).length : Int)) := by
    refine loopF (Lf := qaH k (places d)) (S := fun j => sinksL d k j) (len := (places d).length) (fun n => ?_) (fun j hj X hX => ?_)
    · simp only [qaH, qu (Nat.le_refl _), cond_false]
    · have hc : (sinksL d k j).length + [(j : Int)].length ≤ 2147483648 := by
        rw [qhi]
        have : cntP (snkQ d k) j ≤ j := qfv
        simp; omega
      simp only [qaH, qt hj, cond_true, qaD hj, Option.bind_some, qr (show j < 9223372036854775807 by omega)]
      rw [qjq] at hX
      unfold snkQ at hX
      cases h1 : ((gt (places d) j).net == k)
      · rw [h1] at hX
        simp only [Bool.false_and, cond_false, List.append_nil] at hX ⊢
        exact hX
      · cases h2 : (gt (places d) j).drives
        · rw [h1, h2] at hX
          simp only [Bool.not_false, Bool.and_self, cond_true, qet hc, Option.bind_some] at hX ⊢
          exact hX
        · rw [h1, h2] at hX
          simp only [Bool.not_true, Bool.and_false, cond_false, List.append_nil, cond_true] at hX ⊢
          exact hX
  unfold qeq
  exact Ev.bind (qjD h) (Ev.bind hL .done)

/-- What a valid block says of a wire. -/
structure wireOk (b : qD) (i : Nat) : Prop where
  lo : 1 ≤ (gt b.Wires i).Parent.length
  hi : (gt b.Wires i).Parent.length ≤ 8
  res : (gt b.Wires i).Res.length = (gt b.Wires i).Parent.length
  cap : (gt b.Wires i).Cap.length = (gt b.Wires i).Parent.length
  par : ∀ j, 0 < j → j < (gt b.Wires i).Parent.length → 0 ≤ at0 (gt b.Wires i).Parent j ∧ at0 (gt b.Wires i).Parent j < j
  snk : (gt b.Wires i).Sink.length = (sinksL b.Design (i : Int) (places b.Design).length).length
  sin : ∀ j, j < (gt b.Wires i).Sink.length → 0 ≤ at0 (gt b.Wires i).Sink j ∧ at0 (gt b.Wires i).Sink j < (gt b.Wires i).Parent.length
theorem qjw {b : qD} (h : blockB b = true) {i : Nat} (hi : i < b.Wires.length) : wireOk b i := by
  unfold blockB at h
  rw [Bool.and_eq_true, qbi] at h
  have := h.2 i hi
  unfold wireB lenB at this
  simp only [Bool.and_eq_true, decide_eq_true_eq, beq_iff_eq] at this
  obtain ⟨⟨h1, h2⟩, h3, h4, h5, _, _, h6, h7⟩ := this
  refine ⟨h1, h2, by omega, by omega, fun j hj0 hj => ?_, ?_, fun j hj => ?_⟩
  · have := qbi.1 h5 j hj
    unfold treeB at this
    rw [show decide (j = 0) = false by simp; omega] at this
    simp only [cond_false, qdN] at this
    omega
  · rw [qhi]
    unfold snkN at h6
    omega
  · rw [qgY (d := 0), qbi] at h7
    have := h7 j hj
    rw [qdN] at this
    unfold at0
    omega
theorem qoY {b : qD} (h : blockB b = true) : b.Wires.length = b.Design.Nets.length := by
  unfold blockB at h
  simp only [Bool.and_eq_true, beq_iff_eq] at h
  omega

theorem qpR {b : qD} (h : blockB b = true) {j : Nat} (hj : j < (places b.Design).length) : ∃ c, ∀ n, qeD n b.Design b.Library (gt (places b.Design) j) = some c := by
  have hd := qef h
  rcases qof hj with ⟨i, k, hi, hk, _, e⟩ | ⟨i, hi, _, e⟩
  · rw [e]
    obtain ⟨⟨c0, c1⟩, hn, _⟩ := qmK hd hi
    refine ⟨(gt (gt b.Library.Cells (gt b.Design.Instances i).Cell.toNat).Pins k).Cap, fun n => ?_⟩
    unfold place1
    simp only [qeD, show decide ((i : Int) < 0) = false by simp, cond_false, qaD hi, Option.bind_some, qhr c0 c1, qaD (show k < (gt b.Library.Cells (gt b.Design.Instances i).Cell.toNat).Pins.length by omega)]
  · rw [e]
    exact ⟨0, fun n => rfl⟩

theorem qkp {b : qD} (h : blockB b = true) {i : Nat} (hi : i < b.Wires.length) : ∃ r : List Int, r.length = (gt b.Wires i).Parent.length ∧ Ev (fun n => qcw n b (i : Int)) r := by
  have hw := qjw h hi
  have hs := qcm (qef h)
  have hlo := hw.lo
  have hhi := hw.hi
  have hcap := hw.cap
  have hl := qeK hs
  obtain ⟨x1, i1, e1⟩ := loopE (Lf := qa4 b (gt b.Wires i) (places b.Design) (sinksL b.Design (i : Int) (places b.Design).length)) (fin := fun t => (t, ((sinksL b.Design (i : Int) (places b.Design).length).length : Int))) (fun _ t => t.length = (gt b.Wires i).Parent.length) (len := (sinksL b.Design (i : Int) (places b.Design).length).length)
    (fun n t => by simp only [qa4, qu (Nat.le_refl _), cond_false])
    (fun j t hj ht => by
      obtain ⟨y, hy, ey, _⟩ := qpx hj
      obtain ⟨c, hc⟩ := qpR h hy
      have hjs : j < (gt b.Wires i).Sink.length := by rw [hw.snk]; exact hj
      have hsn := hw.sin j hjs
      have hb : j < 9223372036854775807 := by
        rw [qhi] at hj
        have : cntP (snkQ b.Design (i : Int)) (places b.Design).length ≤ (places b.Design).length := qfv
        omega
      refine ⟨setS t (at0 (gt b.Wires i).Sink j) (W64 (gt t (at0 (gt b.Wires i).Sink j).toNat + c)), by rw [qhD]; exact ht, fun X hX => ?_⟩
      simp only [qa4, qt hj, cond_true, ey, Option.bind_some, qbN hjs, qhr hsn.1 (show at0 (gt b.Wires i).Sink j < (t.length : Int) by omega), qaD hy, qr hb]
      exact Ev.bind ⟨0, fun n _ => hc n⟩ hX) 0 (Nat.zero_le _) (gt b.Wires i).Cap hcap
  obtain ⟨x2, i2, e2⟩ := loopDn (Lf := qa3 (gt b.Wires i)) (fin := fun t => (t, (0 : Int))) (fun t => t.length = (gt b.Wires i).Parent.length) ((gt b.Wires i).Parent.length - 1)
    (fun n t => by simp only [qa3, show decide ((0 : Int) > 0) = false from rfl, cond_false])
    (fun j t h0 hj ht => by
      have hp := hw.par j h0 (by omega)
      refine ⟨setS t (at0 (gt b.Wires i).Parent j) (W64 (gt t (at0 (gt b.Wires i).Parent j).toNat + gt t j)), by rw [qhD]; exact ht, fun X hX => ?_⟩
      simp only [qa3, show decide ((j : Int) > 0) = true by simp; omega, cond_true, qbN (show j < (gt b.Wires i).Parent.length by omega), Option.bind_some, qhr hp.1 (show at0 (gt b.Wires i).Parent j < (t.length : Int) by omega), qaD (show j < t.length by omega), show (j : Int) - 1 = ((j - 1 : Nat) : Int) by omega, qbo (show -9223372036854775808 ≤ ((j - 1 : Nat) : Int) by omega) (by omega)]
      exact hX) x1 i1
  refine ⟨x2, i2, ?_⟩
  unfold qcw qdi
  rw [qaD hi]
  simp only [Option.bind_some, qet (show ([] : List Int).length + (gt b.Wires i).Cap.length ≤ 2147483648 by simp; omega), List.nil_append]
  refine Ev.bind (qjD hs) (Ev.bind (qmm hs) (Ev.bind e1 ?_))
  rw [qdc (show (gt b.Wires i).Cap.length ≤ 9223372036854775807 by omega), show ((gt b.Wires i).Cap.length : Int) - 1 = (((gt b.Wires i).Parent.length - 1 : Nat) : Int) by omega]
  exact Ev.bind e2 .done

theorem qlL {b : qD} (h : blockB b = true) {i : Nat} (hi : i < b.Wires.length) : ∃ r : List Int, r.length = (gt b.Wires i).Sink.length ∧ Ev (fun n => qcT n b (i : Int)) r := by
  have hw := qjw h hi
  have hs := qcm (qef h)
  have hlo := hw.lo
  have hhi := hw.hi
  have hres := hw.res
  have hl := qeK hs
  have hsl : (gt b.Wires i).Sink.length ≤ 78 := by
    rw [hw.snk, qhi]
    have : cntP (snkQ b.Design (i : Int)) (places b.Design).length ≤ (places b.Design).length := qfv
    omega
  obtain ⟨r1, l1, e1⟩ := qkp h hi
  have hmk : mkS (r1.length : Int) (0 : Int) = some (List.replicate r1.length 0) := qgK (by omega)
  obtain ⟨x2, i2, e2⟩ := loopE (Lf := qaU (gt b.Wires i) r1 (List.replicate r1.length 0)) (fin := fun t => (t, (r1.length : Int))) (fun j t => 1 ≤ j ∧ t.length = (gt b.Wires i).Parent.length) (len := r1.length)
    (fun n t => by simp only [qaU, List.length_replicate, qu (Nat.le_refl _), cond_false])
    (fun j t hj ht => by
      obtain ⟨h1, ht⟩ := ht
      have hp := hw.par j (by omega) (by omega)
      refine ⟨setS t (j : Int) (W64 (gt t (at0 (gt b.Wires i).Parent j).toNat + W64 (at0 (gt b.Wires i).Res j * gt r1 j))), ⟨by omega, by rw [qhD]; exact ht⟩, fun X hX => ?_⟩
      simp only [qaU, List.length_replicate, qt hj, cond_true, qbN (show j < (gt b.Wires i).Parent.length by omega), Option.bind_some, qhr hp.1 (show at0 (gt b.Wires i).Parent j < (t.length : Int) by omega), qbN (show j < (gt b.Wires i).Res.length by omega), qaD hj, qaD (show j < t.length by omega), qr (show j < 9223372036854775807 by omega)]
      exact hX) 1 (by omega) (List.replicate r1.length 0) ⟨Nat.le_refl _, by rw [List.length_replicate]; exact l1⟩
  obtain ⟨x3, i3, e3⟩ := loopE (Lf := qaO x2 (gt b.Wires i)) (fin := fun t => (t, ((gt b.Wires i).Sink.length : Int))) (fun j t => t.length = j) (len := (gt b.Wires i).Sink.length)
    (fun n t => by simp only [qaO, qu (Nat.le_refl _), cond_false])
    (fun j t hj ht => by
      have hsn := hw.sin j hj
      have hx2 := i2.2
      refine ⟨t ++ [gt x2 (at0 (gt b.Wires i).Sink j).toNat], by simp [ht], fun X hX => ?_⟩
      simp only [qaO, qt hj, cond_true, qbN hj, Option.bind_some, qhr hsn.1 (show at0 (gt b.Wires i).Sink j < (x2.length : Int) by omega), qet (show t.length + [gt x2 (at0 (gt b.Wires i).Sink j).toNat].length ≤ 2147483648 by simp; omega), qr (show j < 9223372036854775807 by omega)]
      exact hX) 0 (Nat.zero_le _) [] rfl
  refine ⟨x3, i3, ?_⟩
  unfold qcT qei
  rw [qaD hi]
  simp only [Option.bind_some]
  refine Ev.bind (b := x2) (Ev.bind e1 ?_) (Ev.bind e3 .done)
  rw [hmk]
  simp only [Option.bind_some]
  exact Ev.bind e2 .done
end Go.Fw


namespace Go.Fw
open Go
set_option maxRecDepth 100000

instance : Inhabited qbf := ⟨⟨0, 0, 0, 0⟩⟩
instance : Inhabited qS := ⟨⟨0, 0⟩⟩

theorem qo5 {α : Type} {m : Nat} {z : α} (h : m ≤ 2147483648) : mkS (m : Int) z = some (List.replicate m z) := by
  unfold mkS big
  rw [if_pos ⟨by omega, by omega⟩, Int.toNat_natCast]
theorem qpc {α : Type} [Inhabited α] {xs : List α} {a k : Nat} {y : α} (h : k ≠ a) : gt (xs.set a y) k = gt xs k := by
  unfold gt
  rw [List.getD_eq_getElem?_getD, List.getElem?_set_ne (by omega), ← List.getD_eq_getElem?_getD]
theorem qnO {α : Type} [Inhabited α] {xs : List α} {a : Nat} {y : α} (h : a < xs.length) : gt (xs.set a y) a = y := by
  rw [qjY (by rw [List.length_set]; exact h), List.getElem_set_self]
theorem qqF {a : qX} : ∃ r : List qS, r.length ≤ 4 ∧ ∀ n, qds n a = some r := by
  unfold qds
  simp only [bne, qbh]
  cases (a.Kind == 2)
  · cases (a.Kind == 3)
    · cases (a.Kind == 1)
      · exact ⟨_, by decide, fun _ => rfl⟩
      · cases (a.Sense == 1)
        · cases (a.Sense == 2)
          · exact ⟨[⟨0, 0⟩, ⟨0, 1⟩, ⟨1, 0⟩, ⟨1, 1⟩], by decide, fun _ => rfl⟩
          · exact ⟨[⟨0, 1⟩, ⟨1, 0⟩], by decide, fun _ => rfl⟩
        · exact ⟨[⟨0, 0⟩, ⟨1, 1⟩], by decide, fun _ => rfl⟩
    · exact ⟨[⟨1, 0⟩, ⟨1, 1⟩], by decide, fun _ => rfl⟩
  · exact ⟨[⟨0, 0⟩, ⟨0, 1⟩], by decide, fun _ => rfl⟩

theorem qnb {b : qD} {first : Int} (h : blockB b = true) {i : Nat} (hi : i < b.Design.Instances.length) : ∃ r : List qbf, r.length ≤ 32 ∧ Ev (fun n => qdt n b (gt b.Design.Instances i) first) r := by
  obtain ⟨⟨c0, c1⟩, _, hcb⟩ := qmK (qef h) hi
  have ha := qou hcb
  obtain ⟨x1, i1, e1⟩ := loopE (Lf := qa5 first (gt b.Library.Cells (gt b.Design.Instances i).Cell.toNat)) (fin := fun t => (t, ((gt b.Library.Cells (gt b.Design.Instances i).Cell.toNat).Arcs.length : Int))) (fun j t => t.length ≤ 4 * j) (len := (gt b.Library.Cells (gt b.Design.Instances i).Cell.toNat).Arcs.length)
    (fun n t => by simp only [qa5, qu (Nat.le_refl _), cond_false])
    (fun j t hj ht => by
      obtain ⟨r, hr, er⟩ := qqF (a := gt (gt b.Library.Cells (gt b.Design.Instances i).Cell.toNat).Arcs j)
      obtain ⟨x2, i2, e2⟩ := loopE (Lf := qa2 first (j : Int) (gt (gt b.Library.Cells (gt b.Design.Instances i).Cell.toNat).Arcs j) r) (fin := fun t => (t, (r.length : Int))) (fun k t' => t'.length = t.length + k) (len := r.length)
        (fun n t => by simp only [qa2, qu (Nat.le_refl _), cond_false])
        (fun k t' hk ht' => ⟨t' ++ [_], by rw [List.length_append, ht', List.length_singleton]; omega, fun X hX => by
          simp only [qa2, qt hk, cond_true, qaD hk, Option.bind_some, qr (show k < 9223372036854775807 by omega)]
          rw [qet (by rw [List.length_singleton]; omega)]
          exact hX⟩) 0 (Nat.zero_le _) t rfl
      refine ⟨x2, by omega, fun X hX => ?_⟩
      simp only [qa5, qt hj, cond_true, qaD hj, Option.bind_some, er, qr (show j < 9223372036854775807 by omega)]
      exact Ev.bind e2 hX) 0 (Nat.zero_le _) [] (Nat.le_refl _)
  refine ⟨x1, by omega, ?_⟩
  unfold qdt
  rw [qhr c0 c1]
  simp only [Option.bind_some]
  exact Ev.bind e1 .done

theorem qow {b : qD} (h : blockB b = true) : ∃ ls lo de, Ev (fun n => qg3 n b) (some ⟨b, places b.Design, ls, lo, de, []⟩) := by
  have hd := qef h
  have hs := qcm hd
  have hl := qeK hs
  have hni := hs.ni
  have hnn := hs.nn
  have hwl := qoY h
  obtain ⟨⟨x1, z1⟩, i1, e1⟩ := loopE (τ := List qbf × Int) (Lf := fun n t j => qc2 b n t.1 t.2 j) (fin := fun t => (t.1, t.2, (b.Design.Instances.length : Int))) (fun j t => t.1.length ≤ 32 * j) (len := b.Design.Instances.length)
    (fun n t => by simp only [qc2, qu (Nat.le_refl _), cond_false])
    (fun j t hj ht => by
      obtain ⟨r, hr, er⟩ := qnb (first := t.2) h hj
      refine ⟨(t.1 ++ r, W64 (t.2 + ((gt b.Design.Instances j).Nets.length : Int))), by rw [List.length_append]; omega, fun X hX => ?_⟩
      simp only [qc2, qt hj, cond_true, qaD hj, Option.bind_some, qas, qr (show j < 9223372036854775807 by omega)]
      have ht' : t.1.length ≤ 32 * j := ht
      refine Ev.bind er ?_
      rw [qet (show t.1.length + r.length ≤ 2147483648 by omega)]
      exact hX) 0 (Nat.zero_le _) ([], 0) (Nat.le_refl _)
  have hm1 : mkS (b.Wires.length : Int) (0 : Int) = some (List.replicate b.Wires.length 0) := qo5 (by omega)
  have hm2 : mkS (b.Wires.length : Int) ([] : List Int) = some (List.replicate b.Wires.length []) := qo5 (by omega)
  obtain ⟨⟨x5, x6⟩, ⟨i5, i6, i56⟩, e2⟩ := loopE (τ := List (List Int) × List Int) (Lf := fun n t j => qbX (places b.Design) n t.1 t.2 j) (fin := fun t => (t.1, t.2, ((places b.Design).length : Int))) (fun j t => t.1.length = b.Wires.length ∧ t.2.length = b.Wires.length ∧ ∀ k, (gt t.1 k).length ≤ j) (len := (places b.Design).length)
    (fun n t => by simp only [qbX, qu (Nat.le_refl _), cond_false])
    (fun j t hj ht => by
      obtain ⟨h1, h2, h3⟩ := ht
      obtain ⟨n0, n1⟩ := qmh hd hj
      cases hdr : (gt (places b.Design) j).drives
      · refine ⟨(setS t.1 (gt (places b.Design) j).net (gt t.1 (gt (places b.Design) j).net.toNat ++ [(j : Int)]), t.2), ⟨by rw [qhD]; exact h1, h2, fun k => ?_⟩, fun X hX => ?_⟩
        · show (gt (t.1.set _ _) k).length ≤ j + 1
          by_cases hk : k = (gt (places b.Design) j).net.toNat
          · subst hk
            rw [qnO (by omega), List.length_append, List.length_singleton]
            have := h3 (gt (places b.Design) j).net.toNat
            omega
          · rw [qpc hk]
            have := h3 k
            omega
        · have := h3 (gt (places b.Design) j).net.toNat
          simp only [qbX, qt hj, cond_true, qaD hj, Option.bind_some, hdr, cond_false, qhr n0 (show (gt (places b.Design) j).net < (t.1.length : Int) by omega), qr (show j < 9223372036854775807 by omega)]
          rw [qet (by rw [List.length_singleton]; omega)]
          exact hX
      · refine ⟨(t.1, setS t.2 (gt (places b.Design) j).net (j : Int)), ⟨h1, by rw [qhD]; exact h2, fun k => Nat.le_succ_of_le (h3 k)⟩, fun X hX => ?_⟩
        simp only [qbX, qt hj, cond_true, qaD hj, Option.bind_some, hdr, qhr n0 (show (gt (places b.Design) j).net < (t.2.length : Int) by omega), qr (show j < 9223372036854775807 by omega)]
        exact hX) 0 (Nat.zero_le _) (List.replicate b.Wires.length [], List.replicate b.Wires.length 0) ⟨by simp, by simp, fun k => by
      have : gt (List.replicate b.Wires.length ([] : List Int)) k = [] := by
        unfold gt
        rw [List.getD_eq_getElem?_getD, List.getElem?_replicate]
        by_cases hk : k < b.Wires.length <;> simp [hk] <;> rfl
      rw [this]; exact Nat.le_refl _⟩
  have i5 : x5.length = b.Wires.length := i5
  have i6 : x6.length = b.Wires.length := i6
  have i56 : ∀ k, (gt x5 k).length ≤ (places b.Design).length := i56
  have hL5 : ∀ (i4 i5 y7 : Int) (y8 : Int) (t : List qbf), idx x6 i4 = some y8 → t.length ≤ 1000000 → ∃ t', t'.length = t.length + 2 ∧ Ev (fun n => qcp x6 i4 i5 y7 n t 0) (t', 2) := by
    intro i4 i5 y7 y8 t hy ht
    obtain ⟨t', h1, h2⟩ := loopE (Lf := qcp x6 i4 i5 y7) (fin := fun t => (t, (2 : Int))) (fun k t' => t'.length = t.length + k) (len := 2)
      (fun n t => by simp only [qcp]; rfl)
      (fun k t' hk ht' => ⟨t' ++ [_], by rw [List.length_append, ht', List.length_singleton]; omega, fun X hX => by
        simp only [qcp, show decide ((k : Int) < 2) = true by simp; omega, cond_true, hy, Option.bind_some, qr (show k < 9223372036854775807 by omega)]
        rw [qet (by rw [List.length_singleton]; omega)]
        exact hX⟩) 0 (Nat.zero_le _) t rfl
    exact ⟨t', h1, h2⟩
  have hL4 : ∀ (i4 y8 : Int) (y6 : List Int) (t : List qbf), idx x6 i4 = some y8 → y6.length ≤ 78 → t.length ≤ 900000 → ∃ t', t'.length = t.length + 2 * y6.length ∧ Ev (fun n => qcq x6 i4 y6 n t 0) (t', (y6.length : Int)) := by
    intro i4 y8 y6 t hy hy6 ht
    obtain ⟨t', h1, h2⟩ := loopE (Lf := qcq x6 i4 y6) (fin := fun t => (t, (y6.length : Int))) (fun k t' => t'.length = t.length + 2 * k) (len := y6.length)
      (fun n t => by simp only [qcq, qu (Nat.le_refl _), cond_false])
      (fun k t' hk ht' => by
        obtain ⟨t2, q1, q2⟩ := hL5 i4 (k : Int) (gt y6 k) y8 t' hy (by omega)
        refine ⟨t2, by omega, fun X hX => ?_⟩
        simp only [qcq, qt hk, cond_true, qaD hk, Option.bind_some, qr (show k < 9223372036854775807 by omega)]
        exact Ev.bind q2 hX) 0 (Nat.zero_le _) t rfl
    exact ⟨t', h1, h2⟩
  obtain ⟨⟨x8, x9, x10⟩, _, e3⟩ := loopE (τ := List (List Int) × List Int × List qbf) (Lf := fun n t j => qcZ b x5 x6 n t.1 t.2.1 t.2.2 j) (fin := fun t => (t.1, t.2.1, t.2.2, (b.Wires.length : Int))) (fun j t => t.1.length = j ∧ t.2.1.length = j ∧ t.2.2.length ≤ 448 + 156 * j) (len := b.Wires.length)
    (fun n t => by simp only [qcZ, qu (Nat.le_refl _), cond_false])
    (fun j t hj ht => by
      obtain ⟨h1, h2, h3⟩ := ht
      have h1 : t.1.length = j := h1
      have h2 : t.2.1.length = j := h2
      have h3 : t.2.2.length ≤ 448 + 156 * j := h3
      have hw := qjw h hj
      have hlo := hw.lo
      obtain ⟨r4, l4, e4⟩ := qkp h hj
      obtain ⟨r5, l5, e5⟩ := qlL h hj
      have h6 := i56 j
      have hy8 : idx x6 (j : Int) = some (gt x6 j) := qaD (by omega)
      obtain ⟨t', q1, q2⟩ := hL4 (j : Int) (gt x6 j) (gt x5 j) t.2.2 hy8 (by omega) (by omega)
      refine ⟨(t.1 ++ [r5], t.2.1 ++ [gt r4 0], t'), ⟨by simp [h1], by simp [h2], ?_⟩, fun X hX => ?_⟩
      · show t'.length ≤ _
        omega
      · simp only [qcZ, qt hj, cond_true, qr (show j < 9223372036854775807 by omega)]
        refine Ev.bind e4 ?_
        rw [show idx r4 (0 : Int) = some (gt r4 0) from qaD (j := 0) (by omega)]
        simp only [Option.bind_some]
        rw [qet (by rw [List.length_singleton]; omega)]
        simp only [Option.bind_some]
        refine Ev.bind e5 ?_
        rw [qet (by rw [List.length_singleton]; omega), qaD (show j < x5.length by omega)]
        simp only [Option.bind_some]
        exact Ev.bind q2 hX) 0 (Nat.zero_le _) ([], [], x1) ⟨rfl, rfl, by show x1.length ≤ _; have : x1.length ≤ 32 * b.Design.Instances.length := i1; omega⟩
  refine ⟨x10, x9, x8, ?_⟩
  unfold qg3
  refine Ev.bind (qjD hs) (Ev.bind e1 ?_)
  rw [hm1, hm2]
  simp only [Option.bind_some]
  exact Ev.bind e2 (Ev.bind e3 .done)
end Go.Fw


namespace Go.Fw
open Go
set_option maxRecDepth 100000

/-! ### Successors -/

def inPl (b : qD) (x : Int) : Bool := inI x 0 (((places b.Design).length : Int) - 1)
end Go.Fw


namespace Go.Fw
open Go Go.Proofs
open Go.RowKit (Below)
set_option maxRecDepth 100000
set_option maxHeartbeats 1600000
def qdR (n : Nat) (b : qD) : Option Int :=
 (qeY n (⟨b.Design.Instances, b.Design.Nets, b.Design.Ports⟩ : ql)).bind fun r1 =>
 some (r1.length : Int)

theorem qit {n : Nat} {w : World} {b : qD} {cs1 : List Value} (ha1 : GoT.R w (old w) b cs1) {r : Int} (hF : qdR n b = some r) : RetV Tryz.prog 78 [GoT.v qD cs1] w r := by
 obtain ⟨p1, k1, p2, k2, p3, k3, p4, k4, p5, k5, rfl, s1, s2, s3, s4, s5⟩ := qax ha1
 refine qe Tryz.func78 rfl (m := 7) rfl rfl (fun h => ?_)
 rw [qdR] at hF
 refine zSR (qP h rfl rfl ?_)
 intro w1 bb1 h
 refine zp1 rfl (zNSR (zp1 rfl (zl 0 1 h rfl ?_)))
 obtain ⟨r1, hr1, hF⟩ := qd hF
 refine qam r1 h call124 (qil (qck (⟨b.Design.Instances, b.Design.Nets, b.Design.Ports⟩ : ql) (h.oldS s2) (h.oldS s3) (h.oldS s4)) hr1) rfl rfl rfl rfl ?_
 intro w2 S1 p6 k6 h
 exact zp2 rfl (qb (qaF qc h hF ⟨rfl, trivial⟩))

def qbn (b : qD) (list : (List Int)) (sorted : Bool) : Nat → Int → Option (Flow Bool Int)
 | 0, _ => none
 | n + 1, i1 =>
  bif decide (i1 < (list.length : Int)) then
   (idx list i1).bind fun y1 =>
   (qdR n b).bind fun r1 =>
   (qar n y1 0 (W64 (r1 - 1))).bind fun r2 =>
   bif (!r2) then
    some (.ret false)
   else
    bif sorted then
     bif decide (i1 > 0) then
      (idx list (W64 (i1 - 1))).bind fun y2 =>
      (idx list i1).bind fun y3 =>
      bif decide (y2 ≥ y3) then
       some (.ret false)
      else
       qbn b list sorted n (W64 (i1 + 1))
     else
      qbn b list sorted n (W64 (i1 + 1))
    else
     qbn b list sorted n (W64 (i1 + 1))
  else
   some (.nxt i1)

def qd1 (n : Nat) (b : qD) (list : (List Int)) (sorted : Bool) : Option Bool :=
 (qbn b list sorted n 0).bind fun o => match o with
 | .ret r => some r
 | .nxt _ =>
  some (decide ((list.length : Int) ≤ 4))

theorem qgX {n : Nat} {w : World} {b : qD} {list : (List Int)} {sorted : Bool} {cs1 : List Value} (ha1 : GoT.R w (old w) b cs1) {cs2 : List Value} (ha2 : GoT.R w (old w) list cs2) {r : Bool} (hF : qd1 n b list sorted = some r) : RetV Tryz.prog 139 [GoT.v qD cs1, GoT.v (List Int) cs2, .bool sorted] w r := by
 obtain ⟨p1, k1, p2, k2, p3, k3, p4, k4, p5, k5, rfl, s1, s2, s3, s4, s5⟩ := qax ha1
 obtain ⟨p6, k6, rfl, s6⟩ := ha2
 refine qe Tryz.func139 rfl (m := 45) rfl rfl (fun h => ?_)
 rw [qd1] at hF
 refine zSR (qP h rfl rfl ?_)
 intro w1 bb1 h
 refine zp1 rfl (zNSSR (zp1 rfl (qb ?_)))
 obtain ⟨o1, hF, hK1⟩ := qd hF
 refine qw (qR [(1, _), (2, _), (3, _), (7, _)] ⟨rfl, rfl, rfl, rfl, trivial⟩ ?_)
 refine qH (fun m e w' => ∃ (i1 : Int), qbn b list sorted m i1 = some o1 ∧ e = [(1, .slice p6 list.length k6), (2, .bool sorted), (3, .pointer (some ⟨bb1, 0, none⟩)), (7, .int .i64 i1)] ∧ SH w w' [Ch.box bb1 [.slice p1 b.Library.Cells.length k1, .slice p2 b.Design.Instances.length k2, .slice p3 b.Design.Nets.length k3, .slice p4 b.Design.Ports.length k4, .slice p5 b.Wires.length k5] 50]) n ⟨_, hF, rfl, h⟩ ?_
 rintro m1 e1 w2 ⟨i1, hF, rfl, h⟩
 rcases m1 with _ | m1
 ·rw [qbn] at hF
  cases hF
 rw [qbn] at hF
 refine zSSR (zp4 rfl (qb ?_))
 refine qq rfl hF ?_ ?_ <;> intro hF
 ·refine zKSB (qbm ?_)
  refine qcU rfl (by kernel_rfl) ?_
  refine zd2 rfl ?_
  obtain ⟨y1, hy1, hF⟩ := qd hF
  have he1 := qg hy1
  obtain ⟨b1, o_1, q1, cs3, hp1, hq1, -, hr1, hc2⟩ := s6.at hy1
  obtain rfl := hr1
  refine zdxe hp1 hq1 he1 rfl ?_
  refine zdc 0 (hc2.below h.below) rfl ?_
  refine zdl 0 0 h rfl ?_
  obtain ⟨r1, hr2, hF⟩ := qd hF
  refine qcn r1 (vsI _) call78 (fun _ hb => qit ((h.ext hb).old ha1) hr2) rfl rfl rfl rfl ?_
  refine zd1 rfl ?_
  obtain ⟨r2, hr3, hF⟩ := qd hF
  refine qcn r2 (vsB _) call77 (fun _ hb => qaf  hr3) rfl rfl rfl rfl ?_
  refine zd2 rfl ?_
  by_cases hc3 : (!r2) = true
  ·replace hF := bifT hc3 hF
   refine qde hc3 (t := 23) rfl (qj rfl rfl rfl (qj rfl rfl rfl (qj rfl rfl rfl (qj rfl rfl rfl (qj rfl rfl rfl (qj rfl rfl rfl (qj rfl rfl rfl (qj rfl rfl rfl (qj rfl rfl rfl (qj rfl rfl rfl (qj rfl rfl rfl ?_)))))))))))
   refine qj rfl rfl rfl (qj rfl rfl rfl (qj rfl rfl rfl (qj rfl rfl rfl (qj rfl rfl rfl (qj rfl rfl rfl (zd1 rfl ?_))))))
   refine qbk (fun w3 hb => ?_)
   replace h := h.ext hb
   clear hb
   refine qeN rfl rfl (zSR (zp1 rfl (qb ?_)))
   obtain rfl := qh hF; replace hF := hK1
   exact qv qc h hF ⟨rfl, trivial⟩
  replace hc3 := zb hc3
  replace hF := bifF hc3 hF
  refine qdl hc3 (t := 23) rfl (qi rfl (zd1 rfl (qi rfl (zd1 rfl ?_))))
  by_cases hc4 : sorted = true
  ·replace hF := bifT hc4 hF
   refine qde hc4 (t := 25) rfl (qi rfl (zd1 rfl (qi rfl (zd1 rfl (qi rfl (zd1 rfl (qi rfl (zd1 rfl ?_))))))))
   by_cases hc5 : (decide (i1 > 0)) = true
   ·replace hF := bifT hc5 hF
    refine qde hc5 (t := 29) rfl (qi rfl (zd1 rfl (qi rfl (zd1 rfl (qi rfl (zd1 rfl (qi rfl ?_)))))))
    obtain ⟨y2, hy2, hF⟩ := qd hF
    have he2 := qg hy2
    obtain ⟨b2, o_2, q2, cs4, hp2, hq2, -, hr4, hc6⟩ := s6.at hy2
    obtain rfl := hr4
    refine zdxe hp2 hq2 he2 rfl ?_
    refine qi rfl ?_
    refine zdc 0 (hc6.below h.below) rfl ?_
    refine qi rfl (zd1 rfl (qi rfl (zd1 rfl (qi rfl ?_))))
    obtain ⟨y3, hy3, hF⟩ := qd hF
    have he3 := qg hy3
    obtain ⟨b3, o_3, q3, cs5, hp3, hq3, -, hr5, hc7⟩ := s6.at hy3
    obtain rfl := hr5
    refine zdxe hp3 hq3 he3 rfl ?_
    refine qi rfl ?_
    refine zdc 0 (hc7.below h.below) rfl ?_
    refine qi rfl (zd1 rfl (qi rfl (zd2 rfl ?_)))
    refine qbk (fun w4 hb => ?_)
    replace h := h.ext hb
    clear hb
    refine qq rfl hF ?_ ?_ <;> intro hF
    ·refine zSR (zp1 rfl (qb ?_))
     obtain rfl := qh hF; replace hF := hK1
     exact qv qc h hF ⟨rfl, trivial⟩
    exact zKER (zp3 rfl (qb (qA m1 [(1, _), (2, _), (3, _), (7, _)] (Nat.lt_succ_self m1) ⟨rfl, rfl, rfl, rfl, trivial⟩ ⟨_, hF, rfl, h⟩)))
   replace hc5 := zb hc5
   replace hF := bifF hc5 hF
   refine qdl hc5 (t := 29) rfl (qj rfl rfl rfl (qj rfl rfl rfl (qj rfl rfl rfl (qj rfl rfl rfl (qj rfl rfl rfl (qj rfl rfl rfl (qj rfl rfl rfl (qj rfl rfl rfl (qj rfl rfl rfl (qj rfl rfl rfl (qi rfl ?_)))))))))))
   refine zd2 rfl ?_
   refine qbk (fun w5 hb => ?_)
   replace h := h.ext hb
   clear hb
   exact qey rfl rfl (zKER (zp3 rfl (qb (qA m1 [(1, _), (2, _), (3, _), (7, _)] (Nat.lt_succ_self m1) ⟨rfl, rfl, rfl, rfl, trivial⟩ ⟨_, hF, rfl, h⟩))))
  replace hc4 := zb hc4
  replace hF := bifF hc4 hF
  refine qdl hc4 (t := 25) rfl (qj rfl rfl rfl (qj rfl rfl rfl (qi rfl (zd1 rfl (qi rfl (zd1 rfl (qj rfl rfl rfl (qj rfl rfl rfl (qj rfl rfl rfl (qj rfl rfl rfl (qj rfl rfl rfl ?_)))))))))))
  refine qj rfl rfl rfl (qj rfl rfl rfl (qj rfl rfl rfl (qj rfl rfl rfl (qj rfl rfl rfl (qi rfl (zd2 rfl ?_))))))
  refine qbk (fun w6 hb => ?_)
  replace h := h.ext hb
  clear hb
  exact qey rfl rfl (zKER (zp3 rfl (qb (qA m1 [(1, _), (2, _), (3, _), (7, _)] (Nat.lt_succ_self m1) ⟨rfl, rfl, rfl, rfl, trivial⟩ ⟨_, hF, rfl, h⟩))))
 refine qI rfl ?_
 obtain rfl := qh hF; replace hF := hK1
 exact zSR (zp4 rfl (qb (qv qc h hF ⟨rfl, trivial⟩)))

def qeP (n : Nat) (b : qD) (a_e : qf) : Option Bool :=
 (
  (qfO n b).bind fun r4 =>
  bif (!r4) then
   some true
  else
   (qd1 n b a_e.From true).bind fun r5 =>
   bif (!r5) then
    some true
   else
    (qd1 n b a_e.Through false).bind fun r6 =>
    bif (!r6) then
     some true
    else
     (qd1 n b a_e.To true).bind fun r7 =>
     some (!r7)).bind fun b1 =>
 bif b1 then
  some false
 else
  bif (a_e.Kind == 1) then
   some (a_e.Value == 0)
  else
   bif (a_e.Kind == 2) then
    (qar n a_e.Value 1 10).bind fun r1 =>
    some r1
   else
    bif (a_e.Kind == 3) then
     bif (a_e.Kind == 3) then
      (qar n a_e.Value 0 1000000000).bind fun r2 =>
      some r2
     else
      some false
    else
     bif (a_e.Kind == 4) then
      (qar n a_e.Value 0 1000000000).bind fun r3 =>
      some r3
     else
      some false

theorem qjP {n : Nat} {w : World} {b : qD} {a_e : qf} {cs1 : List Value} (ha1 : GoT.R w (old w) b cs1) {cs2 : List Value} (ha2 : GoT.R w (old w) a_e cs2) {r : Bool} (hF : qeP n b a_e = some r) : RetV Tryz.prog 105 [GoT.v qD cs1, GoT.v qf cs2] w r := by
 obtain ⟨p1, k1, p2, k2, p3, k3, p4, k4, p5, k5, rfl, s1, s2, s3, s4, s5⟩ := qax ha1
 obtain ⟨p6, k6, p7, k7, p8, k8, rfl, s6, s7, s8⟩ := qY ha2
 refine qe Tryz.func105 rfl (m := 47) rfl rfl (fun h => ?_)
 rw [qeP] at hF
 refine zSR (qP h rfl rfl ?_)
 intro w1 bb1 h
 refine qP h rfl rfl ?_
 intro w2 bb2 h
 refine zp1 rfl (zNSS ?_)
 obtain ⟨KF1, hKF1, o1, hF, hK1⟩ := bindE hF
 refine qeG (fun e w' => ∃ (b1 : Bool), KF1 b1 = some r ∧ e = [(3, .pointer (some ⟨bb2, 0, none⟩)), (28, .bool b1)] ∧ SH w w' [Ch.box bb2 [.int .i64 a_e.Kind, .int .i64 a_e.Value, .slice p6 a_e.From.length k6, .slice p7 a_e.Through.length k7, .slice p8 a_e.To.length k8] 87]) ?_ ?_
 ·refine qz (zl 1 0 h rfl ?_)
  obtain ⟨r4, hr4, hF⟩ := qd hF
  refine qp r4 h call104 (qiZ (h.old ha1) hr4) rfl rfl rfl rfl ?_
  intro w6 h
  refine zp2 rfl ?_
  by_cases hc7 : (!r4) = true
  ·replace hF := bifT hc7 hF
   refine qF hc7 (t := 8) rfl (zn5 rfl (zp2 rfl (zn4 rfl ?_)))
   refine zn1 rfl (zp2 rfl (zn5 rfl (zp1 rfl (qb ?_))))
   replace h := h.pick [0] rfl
   obtain rfl := qh hF
   exact qy [(3, _), (28, _)] ⟨rfl, rfl, trivial⟩ ⟨_, hK1, rfl, h⟩
  replace hc7 := zb hc7
  replace hF := bifF hc7 hF
  refine qE hc7 (t := 8) rfl (qa rfl (zl 1 0 h rfl (qa rfl (zp1 rfl (qa rfl (zl 0 2 h rfl (qa rfl ?_)))))))
  obtain ⟨r5, hr5, hF⟩ := qd hF
  refine qp r5 h call139 (qgX (h.old ha1) ⟨_, _, rfl, (h.oldS s6)⟩ hr5) rfl rfl rfl rfl ?_
  intro w7 h
  refine qa rfl (zp3 rfl ?_)
  by_cases hc8 : (!r5) = true
  ·replace hF := bifT hc8 hF
   refine qF hc8 (t := 15) rfl (zn5 rfl (zp2 rfl (zn4 rfl ?_)))
   refine zn1 rfl (zp1 rfl (qb ?_))
   replace h := h.pick [0] rfl
   obtain rfl := qh hF
   exact qy [(3, _), (28, _)] ⟨rfl, rfl, trivial⟩ ⟨_, hK1, rfl, h⟩
  replace hc8 := zb hc8
  replace hF := bifF hc8 hF
  refine qE hc8 (t := 15) rfl (qa rfl (zl 1 0 h rfl (qa rfl (zp1 rfl (qa rfl (zl 0 3 h rfl (qa rfl ?_)))))))
  obtain ⟨r6, hr6, hF⟩ := qd hF
  refine qp r6 h call139 (qgX (h.old ha1) ⟨_, _, rfl, (h.oldS s7)⟩ hr6) rfl rfl rfl rfl ?_
  intro w8 h
  refine qa rfl (zp3 rfl ?_)
  by_cases hc9 : (!r6) = true
  ·replace hF := bifT hc9 hF
   refine qF hc9 (t := 22) rfl (zn5 rfl (zp1 rfl (qb ?_)))
   replace h := h.pick [0] rfl
   obtain rfl := qh hF
   exact qy [(3, _), (28, _)] ⟨rfl, rfl, trivial⟩ ⟨_, hK1, rfl, h⟩
  replace hc9 := zb hc9
  replace hF := bifF hc9 hF
  refine qE hc9 (t := 22) rfl (qa rfl (zl 1 0 h rfl (qa rfl (zp1 rfl (qa rfl (zl 0 4 h rfl (qa rfl ?_)))))))
  obtain ⟨r7, hr7, hF⟩ := qd hF
  refine qp r7 h call139 (qgX (h.old ha1) ⟨_, _, rfl, (h.oldS s8)⟩ hr7) rfl rfl rfl rfl ?_
  intro w9 h
  refine qa rfl (zp2 rfl (qb ?_))
  replace h := h.pick [0] rfl
  obtain rfl := qh hF
  exact qy [(3, _), (28, _)] ⟨rfl, rfl, trivial⟩ ⟨_, hK1, rfl, h⟩
 rintro e1 w10 ⟨b1, hF, rfl, h⟩
 subst hKF1
 refine qq rfl hF ?_ ?_ <;> intro hF
 ·exact zSR (zp1 rfl (qb (qv qc h hF ⟨rfl, trivial⟩)))
 refine zKSSR (zp1 rfl (zl 0 0 h rfl (qb (zBSR (zp2 rfl ?_)))))
 refine qb ?_
 refine qq rfl hF ?_ ?_ <;> intro hF
 ·exact zSR (zp1 rfl (zl 0 1 h rfl (zp2 rfl (qb (qv qc h hF ⟨rfl, trivial⟩)))))
 refine zSR (zp2 rfl (qb ?_))
 refine qq rfl hF ?_ ?_ <;> intro hF
 ·refine zSR (zp1 rfl (zl 0 1 h rfl ?_))
  obtain ⟨r1, hr1, hF⟩ := qd hF
  refine qp r1 h call77 (qaf hr1) rfl rfl rfl rfl ?_
  intro w3 h
  exact zp1 rfl (qb (qv qc h hF ⟨rfl, trivial⟩))
 refine zSSR (zp2 rfl (qb ?_))
 refine qq rfl hF ?_ ?_ <;> intro hF
 ·refine qdO ?_
  refine qq rfl hF ?_ ?_ <;> intro hF
  ·refine zSR (zp1 rfl (zl 0 1 h rfl ?_))
   obtain ⟨r2, hr2, hF⟩ := qd hF
   refine qp r2 h call77 (qaf hr2) rfl rfl rfl rfl ?_
   intro w4 h
   exact zp1 rfl (qb (qv qc h hF ⟨rfl, trivial⟩))
  exact zKE (zSR (zp1 rfl (qb (qv qc h hF ⟨rfl, trivial⟩))))
 refine qz (zp2 rfl (qb ?_))
 refine qq rfl hF ?_ ?_ <;> intro hF
 ·refine zSR (zp1 rfl (zl 0 1 h rfl ?_))
  obtain ⟨r3, hr3, hF⟩ := qd hF
  refine qp r3 h call77 (qaf hr3) rfl rfl rfl rfl ?_
  intro w5 h
  exact zp1 rfl (qb (qv qc h hF ⟨rfl, trivial⟩))
 exact zKE (zSR (zp1 rfl (qb (qv qc h hF ⟨rfl, trivial⟩))))

def qbd (_ : Nat) (list : (List Tplace)) : Option Int :=
 some (list.length : Int)

theorem qfY {n : Nat} {w : World} {list : (List Tplace)} {cs1 : List Value} (ha1 : GoT.R w (old w) list cs1) {r : Int} (hF : qbd n list = some r) : RetV Tryz.prog 113 [GoT.v (List Tplace) cs1] w r := by
 obtain ⟨p1, k1, rfl, s1⟩ := ha1
 refine qe Tryz.func113 rfl (m := 5) rfl rfl (fun h => ?_)
 rw [qbd] at hF
 exact zSR (zp1 rfl (zNSR (zp3 rfl (qb (qaF qc h hF ⟨rfl, trivial⟩)))))

def qgG (n : Nat) (kind : Int) (value : Int) : Option Bool :=
 bif (kind == 1) then
  some (value == 0)
 else
  bif (kind == 2) then
   (qaI n value 1 10).bind fun r1 =>
   some r1
  else
   bif (kind == 3) then
    bif (kind == 3) then
     (qaI n value 0 1000000000).bind fun r2 =>
     some r2
    else
     some false
   else
    bif (kind == 4) then
     (qaI n value 0 1000000000).bind fun r3 =>
     some r3
    else
     some false

theorem qls {n : Nat} {w : World} {kind : Int} {value : Int}  {r : Bool} (hF : qgG n kind value = some r) : RetV Tryz.prog 153 [.int .i64 kind, .int .i64 value] w r := by
 refine qe Tryz.func153 rfl (m := 19) rfl rfl (fun h => ?_)
 rw [qgG] at hF
 refine zSR (zp1 rfl (zNSSR (zp1 rfl (qb (zBSR ?_)))))
 refine zp2 rfl (qb ?_)
 refine qq rfl hF ?_ ?_ <;> intro hF
 ·exact zSR (zp3 rfl (qb (qv qc h hF ⟨rfl, trivial⟩)))
 refine zSR (zp2 rfl (qb ?_))
 refine qq rfl hF ?_ ?_ <;> intro hF
 ·refine zSR (zp1 rfl ?_)
  obtain ⟨r1, hr1, hF⟩ := qd hF
  refine qp r1 h call86 (qap hr1) rfl rfl rfl rfl ?_
  intro w1 h
  exact zp1 rfl (qb (qv qc h hF ⟨rfl, trivial⟩))
 refine zSSR (zp2 rfl (qb ?_))
 refine qq rfl hF ?_ ?_ <;> intro hF
 ·refine qdO ?_
  refine qq rfl hF ?_ ?_ <;> intro hF
  ·refine zSR (zp1 rfl ?_)
   obtain ⟨r2, hr2, hF⟩ := qd hF
   refine qp r2 h call86 (qap hr2) rfl rfl rfl rfl ?_
   intro w2 h
   exact zp1 rfl (qb (qv qc h hF ⟨rfl, trivial⟩))
  exact zKE (zSR (zp1 rfl (qb (qv qc h hF ⟨rfl, trivial⟩))))
 refine qz (zp2 rfl (qb ?_))
 refine qq rfl hF ?_ ?_ <;> intro hF
 ·refine zSR (zp1 rfl ?_)
  obtain ⟨r3, hr3, hF⟩ := qd hF
  refine qp r3 h call86 (qap hr3) rfl rfl rfl rfl ?_
  intro w3 h
  exact zp1 rfl (qb (qv qc h hF ⟨rfl, trivial⟩))
 exact zKE (zSR (zp1 rfl (qb (qv qc h hF ⟨rfl, trivial⟩))))

def qaa (v : (Option Tview)) (a_e : qf) : Nat → Int → Option (Flow Bool Int)
 | 0, _ => none
 | n + 1, i1 =>
  bif decide (i1 < ((3 : Nat) : Int)) then
   (idx ([a_e.From, a_e.Through, a_e.To] : List (List Int)) i1).bind fun y1 =>
   bif decide ((y1.length : Int) > 4) then
    some (.ret false)
   else
    (v).bind fun y2 =>
    (qbd n y2.places).bind fun r1 =>
    (qby n y1 0 (W64 (r1 - 1))).bind fun r2 =>
    bif (!r2) then
     some (.ret false)
    else
     qaa v a_e n (W64 (i1 + 1))
  else
   some (.nxt i1)

def qdb (n : Nat) (v : (Option Tview)) (a_e : qf) : Option Bool :=
 (qaa v a_e n 0).bind fun o => match o with
 | .ret r => some r
 | .nxt _ =>
  (qgG n a_e.Kind a_e.Value).bind fun r3 =>
  bif r3 then
   (qcO n a_e.From).bind fun r4 =>
   bif r4 then
    (qcO n a_e.To).bind fun r5 =>
    some r5
   else
    some false
  else
   some false

theorem qio {n : Nat} {w : World} {v : (Option Tview)} {a_e : qf} {cs1 : List Value} (ha1 : GoT.R w (old w) v cs1) {cs2 : List Value} (ha2 : GoT.R w (old w) a_e cs2) {r : Bool} (hF : qdb n v a_e = some r) : RetV Tryz.prog 111 [GoT.v (Option Tview) cs1, GoT.v qf cs2] w r := by
 obtain ⟨p1, rfl, s1⟩ := qhy ha1
 obtain ⟨p2, k1, p3, k2, p4, k3, rfl, s2, s3, s4⟩ := qY ha2
 refine qe Tryz.func111 rfl (m := 49) rfl rfl (fun h => ?_)
 rw [qdb] at hF
 refine zSR (qP h rfl rfl ?_)
 intro w1 bb1 h
 refine zp1 rfl (zNSSR (zp1 rfl (zl 0 2 h rfl (zp1 rfl (zl 0 3 h rfl (zp1 rfl (zl 0 4 h rfl (qpG qc [.tmp 8, .tmp 10, .tmp 12] _ ([a_e.From, a_e.Through, a_e.To] : List (List Int)) h rfl rfl rfl rfl rfl rfl rfl rfl rfl ⟨⟨_, _, rfl, s2⟩, ⟨_, _, rfl, s3⟩, ⟨_, _, rfl, s4⟩, trivial⟩ rfl ?_))))))))
 intro w2 p5 S1 h
 refine zp2 rfl (qb ?_)
 obtain ⟨o1, hF, hK1⟩ := qd hF
 refine qw (qR [(0, _), (3, _), (13, _), (14, _), (15, _)] ⟨rfl, rfl, rfl, rfl, rfl, trivial⟩ ?_)
 refine qH (fun m e w' => ∃ (i1 : Int), qaa v a_e m i1 = some o1 ∧ e = [(0, .pointer p1), (3, .pointer (some ⟨bb1, 0, none⟩)), (13, .slice p5 3 3), (14, .int .i64 ((3 : Nat) : Int)), (15, .int .i64 i1)] ∧ SH w w' [Ch.rowD w S1 (([a_e.From, a_e.Through, a_e.To] : List (List Int)) : List (List Int)) p5 3, Ch.box bb1 [.int .i64 a_e.Kind, .int .i64 a_e.Value, .slice p2 a_e.From.length k1, .slice p3 a_e.Through.length k2, .slice p4 a_e.To.length k3] 87]) n ⟨_, hF, rfl, h⟩ ?_
 rintro m1 e1 w3 ⟨i1, hF, rfl, h⟩
 rcases m1 with _ | m1
 ·rw [qaa] at hF
  cases hF
 rw [qaa] at hF
 refine zSR (zp1 rfl (zNS ?_))
 refine qq rfl hF ?_ ?_ <;> intro hF
 ·refine zKSBSR ?_
  obtain ⟨y1, hy1, hF⟩ := qd hF
  have he1 := qg hy1
  obtain ⟨b1, o_1, q1, cs3, hp1, hq1, -, hr1, hc2⟩ := h.atD 0 rfl hy1
  obtain ⟨p6, k4, rfl, s5⟩ := hr1
  refine zxe hp1 hq1 he1 rfl (zc 0 hc2 rfl (zp1 rfl (zNSR (zp4 rfl ?_))))
  by_cases hc3 : (decide ((y1.length : Int) > 4)) = true
  ·replace hF := bifT hc3 hF
   refine qF hc3 (t := 22) rfl (zn5 rfl (zn4 rfl (zp1 rfl (qb ?_))))
   refine qeN rfl rfl (zSR (zp1 rfl (qb ?_)))
   obtain rfl := qh hF; replace hF := hK1
   exact qv qc h hF ⟨rfl, trivial⟩
  replace hc3 := zb hc3
  replace hF := bifF hc3 hF
  refine qE hc3 (t := 22) rfl (qa rfl (zp1 rfl (qa rfl (zp1 rfl (qa rfl ?_)))))
  obtain ⟨y2, hy2, hF⟩ := qd hF
  obtain ⟨b2, o_2, cs4, rfl, -, hr2, hc4⟩ := PtR.get s1 hy2
  obtain ⟨p7, k5, p8, k6, p9, k7, p10, k8, p11, k9, p12, k10, p13, k11, p14, k12, p15, k13, p16, k14, rfl, s6, s7, s8, s9, s10, s11, s12, s13, s14, s15⟩ := qlU hr2
  refine zp1 rfl (qa rfl (zp1 rfl (qa rfl (zc 5 (hc4.below h.below) rfl (qa rfl ?_)))))
  obtain ⟨r1, hr3, hF⟩ := qd hF
  refine qU r1 h call113 (qfY ⟨_, _, rfl, (h.oldS s11)⟩ hr3) rfl rfl rfl rfl ?_
  intro w4 h
  refine qa rfl (zp1 rfl (qa rfl ?_))
  obtain ⟨r2, hr4, hF⟩ := qd hF
  refine qp r2 h call112 (qcL ⟨_, _, rfl, (h.oldS s5)⟩ hr4) rfl rfl rfl rfl ?_
  intro w5 h
  refine qa rfl (zp2 rfl (qb ?_))
  refine qq rfl hF ?_ ?_ <;> intro hF
  ·refine zSR (zp1 rfl (qb ?_))
   obtain rfl := qh hF; replace hF := hK1
   exact qv qc h hF ⟨rfl, trivial⟩
  exact zKER (zp2 rfl (qb (qA m1 [(0, _), (3, _), (13, _), (14, _), (15, _)] (Nat.lt_succ_self m1) ⟨rfl, rfl, rfl, rfl, rfl, trivial⟩ ⟨_, hF, rfl, h⟩)))
 refine qI rfl ?_
 obtain rfl := qh hF; replace hF := hK1
 refine zSR (zp1 rfl (zl 1 0 h rfl (zp1 rfl (zl 1 1 h rfl ?_))))
 obtain ⟨r3, hr5, hF⟩ := qd hF
 refine qp r3 h call153 (qls hr5) rfl rfl rfl rfl ?_
 intro w6 h
 refine zp1 rfl ?_
 by_cases hc6 : r3 = true
 ·replace hF := bifT hc6 hF
  refine qF hc6 (t := 39) rfl (qa rfl (zp1 rfl (qa rfl (zl 1 2 h rfl (qa rfl ?_)))))
  obtain ⟨r4, hr6, hF⟩ := qd hF
  refine qp r4 h call154 (qfI ⟨_, _, rfl, (h.oldS s2)⟩ hr6) rfl rfl rfl rfl ?_
  intro w7 h
  refine zp2 rfl ?_
  by_cases hc7 : r4 = true
  ·replace hF := bifT hc7 hF
   refine qF hc7 (t := 44) rfl (qa rfl (zp1 rfl (qa rfl (zl 1 4 h rfl (qa rfl ?_)))))
   obtain ⟨r5, hr7, hF⟩ := qd hF
   refine qp r5 h call154 (qfI ⟨_, _, rfl, (h.oldS s4)⟩ hr7) rfl rfl rfl rfl ?_
   intro w8 h
   exact zp2 rfl (qb (qv qc h hF ⟨rfl, trivial⟩))
  replace hc7 := zb hc7
  replace hF := bifF hc7 hF
  exact qE hc7 (t := 44) rfl (zn3 rfl (zp2 rfl (qb (qv qc h hF ⟨rfl, trivial⟩))))
 replace hc6 := zb hc6
 replace hF := bifF hc6 hF
 refine qE hc6 (t := 39) rfl (zn3 rfl (zp2 rfl (zn3 rfl (zp2 rfl (qb ?_)))))
 exact qv qc h hF ⟨rfl, trivial⟩

def qd0 (n : Nat) (a : qf) (left : Int) : Option Int :=
 (qbg n a.From left).bind fun r1 =>
 bif decide (r1 < 0) then
  some (-1)
 else
  (qbg n a.Through r1).bind fun r2 =>
  bif decide (r2 < 0) then
   some (-1)
  else
   (qbg n a.To r2).bind fun r3 =>
   bif decide (r3 < 0) then
    some (-1)
   else
    some r3

theorem qjI {n : Nat} {w : World} {a : qf} {left : Int} {cs1 : List Value} (ha1 : GoT.R w (old w) a cs1) {r : Int} (hF : qd0 n a left = some r) : RetV Tryz.prog 40 [GoT.v qf cs1, .int .i64 left] w r := by
 obtain ⟨p1, k1, p2, k2, p3, k3, rfl, s1, s2, s3⟩ := qY ha1
 refine qe Tryz.func40 rfl (m := 24) rfl rfl (fun h => ?_)
 rw [qd0] at hF
 refine zSR (qP h rfl rfl ?_)
 intro w1 bb1 h
 refine zp1 rfl (zNSR (zp1 rfl (zl 0 2 h rfl (zp1 rfl ?_))))
 obtain ⟨r1, hr1, hF⟩ := qd hF
 refine qU r1 h call76 (qa9 ⟨_, _, rfl, (h.oldS s1)⟩ hr1) rfl rfl rfl rfl ?_
 intro w2 h
 refine zp1 rfl (zNSSR (zp2 rfl (qb ?_)))
 refine qq rfl hF ?_ ?_ <;> intro hF
 ·exact zSR (zp1 rfl (qb (qaF qc h hF ⟨rfl, trivial⟩)))
 refine zKSR (zp1 rfl (zl 0 3 h rfl (zp1 rfl ?_)))
 obtain ⟨r2, hr2, hF⟩ := qd hF
 refine qU r2 h call76 (qa9 ⟨_, _, rfl, (h.oldS s2)⟩ hr2) rfl rfl rfl rfl ?_
 intro w3 h
 refine zp1 rfl (zNSSR (zp2 rfl (qb ?_)))
 refine qq rfl hF ?_ ?_ <;> intro hF
 ·exact zSR (zp1 rfl (qb (qaF qc h hF ⟨rfl, trivial⟩)))
 refine zKSR (zp1 rfl (zl 0 4 h rfl (zp1 rfl ?_)))
 obtain ⟨r3, hr3, hF⟩ := qd hF
 refine qU r3 h call76 (qa9 ⟨_, _, rfl, (h.oldS s3)⟩ hr3) rfl rfl rfl rfl ?_
 intro w4 h
 refine zp1 rfl (zNSSR (zp2 rfl (qb ?_)))
 refine qq rfl hF ?_ ?_ <;> intro hF
 ·exact zSR (zp1 rfl (qb (qaF qc h hF ⟨rfl, trivial⟩)))
 exact zKSR (zp2 rfl (qb (qaF qc h hF ⟨rfl, trivial⟩)))

def qbq (a : (List qf)) : Nat → Int → Int → Option (Flow Int (Int × Int))
 | 0, _, _ => none
 | n + 1, i1, i2 =>
  bif decide (i2 < (a.length : Int)) then
   (idx a i2).bind fun y1 =>
   (qd0 n y1 i1).bind fun r1 =>
   bif decide (r1 < 0) then
    some (.ret (-1))
   else
    qbq a n r1 (W64 (i2 + 1))
  else
   some (.nxt (i1, i2))

def qfw (n : Nat) (a : (List qf)) (left : Int) : Option Int :=
 bif decide ((W64 (left - (a.length : Int))) < 0) then
  some (-1)
 else
  (qbq a n (W64 (left - (a.length : Int))) 0).bind fun o => match o with
  | .ret r => some r
  | .nxt (i1, _) =>
   some i1

theorem qjv {n : Nat} {w : World} {a : (List qf)} {left : Int} {cs1 : List Value} (ha1 : GoT.R w (old w) a cs1) {r : Int} (hF : qfw n a left = some r) : RetV Tryz.prog 10 [GoT.v (List qf) cs1, .int .i64 left] w r := by
 obtain ⟨p1, k1, rfl, s1⟩ := ha1
 refine qe Tryz.func10 rfl (m := 27) rfl rfl (fun h => ?_)
 rw [qfw] at hF
 refine zSR (zp1 rfl (zNSR (zp5 rfl (qb ?_))))
 refine zSSR (zp2 rfl (qb ?_))
 refine qq rfl hF ?_ ?_ <;> intro hF
 ·exact zSR (zp1 rfl (qb (qaF qc h hF ⟨rfl, trivial⟩)))
 refine zKSSR (zp1 rfl (qb ?_))
 obtain ⟨o1, hF, hK1⟩ := qd hF
 refine qw (qR [(0, _), (1, _), (5, _)] ⟨rfl, rfl, rfl, trivial⟩ ?_)
 refine qH (fun m e w' => ∃ (i1 : Int) (i2 : Int), qbq a m i1 i2 = some o1 ∧ e = [(0, .slice p1 a.length k1), (1, .int .i64 i1), (5, .int .i64 i2)] ∧ SH w w' []) n ⟨_, _, hF, rfl, h⟩ ?_
 rintro m1 e1 w1 ⟨i1, i2, hF, rfl, h⟩
 rcases m1 with _ | m1
 ·rw [qbq] at hF
  cases hF
 rw [qbq] at hF
 refine zSSR (zp4 rfl (qb ?_))
 refine qq rfl hF ?_ ?_ <;> intro hF
 ·refine zKSBSR (zp2 rfl ?_)
  obtain ⟨y1, hy1, hF⟩ := qd hF
  have he1 := qg hy1
  obtain ⟨b1, o_1, q1, cs2, hp1, hq1, -, hr1, hc3⟩ := s1.at hy1
  obtain ⟨p2, k2, p3, k3, p4, k4, rfl, s2, s3, s4⟩ := qY hr1
  refine zxe hp1 hq1 he1 rfl (zc 0 (hc3.below h.below) rfl (zp1 rfl ?_))
  obtain ⟨r1, hr2, hF⟩ := qd hF
  refine qU r1 h call40 (qjI (qd4 y1 (h.oldS s2) (h.oldS s3) (h.oldS s4)) hr2) rfl rfl rfl rfl ?_
  intro w2 h
  refine zp1 rfl (zNSR (zp2 rfl (qb ?_)))
  refine qq rfl hF ?_ ?_ <;> intro hF
  ·refine zSR (zp1 rfl (qb ?_))
   obtain rfl := qh hF; replace hF := hK1
   exact qaF qc h hF ⟨rfl, trivial⟩
  exact zKER (zp3 rfl (qb (qA m1 [(0, _), (1, _), (5, _)] (Nat.lt_succ_self m1) ⟨rfl, rfl, rfl, trivial⟩ ⟨_, _, hF, rfl, h⟩)))
 refine qI rfl ?_
 obtain rfl := qh hF; replace hF := hK1
 exact zSR (zp2 rfl (qb (qaF qc h hF ⟨rfl, trivial⟩)))

def qdU (n : Nat) (a : qf) : Option qf :=
 (qaA n a.From).bind fun r1 =>
 (qaA n a.Through).bind fun r2 =>
 (qaA n a.To).bind fun r3 =>
 some (⟨a.Kind, a.Value, r1, r2, r3⟩ : qf)

theorem qjR {n : Nat} {w : World} {a : qf} {cs1 : List Value} (ha1 : GoT.R w (old w) a cs1) {r : qf} (hF : qdU n a = some r) : RetV Tryz.prog 47 [GoT.v qf cs1] w r := by
 obtain ⟨p1, k1, p2, k2, p3, k3, rfl, s1, s2, s3⟩ := qY ha1
 refine qe Tryz.func47 rfl (m := 23) rfl rfl (fun h => ?_)
 rw [qdU] at hF
 refine zSR (qP h rfl rfl ?_)
 intro w1 bb1 h
 refine qah qc h rfl rfl rfl ?_
 intro w2 bb2 h
 refine zNSR (qah qc h rfl rfl rfl ?_)
 intro w3 bb3 h
 refine zNSR (zp1 rfl (zl 2 0 h rfl (zp1 rfl (zs 0 h rfl ?_))))
 intro w4 h
 refine zNSR (zp1 rfl (zl 2 1 h rfl (zp1 rfl (zs 0 h rfl ?_))))
 intro w5 h
 replace h : SH _ _ [Ch.box bb3 [.int .i64 a.Kind, .int .i64 a.Value, .slice none 0 0, .slice none 0 0, .slice none 0 0] 87, Ch.box bb2 [.int .i64 0, .int .i64 0, .slice none 0 0, .slice none 0 0, .slice none 0 0] 87, Ch.box bb1 [.int .i64 a.Kind, .int .i64 a.Value, .slice p1 a.From.length k1, .slice p2 a.Through.length k2, .slice p3 a.To.length k3] 80] := h
 refine zNSR (zp1 rfl (zl 2 2 h rfl ?_))
 obtain ⟨r1, hr1, hF⟩ := qd hF
 refine qam r1 h call14 (qau ⟨_, _, rfl, (h.oldS s1)⟩ hr1) rfl rfl rfl rfl ?_
 intro w6 S1 p4 k4 h
 refine zp1 rfl (zs 1 h rfl ?_)
 intro w7 h
 refine zNSR (zp1 rfl (zl 3 3 h rfl ?_))
 obtain ⟨r2, hr2, hF⟩ := qd hF
 refine qam r2 h call14 (qau ⟨_, _, rfl, (h.oldS s2)⟩ hr2) rfl rfl rfl rfl ?_
 intro w8 S2 p5 k5 h
 refine zp1 rfl (zs 2 h rfl ?_)
 intro w9 h
 replace h : SH _ _ [Ch.own S2 (r2 : List Int) [.slice p5 r2.length k5], Ch.own S1 (r1 : List Int) [.slice p4 r1.length k4], Ch.box bb3 [.int .i64 a.Kind, .int .i64 a.Value, .slice p4 r1.length k4, .slice p5 r2.length k5, .slice none 0 0] 87, Ch.box bb2 [.int .i64 0, .int .i64 0, .slice none 0 0, .slice none 0 0, .slice none 0 0] 87, Ch.box bb1 [.int .i64 a.Kind, .int .i64 a.Value, .slice p1 a.From.length k1, .slice p2 a.Through.length k2, .slice p3 a.To.length k3] 80] := h
 refine zNSR (zp1 rfl (zl 4 4 h rfl ?_))
 obtain ⟨r3, hr3, hF⟩ := qd hF
 refine qam r3 h call14 (qau ⟨_, _, rfl, (h.oldS s3)⟩ hr3) rfl rfl rfl rfl ?_
 intro w10 S3 p6 k6 h
 refine zp1 rfl (zs 3 h rfl ?_)
 intro w11 h
 refine zNSR (zl 3 0 h rfl (zs 4 h rfl ?_))
 intro w12 h
 replace h : SH _ _ [Ch.own S3 (r3 : List Int) [.slice p6 r3.length k6], Ch.own S2 (r2 : List Int) [.slice p5 r2.length k5], Ch.own S1 (r1 : List Int) [.slice p4 r1.length k4], Ch.box bb3 [.int .i64 a.Kind, .int .i64 a.Value, .slice p4 r1.length k4, .slice p5 r2.length k5, .slice p6 r3.length k6] 87, Ch.box bb2 [.int .i64 a.Kind, .int .i64 a.Value, .slice p4 r1.length k4, .slice p5 r2.length k5, .slice p6 r3.length k6] 87, Ch.box bb1 [.int .i64 a.Kind, .int .i64 a.Value, .slice p1 a.From.length k1, .slice p2 a.Through.length k2, .slice p3 a.To.length k3] 80] := h
 refine qb ?_
 obtain rfl := qh hF
 exact qay qc (ρ := qf) [GoT.v qf [.int .i64 a.Kind, .int .i64 a.Value, .slice p4 r1.length k4, .slice p5 r2.length k5, .slice p6 r3.length k6]] h ⟨⟨_, _, _, rfl, rfl, h.box 4 rfl, rfl⟩, trivial⟩ (PV.done h (qaG (qjZ (⟨a.Kind, a.Value, r1, r2, r3⟩ : qf) h (qaw (S := fun _ => False) rfl) (qaw (S := fun _ => False) rfl) (qab 2 h rfl) (qab 1 h rfl) (qab 0 h rfl) (by rfl) (by rfl) (by rfl) (by rfl))))

def qbQ (a : (List qf)) : Nat → (List qf) → Int → Option ((List qf) × Int)
 | 0, _, _ => none
 | n + 1, x2, i1 =>
  bif decide (i1 < (a.length : Int)) then
   (idx a i1).bind fun y1 =>
   (qdU n y1).bind fun r1 =>
   (idx x2 i1).bind fun _ =>
   qbQ a n (setS x2 i1 r1) (W64 (i1 + 1))
  else
   some (x2, i1)

def qcd (n : Nat) (a : (List qf)) : Option (List qf) :=
 (mkS (a.length : Int) ((⟨0, 0, [], [], []⟩ : qf) : qf)).bind fun x1 =>
 (qbQ a n x1 0).bind fun o => match o with
 | (x2, _) =>
  some x2

theorem qer {n : Nat} {w : World} {a : (List qf)} {cs1 : List Value} (ha1 : GoT.R w (old w) a cs1) {r : (List qf)} (hF : qcd n a = some r) : RetV Tryz.prog 13 [GoT.v (List qf) cs1] w r := by
 obtain ⟨p1, k1, rfl, s1⟩ := ha1
 refine qe Tryz.func13 rfl (m := 23) rfl rfl (fun h => ?_)
 rw [qcd] at hF
 refine zSR (zp1 rfl (zNSR (zp2 rfl ?_)))
 obtain ⟨x1, hx1, hF⟩ := qd hF
 obtain ⟨g1, g2, hx1⟩ := qdx hx1
 refine qeB qc qf h rfl rfl rfl rfl rfl rfl rfl rfl rfl g1 g2 hx1 rfl ?_
 intro w1 S1 p2 h
 refine zp1 rfl (zNSSR (zp1 rfl (qb ?_)))
 obtain ⟨o1, hF, hK1⟩ := qd hF
 refine qw (qR [(0, _), (3, _), (4, _)] ⟨rfl, rfl, rfl, trivial⟩ ?_)
 refine qH (fun m e w' => ∃ (S2 : Nat → Prop) (x2 : (List qf)) (i1 : Int), qbQ a m x2 i1 = some o1 ∧ e = [(0, .slice p1 a.length k1), (3, .slice p2 x1.length x1.length), (4, .int .i64 i1)] ∧ SH w w' [Ch.own S2 (x2 : List qf) [.slice p2 x1.length x1.length]]) n ⟨_, _, _, hF, rfl, h⟩ ?_
 rintro m1 e1 w2 ⟨S2, x2, i1, hF, rfl, h⟩
 rcases m1 with _ | m1
 ·rw [qbQ] at hF
  cases hF
 rw [qbQ] at hF
 refine zSSR (zp4 rfl (qb ?_))
 refine qq rfl hF ?_ ?_ <;> intro hF
 ·refine zKSBR (zp4 rfl ?_)
  obtain ⟨y1, hy1, hF⟩ := qd hF
  have he1 := qg hy1
  obtain ⟨b1, o_1, q1, cs2, hp1, hq1, -, hr1, hc2⟩ := s1.at hy1
  obtain ⟨p3, k2, p4, k3, p5, k4, rfl, s2, s3, s4⟩ := qY hr1
  refine zxe hp1 hq1 he1 rfl (zc 0 (hc2.below h.below) rfl ?_)
  obtain ⟨r1, hr2, hF⟩ := qd hF
  refine qft r1 h call47 (qjR (qd4 y1 (h.oldS s2) (h.oldS s3) (h.oldS s4)) hr2) rfl rfl rfl rfl ?_
  intro w3 S3 cs3 h
  obtain ⟨p6, k5, p7, k6, p8, k7, rfl, -, -, -⟩ := qY (h.own 0 rfl)
  obtain ⟨y2, hy2, hF⟩ := qd hF
  have he2 := qg hy2
  replace h := h.lrn0 1 rfl
  obtain ⟨b2, o_2, q2, cs4, hp2, hq2, -, hr3, hc3⟩ := (qhS (h.lrnO 1 rfl)).1.at hy2
  have hr4 := hr3
  obtain ⟨p9, k8, p10, k9, p11, k10, rfl, s8, s9, s10⟩ := qY hr3
  replace h := h.lrnAdd 1 rfl hr4
  refine zx hp2 hq2 ⟨he2.1, qac he2.2.1 (qhS (h.lrnO 1 rfl)).2⟩ rfl ?_
  replace h := h.unlrn 1 rfl
  refine qiE qc r1 h hy2 hp2 hq2 rfl rfl rfl rfl rfl ?_
  intro w4 S4 h
  exact zNER (zp3 rfl (qb (qA m1 [(0, _), (3, _), (4, _)] (Nat.lt_succ_self m1) ⟨rfl, rfl, rfl, trivial⟩ ⟨_, _, _, hF, rfl, h⟩)))
 refine qI rfl ?_
 obtain rfl := qh hF; replace hF := hK1
 refine zSR (zp2 rfl (qb ?_))
 obtain rfl := qh hF
 exact qay qc (ρ := (List qf)) [GoT.v (List qf) [.slice p2 x1.length x1.length]] h ⟨rfl, trivial⟩ (PV.done h (qaG (qab 0 h rfl)))

def qdX (n : Nat) (a : qf) (b : qf) : Option Bool :=
 bif (a.Kind != b.Kind) then
  some false
 else
  bif (a.Value != b.Value) then
   some false
  else
   (qaz n a.From b.From).bind fun r1 =>
   bif (!r1) then
    some false
   else
    (qaz n a.Through b.Through).bind fun r2 =>
    bif (!r2) then
     some false
    else
     (qaz n a.To b.To).bind fun r3 =>
     bif (!r3) then
      some false
     else
      some true

theorem qjM {n : Nat} {w : World} {a : qf} {b : qf} {cs1 : List Value} (ha1 : GoT.R w (old w) a cs1) {cs2 : List Value} (ha2 : GoT.R w (old w) b cs2) {r : Bool} (hF : qdX n a b = some r) : RetV Tryz.prog 54 [GoT.v qf cs1, GoT.v qf cs2] w r := by
 obtain ⟨p1, k1, p2, k2, p3, k3, rfl, s1, s2, s3⟩ := qY ha1
 obtain ⟨p4, k4, p5, k5, p6, k6, rfl, s4, s5, s6⟩ := qY ha2
 refine qe Tryz.func54 rfl (m := 33) rfl rfl (fun h => ?_)
 rw [qdX] at hF
 refine zSR (qP h rfl rfl ?_)
 intro w1 bb1 h
 refine qP h rfl rfl ?_
 intro w2 bb2 h
 refine zp1 rfl (zNSSR (zp1 rfl (zl 1 0 h rfl (zp1 rfl (zl 0 0 h rfl (zp1 rfl (qb ?_)))))))
 refine qq rfl hF ?_ ?_ <;> intro hF
 ·exact zSR (zp1 rfl (qb (qv qc h hF ⟨rfl, trivial⟩)))
 refine zKSSR (zp1 rfl (zl 1 1 h rfl (zp1 rfl (zl 0 1 h rfl (zp1 rfl (qb ?_))))))
 refine qq rfl hF ?_ ?_ <;> intro hF
 ·exact zSR (zp1 rfl (qb (qv qc h hF ⟨rfl, trivial⟩)))
 refine zKSSR (zp1 rfl (zl 1 2 h rfl (zp1 rfl (zl 0 2 h rfl ?_))))
 obtain ⟨r1, hr1, hF⟩ := qd hF
 refine qp r1 h call19 (qat ⟨_, _, rfl, (h.oldS s1)⟩ ⟨_, _, rfl, (h.oldS s4)⟩ hr1) rfl rfl rfl rfl ?_
 intro w3 h
 refine zp1 rfl (qb ?_)
 refine qq rfl hF ?_ ?_ <;> intro hF
 ·exact zSR (zp1 rfl (qb (qv qc h hF ⟨rfl, trivial⟩)))
 refine zKSSR (zp1 rfl (zl 1 3 h rfl (zp1 rfl (zl 0 3 h rfl ?_))))
 obtain ⟨r2, hr2, hF⟩ := qd hF
 refine qp r2 h call19 (qat ⟨_, _, rfl, (h.oldS s2)⟩ ⟨_, _, rfl, (h.oldS s5)⟩ hr2) rfl rfl rfl rfl ?_
 intro w4 h
 refine zp1 rfl (qb ?_)
 refine qq rfl hF ?_ ?_ <;> intro hF
 ·exact zSR (zp1 rfl (qb (qv qc h hF ⟨rfl, trivial⟩)))
 refine zKSSR (zp1 rfl (zl 1 4 h rfl (zp1 rfl (zl 0 4 h rfl ?_))))
 obtain ⟨r3, hr3, hF⟩ := qd hF
 refine qp r3 h call19 (qat ⟨_, _, rfl, (h.oldS s3)⟩ ⟨_, _, rfl, (h.oldS s6)⟩ hr3) rfl rfl rfl rfl ?_
 intro w5 h
 refine zp1 rfl (qb ?_)
 refine qq rfl hF ?_ ?_ <;> intro hF
 ·exact zSR (zp1 rfl (qb (qv qc h hF ⟨rfl, trivial⟩)))
 exact zKSR (zp1 rfl (qb (qv qc h hF ⟨rfl, trivial⟩)))

def qbR (a : (List qf)) (b : (List qf)) : Nat → Int → Option (Flow Bool Int)
 | 0, _ => none
 | n + 1, i1 =>
  bif decide (i1 < (a.length : Int)) then
   (idx a i1).bind fun y1 =>
   (idx b i1).bind fun y2 =>
   (qdX n y1 y2).bind fun r1 =>
   bif (!r1) then
    some (.ret false)
   else
    qbR a b n (W64 (i1 + 1))
  else
   some (.nxt i1)

def qew (n : Nat) (a : (List qf)) (b : (List qf)) : Option Bool :=
 bif ((a.length : Int) != (b.length : Int)) then
  some false
 else
  (qbR a b n 0).bind fun o => match o with
  | .ret r => some r
  | .nxt _ =>
   some true

theorem qjc {n : Nat} {w : World} {a : (List qf)} {b : (List qf)} {cs1 : List Value} (ha1 : GoT.R w (old w) a cs1) {cs2 : List Value} (ha2 : GoT.R w (old w) b cs2) {r : Bool} (hF : qew n a b = some r) : RetV Tryz.prog 18 [GoT.v (List qf) cs1, GoT.v (List qf) cs2] w r := by
 obtain ⟨p1, k1, rfl, s1⟩ := ha1
 obtain ⟨p2, k2, rfl, s2⟩ := ha2
 refine qe Tryz.func18 rfl (m := 27) rfl rfl (fun h => ?_)
 rw [qew] at hF
 refine zSR (zp1 rfl (zNSSR (zp5 rfl ?_)))
 refine qb ?_
 refine qq rfl hF ?_ ?_ <;> intro hF
 ·exact zSR (zp1 rfl (qb (qv qc h hF ⟨rfl, trivial⟩)))
 refine zKSSR (zp1 rfl (qb ?_))
 obtain ⟨o1, hF, hK1⟩ := qd hF
 refine qw (qR [(0, _), (1, _), (5, _)] ⟨rfl, rfl, rfl, trivial⟩ ?_)
 refine qH (fun m e w' => ∃ (i1 : Int), qbR a b m i1 = some o1 ∧ e = [(0, .slice p1 a.length k1), (1, .slice p2 b.length k2), (5, .int .i64 i1)] ∧ SH w w' []) n ⟨_, hF, rfl, h⟩ ?_
 rintro m1 e1 w1 ⟨i1, hF, rfl, h⟩
 rcases m1 with _ | m1
 ·rw [qbR] at hF
  cases hF
 rw [qbR] at hF
 refine zSSR (zp4 rfl (qb ?_))
 refine qq rfl hF ?_ ?_ <;> intro hF
 ·refine zKSB (qbm ?_)
  refine qcU rfl (by kernel_rfl) ?_
  refine zd2 rfl ?_
  obtain ⟨y1, hy1, hF⟩ := qd hF
  have he1 := qg hy1
  obtain ⟨b1, o_1, q1, cs3, hp1, hq1, -, hr1, hc3⟩ := s1.at hy1
  obtain ⟨p3, k3, p4, k4, p5, k5, rfl, s3, s4, s5⟩ := qY hr1
  refine zdxe hp1 hq1 he1 rfl ?_
  refine zdc 0 (hc3.below h.below) rfl ?_
  refine zd2 rfl ?_
  obtain ⟨y2, hy2, hF⟩ := qd hF
  have he2 := qg hy2
  obtain ⟨b2, o_2, q2, cs4, hp2, hq2, -, hr2, hc4⟩ := s2.at hy2
  obtain ⟨p6, k6, p7, k7, p8, k8, rfl, s6, s7, s8⟩ := qY hr2
  refine zdxe hp2 hq2 he2 rfl ?_
  refine zdc 0 (hc4.below h.below) rfl ?_
  obtain ⟨r1, hr3, hF⟩ := qd hF
  refine qcn r1 (vsB _) call54 (fun _ hb => qjM (qd4 y1 ((h.ext hb).oldS s3) ((h.ext hb).oldS s4) ((h.ext hb).oldS s5)) (qd4 y2 ((h.ext hb).oldS s6) ((h.ext hb).oldS s7) ((h.ext hb).oldS s8)) hr3) rfl rfl rfl rfl ?_
  refine zd1 rfl ?_
  refine qbk (fun w2 hb => ?_)
  replace h := h.ext hb
  clear hb
  refine qq rfl hF ?_ ?_ <;> intro hF
  ·refine zSR (zp1 rfl (qb ?_))
   obtain rfl := qh hF; replace hF := hK1
   exact qv qc h hF ⟨rfl, trivial⟩
  exact zKER (zp3 rfl (qb (qA m1 [(0, _), (1, _), (5, _)] (Nat.lt_succ_self m1) ⟨rfl, rfl, rfl, trivial⟩ ⟨_, hF, rfl, h⟩)))
 refine qI rfl ?_
 obtain rfl := qh hF; replace hF := hK1
 exact zSR (zp1 rfl (qb (qv qc h hF ⟨rfl, trivial⟩)))

end Go.Fw


namespace Go.Fw
open Go Go.Proofs
open Go.RowKit (Below)
set_option maxRecDepth 100000
set_option maxHeartbeats 1600000
def qdI (n : Nat) (a_e : qf) (found : Int) (place : Int) : Option Int :=
 bif decide (found ≥ 0) then
  (qas n a_e.Through).bind fun r1 =>
  bif decide (found < r1) then
   (idx a_e.Through found).bind fun y1 =>
   bif (y1 == place) then
    some (W64 (found + 1))
   else
    some found
  else
   some found
 else
  some found

theorem qiP {n : Nat} {w : World} {a_e : qf} {found : Int} {place : Int} {cs1 : List Value} (ha1 : GoT.R w (old w) a_e cs1) {r : Int} (hF : qdI n a_e found place = some r) : RetV Tryz.prog 98 [GoT.v qf cs1, .int .i64 found, .int .i64 place] w r := by
 obtain ⟨p1, k1, p2, k2, p3, k3, rfl, s1, s2, s3⟩ := qY ha1
 refine qe Tryz.func98 rfl (m := 28) rfl rfl (fun h => ?_)
 rw [qdI] at hF
 refine zSR (qP h rfl rfl ?_)
 intro w1 bb1 h
 refine zp1 rfl (zNSSR (zp3 rfl ?_))
 by_cases hc1 : (decide (found ≥ 0)) = true
 ·replace hF := bifT hc1 hF
  refine qF hc1 (t := 9) rfl (qa rfl (zp1 rfl (qa rfl (zp1 rfl (qa rfl (zl 0 3 h rfl (qa rfl ?_)))))))
  obtain ⟨r1, hr1, hF⟩ := qd hF
  refine qU r1 h call87 (qbp ⟨_, _, rfl, (h.oldS s2)⟩ hr1) rfl rfl rfl rfl ?_
  intro w2 h
  refine qa rfl (zp3 rfl ?_)
  by_cases hc2 : (decide (found < r1)) = true
  ·replace hF := bifT hc2 hF
   refine qF hc2 (t := 16) rfl (qa rfl (zp1 rfl (qa rfl (zl 0 3 h rfl (qa rfl (zp1 rfl (qa rfl ?_)))))))
   obtain ⟨y1, hy1, hF⟩ := qd hF
   have he1 := qg hy1
   obtain ⟨b1, o_1, q1, cs2, hp1, hq1, -, hr2, hc3⟩ := s2.at hy1
   obtain rfl := hr2
   refine zxe hp1 hq1 he1 rfl (qa rfl (zc 0 (hc3.below h.below) rfl (qa rfl (zp1 rfl (qa rfl (zp2 rfl (qb ?_)))))))
   refine qq rfl hF ?_ ?_ <;> intro hF
   ·exact zSR (zp3 rfl (qb (qaF qc h hF ⟨rfl, trivial⟩)))
   exact zKSR (zp2 rfl (qb (qaF qc h hF ⟨rfl, trivial⟩)))
  replace hc2 := zb hc2
  replace hF := bifF hc2 hF
  refine qE hc2 (t := 16) rfl (zn5 rfl (zn2 rfl (zp1 rfl (qb (qey rfl rfl (qdO ?_))))))
  exact zSR (zp2 rfl (qb (qaF qc h hF ⟨rfl, trivial⟩)))
 replace hc1 := zb hc1
 replace hF := bifF hc1 hF
 refine qE hc1 (t := 9) rfl (zn5 rfl (zp2 rfl (zn4 rfl ?_)))
 refine zn3 rfl (zp1 rfl (qb (qey rfl rfl (zKSR (zp2 rfl (qb ?_))))))
 exact qaF qc h hF ⟨rfl, trivial⟩

end Go.Fw


namespace Go.Fw
open Go Go.Proofs
open Go.RowKit (Below)
set_option maxRecDepth 100000
set_option maxHeartbeats 1600000
def qc1 (b : qD) (list : (List qf)) : Nat → Int → Option (Flow Int Int)
 | 0, _ => none
 | n + 1, i1 =>
  bif decide (i1 < (list.length : Int)) then
   (idx list i1).bind fun y1 =>
   (qeP n b y1).bind fun r2 =>
   bif (!r2) then
    some (.ret 5)
   else
    qc1 b list n (W64 (i1 + 1))
  else
   some (.nxt i1)

def qgO (n : Nat) (b : qD) (list : (List qf)) : Option Int :=
 (qfO n b).bind fun r1 =>
 bif (!r1) then
  some 1
 else
  bif decide ((list.length : Int) > 6) then
   some 3
  else
   (qc1 b list n 0).bind fun o => match o with
   | .ret r => some r
   | .nxt _ =>
    some 0

theorem qk7 {n : Nat} {w : World} {b : qD} {list : (List qf)} {cs1 : List Value} (ha1 : GoT.R w (old w) b cs1) {cs2 : List Value} (ha2 : GoT.R w (old w) list cs2) {r : Int} (hF : qgO n b list = some r) : RetV Tryz.prog 62 [GoT.v qD cs1, GoT.v (List qf) cs2] w r := by
 obtain ⟨p1, k1, p2, k2, p3, k3, p4, k4, p5, k5, rfl, s1, s2, s3, s4, s5⟩ := qax ha1
 obtain ⟨p6, k6, rfl, s6⟩ := ha2
 refine qe Tryz.func62 rfl (m := 25) rfl rfl (fun h => ?_)
 rw [qgO] at hF
 refine zSR (qP h rfl rfl ?_)
 intro w1 bb1 h
 refine zp1 rfl (zNSSR (zl 0 0 h rfl ?_))
 obtain ⟨r1, hr1, hF⟩ := qd hF
 refine qp r1 h call104 (qiZ (h.old ha1) hr1) rfl rfl rfl rfl ?_
 intro w2 h
 refine zp1 rfl (qb ?_)
 refine qq rfl hF ?_ ?_ <;> intro hF
 ·exact zSR (zp1 rfl (qb (qaF qc h hF ⟨rfl, trivial⟩)))
 refine zKSSR (zp3 rfl (qb ?_))
 refine qq rfl hF ?_ ?_ <;> intro hF
 ·exact zSR (zp1 rfl (qb (qaF qc h hF ⟨rfl, trivial⟩)))
 refine zKSSR (zp1 rfl (qb ?_))
 obtain ⟨o1, hF, hK1⟩ := qd hF
 refine qw (qR [(1, _), (2, _), (5, _)] ⟨rfl, rfl, rfl, trivial⟩ ?_)
 refine qH (fun m e w' => ∃ (i1 : Int), qc1 b list m i1 = some o1 ∧ e = [(1, .slice p6 list.length k6), (2, .pointer (some ⟨bb1, 0, none⟩)), (5, .int .i64 i1)] ∧ SH w w' [Ch.box bb1 [.slice p1 b.Library.Cells.length k1, .slice p2 b.Design.Instances.length k2, .slice p3 b.Design.Nets.length k3, .slice p4 b.Design.Ports.length k4, .slice p5 b.Wires.length k5] 50]) n ⟨_, hF, rfl, h⟩ ?_
 rintro m1 e1 w3 ⟨i1, hF, rfl, h⟩
 rcases m1 with _ | m1
 ·rw [qc1] at hF
  cases hF
 rw [qc1] at hF
 refine zSSR (zp4 rfl (qb ?_))
 refine qq rfl hF ?_ ?_ <;> intro hF
 ·refine zKSB (qbm ?_)
  refine qcU rfl (by kernel_rfl) ?_
  refine zdl 0 0 h rfl ?_
  refine zd2 rfl ?_
  obtain ⟨y1, hy1, hF⟩ := qd hF
  have he1 := qg hy1
  obtain ⟨b1, o_1, q1, cs3, hp1, hq1, -, hr2, hc4⟩ := s6.at hy1
  obtain ⟨p7, k7, p8, k8, p9, k9, rfl, s7, s8, s9⟩ := qY hr2
  refine zdxe hp1 hq1 he1 rfl ?_
  refine zdc 0 (hc4.below h.below) rfl ?_
  obtain ⟨r2, hr3, hF⟩ := qd hF
  refine qcn r2 (vsB _) call105 (fun _ hb => qjP ((h.ext hb).old ha1) (qd4 y1 ((h.ext hb).oldS s7) ((h.ext hb).oldS s8) ((h.ext hb).oldS s9)) hr3) rfl rfl rfl rfl ?_
  refine zd1 rfl ?_
  refine qbk (fun w4 hb => ?_)
  replace h := h.ext hb
  clear hb
  refine qq rfl hF ?_ ?_ <;> intro hF
  ·refine zSR (zp1 rfl (qb ?_))
   obtain rfl := qh hF; replace hF := hK1
   exact qaF qc h hF ⟨rfl, trivial⟩
  exact zKER (zp3 rfl (qb (qA m1 [(1, _), (2, _), (5, _)] (Nat.lt_succ_self m1) ⟨rfl, rfl, rfl, trivial⟩ ⟨_, hF, rfl, h⟩)))
 refine qI rfl ?_
 obtain rfl := qh hF; replace hF := hK1
 exact zSR (zp1 rfl (qb (qaF qc h hF ⟨rfl, trivial⟩)))

def qgF (n : Nat) (b : qD) (list : (List qf)) (place : Int) : Option Int :=
 (qgO n b list).bind fun r1 =>
 bif (r1 == 0) then
  (qdR n b).bind fun r2 =>
  (qar n place 0 (W64 (r2 - 1))).bind fun r3 =>
  bif (!r3) then
   some 2
  else
   some r1
 else
  some r1

theorem qly {n : Nat} {w : World} {b : qD} {list : (List qf)} {place : Int} {cs1 : List Value} (ha1 : GoT.R w (old w) b cs1) {cs2 : List Value} (ha2 : GoT.R w (old w) list cs2) {r : Int} (hF : qgF n b list place = some r) : RetV Tryz.prog 41 [GoT.v qD cs1, GoT.v (List qf) cs2, .int .i64 place] w r := by
 obtain ⟨p1, k1, p2, k2, p3, k3, p4, k4, p5, k5, rfl, s1, s2, s3, s4, s5⟩ := qax ha1
 obtain ⟨p6, k6, rfl, s6⟩ := ha2
 refine qe Tryz.func41 rfl (m := 22) rfl rfl (fun h => ?_)
 rw [qgF] at hF
 refine zSR (qP h rfl rfl ?_)
 intro w1 bb1 h
 refine zp1 rfl (zNSR (zl 0 0 h rfl (zp1 rfl ?_)))
 obtain ⟨r1, hr1, hF⟩ := qd hF
 refine qU r1 h call62 (qk7 (h.old ha1) ⟨_, _, rfl, (h.oldS s6)⟩ hr1) rfl rfl rfl rfl ?_
 intro w2 h
 refine zp1 rfl (zNSSR (zp3 rfl ?_))
 by_cases hc1 : (r1 == 0) = true
 ·replace hF := bifT hc1 hF
  refine qF hc1 (t := 13) rfl (qa rfl (zp1 rfl (qa rfl (zl 0 0 h rfl (qa rfl ?_)))))
  obtain ⟨r2, hr2, hF⟩ := qd hF
  refine qU r2 h call78 (qit (h.old ha1) hr2) rfl rfl rfl rfl ?_
  intro w3 h
  refine qa rfl (zp1 rfl (qa rfl ?_))
  obtain ⟨r3, hr3, hF⟩ := qd hF
  refine qp r3 h call77 (qaf hr3) rfl rfl rfl rfl ?_
  intro w4 h
  refine qa rfl (zp2 rfl (qb ?_))
  refine qq rfl hF ?_ ?_ <;> intro hF
  ·exact zSR (zp1 rfl (qb (qaF qc h hF ⟨rfl, trivial⟩)))
  exact zKSR (zp2 rfl (qb (qaF qc h hF ⟨rfl, trivial⟩)))
 replace hc1 := zb hc1
 replace hF := bifF hc1 hF
 refine qE hc1 (t := 13) rfl (zn5 rfl (zn1 rfl (zp1 rfl (qb (qey rfl rfl (zKS ?_))))))
 exact qz (zp2 rfl (qb (qaF qc h hF ⟨rfl, trivial⟩)))

def qdu (n : Nat) (a_e : qf) (v0 : (Option Tview)) : Option Bool :=
 (qdb n v0 a_e).bind fun r1 =>
 some (!r1)

theorem qix {n : Nat} {w : World} {a_e : qf} {v0 : (Option Tview)} {cs1 : List Value} (ha1 : GoT.R w (old w) a_e cs1) {p4 : Option Addr} (ha2 : GoT.R w (old w) (some v0) [.pointer p4]) {r : Bool} (hF : qdu n a_e v0 = some r) : RetV Tryz.prog 110 [GoT.v qf cs1, .pointer p4] w r := by
 obtain ⟨p1, k1, p2, k2, p3, k3, rfl, s1, s2, s3⟩ := qY ha1
 obtain ⟨b1, o_1, cs2, rfl, -, hr1, hc1⟩ := PtR.get ha2 rfl
 obtain ⟨p5, rfl, s4⟩ := qhy hr1
 refine qe Tryz.func110 rfl (m := 8) rfl rfl (fun h => ?_)
 rw [qdu] at hF
 refine zSR (qP h rfl rfl ?_)
 intro w1 bb1 h
 refine zp1 rfl (zNSR (zc 0 (hc1.below h.below) rfl (zl 0 0 h rfl ?_)))
 obtain ⟨r1, hr2, hF⟩ := qd hF
 refine qp r1 h call111 (qio (h.old s4) (h.old ha1) hr2) rfl rfl rfl rfl ?_
 intro w2 h
 exact zp2 rfl (qb (qv qc h hF ⟨rfl, trivial⟩))

def qG (s : (List qf)) (f_0 : (Option Tview)) : Nat → Int → Option (Flow Int Int)
 | 0, _ => none
 | n + 1, i1 =>
  bif decide (i1 < (s.length : Int)) then
   (idx s i1).bind fun y1 =>
   (qdu n y1 f_0).bind fun r1 =>
   bif r1 then
    some (.ret i1)
   else
    qG s f_0 n (W64 (i1 + 1))
  else
   some (.nxt i1)

def qan (n : Nat) (s : (List qf)) (f_0 : (Option Tview)) : Option Int :=
 (qG s f_0 n 0).bind fun o => match o with
 | .ret r => some r
 | .nxt _ =>
  some (-1)

theorem qdA {n : Nat} {w : World} {s : (List qf)} {f_0 : (Option Tview)} {cs1 : List Value} (ha1 : GoT.R w (old w) s cs1) {p2 : Option Addr} (ha2 : GoT.R w (old w) (some f_0) [.pointer p2]) {r : Int} (hF : qan n s f_0 = some r) : RetV Tryz.prog 129 [GoT.v (List qf) cs1, .func (.func 110) #[] #[.pointer p2]] w r := by
 obtain ⟨p1, k1, rfl, s1⟩ := ha1
 obtain ⟨b1, o_1, cs2, rfl, -, hr1, hc1⟩ := PtR.get ha2 rfl
 obtain ⟨p3, rfl, s2⟩ := qhy hr1
 refine qe Tryz.func129 rfl (m := 19) rfl rfl (fun h => ?_)
 rw [qan] at hF
 refine zSR (zp1 rfl (zNSSR (zp3 rfl (qb ?_))))
 obtain ⟨o1, hF, hK1⟩ := qd hF
 refine qw (qR [(0, _), (1, _), (7, _), (8, _)] ⟨rfl, rfl, rfl, rfl, trivial⟩ ?_)
 refine qH (fun m e w' => ∃ (i1 : Int), qG s f_0 m i1 = some o1 ∧ e = [(0, .slice p1 s.length k1), (1, .func (.func 110) #[] #[.pointer (some ⟨b1, o_1, none⟩)]), (7, .int .i64 (s.length : Int)), (8, .int .i64 i1)] ∧ SH w w' []) n ⟨_, hF, rfl, h⟩ ?_
 rintro m1 e1 w1 ⟨i1, hF, rfl, h⟩
 rcases m1 with _ | m1
 ·rw [qG] at hF
  cases hF
 rw [qG] at hF
 refine zSR (zp1 rfl (zNS ?_))
 refine qq rfl hF ?_ ?_ <;> intro hF
 ·refine zKSBSR (zp2 rfl (zNSR (zp2 rfl ?_)))
  refine zp1 rfl ?_
  obtain ⟨y1, hy1, hF⟩ := qd hF
  have he1 := qg hy1
  obtain ⟨b2, o_2, q1, cs3, hp1, hq1, -, hr2, hc3⟩ := s1.at hy1
  obtain ⟨p4, k2, p5, k3, p6, k4, rfl, s3, s4, s5⟩ := qY hr2
  refine zxe hp1 hq1 he1 rfl (zc 0 (hc3.below h.below) rfl ?_)
  obtain ⟨r1, hr3, hF⟩ := qd hF
  refine qp r1 h call110 (qix (qd4 y1 (h.oldS s3) (h.oldS s4) (h.oldS s5)) (h.old ha2) hr3) rfl rfl rfl rfl ?_
  intro w2 h
  refine qb ?_
  refine qq rfl hF ?_ ?_ <;> intro hF
  ·refine zSR (zp2 rfl (qb ?_))
   obtain rfl := qh hF; replace hF := hK1
   exact qaF qc h hF ⟨rfl, trivial⟩
  exact zKER (zp2 rfl (qb (qA m1 [(0, _), (1, _), (7, _), (8, _)] (Nat.lt_succ_self m1) ⟨rfl, rfl, rfl, rfl, trivial⟩ ⟨_, hF, rfl, h⟩)))
 refine qI rfl ?_
 obtain rfl := qh hF; replace hF := hK1
 exact zSR (zp1 rfl (qb (qaF qc h hF ⟨rfl, trivial⟩)))

def qW (n : Nat) (s : (List qf)) (f_0 : (Option Tview)) : Option Bool :=
 (qan n s f_0).bind fun r1 =>
 some (decide (r1 ≥ 0))

theorem qdf {n : Nat} {w : World} {s : (List qf)} {f_0 : (Option Tview)} {cs1 : List Value} (ha1 : GoT.R w (old w) s cs1) {p2 : Option Addr} (ha2 : GoT.R w (old w) (some f_0) [.pointer p2]) {r : Bool} (hF : qW n s f_0 = some r) : RetV Tryz.prog 90 [GoT.v (List qf) cs1, .func (.func 110) #[] #[.pointer p2]] w r := by
 obtain ⟨p1, k1, rfl, s1⟩ := ha1
 obtain ⟨b1, o_1, cs2, rfl, -, hr1, hc1⟩ := PtR.get ha2 rfl
 obtain ⟨p3, rfl, s2⟩ := qhy hr1
 refine qe Tryz.func90 rfl (m := 9) rfl rfl (fun h => ?_)
 rw [qW] at hF
 refine zSR (zp1 rfl (zNSR (zp2 rfl ?_)))
 obtain ⟨r1, hr2, hF⟩ := qd hF
 refine qU r1 h call129 (qdA ⟨_, _, rfl, (h.oldS s1)⟩ (h.old ha2) hr2) rfl rfl rfl rfl ?_
 intro w1 h
 exact zp2 rfl (qb (qv qc h hF ⟨rfl, trivial⟩))

def qec (n : Nat) (b : qD) (list : (List qf)) : Option ((Option Tview) × Int) :=
 (qgU n b).bind fun r1 =>
 bif (!r1) then
  some (none, 1)
 else
  bif decide ((list.length : Int) > 6) then
   some (none, 3)
  else
   (qg3 n b).bind fun r2 =>
   (qW n list r2).bind fun r3 =>
   bif r3 then
    some (none, 5)
   else
    some (r2, 0)

theorem qi4 {n : Nat} {w : World} {A : Nat → Prop} (hA : ∀ b, A b → old w b) {b : qD} {list : (List qf)} {cs1 : List Value} (ha1 : GoT.R w A b cs1) {cs2 : List Value} (ha2 : GoT.R w A list cs2) {r : ((Option Tview) × Int)} (hF : qec n b list = some r) : RetG Tryz.prog 66 [GoT.v qD cs1, GoT.v (List qf) cs2] w A r := by
 obtain ⟨p1, k1, p2, k2, p3, k3, p4, k4, p5, k5, rfl, s1, s2, s3, s4, s5⟩ := qax ha1
 obtain ⟨p6, k6, rfl, s6⟩ := ha2
 have hg := Rg.start hA
 refine qi5 Tryz.func66 rfl (m := 21) rfl rfl (fun h => ?_)
 rw [qec] at hF
 refine zSR (qP h rfl rfl ?_)
 intro w1 bb1 h
 refine zp2 rfl (zNSB (zSR (zl 0 0 h rfl ?_)))
 obtain ⟨r1, hr1, hF⟩ := qd hF
 refine qp r1 h call108 (qlp (h.old (GoT.mono ha1 hg.old)) hr1) rfl rfl rfl rfl ?_
 intro w2 h
 refine zp2 rfl (qb ?_)
 refine qq rfl hF ?_ ?_ <;> intro hF
 ·refine zSR (zp2 rfl (qb ?_))
  obtain rfl := qh hF
  have hv1 : GoRs.Rs (ρ := ((Option Tview) × Int)) h.wc (reg A w h.wc) (none, 1) [GoT.v (Option Tview) [.pointer none], GoT.v Int [.int .i64 1]] := ⟨_, _, rfl, rfl, ⟨_, rfl, rfl⟩⟩
  exact qjy qc (ρ := ((Option Tview) × Int)) (r := (none, 1)) [GoT.v (Option Tview) [.pointer none], GoT.v Int [.int .i64 1]] h ⟨rfl, rfl, trivial⟩ hv1
 refine zSR (zp4 rfl (qb ?_))
 refine qq rfl hF ?_ ?_ <;> intro hF
 ·refine zSR (zp2 rfl (qb ?_))
  obtain rfl := qh hF
  have hv2 : GoRs.Rs (ρ := ((Option Tview) × Int)) h.wc (reg A w h.wc) (none, 3) [GoT.v (Option Tview) [.pointer none], GoT.v Int [.int .i64 3]] := ⟨_, _, rfl, rfl, ⟨_, rfl, rfl⟩⟩
  exact qjy qc (ρ := ((Option Tview) × Int)) (r := (none, 3)) [GoT.v (Option Tview) [.pointer none], GoT.v Int [.int .i64 3]] h ⟨rfl, rfl, trivial⟩ hv2
 refine zKE (zSR (zl 0 0 h rfl ?_))
 obtain ⟨r2, hr2, hF⟩ := qd hF
 refine qnm r2 hg h call109 (qk9 (hg.regOld h) (hg.inR h ha1) hr2) rfl rfl rfl rfl ?_
 intro w3 us1 B1 hg1 hu1 hz1 hv3
 have hL1 := h.ext hu1.below
 have s7 := Up.S hg h hu1 s6
 have hb1 := h.below.trans (hu1.below.mono h.below.size)
 replace h := hz1
 obtain ⟨cs3, rfl, hr3⟩ := qoi hv3
 obtain ⟨p7, rfl, s8⟩ := qhy hr3
 refine qah qc h rfl rfl rfl ?_
 intro w4 bb2 h
 refine zs 0 h rfl ?_
 intro w5 h
 refine zNSSR (zp2 rfl ?_)
 obtain ⟨r3, hr4, hF⟩ := qd hF
 refine qp r3 h call90 (qdf ⟨_, _, rfl, (h.oldS (s7.mono hg1.old))⟩ (qib (x := r2) 0 h rfl (h.old (GoT.mono s8 hg1.old))) hr4) rfl rfl rfl rfl ?_
 intro w6 h
 refine qb ?_
 refine qq rfl hF ?_ ?_ <;> intro hF
 ·refine zSR (zp2 rfl (qb ?_))
  obtain rfl := qh hF
  have hv4 : GoRs.Rs (ρ := ((Option Tview) × Int)) h.wc (reg A w h.wc) (none, 5) [GoT.v (Option Tview) [.pointer none], GoT.v Int [.int .i64 5]] := ⟨_, _, rfl, rfl, ⟨_, rfl, rfl⟩⟩
  exact qjy qc (ρ := ((Option Tview) × Int)) (r := (none, 5)) [GoT.v (Option Tview) [.pointer none], GoT.v Int [.int .i64 5]] (h.unbase hg1.below ⟨fun _ h => h, trivial⟩) ⟨rfl, rfl, trivial⟩ hv4
 refine zKSR (zl 0 0 h rfl (zp2 rfl (qb ?_)))
 obtain rfl := qh hF
 have hv5 : GoRs.Rs (ρ := ((Option Tview) × Int)) h.wc (reg A w h.wc) (r2, 0) [GoT.v (Option Tview) [.pointer p7], GoT.v Int [.int .i64 0]] := ⟨_, _, rfl, (hg1.outR h (hg1.inR h s8)), ⟨_, rfl, rfl⟩⟩
 exact qjy qc (ρ := ((Option Tview) × Int)) (r := (r2, 0)) [GoT.v (Option Tview) [.pointer p7], GoT.v Int [.int .i64 0]] (h.unbase hg1.below ⟨fun _ h => h, trivial⟩) ⟨rfl, rfl, trivial⟩ hv5

def qes (n : Nat) (v : (Option Tview)) (place : Int) : Option Bool :=
 (v).bind fun y1 =>
 (qbd n y1.places).bind fun r1 =>
 (qaI n place 0 (W64 (r1 - 1))).bind fun r2 =>
 some r2

theorem qju {n : Nat} {w : World} {v : (Option Tview)} {place : Int} {cs1 : List Value} (ha1 : GoT.R w (old w) v cs1) {r : Bool} (hF : qes n v place = some r) : RetV Tryz.prog 85 [GoT.v (Option Tview) cs1, .int .i64 place] w r := by
 obtain ⟨p1, rfl, s1⟩ := qhy ha1
 refine qe Tryz.func85 rfl (m := 13) rfl rfl (fun h => ?_)
 rw [qes] at hF
 refine zSR (zp1 rfl (zNSR (zp2 rfl ?_)))
 obtain ⟨y1, hy1, hF⟩ := qd hF
 obtain ⟨b1, o_1, cs2, rfl, -, hr1, hc1⟩ := PtR.get s1 hy1
 obtain ⟨p2, k1, p3, k2, p4, k3, p5, k4, p6, k5, p7, k6, p8, k7, p9, k8, p10, k9, p11, k10, rfl, s2, s3, s4, s5, s6, s7, s8, s9, s10, s11⟩ := qlU hr1
 refine zp2 rfl (zc 5 (hc1.below h.below) rfl ?_)
 obtain ⟨r1, hr2, hF⟩ := qd hF
 refine qU r1 h call113 (qfY ⟨_, _, rfl, (h.oldS s7)⟩ hr2) rfl rfl rfl rfl ?_
 intro w1 h
 refine zp1 rfl ?_
 obtain ⟨r2, hr3, hF⟩ := qd hF
 refine qp r2 h call86 (qap hr3) rfl rfl rfl rfl ?_
 intro w2 h
 exact zp1 rfl (qb (qv qc h hF ⟨rfl, trivial⟩))

def qgV (n : Nat) (b : qD) (list : (List qf)) (place : Int) : Option ((Option Tview) × Int) :=
 (qec n b list).bind fun o => match o with
  | (r2, r3) =>
   bif (r3 == 0) then
    (qes n r2 place).bind fun r4 =>
    bif (!r4) then
     some (none, 2)
    else
     some (r2, r3)
   else
    some (r2, r3)

theorem qk4 {n : Nat} {w : World} {A : Nat → Prop} (hA : ∀ b, A b → old w b) {b : qD} {list : (List qf)} {place : Int} {cs1 : List Value} (ha1 : GoT.R w A b cs1) {cs2 : List Value} (ha2 : GoT.R w A list cs2) {r : ((Option Tview) × Int)} (hF : qgV n b list place = some r) : RetG Tryz.prog 48 [GoT.v qD cs1, GoT.v (List qf) cs2, .int .i64 place] w A r := by
 obtain ⟨p1, k1, p2, k2, p3, k3, p4, k4, p5, k5, rfl, s1, s2, s3, s4, s5⟩ := qax ha1
 obtain ⟨p6, k6, rfl, s6⟩ := ha2
 have hg := Rg.start hA
 refine qi5 Tryz.func48 rfl (m := 26) rfl rfl (fun h => ?_)
 rw [qgV] at hF
 refine zSR (qP h rfl rfl ?_)
 intro w1 bb1 h
 refine zp2 rfl (zNSR (zl 0 0 h rfl (zp1 rfl ?_)))
 obtain ⟨r1, hr1, hF⟩ := qd hF
 obtain ⟨r2, r3⟩ := r1
 refine qnm (r2, r3) hg h call66 (qi4 (hg.regOld h) (hg.inR h ha1) ⟨_, _, rfl, (hg.inS h s6)⟩ hr1) rfl rfl rfl rfl ?_
 intro w2 us1 B1 hg1 hu1 hz1 hv1
 have hL1 := h.ext hu1.below
 have hb1 := h.below.trans (hu1.below.mono h.below.size)
 replace h := hz1
 obtain ⟨cs3, us2, rfl, hr2, hv2⟩ := qo7 hv1
 obtain ⟨p7, rfl, s7⟩ := qhy hr2
 obtain ⟨cs4, rfl, hr3⟩ := qoi hv2
 obtain rfl := hr3
 refine zp5 rfl (zNSSR (zp3 rfl ?_))
 by_cases hc1 : (r3 == 0) = true
 ·replace hF := bifT hc1 hF
  refine qF hc1 (t := 18) rfl (qa rfl (zp1 rfl (qa rfl (zp1 rfl (qa rfl ?_)))))
  obtain ⟨r4, hr4, hF⟩ := qd hF
  refine qp r4 h call85 (qju (h.old (GoT.mono s7 hg1.old)) hr4) rfl rfl rfl rfl ?_
  intro w3 h
  refine qa rfl (zp2 rfl (qb ?_))
  refine qq rfl hF ?_ ?_ <;> intro hF
  ·refine zSR (zp2 rfl (qb ?_))
   obtain rfl := qh hF
   have hv3 : GoRs.Rs (ρ := ((Option Tview) × Int)) h.wc (reg A w h.wc) (none, 2) [GoT.v (Option Tview) [.pointer none], GoT.v Int [.int .i64 2]] := ⟨_, _, rfl, rfl, ⟨_, rfl, rfl⟩⟩
   exact qjy qc (ρ := ((Option Tview) × Int)) (r := (none, 2)) [GoT.v (Option Tview) [.pointer none], GoT.v Int [.int .i64 2]] (h.unbase hg1.below (show NoD [] from trivial)) ⟨rfl, rfl, trivial⟩ hv3
  refine zKSR (zp4 rfl (qb ?_))
  obtain rfl := qh hF
  have hv4 : GoRs.Rs (ρ := ((Option Tview) × Int)) h.wc (reg A w h.wc) (r2, r3) [GoT.v (Option Tview) [.pointer p7], GoT.v Int [.int .i64 r3]] := ⟨_, _, rfl, (hg1.outR h (hg1.inR h s7)), ⟨_, rfl, rfl⟩⟩
  exact qjy qc (ρ := ((Option Tview) × Int)) (r := (r2, r3)) [GoT.v (Option Tview) [.pointer p7], GoT.v Int [.int .i64 r3]] (h.unbase hg1.below (show NoD [] from trivial)) ⟨rfl, rfl, trivial⟩ hv4
 replace hc1 := zb hc1
 replace hF := bifF hc1 hF
 refine qE hc1 (t := 18) rfl (zn4 rfl (zp1 rfl (qb (qey rfl rfl (zKSR (zp1 rfl ?_))))))
 refine zp3 rfl (qb ?_)
 obtain rfl := qh hF
 have hv5 : GoRs.Rs (ρ := ((Option Tview) × Int)) h.wc (reg A w h.wc) (r2, r3) [GoT.v (Option Tview) [.pointer p7], GoT.v Int [.int .i64 r3]] := ⟨_, _, rfl, (hg1.outR h (hg1.inR h s7)), ⟨_, rfl, rfl⟩⟩
 exact qjy qc (ρ := ((Option Tview) × Int)) (r := (r2, r3)) [GoT.v (Option Tview) [.pointer p7], GoT.v Int [.int .i64 r3]] (h.unbase hg1.below (show NoD [] from trivial)) ⟨rfl, rfl, trivial⟩ hv5

def qb0 (list : (List qf)) (tag : (List Int)) (place : Int) : Nat → (List Int) → Int → Option ((List Int) × Int)
 | 0, _, _ => none
 | n + 1, x1, i1 =>
  bif decide (i1 < (list.length : Int)) then
   (idx tag i1).bind fun y1 =>
   (
    bif decide (y1 ≥ 0) then
     (idx list i1).bind fun y2 =>
     bif decide (y1 < (y2.Through.length : Int)) then
      (idx list i1).bind fun y3 =>
      (idx y3.Through y1).bind fun y4 =>
      some (y4 == place)
     else
      some false
    else
     some false).bind fun b2 =>
   bif b2 then
    (appS x1 ([W64 (y1 + 1)] : List Int)).bind fun x2 =>
    qb0 list tag place n x2 (W64 (i1 + 1))
   else
    (appS x1 ([y1] : List Int)).bind fun x3 =>
    qb0 list tag place n x3 (W64 (i1 + 1))
  else
   some (x1, i1)

def qg8 (n : Nat) (list : (List qf)) (tag : (List Int)) (place : Int) : Option (List Int) :=
 (qb0 list tag place n ([] : List Int) 0).bind fun o => match o with
 | (x1, _) =>
  some x1

theorem qk8 {n : Nat} {w : World} {list : (List qf)} {tag : (List Int)} {place : Int} {cs1 : List Value} (ha1 : GoT.R w (old w) list cs1) {cs2 : List Value} (ha2 : GoT.R w (old w) tag cs2) {r : (List Int)} (hF : qg8 n list tag place = some r) : RetV Tryz.prog 55 [GoT.v (List qf) cs1, GoT.v (List Int) cs2, .int .i64 place] w r := by
 obtain ⟨p1, k1, rfl, s1⟩ := ha1
 obtain ⟨p2, k2, rfl, s2⟩ := ha2
 refine qe Tryz.func55 rfl (m := 52) rfl rfl (fun h => ?_)
 rw [qg8] at hF
 refine zSR (zp1 rfl (zNSR (qaY qc [] _ ([] : List Int) h rfl rfl rfl rfl rfl rfl rfl rfl rfl trivial rfl ?_)))
 intro w1 p3 S1 h
 refine zp1 rfl (zNSSR (zp1 rfl (qb ?_)))
 obtain ⟨o1, hF, hK1⟩ := qd hF
 refine qw (qR [(0, _), (1, _), (2, _), (7, _), (8, _)] ⟨rfl, rfl, rfl, rfl, rfl, trivial⟩ ?_)
 refine qH (fun m e w' => ∃ (S2 : Nat → Prop) (p4 : Option Addr) (ln1 : Nat) (k3 : Nat) (x1 : (List Int)) (i1 : Int), qb0 list tag place m x1 i1 = some o1 ∧ e = [(0, .slice p1 list.length k1), (1, .slice p2 tag.length k2), (2, .int .i64 place), (7, .slice p4 ln1 k3), (8, .int .i64 i1)] ∧ SH w w' [Ch.own S2 (x1 : List Int) [.slice p4 ln1 k3]]) n ⟨_, _, _, _, _, _, hF, rfl, h⟩ ?_
 rintro m1 e1 w2 ⟨S2, p4, ln1, k3, x1, i1, hF, rfl, h⟩
 obtain rfl := (h.sl 0 rfl).2
 rcases m1 with _ | m1
 ·rw [qb0] at hF
  cases hF
 rw [qb0] at hF
 refine zSSR (zp4 rfl (qb ?_))
 refine qq rfl hF ?_ ?_ <;> intro hF
 ·refine zKSBSR (zp2 rfl ?_)
  obtain ⟨y1, hy1, hF⟩ := qd hF
  have he1 := qg hy1
  obtain ⟨b1, o_1, q1, cs3, hp1, hq1, -, hr1, hc2⟩ := s2.at hy1
  obtain rfl := hr1
  refine zxe hp1 hq1 he1 rfl (zc 0 (hc2.below h.below) rfl (zp1 rfl (zNSS ?_)))
  obtain ⟨KF1, hKF1, o2, hF, hK2⟩ := bindE hF
  refine qeG (fun e w' => ∃ (b2 : Bool), KF1 b2 = some o1 ∧ e = [(0, .slice p1 list.length k1), (1, .slice p2 tag.length k2), (2, .int .i64 place), (7, .slice p4 x1.length k3), (8, .int .i64 i1), (9, .int .i64 y1), (44, .bool b2)] ∧ SH w w' [Ch.own S2 (x1 : List Int) [.slice p4 x1.length k3]]) ?_ ?_
  ·refine qz (zp3 rfl ?_)
   by_cases hc4 : (decide (y1 ≥ 0)) = true
   ·replace hF := bifT hc4 hF
    refine qF hc4 (t := 23) rfl (qa rfl (zp1 rfl (qa rfl (zp1 rfl (qa rfl (zp1 rfl (qa rfl ?_)))))))
    obtain ⟨y2, hy2, hF⟩ := qd hF
    have he2 := qg hy2
    obtain ⟨b3, o_2, q2, cs4, hp2, hq2, -, hr2, hc5⟩ := s1.at hy2
    obtain ⟨p9, k6, p10, k7, p11, k8, rfl, s3, s4, s5⟩ := qY hr2
    refine zxe hp2 hq2 he2 rfl (qa rfl (zp1 rfl (qa rfl (zc 3 (hc5.below h.below) rfl (qa rfl (zp1 rfl (qa rfl (zp3 rfl ?_))))))))
    by_cases hc6 : (decide (y1 < (y2.Through.length : Int))) = true
    ·replace hF := bifT hc6 hF
     refine qF hc6 (t := 33) rfl (qa rfl (zp1 rfl (qa rfl (zp1 rfl (qa rfl ?_)))))
     obtain ⟨y3, hy3, hF⟩ := qd hF
     have he3 := qg hy3
     obtain ⟨b4, o_3, q3, cs5, hp3, hq3, -, hr3, hc7⟩ := s1.at hy3
     obtain ⟨p12, k9, p13, k10, p14, k11, rfl, s6, s7, s8⟩ := qY hr3
     refine zxe hp3 hq3 he3 rfl (qa rfl (zp1 rfl (qa rfl (zc 3 (hc7.below h.below) rfl (qa rfl (zp1 rfl (qa rfl ?_)))))))
     obtain ⟨y4, hy4, hF⟩ := qd hF
     have he4 := qg hy4
     obtain ⟨b5, o_4, q4, cs6, hp4, hq4, -, hr4, hc8⟩ := s7.at hy4
     obtain rfl := hr4
     refine zxe hp4 hq4 he4 rfl (qa rfl (zc 0 (hc8.below h.below) rfl (qa rfl (zp1 rfl (qa rfl (zp2 rfl (qb ?_)))))))
     obtain rfl := qh hF
     exact qy [(0, _), (1, _), (2, _), (7, _), (8, _), (9, _), (44, _)] ⟨rfl, rfl, rfl, rfl, rfl, rfl, rfl, trivial⟩ ⟨_, hK2, rfl, h⟩
    replace hc6 := zb hc6
    replace hF := bifF hc6 hF
    refine qE hc6 (t := 33) rfl (zn5 rfl (zn5 rfl (zp1 rfl ?_)))
    refine qb ?_
    obtain rfl := qh hF
    exact qy [(0, _), (1, _), (2, _), (7, _), (8, _), (9, _), (44, _)] ⟨rfl, rfl, rfl, rfl, rfl, rfl, rfl, trivial⟩ ⟨_, hK2, rfl, h⟩
   replace hc4 := zb hc4
   replace hF := bifF hc4 hF
   refine qE hc4 (t := 23) rfl (zn5 rfl (zn3 rfl (zp2 rfl (zn1 rfl ?_))))
   refine zn5 rfl (zn4 rfl (zp1 rfl (qb ?_)))
   obtain rfl := qh hF
   exact qy [(0, _), (1, _), (2, _), (7, _), (8, _), (9, _), (44, _)] ⟨rfl, rfl, rfl, rfl, rfl, rfl, rfl, trivial⟩ ⟨_, hK2, rfl, h⟩
  rintro e2 w7 ⟨b2, hF, rfl, h⟩
  subst hKF1
  refine qq rfl hF ?_ ?_ <;> intro hF
  ·refine qz (zp3 rfl (qb (qz (zp2 rfl (qaY qc [.tmp 48] _ ([W64 (y1 + 1)] : List Int) h rfl rfl rfl rfl rfl rfl rfl rfl rfl ⟨rfl, trivial⟩ rfl ?_)))))
   intro w3 p5 S3 h
   obtain ⟨x2, hx1, hF⟩ := qd hF
   obtain ⟨g1, hx1⟩ := qbt hx1
   refine qeW qc 1 h rfl (h.sl 0 rfl).1 (h.sl 0 rfl).2 rfl rfl rfl rfl rfl rfl rfl rfl rfl g1 hx1 rfl ?_
   intro w4 p6 k4 S4 h
   refine zp1 rfl (zNER (zp3 rfl (qb ?_)))
   replace h := h.pick [1] rfl
   exact qA m1 [(0, _), (1, _), (2, _), (7, _), (8, _)] (Nat.lt_succ_self m1) ⟨rfl, rfl, rfl, rfl, rfl, trivial⟩ ⟨_, _, _, _, _, _, hF, rfl, h⟩
  refine qdO (qz (zp2 rfl (qaY qc [.tmp 48] _ ([y1] : List Int) h rfl rfl rfl rfl rfl rfl rfl rfl rfl ⟨rfl, trivial⟩ rfl ?_)))
  intro w5 p7 S5 h
  obtain ⟨x3, hx2, hF⟩ := qd hF
  obtain ⟨g2, hx2⟩ := qbt hx2
  refine qeW qc 1 h rfl (h.sl 0 rfl).1 (h.sl 0 rfl).2 rfl rfl rfl rfl rfl rfl rfl rfl rfl g2 hx2 rfl ?_
  intro w6 p8 k5 S6 h
  refine zp1 rfl (zNER (zp3 rfl (qb ?_)))
  replace h := h.pick [1] rfl
  exact qA m1 [(0, _), (1, _), (2, _), (7, _), (8, _)] (Nat.lt_succ_self m1) ⟨rfl, rfl, rfl, rfl, rfl, trivial⟩ ⟨_, _, _, _, _, _, hF, rfl, h⟩
 refine qI rfl ?_
 obtain rfl := qh hF; replace hF := hK1
 refine zSR (zp2 rfl (qb ?_))
 obtain rfl := qh hF
 exact qay qc (ρ := (List Int)) [GoT.v (List Int) [.slice p4 x1.length k3]] h ⟨rfl, trivial⟩ (PV.done h (qaG (qab 0 h rfl)))

def qcY (list : (List qf)) (tag : (List Int)) : Nat → Int → Option (Flow Bool Int)
 | 0, _ => none
 | n + 1, i1 =>
  bif decide (i1 < (tag.length : Int)) then
   (idx tag i1).bind fun y1 =>
   (idx list i1).bind fun y2 =>
   (qar n y1 (-1) (y2.Through.length : Int)).bind fun r1 =>
   bif (!r1) then
    some (.ret false)
   else
    qcY list tag n (W64 (i1 + 1))
  else
   some (.nxt i1)

def qgZ (n : Nat) (list : (List qf)) (tag : (List Int)) : Option Bool :=
 bif ((tag.length : Int) != (list.length : Int)) then
  some false
 else
  (qcY list tag n 0).bind fun o => match o with
  | .ret r => some r
  | .nxt _ =>
   some true

theorem qlf {n : Nat} {w : World} {list : (List qf)} {tag : (List Int)} {cs1 : List Value} (ha1 : GoT.R w (old w) list cs1) {cs2 : List Value} (ha2 : GoT.R w (old w) tag cs2) {r : Bool} (hF : qgZ n list tag = some r) : RetV Tryz.prog 42 [GoT.v (List qf) cs1, GoT.v (List Int) cs2] w r := by
 obtain ⟨p1, k1, rfl, s1⟩ := ha1
 obtain ⟨p2, k2, rfl, s2⟩ := ha2
 refine qe Tryz.func42 rfl (m := 29) rfl rfl (fun h => ?_)
 rw [qgZ] at hF
 refine zSR (zp1 rfl (zNSSR (zp5 rfl ?_)))
 refine qb ?_
 refine qq rfl hF ?_ ?_ <;> intro hF
 ·exact zSR (zp1 rfl (qb (qv qc h hF ⟨rfl, trivial⟩)))
 refine zKSSR (zp1 rfl (qb ?_))
 obtain ⟨o1, hF, hK1⟩ := qd hF
 refine qw (qR [(0, _), (1, _), (5, _)] ⟨rfl, rfl, rfl, trivial⟩ ?_)
 refine qH (fun m e w' => ∃ (i1 : Int), qcY list tag m i1 = some o1 ∧ e = [(0, .slice p1 list.length k1), (1, .slice p2 tag.length k2), (5, .int .i64 i1)] ∧ SH w w' []) n ⟨_, hF, rfl, h⟩ ?_
 rintro m1 e1 w1 ⟨i1, hF, rfl, h⟩
 rcases m1 with _ | m1
 ·rw [qcY] at hF
  cases hF
 rw [qcY] at hF
 refine zSSR (zp4 rfl (qb ?_))
 refine qq rfl hF ?_ ?_ <;> intro hF
 ·refine zKSB (qbm ?_)
  refine qcU rfl (by kernel_rfl) ?_
  refine zd2 rfl ?_
  obtain ⟨y1, hy1, hF⟩ := qd hF
  have he1 := qg hy1
  obtain ⟨b1, o_1, q1, cs3, hp1, hq1, -, hr1, hc3⟩ := s2.at hy1
  obtain rfl := hr1
  refine zdxe hp1 hq1 he1 rfl ?_
  refine zdc 0 (hc3.below h.below) rfl ?_
  refine zd2 rfl ?_
  obtain ⟨y2, hy2, hF⟩ := qd hF
  have he2 := qg hy2
  obtain ⟨b2, o_2, q2, cs4, hp2, hq2, -, hr2, hc4⟩ := s1.at hy2
  obtain ⟨p3, k3, p4, k4, p5, k5, rfl, s3, s4, s5⟩ := qY hr2
  refine zdxe hp2 hq2 he2 rfl ?_
  refine zd1 rfl ?_
  refine zdc 3 (hc4.below h.below) rfl ?_
  refine zd1 rfl ?_
  obtain ⟨r1, hr3, hF⟩ := qd hF
  refine qcn r1 (vsB _) call77 (fun _ hb => qaf  hr3) rfl rfl rfl rfl ?_
  refine zd1 rfl ?_
  refine qbk (fun w2 hb => ?_)
  replace h := h.ext hb
  clear hb
  refine qq rfl hF ?_ ?_ <;> intro hF
  ·refine zSR (zp1 rfl (qb ?_))
   obtain rfl := qh hF; replace hF := hK1
   exact qv qc h hF ⟨rfl, trivial⟩
  exact zKER (zp3 rfl (qb (qA m1 [(0, _), (1, _), (5, _)] (Nat.lt_succ_self m1) ⟨rfl, rfl, rfl, trivial⟩ ⟨_, hF, rfl, h⟩)))
 refine qI rfl ?_
 obtain rfl := qh hF; replace hF := hK1
 exact zSR (zp1 rfl (qb (qv qc h hF ⟨rfl, trivial⟩)))

def qev (list : (List qf)) (tag : (List Int)) : Nat → Int → Option (Flow Bool Int)
 | 0, _ => none
 | n + 1, i1 =>
  bif decide (i1 < (list.length : Int)) then
   (idx list i1).bind fun y1 =>
   (idx tag i1).bind fun y2 =>
   (qas n y1.Through).bind fun r1 =>
   (qaI n y2 (-1) r1).bind fun r2 =>
   bif (!r2) then
    some (.ret false)
   else
    qev list tag n (W64 (i1 + 1))
  else
   some (.nxt i1)

def qiz (n : Nat) (list : (List qf)) (tag : (List Int)) : Option Bool :=
 bif ((tag.length : Int) != (list.length : Int)) then
  some false
 else
  (qev list tag n 0).bind fun o => match o with
  | .ret r => some r
  | .nxt _ =>
   some true

theorem qnp {n : Nat} {w : World} {list : (List qf)} {tag : (List Int)} {cs1 : List Value} (ha1 : GoT.R w (old w) list cs1) {cs2 : List Value} (ha2 : GoT.R w (old w) tag cs2) {r : Bool} (hF : qiz n list tag = some r) : RetV Tryz.prog 49 [GoT.v (List qf) cs1, GoT.v (List Int) cs2] w r := by
 obtain ⟨p1, k1, rfl, s1⟩ := ha1
 obtain ⟨p2, k2, rfl, s2⟩ := ha2
 refine qe Tryz.func49 rfl (m := 29) rfl rfl (fun h => ?_)
 rw [qiz] at hF
 refine zSR (zp1 rfl (zNSSR (zp5 rfl ?_)))
 refine qb ?_
 refine qq rfl hF ?_ ?_ <;> intro hF
 ·exact zSR (zp1 rfl (qb (qv qc h hF ⟨rfl, trivial⟩)))
 refine zKSSR (zp3 rfl (qb ?_))
 obtain ⟨o1, hF, hK1⟩ := qd hF
 refine qw (qR [(1, _), (12, _), (13, _), (14, _)] ⟨rfl, rfl, rfl, rfl, trivial⟩ ?_)
 refine qH (fun m e w' => ∃ (i1 : Int), qev list tag m i1 = some o1 ∧ e = [(1, .slice p2 tag.length k2), (12, .slice p1 list.length k1), (13, .int .i64 (list.length : Int)), (14, .int .i64 i1)] ∧ SH w w' []) n ⟨_, hF, rfl, h⟩ ?_
 rintro m1 e1 w1 ⟨i1, hF, rfl, h⟩
 rcases m1 with _ | m1
 ·rw [qev] at hF
  cases hF
 rw [qev] at hF
 refine zSR (zp1 rfl (zNS ?_))
 refine qq rfl hF ?_ ?_ <;> intro hF
 ·refine zKSBSR (zp1 rfl ?_)
  obtain ⟨y1, hy1, hF⟩ := qd hF
  have he1 := qg hy1
  obtain ⟨b1, o_1, q1, cs3, hp1, hq1, -, hr1, hc3⟩ := s1.at hy1
  obtain ⟨p3, k3, p4, k4, p5, k5, rfl, s3, s4, s5⟩ := qY hr1
  refine zxe hp1 hq1 he1 rfl (zc 0 (hc3.below h.below) rfl (qah qc h rfl rfl rfl ?_))
  intro w2 bb1 h
  refine zp1 rfl (zs 0 h rfl ?_)
  intro w3 h
  refine zNS ?_
  refine qcU rfl (by kernel_rfl) ?_
  refine zd2 rfl ?_
  obtain ⟨y2, hy2, hF⟩ := qd hF
  have he2 := qg hy2
  obtain ⟨b2, o_2, q2, cs4, hp2, hq2, -, hr2, hc4⟩ := s2.at hy2
  obtain rfl := hr2
  refine zdxe hp2 hq2 he2 rfl ?_
  refine zdc 0 (hc4.below h.below) rfl ?_
  refine zd1 rfl ?_
  refine zdl 0 3 h rfl ?_
  obtain ⟨r1, hr3, hF⟩ := qd hF
  refine qcn r1 (vsI _) call87 (fun _ hb => qbp ⟨_, _, rfl, ((h.ext hb).oldS s4)⟩ hr3) rfl rfl rfl rfl ?_
  obtain ⟨r2, hr4, hF⟩ := qd hF
  refine qcn r2 (vsB _) call86 (fun _ hb => qap  hr4) rfl rfl rfl rfl ?_
  refine zd1 rfl ?_
  refine qbk (fun w4 hb => ?_)
  replace h := h.ext hb
  clear hb
  refine qq rfl hF ?_ ?_ <;> intro hF
  ·refine zSR (zp1 rfl (qb ?_))
   obtain rfl := qh hF; replace hF := hK1
   exact qv qc h hF ⟨rfl, trivial⟩
  refine zKER (zp2 rfl (qb ?_))
  replace h := h.pick [] rfl
  exact qA m1 [(1, _), (12, _), (13, _), (14, _)] (Nat.lt_succ_self m1) ⟨rfl, rfl, rfl, rfl, trivial⟩ ⟨_, hF, rfl, h⟩
 refine qI rfl ?_
 obtain rfl := qh hF; replace hF := hK1
 exact zSR (zp1 rfl (qb (qv qc h hF ⟨rfl, trivial⟩)))

def qcs (list : (List qf)) (tag : (List Int)) (place : Int) : Nat → (List Int) → Int → Option ((List Int) × Int)
 | 0, _, _ => none
 | n + 1, x1, i1 =>
  bif decide (i1 < (list.length : Int)) then
   (idx list i1).bind fun y1 =>
   (idx tag i1).bind fun y2 =>
   (qdI n y1 y2 place).bind fun r2 =>
   (idx x1 i1).bind fun _ =>
   qcs list tag place n (setS x1 i1 r2) (W64 (i1 + 1))
  else
   some (x1, i1)

def qgM (n : Nat) (list : (List qf)) (tag : (List Int)) (place : Int) : Option (List Int) :=
 (qdi n tag).bind fun r1 =>
 (qcs list tag place n r1 0).bind fun o => match o with
 | (x1, _) =>
  some x1

theorem qk2 {n : Nat} {w : World} {list : (List qf)} {tag : (List Int)} {place : Int} {cs1 : List Value} (ha1 : GoT.R w (old w) list cs1) {cs2 : List Value} (ha2 : GoT.R w (old w) tag cs2) {r : (List Int)} (hF : qgM n list tag place = some r) : RetV Tryz.prog 56 [GoT.v (List qf) cs1, GoT.v (List Int) cs2, .int .i64 place] w r := by
 obtain ⟨p1, k1, rfl, s1⟩ := ha1
 obtain ⟨p2, k2, rfl, s2⟩ := ha2
 refine qe Tryz.func56 rfl (m := 31) rfl rfl (fun h => ?_)
 rw [qgM] at hF
 refine zSR (zp1 rfl (zNSR (zp1 rfl ?_)))
 obtain ⟨r1, hr1, hF⟩ := qd hF
 refine qam r1 h call97 (qhc ⟨_, _, rfl, (h.oldS s2)⟩ hr1) rfl rfl rfl rfl ?_
 intro w1 S1 p3 k3 h
 refine zp1 rfl (zNSSR (zp3 rfl (qb ?_)))
 obtain ⟨o1, hF, hK1⟩ := qd hF
 refine qw (qR [(1, _), (2, _), (7, _), (12, _), (13, _), (14, _)] ⟨rfl, rfl, rfl, rfl, rfl, rfl, trivial⟩ ?_)
 refine qH (fun m e w' => ∃ (x1 : (List Int)) (i1 : Int), qcs list tag place m x1 i1 = some o1 ∧ e = [(1, .slice p2 tag.length k2), (2, .int .i64 place), (7, .slice p3 r1.length k3), (12, .slice p1 list.length k1), (13, .int .i64 (list.length : Int)), (14, .int .i64 i1)] ∧ SH w w' [Ch.own S1 (x1 : List Int) [.slice p3 r1.length k3]]) n ⟨_, _, hF, rfl, h⟩ ?_
 rintro m1 e1 w2 ⟨x1, i1, hF, rfl, h⟩
 rcases m1 with _ | m1
 ·rw [qcs] at hF
  cases hF
 rw [qcs] at hF
 refine zSR (zp1 rfl (zNS ?_))
 refine qq rfl hF ?_ ?_ <;> intro hF
 ·refine zKSBSR (zp1 rfl ?_)
  obtain ⟨y1, hy1, hF⟩ := qd hF
  have he1 := qg hy1
  obtain ⟨b1, o_1, q1, cs3, hp1, hq1, -, hr2, hc2⟩ := s1.at hy1
  obtain ⟨p4, k4, p5, k5, p6, k6, rfl, s3, s4, s5⟩ := qY hr2
  refine zxe hp1 hq1 he1 rfl (zc 0 (hc2.below h.below) rfl (qah qc h rfl rfl rfl ?_))
  intro w3 bb1 h
  refine zp1 rfl (zs 0 h rfl ?_)
  intro w4 h
  refine qb ?_
  refine qhB [] (fun w' => SH w w' [Ch.box bb1 [.int .i64 y1.Kind, .int .i64 y1.Value, .slice p4 y1.From.length k4, .slice p5 y1.Through.length k5, .slice p6 y1.To.length k6] 87]) rfl 11 rfl #[ff, ff, ff, ff, ff, ff, ff, ff, ff, ff, ff] (by kernel_rfl) (fun w5 hb => ?_)
  replace h := h.ext hb
  clear hb
  refine qm 0 rfl #[tt, ff, ff, ff, ff, ff, ff, ff, ff, ff, ff] (by kernel_rfl) (by kernel_rfl) (fun w' hw => v_p qc rfl w') (h.pick [0] rfl) rfl ?_
  refine qm 1 rfl #[tt, tt, ff, ff, ff, ff, ff, ff, ff, ff, ff] (by kernel_rfl) (by kernel_rfl) (fun w' hw => v_p qc rfl w') (h.pick [0] rfl) rfl ?_
  refine qm 2 rfl #[tt, tt, tt, ff, ff, ff, ff, ff, ff, ff, ff] (by kernel_rfl) (by kernel_rfl) (fun w' hw => qcX qc (hw.box 0 rfl) (j := 0) rfl rfl rfl) (h.pick [0] rfl) rfl ?_
  refine qm 3 rfl #[tt, tt, tt, tt, ff, ff, ff, ff, ff, ff, ff] (by kernel_rfl) (by kernel_rfl) (fun w' hw => v_p qc rfl w') (h.pick [0] rfl) rfl ?_
  refine qm 4 rfl #[tt, tt, tt, tt, tt, ff, ff, ff, ff, ff, ff] (by kernel_rfl) (by kernel_rfl) (fun w' hw => v_p qc rfl w') (h.pick [0] rfl) rfl ?_
  obtain ⟨y2, hy2, hF⟩ := qd hF
  have he2 := qg hy2
  obtain ⟨b2, o_2, q2, cs4, hp2, hq2, -, hr3, hc3⟩ := s2.at hy2
  obtain rfl := hr3
  refine qm 5 rfl #[tt, tt, tt, tt, tt, tt, ff, ff, ff, ff, ff] (by kernel_rfl) (by kernel_rfl) (fun w' hw => qg4 qc hp2 hq2 ⟨he2.1, he2.2.1⟩ rfl rfl rfl rfl rfl rfl) (h.pick [0] rfl) rfl ?_
  refine qm 6 rfl #[tt, tt, tt, tt, tt, tt, tt, ff, ff, ff, ff] (by kernel_rfl) (by kernel_rfl) (fun w' hw => qcX qc (hc3.below hw.below) (j := 0) rfl rfl rfl) (h.pick [0] rfl) rfl ?_
  refine qm 7 rfl #[tt, tt, tt, tt, tt, tt, tt, tt, ff, ff, ff] (by kernel_rfl) (by kernel_rfl) (fun w' hw => v_p qc rfl w') (h.pick [0] rfl) rfl ?_
  refine qbe 8 rfl #[tt, tt, tt, tt, tt, tt, tt, tt, tt, ff, ff] (by kernel_rfl) (by kernel_rfl) ?_
  obtain ⟨r2, hr4, hF⟩ := qd hF
  refine qU r2 h call98 (qiP (qd4 y1 (h.oldS s3) (h.oldS s4) (h.oldS s5)) hr4) rfl rfl rfl rfl ?_
  intro w6 h
  refine qa6 (fun _ => (h.pick [0] rfl)) ?_
  obtain ⟨y3, hy3, hF⟩ := qd hF
  have he3 := qg hy3
  obtain ⟨b3, o_3, q3, cs5, hp3, hq3, -, hr5, hc4⟩ := (h.sl 1 rfl).1.at hy3
  obtain rfl := hr5
  refine qm 9 rfl #[tt, tt, tt, tt, tt, tt, tt, tt, tt, tt, ff] (by kernel_rfl) (by kernel_rfl) (fun w' hw => qg4 qc hp3 hq3 ⟨he3.1, qac he3.2.1 (h.sl 1 rfl).2⟩ rfl rfl rfl rfl rfl rfl) (h.pick [0] rfl) rfl ?_
  refine qbe 10 rfl #[tt, tt, tt, tt, tt, tt, tt, tt, tt, tt, tt] (by kernel_rfl) (by kernel_rfl) ?_
  refine qcH qc 1 0 r2 h rfl hy3 hp3 hq3 rfl hc4 rfl rfl rfl rfl rfl rfl rfl ?_
  intro w7 h
  refine qa6 (fun _ => (h.pick [0] rfl)) ?_
  refine qfK (by kernel_rfl) ?_
  refine qfE (qz (zp2 rfl (qb ?_)))
  replace h := h.pick [1] rfl
  exact qA m1 [(1, _), (2, _), (7, _), (12, _), (13, _), (14, _)] (Nat.lt_succ_self m1) ⟨rfl, rfl, rfl, rfl, rfl, rfl, trivial⟩ ⟨_, _, hF, rfl, h⟩
 refine qI rfl ?_
 obtain rfl := qh hF; replace hF := hK1
 refine zSR (zp2 rfl (qb ?_))
 obtain rfl := qh hF
 exact qay qc (ρ := (List Int)) [GoT.v (List Int) [.slice p3 r1.length k3]] h ⟨rfl, trivial⟩ (PV.done h (qaG (qab 0 h rfl)))

def qbw (a : (List Int)) : Nat → (List Int) → Int → Int → Option ((List Int) × Int × Int)
 | 0, _, _, _ => none
 | n + 1, x1, i1, i2 =>
  bif decide (i2 < (a.length : Int)) then
   (idx x1 i2).bind fun _ =>
   qbw a n (setS x1 i2 i1) (W64 (i1 + 1)) (W64 (i2 + 1))
  else
   some (x1, i1, i2)

def qai (n : Nat) (a : (List Int)) (k : Int) : Option (Int × (List Int)) :=
 (qbw a n a k 0).bind fun o => match o with
 | (x1, i1, _) =>
  some (i1, x1)

theorem qak {n : Nat} {w0 w : World} {F : List Ch} {a : (List Int)} {k : Int} {S1 : Nat → Prop} {p1 : Option Addr} {ln1 k1 : Nat} (h : SH w0 w (Ch.own S1 (a : List Int) [.slice p1 ln1 k1] :: F)) {r : (Int × (List Int))} (hF : qai n a k = some r) : RetN Tryz.prog 24 [.slice p1 ln1 k1, .int .i64 k] w (fun w' => ∃ Z0 : Nat → Prop, SH w0 w' (Ch.own Z0 (r.2 : List Int) [.slice p1 ln1 k1] :: F)) r.1 := by
 refine qcB Tryz.func24 rfl (m := 19) rfl rfl ?_
 rw [qai] at hF
 obtain rfl := (h.sl 0 rfl).2
 refine zSR (zp1 rfl (zNSSR (zp1 rfl (qb ?_))))
 obtain ⟨o1, hF, hK1⟩ := qd hF
 refine qw (qR [(0, _), (1, _), (5, _)] ⟨rfl, rfl, rfl, trivial⟩ ?_)
 refine qH (fun m e w' => ∃ (x1 : (List Int)) (i1 : Int) (i2 : Int), qbw a m x1 i1 i2 = some o1 ∧ e = [(0, .slice p1 a.length k1), (1, .int .i64 i1), (5, .int .i64 i2)] ∧ SH w0 w' (Ch.own S1 (x1 : List Int) [.slice p1 a.length k1] :: F)) n ⟨_, _, _, hF, rfl, h⟩ ?_
 rintro m1 e1 w1 ⟨x1, i1, i2, hF, rfl, h⟩
 rcases m1 with _ | m1
 ·rw [qbw] at hF
  cases hF
 rw [qbw] at hF
 refine zSSR (zp4 rfl (qb ?_))
 refine qq rfl hF ?_ ?_ <;> intro hF
 ·refine zKSBSR (zp3 rfl ?_)
  obtain ⟨y1, hy1, hF⟩ := qd hF
  have he1 := qg hy1
  obtain ⟨b1, o_1, q1, cs1, hp1, hq1, -, hr1, hc2⟩ := (h.sl 0 rfl).1.at hy1
  obtain rfl := hr1
  refine zx hp1 hq1 ⟨he1.1, qac he1.2.1 (h.sl 0 rfl).2⟩ rfl (qcH qc 0 0 i1 h rfl hy1 hp1 hq1 rfl hc2 rfl rfl rfl rfl rfl rfl rfl ?_)
  intro w2 h
  refine qb (qz (zp3 rfl (zNER (zp3 rfl (qb ?_)))))
  exact qA m1 [(0, _), (1, _), (5, _)] (Nat.lt_succ_self m1) ⟨rfl, rfl, rfl, trivial⟩ ⟨_, _, _, hF, rfl, h⟩
 refine qI rfl ?_
 obtain rfl := qh hF; replace hF := hK1
 refine zSR (zp2 rfl (qb ?_))
 obtain rfl := qh hF
 exact qhj qc ⟨_, h⟩ ⟨rfl, trivial⟩

def qdj : Nat → Int → ByteArray → Option (Int × ByteArray)
 | 0, _, _ => none
 | n + 1, i1, z1 =>
  bif decide (i1 > 0) then
   (catB (strOf ([(⟨IntKind.wrap .u8 (W64 (48 + (i1.tmod 10)))⟩ : IntK .u8)] : List (IntK .u8))) z1).bind fun z2 =>
   qdj n (W64 (i1.tdiv 10)) z2
  else
   some (i1, z1)

def qdp (n : Nat) (k : Int) : Option ByteArray :=
 bif decide (k ≤ 0) then
  some (⟨#[109, 48]⟩ : ByteArray)
 else
  (qdj n k (⟨#[]⟩ : ByteArray)).bind fun o => match o with
  | (_, z1) =>
   (catB (⟨#[109]⟩ : ByteArray) z1).bind fun z3 =>
   some z3

theorem qe4 {n : Nat} {w : World} {k : Int}  {r : ByteArray} (hF : qdp n k = some r) : RetV Tryz.prog 133 [.int .i64 k] w r := by
 refine qe Tryz.func133 rfl (m := 20) rfl rfl (fun h => ?_)
 rw [qdp] at hF
 refine zSR (zp1 rfl (zNSSR (zp2 rfl (qb ?_))))
 refine qq rfl hF ?_ ?_ <;> intro hF
 ·refine zSR (zp1 rfl (qb ?_))
  obtain rfl := qh hF
  exact qay qc (ρ := ByteArray) [_] h ⟨rfl, trivial⟩ (qoS _ _)
 refine zKSR (zp1 rfl (zNS ?_))
 obtain ⟨o1, hF, hK1⟩ := qd hF
 refine qw (qR [(0, _), (3, _)] ⟨rfl, rfl, trivial⟩ ?_)
 refine qH (fun m e w' => ∃ (i1 : Int) (z1 : ByteArray), qdj m i1 z1 = some o1 ∧ e = [(0, .int .i64 i1), (3, .string z1)] ∧ SH w w' []) n ⟨_, _, hF, rfl, h⟩ ?_
 rintro m1 e1 w1 ⟨i1, z1, hF, rfl, h⟩
 rcases m1 with _ | m1
 ·rw [qdj] at hF
  cases hF
 rw [qdj] at hF
 refine zSSR (zp2 rfl (qb ?_))
 refine qq rfl hF ?_ ?_ <;> intro hF
 ·refine zKB (zSR (zp4 rfl (qaY qc [.tmp 11] _ ([(⟨IntKind.wrap .u8 (W64 (48 + (i1.tmod 10)))⟩ : IntK .u8)] : List (IntK .u8)) h rfl rfl rfl rfl rfl rfl rfl rfl rfl ⟨rfl, trivial⟩ rfl ?_)))
  intro w2 p1 S1 h
  refine r_v (qri qc (h.sl 0 rfl).1 (h.sl 0 rfl).2 rfl ⟨rfl, rfl⟩ ⟨rfl, rfl⟩ rfl rfl) rfl (zp1 rfl ?_)
  obtain ⟨z2, hx1, hF⟩ := qd hF
  obtain ⟨g1, hx1⟩ := qmU hx1
  refine r_v (qru g1 rfl rfl) rfl ?_
  rw [hx1]
  refine zp1 rfl (qb (qz (zp3 rfl (zNE ?_))))
  replace h := h.pick [] rfl
  exact qA m1 [(0, _), (3, _)] (Nat.lt_succ_self m1) ⟨rfl, rfl, trivial⟩ ⟨_, _, hF, rfl, h⟩
 refine qI rfl ?_
 obtain rfl := qh hF; replace hF := hK1
 refine zSR (zp1 rfl ?_)
 obtain ⟨z3, hx2, hF⟩ := qd hF
 obtain ⟨g2, hx2⟩ := qmU hx2
 refine r_v (qru g2 rfl rfl) rfl ?_
 rw [hx2]
 refine zp1 rfl (qb ?_)
 obtain rfl := qh hF
 exact qay qc (ρ := ByteArray) [_] h ⟨rfl, trivial⟩ (qoS _ _)

def qcD (a : (List qag)) : Nat → (List qag) → Int → Int → Option ((List qag) × Int × Int)
 | 0, _, _, _ => none
 | n + 1, x1, i1, i2 =>
  bif decide (i2 < (a.length : Int)) then
   (qdp n i1).bind fun r1 =>
   (idx x1 i2).bind fun y1 =>
   (idx (setS x1 i2 ({ y1 with Name := r1 })) i2).bind fun y2 =>
   (idx (setS (setS x1 i2 ({ y1 with Name := r1 })) i2 ({ y2 with Dir := W64 (i1 + 1) })) i2).bind fun y3 =>
   (idx (setS (setS (setS x1 i2 ({ y1 with Name := r1 })) i2 ({ y2 with Dir := W64 (i1 + 1) })) i2 ({ y3 with Cap := W64 ((W64 (i1 + 1)) + 1) })) i2).bind fun y4 =>
   qcD a n (setS (setS (setS (setS x1 i2 ({ y1 with Name := r1 })) i2 ({ y2 with Dir := W64 (i1 + 1) })) i2 ({ y3 with Cap := W64 ((W64 (i1 + 1)) + 1) })) i2 ({ y4 with Clock := (((W64 ((W64 ((W64 (i1 + 1)) + 1)) + 1)).tmod 3) == 0) })) (W64 ((W64 ((W64 ((W64 (i1 + 1)) + 1)) + 1)) + 1)) (W64 (i2 + 1))
  else
   some (x1, i1, i2)

def qhu (n : Nat) (a : (List qag)) (k : Int) : Option (Int × (List qag)) :=
 (qcD a n a k 0).bind fun o => match o with
 | (x1, i1, _) =>
  some (i1, x1)

theorem qkC {n : Nat} {w0 w : World} {F : List Ch} {a : (List qag)} {k : Int} {S1 : Nat → Prop} {p1 : Option Addr} {ln1 k1 : Nat} (h : SH w0 w (Ch.own S1 (a : List qag) [.slice p1 ln1 k1] :: F)) {r : (Int × (List qag))} (hF : qhu n a k = some r) : RetN Tryz.prog 134 [.slice p1 ln1 k1, .int .i64 k] w (fun w' => ∃ Z0 : Nat → Prop, SH w0 w' (Ch.own Z0 (r.2 : List qag) [.slice p1 ln1 k1] :: F)) r.1 := by
 refine qcB Tryz.func134 rfl (m := 44) rfl rfl ?_
 rw [qhu] at hF
 obtain rfl := (h.sl 0 rfl).2
 refine zSR (zp1 rfl (zNSSR (zp1 rfl (qb ?_))))
 obtain ⟨o1, hF, hK1⟩ := qd hF
 refine qw (qR [(0, _), (1, _), (5, _)] ⟨rfl, rfl, rfl, trivial⟩ ?_)
 refine qH (fun m e w' => ∃ (x1 : (List qag)) (i1 : Int) (i2 : Int), qcD a m x1 i1 i2 = some o1 ∧ e = [(0, .slice p1 a.length k1), (1, .int .i64 i1), (5, .int .i64 i2)] ∧ SH w0 w' (Ch.own S1 (x1 : List qag) [.slice p1 a.length k1] :: F)) n ⟨_, _, _, hF, rfl, h⟩ ?_
 rintro m1 e1 w1 ⟨x1, i1, i2, hF, rfl, h⟩
 rcases m1 with _ | m1
 ·rw [qcD] at hF
  cases hF
 rw [qcD] at hF
 refine zSSR (zp4 rfl (qb ?_))
 refine qq rfl hF ?_ ?_ <;> intro hF
 ·refine zKSBSR (zp3 rfl ?_)
  obtain ⟨r1, hr1, hF⟩ := qd hF
  refine qjC r1 h call133 (qe4 hr1) rfl rfl rfl rfl ?_
  intro w2 h
  obtain ⟨y1, hy1, hF⟩ := qd hF
  have he1 := qg hy1
  obtain ⟨b1, o_1, q1, cs1, hp1, hq1, -, hr2, hc2⟩ := (h.sl 0 rfl).1.at hy1
  obtain rfl := qa8 hr2
  refine zx hp1 hq1 ⟨he1.1, qac he1.2.1 (h.sl 0 rfl).2⟩ rfl (zp1 rfl (qcH qc 0 0 ({ y1 with Name := r1 }) h rfl hy1 hp1 hq1 (qdL y1) hc2 rfl rfl rfl (qdL ({ y1 with Name := r1 })) rfl rfl rfl ?_))
  intro w3 h
  refine zNSR (zp3 rfl (zNSR (zp3 rfl ?_)))
  obtain ⟨y2, hy2, hF⟩ := qd hF
  have he2 := qg hy2
  obtain ⟨b2, o_2, q2, cs2, hp2, hq2, -, hr3, hc3⟩ := (h.sl 0 rfl).1.at hy2
  obtain rfl := qa8 hr3
  refine zx hp2 hq2 ⟨he2.1, qac he2.2.1 (h.sl 0 rfl).2⟩ rfl (zp1 rfl (qcH qc 0 1 ({ y2 with Dir := W64 (i1 + 1) }) h rfl hy2 hp2 hq2 (qdL y2) hc3 rfl rfl rfl (qdL ({ y2 with Dir := W64 (i1 + 1) })) rfl rfl rfl ?_))
  intro w4 h
  refine zNSR (zp3 rfl (zNSR (zp3 rfl ?_)))
  obtain ⟨y3, hy3, hF⟩ := qd hF
  have he3 := qg hy3
  obtain ⟨b3, o_3, q3, cs3, hp3, hq3, -, hr4, hc4⟩ := (h.sl 0 rfl).1.at hy3
  obtain rfl := qa8 hr4
  refine zx hp3 hq3 ⟨he3.1, qac he3.2.1 (h.sl 0 rfl).2⟩ rfl (zp1 rfl (qcH qc 0 2 ({ y3 with Cap := W64 ((W64 (i1 + 1)) + 1) }) h rfl hy3 hp3 hq3 (qdL y3) hc4 rfl rfl rfl (qdL ({ y3 with Cap := W64 ((W64 (i1 + 1)) + 1) })) rfl rfl rfl ?_))
  intro w5 h
  refine zNSR (zp3 rfl (zNSR (zp3 rfl ?_)))
  refine zp2 rfl ?_
  obtain ⟨y4, hy4, hF⟩ := qd hF
  have he4 := qg hy4
  obtain ⟨b4, o_4, q4, cs4, hp4, hq4, -, hr5, hc5⟩ := (h.sl 0 rfl).1.at hy4
  obtain rfl := qa8 hr5
  refine zx hp4 hq4 ⟨he4.1, qac he4.2.1 (h.sl 0 rfl).2⟩ rfl (zp1 rfl (qcH qc 0 3 ({ y4 with Clock := (((W64 ((W64 ((W64 (i1 + 1)) + 1)) + 1)).tmod 3) == 0) }) h rfl hy4 hp4 hq4 (qdL y4) hc5 rfl rfl rfl (qdL ({ y4 with Clock := (((W64 ((W64 ((W64 (i1 + 1)) + 1)) + 1)).tmod 3) == 0) })) rfl rfl rfl ?_))
  intro w6 h
  refine qb (qz (zp3 rfl (zNER (zp3 rfl (qb ?_)))))
  exact qA m1 [(0, _), (1, _), (5, _)] (Nat.lt_succ_self m1) ⟨rfl, rfl, rfl, trivial⟩ ⟨_, _, _, hF, rfl, h⟩
 refine qI rfl ?_
 obtain rfl := qh hF; replace hF := hK1
 refine zSR (zp2 rfl (qb ?_))
 obtain rfl := qh hF
 exact qhj qc ⟨_, h⟩ ⟨rfl, trivial⟩

def qbO (a : (List qC)) : Nat → (List qC) → Int → Int → Option ((List qC) × Int × Int)
 | 0, _, _, _ => none
 | n + 1, x1, i1, i2 =>
  bif decide (i2 < (a.length : Int)) then
   (idx x1 i2).bind fun y1 =>
   (qai n y1.Slews i1).bind fun o => match o with
    | (r1, x2) =>
     (qai n y1.Loads r1).bind fun o => match o with
      | (r2, x3) =>
       (qai n y1.Values r2).bind fun o => match o with
        | (r3, x4) =>
         qbO a n (setS x1 i2 (⟨x2, x3, x4⟩ : qC)) r3 (W64 (i2 + 1))
  else
   some (x1, i1, i2)

def qfj (n : Nat) (a : (List qC)) (k : Int) : Option (Int × (List qC)) :=
 (qbO a n a k 0).bind fun o => match o with
 | (x1, i1, _) =>
  some (i1, x1)

theorem qhR {n : Nat} {w0 w : World} {F : List Ch} {a : (List qC)} {k : Int} {S1 : Nat → Prop} {p1 : Option Addr} {ln1 k1 : Nat} (h : SH w0 w (Ch.own S1 (a : List qC) [.slice p1 ln1 k1] :: F)) {r : (Int × (List qC))} (hF : qfj n a k = some r) : RetN Tryz.prog 175 [.slice p1 ln1 k1, .int .i64 k] w (fun w' => ∃ Z0 : Nat → Prop, SH w0 w' (Ch.own Z0 (r.2 : List qC) [.slice p1 ln1 k1] :: F)) r.1 := by
 refine qcB Tryz.func175 rfl (m := 34) rfl rfl ?_
 rw [qfj] at hF
 obtain rfl := (h.sl 0 rfl).2
 refine zSR (zp1 rfl (zNSSR (zp1 rfl (qb ?_))))
 obtain ⟨o1, hF, hK1⟩ := qd hF
 refine qw (qR [(0, _), (1, _), (5, _)] ⟨rfl, rfl, rfl, trivial⟩ ?_)
 refine qH (fun m e w' => ∃ (S2 : Nat → Prop) (x1 : (List qC)) (i1 : Int) (i2 : Int), qbO a m x1 i1 i2 = some o1 ∧ e = [(0, .slice p1 a.length k1), (1, .int .i64 i1), (5, .int .i64 i2)] ∧ SH w0 w' (Ch.own S2 (x1 : List qC) [.slice p1 a.length k1] :: F)) n ⟨_, _, _, _, hF, rfl, h⟩ ?_
 rintro m1 e1 w1 ⟨S2, x1, i1, i2, hF, rfl, h⟩
 rcases m1 with _ | m1
 ·rw [qbO] at hF
  cases hF
 rw [qbO] at hF
 refine zSSR (zp4 rfl (qb ?_))
 refine qq rfl hF ?_ ?_ <;> intro hF
 ·refine zKSBSR (zp2 rfl ?_)
  obtain ⟨y1, hy1, hF⟩ := qd hF
  have he1 := qg hy1
  obtain ⟨S3, S4, cs1, h⟩ := h.take hy1
  obtain ⟨p2, k2, p3, k3, p4, k4, rfl, -, -, -⟩ := qbs (h.own 0 rfl)
  obtain ⟨S5, S6, S7, h⟩ := qnu h
  obtain ⟨b1, hp1, -, -, hl2⟩ := h.holeAt 3 rfl
  obtain ⟨q1, hq1⟩ : ∃ q, q = 0 + (i2).toNat * GoT.k qC := ⟨_, rfl⟩
  refine zx hp1 hq1 ⟨he1.1, qac he1.2.1 hl2⟩ rfl (zp1 rfl (zc 0 (qbV h 3 rfl hp1 hq1) rfl (zp1 rfl ?_)))
  replace h := h.pickT 4 [2, 0, 1, 3] rfl
  obtain ⟨o2, hr1, hF⟩ := qd hF
  obtain ⟨r1, x2⟩ := o2
  refine qb3 r1 call24 (qak h hr1) rfl rfl rfl rfl ?_
  rintro w2 ⟨S8, h⟩
  refine zp1 rfl (zNSR (zp2 rfl ?_))
  obtain ⟨b2, hp2, -, -, hl4⟩ := h.holeAt 3 rfl
  obtain ⟨q2, hq2⟩ : ∃ q, q = 0 + (i2).toNat * GoT.k qC := ⟨_, rfl⟩
  refine zx hp2 hq2 ⟨he1.1, qac he1.2.1 hl4⟩ rfl (zp1 rfl (zc 1 (qbV h 3 rfl hp2 hq2) rfl (zp1 rfl ?_)))
  replace h := h.pickT 4 [2, 0, 1, 3] rfl
  obtain ⟨o3, hr2, hF⟩ := qd hF
  obtain ⟨r2, x3⟩ := o3
  refine qb3 r2 call24 (qak h hr2) rfl rfl rfl rfl ?_
  rintro w3 ⟨S9, h⟩
  refine zp1 rfl (qb (qz (zp2 rfl ?_)))
  obtain ⟨b3, hp3, -, -, hl6⟩ := h.holeAt 3 rfl
  obtain ⟨q3, hq3⟩ : ∃ q, q = 0 + (i2).toNat * GoT.k qC := ⟨_, rfl⟩
  refine zx hp3 hq3 ⟨he1.1, qac he1.2.1 hl6⟩ rfl (zp1 rfl (zc 2 (qbV h 3 rfl hp3 hq3) rfl (zp1 rfl ?_)))
  replace h := h.pickT 4 [2, 0, 1, 3] rfl
  obtain ⟨o4, hr3, hF⟩ := qd hF
  obtain ⟨r3, x4⟩ := o4
  refine qb3 r3 call24 (qak h hr3) rfl rfl rfl rfl ?_
  rintro w4 ⟨S10, h⟩
  refine zp1 rfl (zNER (zp3 rfl (qb ?_)))
  obtain ⟨S11, h⟩ := h.gatherT 4 [3] (qmE (⟨x2, x3, x4⟩ : qC) h (qab 2 h rfl) (qab 1 h rfl) (qab 0 h rfl) (by rfl) (by rfl)) rfl
  replace h := h.put
  obtain ⟨S12, h⟩ := qj0 (S := _) h
  exact qA m1 [(0, _), (1, _), (5, _)] (Nat.lt_succ_self m1) ⟨rfl, rfl, rfl, trivial⟩ ⟨_, _, _, _, hF, rfl, h⟩
 refine qI rfl ?_
 obtain rfl := qh hF; replace hF := hK1
 refine zSR (zp2 rfl (qb ?_))
 obtain rfl := qh hF
 exact qhj qc ⟨_, h⟩ ⟨rfl, trivial⟩

def qcC (a : (List qX)) : Nat → (List qX) → Int → Int → Option ((List qX) × Int × Int)
 | 0, _, _, _ => none
 | n + 1, x1, i1, i2 =>
  bif decide (i2 < (a.length : Int)) then
   (idx x1 i2).bind fun y1 =>
   (qfj n y1.Delay (W64 ((W64 ((W64 ((W64 (i1 + 1)) + 1)) + 1)) + 1))).bind fun o => match o with
    | (r1, x2) =>
     (qfj n y1.Slew r1).bind fun o => match o with
      | (r2, x3) =>
       qcC a n (setS x1 i2 (⟨i1, W64 (i1 + 1), W64 ((W64 (i1 + 1)) + 1), W64 ((W64 ((W64 (i1 + 1)) + 1)) + 1), x2, x3⟩ : qX)) r2 (W64 (i2 + 1))
  else
   some (x1, i1, i2)

def qhv (n : Nat) (a : (List qX)) (k : Int) : Option (Int × (List qX)) :=
 (qcC a n a k 0).bind fun o => match o with
 | (x1, i1, _) =>
  some (i1, x1)

theorem qkm {n : Nat} {w0 w : World} {F : List Ch} {a : (List qX)} {k : Int} {S1 : Nat → Prop} {p1 : Option Addr} {ln1 k1 : Nat} (h : SH w0 w (Ch.own S1 (a : List qX) [.slice p1 ln1 k1] :: F)) {r : (Int × (List qX))} (hF : qhv n a k = some r) : RetN Tryz.prog 135 [.slice p1 ln1 k1, .int .i64 k] w (fun w' => ∃ Z0 : Nat → Prop, SH w0 w' (Ch.own Z0 (r.2 : List qX) [.slice p1 ln1 k1] :: F)) r.1 := by
 refine qcB Tryz.func135 rfl (m := 55) rfl rfl ?_
 rw [qhv] at hF
 obtain rfl := (h.sl 0 rfl).2
 refine zSR (zp1 rfl (zNSSR (zp1 rfl (qb ?_))))
 obtain ⟨o1, hF, hK1⟩ := qd hF
 refine qw (qR [(0, _), (1, _), (5, _)] ⟨rfl, rfl, rfl, trivial⟩ ?_)
 refine qH (fun m e w' => ∃ (S2 : Nat → Prop) (x1 : (List qX)) (i1 : Int) (i2 : Int), qcC a m x1 i1 i2 = some o1 ∧ e = [(0, .slice p1 a.length k1), (1, .int .i64 i1), (5, .int .i64 i2)] ∧ SH w0 w' (Ch.own S2 (x1 : List qX) [.slice p1 a.length k1] :: F)) n ⟨_, _, _, _, hF, rfl, h⟩ ?_
 rintro m1 e1 w1 ⟨S2, x1, i1, i2, hF, rfl, h⟩
 rcases m1 with _ | m1
 ·rw [qcC] at hF
  cases hF
 rw [qcC] at hF
 refine zSSR (zp4 rfl (qb ?_))
 refine qq rfl hF ?_ ?_ <;> intro hF
 ·refine zKSBSR (zp3 rfl ?_)
  obtain ⟨y1, hy1, hF⟩ := qd hF
  have he1 := qg hy1
  obtain ⟨S3, S4, cs1, h⟩ := h.take hy1
  obtain ⟨p2, k2, p3, k3, rfl, -, -⟩ := qaR (h.own 0 rfl)
  obtain ⟨S5, S6, h⟩ := qoy h
  obtain ⟨b1, hp1, -, -, hl2⟩ := h.holeAt 2 rfl
  obtain ⟨q1, hq1⟩ : ∃ q, q = 0 + (i2).toNat * GoT.k qX := ⟨_, rfl⟩
  refine zx hp1 hq1 ⟨he1.1, qac he1.2.1 hl2⟩ rfl (zp1 rfl (qeX qc 2 0 h rfl hp1 hq1 rfl rfl rfl rfl rfl rfl ?_))
  intro w2 h
  refine zNSR (zp3 rfl (zNSR (zp3 rfl ?_)))
  obtain ⟨b2, hp2, -, -, hl4⟩ := h.holeAt 2 rfl
  obtain ⟨q2, hq2⟩ : ∃ q, q = 0 + (i2).toNat * GoT.k qX := ⟨_, rfl⟩
  refine zx hp2 hq2 ⟨he1.1, qac he1.2.1 hl4⟩ rfl (zp1 rfl (qeX qc 2 1 h rfl hp2 hq2 rfl rfl rfl rfl rfl rfl ?_))
  intro w3 h
  replace h : SH _ _ (Ch.own S6 (y1.Slew : List qC) [.slice p3 y1.Slew.length k3] :: Ch.own S5 (y1.Delay : List qC) [.slice p2 y1.Delay.length k2] :: Ch.hole S4 (x1 : List qX) p1 a.length k1 (i2).toNat [.int .i64 i1, .int .i64 (W64 (i1 + 1)), .int .i64 y1.To, .int .i64 y1.Sense, .slice p2 y1.Delay.length k2, .slice p3 y1.Slew.length k3] :: F) := h
  refine zNSR (zp3 rfl (zNSR (zp3 rfl ?_)))
  obtain ⟨b3, hp3, -, -, hl6⟩ := h.holeAt 2 rfl
  obtain ⟨q3, hq3⟩ : ∃ q, q = 0 + (i2).toNat * GoT.k qX := ⟨_, rfl⟩
  refine zx hp3 hq3 ⟨he1.1, qac he1.2.1 hl6⟩ rfl (zp1 rfl (qeX qc 2 2 h rfl hp3 hq3 rfl rfl rfl rfl rfl rfl ?_))
  intro w4 h
  refine zNSR (zp3 rfl (zNSR (zp3 rfl ?_)))
  obtain ⟨b4, hp4, -, -, hl8⟩ := h.holeAt 2 rfl
  obtain ⟨q4, hq4⟩ : ∃ q, q = 0 + (i2).toNat * GoT.k qX := ⟨_, rfl⟩
  refine zx hp4 hq4 ⟨he1.1, qac he1.2.1 hl8⟩ rfl (zp1 rfl (qeX qc 2 3 h rfl hp4 hq4 rfl rfl rfl rfl rfl rfl ?_))
  intro w5 h
  replace h : SH _ _ (Ch.own S6 (y1.Slew : List qC) [.slice p3 y1.Slew.length k3] :: Ch.own S5 (y1.Delay : List qC) [.slice p2 y1.Delay.length k2] :: Ch.hole S4 (x1 : List qX) p1 a.length k1 (i2).toNat [.int .i64 i1, .int .i64 (W64 (i1 + 1)), .int .i64 (W64 ((W64 (i1 + 1)) + 1)), .int .i64 (W64 ((W64 ((W64 (i1 + 1)) + 1)) + 1)), .slice p2 y1.Delay.length k2, .slice p3 y1.Slew.length k3] :: F) := h
  refine zNSR (zp3 rfl (zNSR (zp2 rfl ?_)))
  obtain ⟨b5, hp5, -, -, hl10⟩ := h.holeAt 2 rfl
  obtain ⟨q5, hq5⟩ : ∃ q, q = 0 + (i2).toNat * GoT.k qX := ⟨_, rfl⟩
  refine zx hp5 hq5 ⟨he1.1, qac he1.2.1 hl10⟩ rfl (zp1 rfl (zc 4 (qbV h 2 rfl hp5 hq5) rfl (zp1 rfl ?_)))
  replace h := h.pickT 3 [1, 0, 2] rfl
  obtain ⟨o2, hr1, hF⟩ := qd hF
  obtain ⟨r1, x2⟩ := o2
  refine qb3 r1 call175 (qhR h hr1) rfl rfl rfl rfl ?_
  rintro w6 ⟨S7, h⟩
  refine zp1 rfl (qb (qz (zp2 rfl ?_)))
  obtain ⟨b6, hp6, -, -, hl12⟩ := h.holeAt 2 rfl
  obtain ⟨q6, hq6⟩ : ∃ q, q = 0 + (i2).toNat * GoT.k qX := ⟨_, rfl⟩
  refine zx hp6 hq6 ⟨he1.1, qac he1.2.1 hl12⟩ rfl (zp1 rfl (zc 5 (qbV h 2 rfl hp6 hq6) rfl (zp1 rfl ?_)))
  replace h := h.pickT 3 [1, 0, 2] rfl
  obtain ⟨o3, hr2, hF⟩ := qd hF
  obtain ⟨r2, x3⟩ := o3
  refine qb3 r2 call175 (qhR h hr2) rfl rfl rfl rfl ?_
  rintro w7 ⟨S8, h⟩
  refine zp1 rfl (zNER (zp3 rfl (qb ?_)))
  obtain ⟨S9, h⟩ := h.gatherT 3 [2] (qo2 (⟨i1, W64 (i1 + 1), W64 ((W64 (i1 + 1)) + 1), W64 ((W64 ((W64 (i1 + 1)) + 1)) + 1), x2, x3⟩ : qX) h (qaw (S := fun _ => False) rfl) (qaw (S := fun _ => False) rfl) (qaw (S := fun _ => False) rfl) (qaw (S := fun _ => False) rfl) (qab 1 h rfl) (qab 0 h rfl) (by rfl) (by rfl) (by rfl) (by rfl) (by rfl)) rfl
  replace h := h.put
  obtain ⟨S10, h⟩ := qj0 (S := _) h
  exact qA m1 [(0, _), (1, _), (5, _)] (Nat.lt_succ_self m1) ⟨rfl, rfl, rfl, trivial⟩ ⟨_, _, _, _, hF, rfl, h⟩
 refine qI rfl ?_
 obtain rfl := qh hF; replace hF := hK1
 refine zSR (zp2 rfl (qb ?_))
 obtain rfl := qh hF
 exact qhj qc ⟨_, h⟩ ⟨rfl, trivial⟩

def qcg (a : (List qB)) : Nat → (List qB) → Int → Int → Option ((List qB) × Int × Int)
 | 0, _, _, _ => none
 | n + 1, x1, i1, i2 =>
  bif decide (i2 < (a.length : Int)) then
   (qdp n i1).bind fun r1 =>
   (idx x1 i2).bind fun y1 =>
   (qhu n y1.Pins (W64 ((W64 (i1 + 1)) + 1))).bind fun o => match o with
    | (r2, x2) =>
     (qhv n y1.Arcs r2).bind fun o => match o with
      | (r3, x3) =>
       (qai n y1.Truth r3).bind fun o => match o with
        | (r4, x4) =>
         qcg a n (setS x1 i2 (⟨r1, W64 (i1 + 1), x2, x3, x4, r4, W64 (r4 + 1)⟩ : qB)) (W64 ((W64 (r4 + 1)) + 1)) (W64 (i2 + 1))
  else
   some (x1, i1, i2)

def qgI (n : Nat) (a : (List qB)) (k : Int) : Option (Int × (List qB)) :=
 (qcg a n a k 0).bind fun o => match o with
 | (x1, i1, _) =>
  some (i1, x1)

theorem qkc {n : Nat} {w0 w : World} {F : List Ch} {a : (List qB)} {k : Int} {S1 : Nat → Prop} {p1 : Option Addr} {ln1 k1 : Nat} (h : SH w0 w (Ch.own S1 (a : List qB) [.slice p1 ln1 k1] :: F)) {r : (Int × (List qB))} (hF : qgI n a k = some r) : RetN Tryz.prog 99 [.slice p1 ln1 k1, .int .i64 k] w (fun w' => ∃ Z0 : Nat → Prop, SH w0 w' (Ch.own Z0 (r.2 : List qB) [.slice p1 ln1 k1] :: F)) r.1 := by
 refine qcB Tryz.func99 rfl (m := 63) rfl rfl ?_
 rw [qgI] at hF
 obtain rfl := (h.sl 0 rfl).2
 refine zSR (zp1 rfl (zNSSR (zp1 rfl (qb ?_))))
 obtain ⟨o1, hF, hK1⟩ := qd hF
 refine qw (qR [(0, _), (1, _), (5, _)] ⟨rfl, rfl, rfl, trivial⟩ ?_)
 refine qH (fun m e w' => ∃ (S2 : Nat → Prop) (x1 : (List qB)) (i1 : Int) (i2 : Int), qcg a m x1 i1 i2 = some o1 ∧ e = [(0, .slice p1 a.length k1), (1, .int .i64 i1), (5, .int .i64 i2)] ∧ SH w0 w' (Ch.own S2 (x1 : List qB) [.slice p1 a.length k1] :: F)) n ⟨_, _, _, _, hF, rfl, h⟩ ?_
 rintro m1 e1 w1 ⟨S2, x1, i1, i2, hF, rfl, h⟩
 rcases m1 with _ | m1
 ·rw [qcg] at hF
  cases hF
 rw [qcg] at hF
 refine zSSR (zp4 rfl (qb ?_))
 refine qq rfl hF ?_ ?_ <;> intro hF
 ·refine zKSBSR (zp3 rfl ?_)
  obtain ⟨r1, hr1, hF⟩ := qd hF
  refine qjC r1 h call133 (qe4 hr1) rfl rfl rfl rfl ?_
  intro w2 h
  obtain ⟨y1, hy1, hF⟩ := qd hF
  have he1 := qg hy1
  obtain ⟨S3, S4, cs1, h⟩ := h.take hy1
  obtain ⟨p2, k2, p3, k3, p4, k4, rfl, -, -, -⟩ := qaj (h.own 0 rfl)
  obtain ⟨S5, S6, S7, h⟩ := qoh h
  obtain ⟨b1, hp1, -, -, hl2⟩ := h.holeAt 3 rfl
  obtain ⟨q1, hq1⟩ : ∃ q, q = 0 + (i2).toNat * GoT.k qB := ⟨_, rfl⟩
  refine zx hp1 hq1 ⟨he1.1, qac he1.2.1 hl2⟩ rfl (zp1 rfl (qeX qc 3 0 h rfl hp1 hq1 rfl rfl rfl rfl rfl rfl ?_))
  intro w3 h
  refine zNSR (zp3 rfl (zNSR (zp3 rfl ?_)))
  obtain ⟨b2, hp2, -, -, hl4⟩ := h.holeAt 3 rfl
  obtain ⟨q2, hq2⟩ : ∃ q, q = 0 + (i2).toNat * GoT.k qB := ⟨_, rfl⟩
  refine zx hp2 hq2 ⟨he1.1, qac he1.2.1 hl4⟩ rfl (zp1 rfl (qeX qc 3 1 h rfl hp2 hq2 rfl rfl rfl rfl rfl rfl ?_))
  intro w4 h
  replace h : SH _ _ (Ch.own S7 (y1.Truth : List Int) [.slice p4 y1.Truth.length k4] :: Ch.own S6 (y1.Arcs : List qX) [.slice p3 y1.Arcs.length k3] :: Ch.own S5 (y1.Pins : List qag) [.slice p2 y1.Pins.length k2] :: Ch.hole S4 (x1 : List qB) p1 a.length k1 (i2).toNat [.string r1, .int .i64 (W64 (i1 + 1)), .slice p2 y1.Pins.length k2, .slice p3 y1.Arcs.length k3, .slice p4 y1.Truth.length k4, .int .i64 y1.Leak, .int .i64 y1.Energy] :: F) := h
  refine zNSR (zp3 rfl (zNSR (zp2 rfl ?_)))
  obtain ⟨b3, hp3, -, -, hl6⟩ := h.holeAt 3 rfl
  obtain ⟨q3, hq3⟩ : ∃ q, q = 0 + (i2).toNat * GoT.k qB := ⟨_, rfl⟩
  refine zx hp3 hq3 ⟨he1.1, qac he1.2.1 hl6⟩ rfl (zp1 rfl (zc 2 (qbV h 3 rfl hp3 hq3) rfl (zp1 rfl ?_)))
  replace h := h.pickT 4 [2, 0, 1, 3] rfl
  obtain ⟨o2, hr2, hF⟩ := qd hF
  obtain ⟨r2, x2⟩ := o2
  refine qb3 r2 call134 (qkC h hr2) rfl rfl rfl rfl ?_
  rintro w5 ⟨S8, h⟩
  refine zp1 rfl (zNSR (zp2 rfl ?_))
  obtain ⟨b4, hp4, -, -, hl8⟩ := h.holeAt 3 rfl
  obtain ⟨q4, hq4⟩ : ∃ q, q = 0 + (i2).toNat * GoT.k qB := ⟨_, rfl⟩
  refine zx hp4 hq4 ⟨he1.1, qac he1.2.1 hl8⟩ rfl (zp1 rfl (zc 3 (qbV h 3 rfl hp4 hq4) rfl (zp1 rfl ?_)))
  replace h := h.pickT 4 [2, 0, 1, 3] rfl
  obtain ⟨o3, hr3, hF⟩ := qd hF
  obtain ⟨r3, x3⟩ := o3
  refine qb3 r3 call135 (qkm h hr3) rfl rfl rfl rfl ?_
  rintro w6 ⟨S9, h⟩
  refine zp1 rfl (zNSR (zp2 rfl ?_))
  obtain ⟨b5, hp5, -, -, hl10⟩ := h.holeAt 3 rfl
  obtain ⟨q5, hq5⟩ : ∃ q, q = 0 + (i2).toNat * GoT.k qB := ⟨_, rfl⟩
  refine zx hp5 hq5 ⟨he1.1, qac he1.2.1 hl10⟩ rfl (zp1 rfl (zc 4 (qbV h 3 rfl hp5 hq5) rfl (zp1 rfl ?_)))
  replace h := h.pickT 4 [2, 0, 1, 3] rfl
  obtain ⟨o4, hr4, hF⟩ := qd hF
  obtain ⟨r4, x4⟩ := o4
  refine qb3 r4 call24 (qak h hr4) rfl rfl rfl rfl ?_
  rintro w7 ⟨S10, h⟩
  refine zp1 rfl (zNSR (zp3 rfl ?_))
  obtain ⟨b6, hp6, -, -, hl12⟩ := h.holeAt 3 rfl
  obtain ⟨q6, hq6⟩ : ∃ q, q = 0 + (i2).toNat * GoT.k qB := ⟨_, rfl⟩
  refine zx hp6 hq6 ⟨he1.1, qac he1.2.1 hl12⟩ rfl (zp1 rfl (qeX qc 3 5 h rfl hp6 hq6 rfl rfl rfl rfl rfl rfl ?_))
  intro w8 h
  refine zNSR (zp3 rfl (zNSR (zp3 rfl ?_)))
  obtain ⟨b7, hp7, -, -, hl14⟩ := h.holeAt 3 rfl
  obtain ⟨q7, hq7⟩ : ∃ q, q = 0 + (i2).toNat * GoT.k qB := ⟨_, rfl⟩
  refine zx hp7 hq7 ⟨he1.1, qac he1.2.1 hl14⟩ rfl (zp1 rfl (qeX qc 3 6 h rfl hp7 hq7 rfl rfl rfl rfl rfl rfl ?_))
  intro w9 h
  replace h : SH _ _ (Ch.own S10 (x4 : List Int) [.slice p4 y1.Truth.length k4] :: Ch.own S9 (x3 : List qX) [.slice p3 y1.Arcs.length k3] :: Ch.own S8 (x2 : List qag) [.slice p2 y1.Pins.length k2] :: Ch.hole S4 (x1 : List qB) p1 a.length k1 (i2).toNat [.string r1, .int .i64 (W64 (i1 + 1)), .slice p2 y1.Pins.length k2, .slice p3 y1.Arcs.length k3, .slice p4 y1.Truth.length k4, .int .i64 r4, .int .i64 (W64 (r4 + 1))] :: F) := h
  refine qb (qz (zp3 rfl (zNER (zp3 rfl (qb ?_)))))
  obtain ⟨S11, h⟩ := h.gatherT 4 [3] (qn9 (⟨r1, W64 (i1 + 1), x2, x3, x4, r4, W64 (r4 + 1)⟩ : qB) h (qaw (S := fun _ => False) rfl) (qaw (S := fun _ => False) rfl) (qab 2 h rfl) (qab 1 h rfl) (qab 0 h rfl) (qaw (S := fun _ => False) rfl) (qaw (S := fun _ => False) rfl) (by rfl) (by rfl) (by rfl) (by rfl) (by rfl) (by rfl)) rfl
  replace h := h.put
  obtain ⟨S12, h⟩ := qj0 (S := _) h
  exact qA m1 [(0, _), (1, _), (5, _)] (Nat.lt_succ_self m1) ⟨rfl, rfl, rfl, trivial⟩ ⟨_, _, _, _, hF, rfl, h⟩
 refine qI rfl ?_
 obtain rfl := qh hF; replace hF := hK1
 refine zSR (zp2 rfl (qb ?_))
 obtain rfl := qh hF
 exact qhj qc ⟨_, h⟩ ⟨rfl, trivial⟩

def qe2 (n : Nat) (a : qx) (k : Int) : Option (Int × (List qB)) :=
 (qgI n a.Cells k).bind fun o => match o with
  | (r1, x1) =>
   some (r1, x1)

theorem qjb {n : Nat} {w0 w : World} {F : List Ch} {a : qx} {k : Int} {S1 : Nat → Prop} {p1 : Option Addr} {ln1 k1 : Nat} (h : SH w0 w (Ch.own S1 (a.Cells : List qB) [.slice p1 ln1 k1] :: F)) {r : (Int × (List qB))} (hF : qe2 n a k = some r) : RetN Tryz.prog 57 [.agg #[.slice p1 ln1 k1], .int .i64 k] w (fun w' => ∃ Z0 : Nat → Prop, SH w0 w' (Ch.own Z0 (r.2 : List qB) [.slice p1 ln1 k1] :: F)) r.1 := by
 refine qcB Tryz.func57 rfl (m := 10) rfl rfl ?_
 rw [qe2] at hF
 obtain rfl := (h.sl 0 rfl).2
 refine zSR (qP h rfl rfl ?_)
 intro w1 bb1 h
 refine zp1 rfl (zNSR (zp1 rfl (zl 0 0 h rfl (zp1 rfl ?_))))
 replace h := h.pickT 2 [1, 0] rfl
 obtain ⟨o1, hr1, hF⟩ := qd hF
 obtain ⟨r1, x1⟩ := o1
 refine qb3 r1 call99 (qkc h hr1) rfl rfl rfl rfl ?_
 rintro w2 ⟨S2, h⟩
 refine zp1 rfl (zNSR (zp2 rfl (qb ?_)))
 obtain rfl := qh hF
 replace h := h.pickT 2 [0] rfl
 exact qhj qc ⟨_, h⟩ ⟨rfl, trivial⟩

def qbj (a : (List qk)) : Nat → (List qk) → Int → Int → Option ((List qk) × Int × Int)
 | 0, _, _, _ => none
 | n + 1, x1, i1, i2 =>
  bif decide (i2 < (a.length : Int)) then
   (qdp n i1).bind fun r1 =>
   (idx x1 i2).bind fun y1 =>
   (qai n y1.Nets (W64 ((W64 (i1 + 1)) + 1))).bind fun o => match o with
    | (r2, x2) =>
     qbj a n (setS x1 i2 (⟨r1, W64 (i1 + 1), x2⟩ : qk)) r2 (W64 (i2 + 1))
  else
   some (x1, i1, i2)

def qe8 (n : Nat) (a : (List qk)) (k : Int) : Option (Int × (List qk)) :=
 (qbj a n a k 0).bind fun o => match o with
 | (x1, i1, _) =>
  some (i1, x1)

theorem qiQ {n : Nat} {w0 w : World} {F : List Ch} {a : (List qk)} {k : Int} {S1 : Nat → Prop} {p1 : Option Addr} {ln1 k1 : Nat} (h : SH w0 w (Ch.own S1 (a : List qk) [.slice p1 ln1 k1] :: F)) {r : (Int × (List qk))} (hF : qe8 n a k = some r) : RetN Tryz.prog 100 [.slice p1 ln1 k1, .int .i64 k] w (fun w' => ∃ Z0 : Nat → Prop, SH w0 w' (Ch.own Z0 (r.2 : List qk) [.slice p1 ln1 k1] :: F)) r.1 := by
 refine qcB Tryz.func100 rfl (m := 35) rfl rfl ?_
 rw [qe8] at hF
 obtain rfl := (h.sl 0 rfl).2
 refine zSR (zp1 rfl (zNSSR (zp1 rfl (qb ?_))))
 obtain ⟨o1, hF, hK1⟩ := qd hF
 refine qw (qR [(0, _), (1, _), (5, _)] ⟨rfl, rfl, rfl, trivial⟩ ?_)
 refine qH (fun m e w' => ∃ (S2 : Nat → Prop) (x1 : (List qk)) (i1 : Int) (i2 : Int), qbj a m x1 i1 i2 = some o1 ∧ e = [(0, .slice p1 a.length k1), (1, .int .i64 i1), (5, .int .i64 i2)] ∧ SH w0 w' (Ch.own S2 (x1 : List qk) [.slice p1 a.length k1] :: F)) n ⟨_, _, _, _, hF, rfl, h⟩ ?_
 rintro m1 e1 w1 ⟨S2, x1, i1, i2, hF, rfl, h⟩
 rcases m1 with _ | m1
 ·rw [qbj] at hF
  cases hF
 rw [qbj] at hF
 refine zSSR (zp4 rfl (qb ?_))
 refine qq rfl hF ?_ ?_ <;> intro hF
 ·refine zKSBSR (zp3 rfl ?_)
  obtain ⟨r1, hr1, hF⟩ := qd hF
  refine qjC r1 h call133 (qe4 hr1) rfl rfl rfl rfl ?_
  intro w2 h
  obtain ⟨y1, hy1, hF⟩ := qd hF
  have he1 := qg hy1
  obtain ⟨S3, S4, cs1, h⟩ := h.take hy1
  obtain ⟨p2, k2, rfl, -⟩ := qae (h.own 0 rfl)
  obtain ⟨S5, h⟩ := qld h
  obtain ⟨b1, hp1, -, -, hl2⟩ := h.holeAt 1 rfl
  obtain ⟨q1, hq1⟩ : ∃ q, q = 0 + (i2).toNat * GoT.k qk := ⟨_, rfl⟩
  refine zx hp1 hq1 ⟨he1.1, qac he1.2.1 hl2⟩ rfl (zp1 rfl (qeX qc 1 0 h rfl hp1 hq1 rfl rfl rfl rfl rfl rfl ?_))
  intro w3 h
  refine zNSR (zp3 rfl (zNSR (zp3 rfl ?_)))
  obtain ⟨b2, hp2, -, -, hl4⟩ := h.holeAt 1 rfl
  obtain ⟨q2, hq2⟩ : ∃ q, q = 0 + (i2).toNat * GoT.k qk := ⟨_, rfl⟩
  refine zx hp2 hq2 ⟨he1.1, qac he1.2.1 hl4⟩ rfl (zp1 rfl (qeX qc 1 1 h rfl hp2 hq2 rfl rfl rfl rfl rfl rfl ?_))
  intro w4 h
  replace h : SH _ _ (Ch.own S5 (y1.Nets : List Int) [.slice p2 y1.Nets.length k2] :: Ch.hole S4 (x1 : List qk) p1 a.length k1 (i2).toNat [.string r1, .int .i64 (W64 (i1 + 1)), .slice p2 y1.Nets.length k2] :: F) := h
  refine zNSR (zp3 rfl (qb (qz (zp2 rfl ?_))))
  obtain ⟨b3, hp3, -, -, hl6⟩ := h.holeAt 1 rfl
  obtain ⟨q3, hq3⟩ : ∃ q, q = 0 + (i2).toNat * GoT.k qk := ⟨_, rfl⟩
  refine zx hp3 hq3 ⟨he1.1, qac he1.2.1 hl6⟩ rfl (zp1 rfl (zc 2 (qbV h 1 rfl hp3 hq3) rfl (zp1 rfl ?_)))
  obtain ⟨o2, hr2, hF⟩ := qd hF
  obtain ⟨r2, x2⟩ := o2
  refine qb3 r2 call24 (qak h hr2) rfl rfl rfl rfl ?_
  rintro w5 ⟨S6, h⟩
  refine zp1 rfl (zNER (zp3 rfl (qb ?_)))
  obtain ⟨S7, h⟩ := h.gatherT 2 [1] (qkB (⟨r1, W64 (i1 + 1), x2⟩ : qk) h (qaw (S := fun _ => False) rfl) (qaw (S := fun _ => False) rfl) (qab 0 h rfl) (by rfl) (by rfl)) rfl
  replace h := h.put
  obtain ⟨S8, h⟩ := qj0 (S := _) h
  exact qA m1 [(0, _), (1, _), (5, _)] (Nat.lt_succ_self m1) ⟨rfl, rfl, rfl, trivial⟩ ⟨_, _, _, _, hF, rfl, h⟩
 refine qI rfl ?_
 obtain rfl := qh hF; replace hF := hK1
 refine zSR (zp2 rfl (qb ?_))
 obtain rfl := qh hF
 exact qhj qc ⟨_, h⟩ ⟨rfl, trivial⟩

def qbE (a : (List ByteArray)) : Nat → (List ByteArray) → Int → Int → Option ((List ByteArray) × Int × Int)
 | 0, _, _, _ => none
 | n + 1, x1, i1, i2 =>
  bif decide (i2 < (a.length : Int)) then
   (qdp n i1).bind fun r1 =>
   (idx x1 i2).bind fun _ =>
   qbE a n (setS x1 i2 r1) (W64 (i1 + 1)) (W64 (i2 + 1))
  else
   some (x1, i1, i2)

def qfM (n : Nat) (a : (List ByteArray)) (k : Int) : Option (Int × (List ByteArray)) :=
 (qbE a n a k 0).bind fun o => match o with
 | (x1, i1, _) =>
  some (i1, x1)

theorem qjr {n : Nat} {w0 w : World} {F : List Ch} {a : (List ByteArray)} {k : Int} {S1 : Nat → Prop} {p1 : Option Addr} {ln1 k1 : Nat} (h : SH w0 w (Ch.own S1 (a : List ByteArray) [.slice p1 ln1 k1] :: F)) {r : (Int × (List ByteArray))} (hF : qfM n a k = some r) : RetN Tryz.prog 101 [.slice p1 ln1 k1, .int .i64 k] w (fun w' => ∃ Z0 : Nat → Prop, SH w0 w' (Ch.own Z0 (r.2 : List ByteArray) [.slice p1 ln1 k1] :: F)) r.1 := by
 refine qcB Tryz.func101 rfl (m := 20) rfl rfl ?_
 rw [qfM] at hF
 obtain rfl := (h.sl 0 rfl).2
 refine zSR (zp1 rfl (zNSSR (zp1 rfl (qb ?_))))
 obtain ⟨o1, hF, hK1⟩ := qd hF
 refine qw (qR [(0, _), (1, _), (5, _)] ⟨rfl, rfl, rfl, trivial⟩ ?_)
 refine qH (fun m e w' => ∃ (x1 : (List ByteArray)) (i1 : Int) (i2 : Int), qbE a m x1 i1 i2 = some o1 ∧ e = [(0, .slice p1 a.length k1), (1, .int .i64 i1), (5, .int .i64 i2)] ∧ SH w0 w' (Ch.own S1 (x1 : List ByteArray) [.slice p1 a.length k1] :: F)) n ⟨_, _, _, hF, rfl, h⟩ ?_
 rintro m1 e1 w1 ⟨x1, i1, i2, hF, rfl, h⟩
 rcases m1 with _ | m1
 ·rw [qbE] at hF
  cases hF
 rw [qbE] at hF
 refine zSSR (zp4 rfl (qb ?_))
 refine qq rfl hF ?_ ?_ <;> intro hF
 ·refine zKSBSR (zp3 rfl ?_)
  obtain ⟨r1, hr1, hF⟩ := qd hF
  refine qjC r1 h call133 (qe4 hr1) rfl rfl rfl rfl ?_
  intro w2 h
  obtain ⟨y1, hy1, hF⟩ := qd hF
  have he1 := qg hy1
  obtain ⟨b1, o_1, q1, cs1, hp1, hq1, -, hr2, hc2⟩ := (h.sl 0 rfl).1.at hy1
  obtain rfl := hr2
  refine zx hp1 hq1 ⟨he1.1, qac he1.2.1 (h.sl 0 rfl).2⟩ rfl (qcH qc 0 0 r1 h rfl hy1 hp1 hq1 rfl hc2 rfl rfl rfl rfl rfl rfl rfl ?_)
  intro w3 h
  refine qb (qz (zp3 rfl (zNER (zp3 rfl (qb ?_)))))
  exact qA m1 [(0, _), (1, _), (5, _)] (Nat.lt_succ_self m1) ⟨rfl, rfl, rfl, trivial⟩ ⟨_, _, _, hF, rfl, h⟩
 refine qI rfl ?_
 obtain rfl := qh hF; replace hF := hK1
 refine zSR (zp2 rfl (qb ?_))
 obtain rfl := qh hF
 exact qhj qc ⟨_, h⟩ ⟨rfl, trivial⟩

def qcf (a : (List qV)) : Nat → (List qV) → Int → Int → Option ((List qV) × Int × Int)
 | 0, _, _, _ => none
 | n + 1, x1, i1, i2 =>
  bif decide (i2 < (a.length : Int)) then
   (qdp n i1).bind fun r1 =>
   (idx x1 i2).bind fun y1 =>
   (idx (setS x1 i2 ({ y1 with Name := r1 })) i2).bind fun y2 =>
   (idx (setS (setS x1 i2 ({ y1 with Name := r1 })) i2 ({ y2 with Dir := W64 (i1 + 1) })) i2).bind fun y3 =>
   qcf a n (setS (setS (setS x1 i2 ({ y1 with Name := r1 })) i2 ({ y2 with Dir := W64 (i1 + 1) })) i2 ({ y3 with Net := W64 ((W64 (i1 + 1)) + 1) })) (W64 ((W64 ((W64 (i1 + 1)) + 1)) + 1)) (W64 (i2 + 1))
  else
   some (x1, i1, i2)

def qgP (n : Nat) (a : (List qV)) (k : Int) : Option (Int × (List qV)) :=
 (qcf a n a k 0).bind fun o => match o with
 | (x1, i1, _) =>
  some (i1, x1)

theorem qj7 {n : Nat} {w0 w : World} {F : List Ch} {a : (List qV)} {k : Int} {S1 : Nat → Prop} {p1 : Option Addr} {ln1 k1 : Nat} (h : SH w0 w (Ch.own S1 (a : List qV) [.slice p1 ln1 k1] :: F)) {r : (Int × (List qV))} (hF : qgP n a k = some r) : RetN Tryz.prog 102 [.slice p1 ln1 k1, .int .i64 k] w (fun w' => ∃ Z0 : Nat → Prop, SH w0 w' (Ch.own Z0 (r.2 : List qV) [.slice p1 ln1 k1] :: F)) r.1 := by
 refine qcB Tryz.func102 rfl (m := 35) rfl rfl ?_
 rw [qgP] at hF
 obtain rfl := (h.sl 0 rfl).2
 refine zSR (zp1 rfl (zNSSR (zp1 rfl (qb ?_))))
 obtain ⟨o1, hF, hK1⟩ := qd hF
 refine qw (qR [(0, _), (1, _), (5, _)] ⟨rfl, rfl, rfl, trivial⟩ ?_)
 refine qH (fun m e w' => ∃ (x1 : (List qV)) (i1 : Int) (i2 : Int), qcf a m x1 i1 i2 = some o1 ∧ e = [(0, .slice p1 a.length k1), (1, .int .i64 i1), (5, .int .i64 i2)] ∧ SH w0 w' (Ch.own S1 (x1 : List qV) [.slice p1 a.length k1] :: F)) n ⟨_, _, _, hF, rfl, h⟩ ?_
 rintro m1 e1 w1 ⟨x1, i1, i2, hF, rfl, h⟩
 rcases m1 with _ | m1
 ·rw [qcf] at hF
  cases hF
 rw [qcf] at hF
 refine zSSR (zp4 rfl (qb ?_))
 refine qq rfl hF ?_ ?_ <;> intro hF
 ·refine zKSBSR (zp3 rfl ?_)
  obtain ⟨r1, hr1, hF⟩ := qd hF
  refine qjC r1 h call133 (qe4 hr1) rfl rfl rfl rfl ?_
  intro w2 h
  obtain ⟨y1, hy1, hF⟩ := qd hF
  have he1 := qg hy1
  obtain ⟨b1, o_1, q1, cs1, hp1, hq1, -, hr2, hc2⟩ := (h.sl 0 rfl).1.at hy1
  obtain rfl := qaX hr2
  refine zx hp1 hq1 ⟨he1.1, qac he1.2.1 (h.sl 0 rfl).2⟩ rfl (zp1 rfl (qcH qc 0 0 ({ y1 with Name := r1 }) h rfl hy1 hp1 hq1 (qdZ y1) hc2 rfl rfl rfl (qdZ ({ y1 with Name := r1 })) rfl rfl rfl ?_))
  intro w3 h
  refine zNSR (zp3 rfl (zNSR (zp3 rfl ?_)))
  obtain ⟨y2, hy2, hF⟩ := qd hF
  have he2 := qg hy2
  obtain ⟨b2, o_2, q2, cs2, hp2, hq2, -, hr3, hc3⟩ := (h.sl 0 rfl).1.at hy2
  obtain rfl := qaX hr3
  refine zx hp2 hq2 ⟨he2.1, qac he2.2.1 (h.sl 0 rfl).2⟩ rfl (zp1 rfl (qcH qc 0 1 ({ y2 with Dir := W64 (i1 + 1) }) h rfl hy2 hp2 hq2 (qdZ y2) hc3 rfl rfl rfl (qdZ ({ y2 with Dir := W64 (i1 + 1) })) rfl rfl rfl ?_))
  intro w4 h
  refine zNSR (zp3 rfl (zNSR (zp3 rfl ?_)))
  obtain ⟨y3, hy3, hF⟩ := qd hF
  have he3 := qg hy3
  obtain ⟨b3, o_3, q3, cs3, hp3, hq3, -, hr4, hc4⟩ := (h.sl 0 rfl).1.at hy3
  obtain rfl := qaX hr4
  refine zx hp3 hq3 ⟨he3.1, qac he3.2.1 (h.sl 0 rfl).2⟩ rfl (zp1 rfl (qcH qc 0 2 ({ y3 with Net := W64 ((W64 (i1 + 1)) + 1) }) h rfl hy3 hp3 hq3 (qdZ y3) hc4 rfl rfl rfl (qdZ ({ y3 with Net := W64 ((W64 (i1 + 1)) + 1) })) rfl rfl rfl ?_))
  intro w5 h
  refine qb (qz (zp3 rfl (zNER (zp3 rfl (qb ?_)))))
  exact qA m1 [(0, _), (1, _), (5, _)] (Nat.lt_succ_self m1) ⟨rfl, rfl, rfl, trivial⟩ ⟨_, _, _, hF, rfl, h⟩
 refine qI rfl ?_
 obtain rfl := qh hF; replace hF := hK1
 refine zSR (zp2 rfl (qb ?_))
 obtain rfl := qh hF
 exact qhj qc ⟨_, h⟩ ⟨rfl, trivial⟩

def qfl (n : Nat) (a : ql) (k : Int) : Option (Int × (List qk) × (List ByteArray) × (List qV)) :=
 (qe8 n a.Instances k).bind fun o => match o with
  | (r1, x1) =>
   (qfM n a.Nets r1).bind fun o => match o with
    | (r2, x2) =>
     (qgP n a.Ports r2).bind fun o => match o with
      | (r3, x3) =>
       some (r3, x1, x2, x3)

theorem qjK {n : Nat} {w0 w : World} {F : List Ch} {a : ql} {k : Int} {S1 : Nat → Prop} {p1 : Option Addr} {ln1 k1 : Nat} {S2 : Nat → Prop} {p2 : Option Addr} {ln2 k2 : Nat} {S3 : Nat → Prop} {p3 : Option Addr} {ln3 k3 : Nat} (h : SH w0 w (Ch.own S3 (a.Ports : List qV) [.slice p3 ln3 k3] :: Ch.own S2 (a.Nets : List ByteArray) [.slice p2 ln2 k2] :: Ch.own S1 (a.Instances : List qk) [.slice p1 ln1 k1] :: F)) {r : (Int × (List qk) × (List ByteArray) × (List qV))} (hF : qfl n a k = some r) : RetN Tryz.prog 58 [.agg #[.slice p1 ln1 k1, .slice p2 ln2 k2, .slice p3 ln3 k3], .int .i64 k] w (fun w' => ∃ Z0 Z1 Z2 : Nat → Prop, SH w0 w' (Ch.own Z2 (r.2.2.2 : List qV) [.slice p3 ln3 k3] :: Ch.own Z1 (r.2.2.1 : List ByteArray) [.slice p2 ln2 k2] :: Ch.own Z0 (r.2.1 : List qk) [.slice p1 ln1 k1] :: F)) r.1 := by
 refine qcB Tryz.func58 rfl (m := 18) rfl rfl ?_
 rw [qfl] at hF
 obtain rfl := (h.sl 0 rfl).2
 obtain rfl := (h.sl 1 rfl).2
 obtain rfl := (h.sl 2 rfl).2
 refine zSR (qP h rfl rfl ?_)
 intro w1 bb1 h
 refine zp1 rfl (zNSR (zp1 rfl (zl 0 0 h rfl (zp1 rfl ?_))))
 replace h := h.pickT 4 [3, 0, 1, 2] rfl
 obtain ⟨o1, hr1, hF⟩ := qd hF
 obtain ⟨r1, x1⟩ := o1
 refine qb3 r1 call100 (qiQ h hr1) rfl rfl rfl rfl ?_
 rintro w2 ⟨S4, h⟩
 refine zp1 rfl (zNSR (zp1 rfl (zl 1 1 h rfl (zp1 rfl ?_))))
 replace h := h.pickT 4 [3, 0, 1, 2] rfl
 obtain ⟨o2, hr2, hF⟩ := qd hF
 obtain ⟨r2, x2⟩ := o2
 refine qb3 r2 call101 (qjr h hr2) rfl rfl rfl rfl ?_
 rintro w3 ⟨S5, h⟩
 refine zp1 rfl (zNSR (zp1 rfl (zl 2 2 h rfl (zp1 rfl ?_))))
 replace h := h.pickT 4 [3, 0, 1, 2] rfl
 obtain ⟨o3, hr3, hF⟩ := qd hF
 obtain ⟨r3, x3⟩ := o3
 refine qb3 r3 call102 (qj7 h hr3) rfl rfl rfl rfl ?_
 rintro w4 ⟨S6, h⟩
 refine zp1 rfl (zNSR (zp2 rfl (qb ?_)))
 obtain rfl := qh hF
 replace h := h.pickT 4 [0, 1, 2] rfl
 exact qhj qc ⟨_, _, _, h⟩ ⟨rfl, trivial⟩

def qcj (a : (List qQ)) : Nat → (List qQ) → Int → Int → Option ((List qQ) × Int × Int)
 | 0, _, _, _ => none
 | n + 1, x1, i1, i2 =>
  bif decide (i2 < (a.length : Int)) then
   (idx x1 i2).bind fun y1 =>
   (qai n y1.Parent i1).bind fun o => match o with
    | (r1, x2) =>
     (qai n y1.Res r1).bind fun o => match o with
      | (r2, x3) =>
       (qai n y1.Cap r2).bind fun o => match o with
        | (r3, x4) =>
         (qai n y1.Sink r3).bind fun o => match o with
          | (r4, x5) =>
           qcj a n (setS x1 i2 (⟨x2, x3, x4, x5⟩ : qQ)) r4 (W64 (i2 + 1))
  else
   some (x1, i1, i2)

def qgE (n : Nat) (a : (List qQ)) (k : Int) : Option (Int × (List qQ)) :=
 (qcj a n a k 0).bind fun o => match o with
 | (x1, i1, _) =>
  some (i1, x1)

theorem qj8 {n : Nat} {w0 w : World} {F : List Ch} {a : (List qQ)} {k : Int} {S1 : Nat → Prop} {p1 : Option Addr} {ln1 k1 : Nat} (h : SH w0 w (Ch.own S1 (a : List qQ) [.slice p1 ln1 k1] :: F)) {r : (Int × (List qQ))} (hF : qgE n a k = some r) : RetN Tryz.prog 59 [.slice p1 ln1 k1, .int .i64 k] w (fun w' => ∃ Z0 : Nat → Prop, SH w0 w' (Ch.own Z0 (r.2 : List qQ) [.slice p1 ln1 k1] :: F)) r.1 := by
 refine qcB Tryz.func59 rfl (m := 41) rfl rfl ?_
 rw [qgE] at hF
 obtain rfl := (h.sl 0 rfl).2
 refine zSR (zp1 rfl (zNSSR (zp1 rfl (qb ?_))))
 obtain ⟨o1, hF, hK1⟩ := qd hF
 refine qw (qR [(0, _), (1, _), (5, _)] ⟨rfl, rfl, rfl, trivial⟩ ?_)
 refine qH (fun m e w' => ∃ (S2 : Nat → Prop) (x1 : (List qQ)) (i1 : Int) (i2 : Int), qcj a m x1 i1 i2 = some o1 ∧ e = [(0, .slice p1 a.length k1), (1, .int .i64 i1), (5, .int .i64 i2)] ∧ SH w0 w' (Ch.own S2 (x1 : List qQ) [.slice p1 a.length k1] :: F)) n ⟨_, _, _, _, hF, rfl, h⟩ ?_
 rintro m1 e1 w1 ⟨S2, x1, i1, i2, hF, rfl, h⟩
 rcases m1 with _ | m1
 ·rw [qcj] at hF
  cases hF
 rw [qcj] at hF
 refine zSSR (zp4 rfl (qb ?_))
 refine qq rfl hF ?_ ?_ <;> intro hF
 ·refine zKSBSR (zp2 rfl ?_)
  obtain ⟨y1, hy1, hF⟩ := qd hF
  have he1 := qg hy1
  obtain ⟨S3, S4, cs1, h⟩ := h.take hy1
  obtain ⟨p2, k2, p3, k3, p4, k4, p5, k5, rfl, -, -, -, -⟩ := qbu (h.own 0 rfl)
  obtain ⟨S5, S6, S7, S8, h⟩ := qnW h
  obtain ⟨b1, hp1, -, -, hl2⟩ := h.holeAt 4 rfl
  obtain ⟨q1, hq1⟩ : ∃ q, q = 0 + (i2).toNat * GoT.k qQ := ⟨_, rfl⟩
  refine zx hp1 hq1 ⟨he1.1, qac he1.2.1 hl2⟩ rfl (zp1 rfl (zc 0 (qbV h 4 rfl hp1 hq1) rfl (zp1 rfl ?_)))
  replace h := h.pickT 5 [3, 0, 1, 2, 4] rfl
  obtain ⟨o2, hr1, hF⟩ := qd hF
  obtain ⟨r1, x2⟩ := o2
  refine qb3 r1 call24 (qak h hr1) rfl rfl rfl rfl ?_
  rintro w2 ⟨S9, h⟩
  refine zp1 rfl (zNSR (zp2 rfl ?_))
  obtain ⟨b2, hp2, -, -, hl4⟩ := h.holeAt 4 rfl
  obtain ⟨q2, hq2⟩ : ∃ q, q = 0 + (i2).toNat * GoT.k qQ := ⟨_, rfl⟩
  refine zx hp2 hq2 ⟨he1.1, qac he1.2.1 hl4⟩ rfl (zp1 rfl (zc 1 (qbV h 4 rfl hp2 hq2) rfl (zp1 rfl ?_)))
  replace h := h.pickT 5 [3, 0, 1, 2, 4] rfl
  obtain ⟨o3, hr2, hF⟩ := qd hF
  obtain ⟨r2, x3⟩ := o3
  refine qb3 r2 call24 (qak h hr2) rfl rfl rfl rfl ?_
  rintro w3 ⟨S10, h⟩
  refine zp1 rfl (zNSR (zp2 rfl ?_))
  obtain ⟨b3, hp3, -, -, hl6⟩ := h.holeAt 4 rfl
  obtain ⟨q3, hq3⟩ : ∃ q, q = 0 + (i2).toNat * GoT.k qQ := ⟨_, rfl⟩
  refine zx hp3 hq3 ⟨he1.1, qac he1.2.1 hl6⟩ rfl (zp1 rfl (zc 2 (qbV h 4 rfl hp3 hq3) rfl (zp1 rfl ?_)))
  replace h := h.pickT 5 [3, 0, 1, 2, 4] rfl
  obtain ⟨o4, hr3, hF⟩ := qd hF
  obtain ⟨r3, x4⟩ := o4
  refine qb3 r3 call24 (qak h hr3) rfl rfl rfl rfl ?_
  rintro w4 ⟨S11, h⟩
  refine zp1 rfl (qb (qz (zp2 rfl ?_)))
  obtain ⟨b4, hp4, -, -, hl8⟩ := h.holeAt 4 rfl
  obtain ⟨q4, hq4⟩ : ∃ q, q = 0 + (i2).toNat * GoT.k qQ := ⟨_, rfl⟩
  refine zx hp4 hq4 ⟨he1.1, qac he1.2.1 hl8⟩ rfl (zp1 rfl (zc 3 (qbV h 4 rfl hp4 hq4) rfl (zp1 rfl ?_)))
  replace h := h.pickT 5 [3, 0, 1, 2, 4] rfl
  obtain ⟨o5, hr4, hF⟩ := qd hF
  obtain ⟨r4, x5⟩ := o5
  refine qb3 r4 call24 (qak h hr4) rfl rfl rfl rfl ?_
  rintro w5 ⟨S12, h⟩
  refine zp1 rfl (zNER (zp3 rfl (qb ?_)))
  obtain ⟨S13, h⟩ := h.gatherT 5 [4] (qnZ (⟨x2, x3, x4, x5⟩ : qQ) h (qab 3 h rfl) (qab 2 h rfl) (qab 1 h rfl) (qab 0 h rfl) (by rfl) (by rfl) (by rfl)) rfl
  replace h := h.put
  obtain ⟨S14, h⟩ := qj0 (S := _) h
  exact qA m1 [(0, _), (1, _), (5, _)] (Nat.lt_succ_self m1) ⟨rfl, rfl, rfl, trivial⟩ ⟨_, _, _, _, hF, rfl, h⟩
 refine qI rfl ?_
 obtain rfl := qh hF; replace hF := hK1
 refine zSR (zp2 rfl (qb ?_))
 obtain rfl := qh hF
 exact qhj qc ⟨_, h⟩ ⟨rfl, trivial⟩

def qfy (n : Nat) (a : qD) (k : Int) : Option (Int × (List qB) × (List qk) × (List ByteArray) × (List qV) × (List qQ)) :=
 (qe2 n (⟨a.Library.Cells⟩ : qx) k).bind fun o => match o with
  | (r1, x1) =>
   (qfl n (⟨a.Design.Instances, a.Design.Nets, a.Design.Ports⟩ : ql) r1).bind fun o => match o with
    | (r2, x2, x3, x4) =>
     (qgE n a.Wires r2).bind fun o => match o with
      | (r3, x5) =>
       some (r3, x1, x2, x3, x4, x5)

theorem qj4 {n : Nat} {w0 w : World} {F : List Ch} {a : qD} {k : Int} {S1 : Nat → Prop} {p1 : Option Addr} {ln1 k1 : Nat} {S2 : Nat → Prop} {p2 : Option Addr} {ln2 k2 : Nat} {S3 : Nat → Prop} {p3 : Option Addr} {ln3 k3 : Nat} {S4 : Nat → Prop} {p4 : Option Addr} {ln4 k4 : Nat} {S5 : Nat → Prop} {p5 : Option Addr} {ln5 k5 : Nat} (h : SH w0 w (Ch.own S5 (a.Wires : List qQ) [.slice p5 ln5 k5] :: Ch.own S4 (a.Design.Ports : List qV) [.slice p4 ln4 k4] :: Ch.own S3 (a.Design.Nets : List ByteArray) [.slice p3 ln3 k3] :: Ch.own S2 (a.Design.Instances : List qk) [.slice p2 ln2 k2] :: Ch.own S1 (a.Library.Cells : List qB) [.slice p1 ln1 k1] :: F)) {r : (Int × (List qB) × (List qk) × (List ByteArray) × (List qV) × (List qQ))} (hF : qfy n a k = some r) : RetN Tryz.prog 22 [.agg #[.slice p1 ln1 k1, .slice p2 ln2 k2, .slice p3 ln3 k3, .slice p4 ln4 k4, .slice p5 ln5 k5], .int .i64 k] w (fun w' => ∃ Z0 Z1 Z2 Z3 Z4 : Nat → Prop, SH w0 w' (Ch.own Z4 (r.2.2.2.2.2 : List qQ) [.slice p5 ln5 k5] :: Ch.own Z3 (r.2.2.2.2.1 : List qV) [.slice p4 ln4 k4] :: Ch.own Z2 (r.2.2.2.1 : List ByteArray) [.slice p3 ln3 k3] :: Ch.own Z1 (r.2.2.1 : List qk) [.slice p2 ln2 k2] :: Ch.own Z0 (r.2.1 : List qB) [.slice p1 ln1 k1] :: F)) r.1 := by
 refine qcB Tryz.func22 rfl (m := 18) rfl rfl ?_
 rw [qfy] at hF
 obtain rfl := (h.sl 0 rfl).2
 obtain rfl := (h.sl 1 rfl).2
 obtain rfl := (h.sl 2 rfl).2
 obtain rfl := (h.sl 3 rfl).2
 obtain rfl := (h.sl 4 rfl).2
 refine zSR (qP h rfl rfl ?_)
 intro w1 bb1 h
 refine zp1 rfl (zNSR (zp1 rfl (zl 0 0 h rfl (zp1 rfl ?_))))
 replace h := h.pickT 6 [5, 0, 1, 2, 3, 4] rfl
 obtain ⟨o1, hr1, hF⟩ := qd hF
 obtain ⟨r1, x1⟩ := o1
 refine qb3 r1 call57 (qjb h hr1) rfl rfl rfl rfl ?_
 rintro w2 ⟨S6, h⟩
 refine zp1 rfl (zNSR (zp1 rfl (zl 1 1 h rfl (zp1 rfl ?_))))
 replace h := h.pickT 6 [3, 4, 5, 0, 1, 2] rfl
 obtain ⟨o2, hr2, hF⟩ := qd hF
 obtain ⟨r2, x2, x3, x4⟩ := o2
 refine qb3 r2 call58 (qjK h hr2) rfl rfl rfl rfl ?_
 rintro w3 ⟨S7, S8, S9, h⟩
 refine zp1 rfl (zNSR (zp1 rfl (zl 4 4 h rfl (zp1 rfl ?_))))
 replace h := h.pickT 6 [5, 0, 1, 2, 3, 4] rfl
 obtain ⟨o3, hr3, hF⟩ := qd hF
 obtain ⟨r3, x5⟩ := o3
 refine qb3 r3 call59 (qj8 h hr3) rfl rfl rfl rfl ?_
 rintro w4 ⟨S10, h⟩
 refine zp1 rfl (zNSR (zp2 rfl (qb ?_)))
 obtain rfl := qh hF
 replace h := h.pickT 6 [0, 1, 2, 3, 4] rfl
 exact qhj qc ⟨_, _, _, _, _, h⟩ ⟨rfl, trivial⟩

def qbb (a : (List qf)) : Nat → (List qf) → Int → Int → Option ((List qf) × Int × Int)
 | 0, _, _, _ => none
 | n + 1, x1, i1, i2 =>
  bif decide (i2 < (a.length : Int)) then
   (idx x1 i2).bind fun y1 =>
   (qai n y1.From (W64 ((W64 (i1 + 1)) + 1))).bind fun o => match o with
    | (r1, x2) =>
     (qai n y1.Through r1).bind fun o => match o with
      | (r2, x3) =>
       (qai n y1.To r2).bind fun o => match o with
        | (r3, x4) =>
         qbb a n (setS x1 i2 (⟨i1, W64 (i1 + 1), x2, x3, x4⟩ : qf)) r3 (W64 (i2 + 1))
  else
   some (x1, i1, i2)

def qeM (n : Nat) (a : (List qf)) (k : Int) : Option (Int × (List qf)) :=
 (qbb a n a k 0).bind fun o => match o with
 | (x1, i1, _) =>
  some (i1, x1)

theorem qiH {n : Nat} {w0 w : World} {F : List Ch} {a : (List qf)} {k : Int} {S1 : Nat → Prop} {p1 : Option Addr} {ln1 k1 : Nat} (h : SH w0 w (Ch.own S1 (a : List qf) [.slice p1 ln1 k1] :: F)) {r : (Int × (List qf))} (hF : qeM n a k = some r) : RetN Tryz.prog 23 [.slice p1 ln1 k1, .int .i64 k] w (fun w' => ∃ Z0 : Nat → Prop, SH w0 w' (Ch.own Z0 (r.2 : List qf) [.slice p1 ln1 k1] :: F)) r.1 := by
 refine qcB Tryz.func23 rfl (m := 48) rfl rfl ?_
 rw [qeM] at hF
 obtain rfl := (h.sl 0 rfl).2
 refine zSR (zp1 rfl (zNSSR (zp1 rfl (qb ?_))))
 obtain ⟨o1, hF, hK1⟩ := qd hF
 refine qw (qR [(0, _), (1, _), (5, _)] ⟨rfl, rfl, rfl, trivial⟩ ?_)
 refine qH (fun m e w' => ∃ (S2 : Nat → Prop) (x1 : (List qf)) (i1 : Int) (i2 : Int), qbb a m x1 i1 i2 = some o1 ∧ e = [(0, .slice p1 a.length k1), (1, .int .i64 i1), (5, .int .i64 i2)] ∧ SH w0 w' (Ch.own S2 (x1 : List qf) [.slice p1 a.length k1] :: F)) n ⟨_, _, _, _, hF, rfl, h⟩ ?_
 rintro m1 e1 w1 ⟨S2, x1, i1, i2, hF, rfl, h⟩
 rcases m1 with _ | m1
 ·rw [qbb] at hF
  cases hF
 rw [qbb] at hF
 refine zSSR (zp4 rfl (qb ?_))
 refine qq rfl hF ?_ ?_ <;> intro hF
 ·refine zKSBSR (zp3 rfl ?_)
  obtain ⟨y1, hy1, hF⟩ := qd hF
  have he1 := qg hy1
  obtain ⟨S3, S4, cs1, h⟩ := h.take hy1
  obtain ⟨p2, k2, p3, k3, p4, k4, rfl, -, -, -⟩ := qY (h.own 0 rfl)
  obtain ⟨S5, S6, S7, h⟩ := qkI h
  obtain ⟨b1, hp1, -, -, hl2⟩ := h.holeAt 3 rfl
  obtain ⟨q1, hq1⟩ : ∃ q, q = 0 + (i2).toNat * GoT.k qf := ⟨_, rfl⟩
  refine zx hp1 hq1 ⟨he1.1, qac he1.2.1 hl2⟩ rfl (zp1 rfl (qeX qc 3 0 h rfl hp1 hq1 rfl rfl rfl rfl rfl rfl ?_))
  intro w2 h
  refine zNSR (zp3 rfl (zNSR (zp3 rfl ?_)))
  obtain ⟨b2, hp2, -, -, hl4⟩ := h.holeAt 3 rfl
  obtain ⟨q2, hq2⟩ : ∃ q, q = 0 + (i2).toNat * GoT.k qf := ⟨_, rfl⟩
  refine zx hp2 hq2 ⟨he1.1, qac he1.2.1 hl4⟩ rfl (zp1 rfl (qeX qc 3 1 h rfl hp2 hq2 rfl rfl rfl rfl rfl rfl ?_))
  intro w3 h
  replace h : SH _ _ (Ch.own S7 (y1.To : List Int) [.slice p4 y1.To.length k4] :: Ch.own S6 (y1.Through : List Int) [.slice p3 y1.Through.length k3] :: Ch.own S5 (y1.From : List Int) [.slice p2 y1.From.length k2] :: Ch.hole S4 (x1 : List qf) p1 a.length k1 (i2).toNat [.int .i64 i1, .int .i64 (W64 (i1 + 1)), .slice p2 y1.From.length k2, .slice p3 y1.Through.length k3, .slice p4 y1.To.length k4] :: F) := h
  refine zNSR (zp3 rfl (zNSR (zp2 rfl ?_)))
  obtain ⟨b3, hp3, -, -, hl6⟩ := h.holeAt 3 rfl
  obtain ⟨q3, hq3⟩ : ∃ q, q = 0 + (i2).toNat * GoT.k qf := ⟨_, rfl⟩
  refine zx hp3 hq3 ⟨he1.1, qac he1.2.1 hl6⟩ rfl (zp1 rfl (zc 2 (qbV h 3 rfl hp3 hq3) rfl (zp1 rfl ?_)))
  replace h := h.pickT 4 [2, 0, 1, 3] rfl
  obtain ⟨o2, hr1, hF⟩ := qd hF
  obtain ⟨r1, x2⟩ := o2
  refine qb3 r1 call24 (qak h hr1) rfl rfl rfl rfl ?_
  rintro w4 ⟨S8, h⟩
  refine zp1 rfl (zNSR (zp2 rfl ?_))
  obtain ⟨b4, hp4, -, -, hl8⟩ := h.holeAt 3 rfl
  obtain ⟨q4, hq4⟩ : ∃ q, q = 0 + (i2).toNat * GoT.k qf := ⟨_, rfl⟩
  refine zx hp4 hq4 ⟨he1.1, qac he1.2.1 hl8⟩ rfl (zp1 rfl (zc 3 (qbV h 3 rfl hp4 hq4) rfl (zp1 rfl ?_)))
  replace h := h.pickT 4 [2, 0, 1, 3] rfl
  obtain ⟨o3, hr2, hF⟩ := qd hF
  obtain ⟨r2, x3⟩ := o3
  refine qb3 r2 call24 (qak h hr2) rfl rfl rfl rfl ?_
  rintro w5 ⟨S9, h⟩
  refine zp1 rfl (qb (qz (zp2 rfl ?_)))
  obtain ⟨b5, hp5, -, -, hl10⟩ := h.holeAt 3 rfl
  obtain ⟨q5, hq5⟩ : ∃ q, q = 0 + (i2).toNat * GoT.k qf := ⟨_, rfl⟩
  refine zx hp5 hq5 ⟨he1.1, qac he1.2.1 hl10⟩ rfl (zp1 rfl (zc 4 (qbV h 3 rfl hp5 hq5) rfl (zp1 rfl ?_)))
  replace h := h.pickT 4 [2, 0, 1, 3] rfl
  obtain ⟨o4, hr3, hF⟩ := qd hF
  obtain ⟨r3, x4⟩ := o4
  refine qb3 r3 call24 (qak h hr3) rfl rfl rfl rfl ?_
  rintro w6 ⟨S10, h⟩
  refine zp1 rfl (zNER (zp3 rfl (qb ?_)))
  obtain ⟨S11, h⟩ := h.gatherT 4 [3] (qjZ (⟨i1, W64 (i1 + 1), x2, x3, x4⟩ : qf) h (qaw (S := fun _ => False) rfl) (qaw (S := fun _ => False) rfl) (qab 2 h rfl) (qab 1 h rfl) (qab 0 h rfl) (by rfl) (by rfl) (by rfl) (by rfl)) rfl
  replace h := h.put
  obtain ⟨S12, h⟩ := qj0 (S := _) h
  exact qA m1 [(0, _), (1, _), (5, _)] (Nat.lt_succ_self m1) ⟨rfl, rfl, rfl, trivial⟩ ⟨_, _, _, _, hF, rfl, h⟩
 refine qI rfl ?_
 obtain rfl := qh hF; replace hF := hK1
 refine zSR (zp2 rfl (qb ?_))
 obtain rfl := qh hF
 exact qhj qc ⟨_, h⟩ ⟨rfl, trivial⟩

def qbv (a : (List Int)) : Nat → Int → Int → Option (Flow Int (Int × Int))
 | 0, _, _ => none
 | n + 1, i1, i2 =>
  bif decide (i2 < (a.length : Int)) then
   (idx a i2).bind fun y1 =>
   bif (y1 != i1) then
    some (.ret (-1))
   else
    qbv a n (W64 (i1 + 1)) (W64 (i2 + 1))
  else
   some (.nxt (i1, i2))

def qeo (n : Nat) (a : (List Int)) (k : Int) : Option Int :=
 (qbv a n k 0).bind fun o => match o with
 | .ret r => some r
 | .nxt (i1, _) =>
  some i1

theorem qh5 {n : Nat} {w : World} {a : (List Int)} {k : Int} {cs1 : List Value} (ha1 : GoT.R w (old w) a cs1) {r : Int} (hF : qeo n a k = some r) : RetV Tryz.prog 25 [GoT.v (List Int) cs1, .int .i64 k] w r := by
 obtain ⟨p1, k1, rfl, s1⟩ := ha1
 refine qe Tryz.func25 rfl (m := 21) rfl rfl (fun h => ?_)
 rw [qeo] at hF
 refine zSR (zp1 rfl (zNSSR (zp1 rfl (qb ?_))))
 obtain ⟨o1, hF, hK1⟩ := qd hF
 refine qw (qR [(0, _), (1, _), (5, _)] ⟨rfl, rfl, rfl, trivial⟩ ?_)
 refine qH (fun m e w' => ∃ (i1 : Int) (i2 : Int), qbv a m i1 i2 = some o1 ∧ e = [(0, .slice p1 a.length k1), (1, .int .i64 i1), (5, .int .i64 i2)] ∧ SH w w' []) n ⟨_, _, hF, rfl, h⟩ ?_
 rintro m1 e1 w1 ⟨i1, i2, hF, rfl, h⟩
 rcases m1 with _ | m1
 ·rw [qbv] at hF
  cases hF
 rw [qbv] at hF
 refine zSSR (zp4 rfl (qb ?_))
 refine qq rfl hF ?_ ?_ <;> intro hF
 ·refine zKSB (zSSR (zp2 rfl ?_))
  obtain ⟨y1, hy1, hF⟩ := qd hF
  have he1 := qg hy1
  obtain ⟨b1, o_1, q1, cs2, hp1, hq1, -, hr1, hc2⟩ := s1.at hy1
  obtain rfl := hr1
  refine zxe hp1 hq1 he1 rfl (zc 0 (hc2.below h.below) rfl (zp2 rfl (qb ?_)))
  refine qq rfl hF ?_ ?_ <;> intro hF
  ·refine zSR (zp1 rfl (qb ?_))
   obtain rfl := qh hF; replace hF := hK1
   exact qaF qc h hF ⟨rfl, trivial⟩
  refine qdO (qz (zp3 rfl (zNER (zp3 rfl (qb ?_)))))
  exact qA m1 [(0, _), (1, _), (5, _)] (Nat.lt_succ_self m1) ⟨rfl, rfl, rfl, trivial⟩ ⟨_, _, hF, rfl, h⟩
 refine qI rfl ?_
 obtain rfl := qh hF; replace hF := hK1
 exact zSR (zp2 rfl (qb (qaF qc h hF ⟨rfl, trivial⟩)))

end Go.Fw


namespace Go.Fw
open Go

def qeJ (x : qf) : Prop := rngI x.Kind ∧ rngI x.Value ∧ (rngL rngI) x.From ∧ (rngL rngI) x.Through ∧ (rngL rngI) x.To
def qba (x : qf) : Nat := qao x.From + qao x.Through + qao x.To
structure qcK (x : qf) : Prop where
  Kind : okI x.Kind
  Value : okI x.Value
  From : (okL okI) x.From
  Through : (okL okI) x.Through
  To : (okL okI) x.To
theorem qlR {x : qf} (h : qeJ x) (w : qba x ≤ 1048576) : qcK x := ⟨h.1, h.2.1, qcu (h.2.2.1) (by simp only [qba] at w; omega), qcu (h.2.2.2.1) (by simp only [qba] at w; omega), qcu (h.2.2.2.2) (by simp only [qba] at w; omega)⟩
theorem qnn {a : qf} (h : qba a ≤ 1048576) : Ev (fun n => qdX n a a) true := by
  unfold qdX
  simp only [qba] at h
  exact Ev.ff qbD (Ev.ff qbD (Ev.bind (qcV (a := a.From) (by omega)) (Ev.ff rfl (Ev.bind (qcV (a := a.Through) (by omega)) (Ev.ff rfl (Ev.bind (qcV (a := a.To) (by omega)) (Ev.ff rfl (.done))))))))

def qbx (a : (List qf)) : Nat := a.length + (a.map fun x => qba x).sum
theorem qlt {a : (List qf)} (h : (rngL qeJ) a) (w : qbx a ≤ 1048576) : (okL qcK) a :=
  ⟨by simp only [qbx] at w; omega, fun x hx => qlR (h.2 x hx) (by have := qcb (wt := fun x : qf => qba x) hx; simp only [qbx] at w; omega)⟩
theorem qms {a : (List qf)} (h : qbx a ≤ 1048576) : Ev (fun n => qew n a a) true := by
  have hl : a.length ≤ 1048576 := by simp only [qbx] at h; omega
  unfold qew
  exact Ev.ff (by simp) (Ev.bind (b := .nxt (a.length : Int)) (qhx (eqf := qdX) (fun x hx => qnn (by have := qcb (wt := fun x : qf => qba x) hx; simp only [qbx] at h; omega))
    (fun n => by simp only [qbR, qu (Nat.le_refl _), cond_false])
    (fun n j x hx => by
      have hj := (List.getElem?_eq_some_iff.1 hx).1
      simp only [qbR, qt hj, cond_true, qav hx, Option.bind_some, qr (show j < 9223372036854775807 by omega)])) .done)

theorem qnc {a : qf} {left : Int} (h : qeJ a) (h0 : 0 ≤ left) (h1 : left ≤ 1048576) : Sz (fun n => qd0 n a left) (fun r => r = left - (qba a : Int)) := by
  unfold qd0
  obtain ⟨h_0, h_1, h_2, h_3, h_4⟩ := h
  exact Sz.step (qen (a := a.From) h_2 (by omega) (by omega)) fun r0 p0 q0 => Sz.step (qen (a := a.Through) h_3 (by omega) (by omega)) fun r1 p1 q1 => Sz.step (qen (a := a.To) h_4 (by omega) (by omega)) fun r2 p2 q2 => Sz.done p2 (by simp only [qba]; omega)

theorem qmx {a : (List qf)} {left : Int} (h : (rngL qeJ) a) (h0 : 0 ≤ left) (h1 : left ≤ 1048576) : Sz (fun n => qfw n a left) (fun r => r = left - (qbx a : Int)) :=
  Sz.list (Lf := qbq a) (wt := fun x : qf => qba x) (el := qd0) h0 h1 h.1 (fun x hx left p q => qnc (h.2 x hx) p q)
    (fun acc n => by simp only [qbq, qu (Nat.le_refl _), cond_false])
    (fun acc n j x hx => by
      have hj := (List.getElem?_eq_some_iff.1 hx).1
      have hl := h.1
      simp only [qbq, qt hj, cond_true, qav hx, Option.bind_some, qr (show j < 9223372036854775807 by omega)])
    (fun _ => rfl)

theorem qns {a : qf} (h : qba a ≤ 1048576) : Ev (fun n => qdU n a) a := by
  unfold qdU
  simp only [qba] at h
  exact Ev.bind (qcW (a := a.From) (by omega)) (Ev.bind (qcW (a := a.Through) (by omega)) (Ev.bind (qcW (a := a.To) (by omega)) (.done)))

theorem qhw {a : (List qf)} (h : qbx a ≤ 1048576) : Ev (fun n => qcd n a) a := by
  have hl : a.length ≤ 1048576 := by simp only [qbx] at h; omega
  unfold qcd
  exact Ev.bindN (qgK (by omega)) (Ev.bind (b := (a, (a.length : Int))) (qht (cp := qdU) (fun x hx => qns (by have := qcb (wt := fun x : qf => qba x) hx; simp only [qbx] at h; omega))
    (fun acc n => by simp only [qbQ, qu (Nat.le_refl _), cond_false])
    (fun acc n j x y hx hy => by
      have hj := (List.getElem?_eq_some_iff.1 hx).1
      simp only [qbQ, qt hj, cond_true, qav hx, qav hy, Option.bind_some, qr (show j < 9223372036854775807 by omega)])) .done)

end Go.Fw
