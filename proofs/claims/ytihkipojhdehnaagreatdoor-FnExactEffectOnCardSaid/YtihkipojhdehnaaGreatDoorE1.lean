/- Plain laws: the places of a design, one by one. -/
import Derived.Test.YtihkipojhdehnaaGreatDoorB7
import Derived.Test.YtihkipojhdehnaaGreatDoorFw34

namespace Go.Fw
open Go
set_option maxRecDepth 100000

def off (d : ql) (i : Nat) : Nat := (plI d i).length
def place1 (d : ql) (i k : Nat) : Tplace := ⟨(i : Int), (k : Int), at0 (gt d.Instances i).Nets k, decide (k + 1 = (gt d.Instances i).Nets.length)⟩
def place2 (d : ql) (i : Nat) : Tplace := ⟨-1, (i : Int), (gt d.Ports i).Net, (gt d.Ports i).Dir == 1⟩

theorem qkT {d : ql} {i : Nat} : off d (i + 1) = off d i + (gt d.Instances i).Nets.length := by
  unfold off; rw [qjV, List.length_append, qma]
theorem qiS {d : ql} : (places d).length = off d d.Instances.length + d.Ports.length := by
  unfold places off; rw [List.length_append, qmb]
theorem qr7 {d : ql} {n i k : Nat} (hi : i < n) (hk : k < (gt d.Instances i).Nets.length) : off d i + k < off d n ∧ gt (plI d n) (off d i + k) = place1 d i k := by
  induction n with
  | zero => omega
  | succ n ih =>
    rw [qjV, qlr]
    rcases Nat.lt_succ_iff_lt_or_eq.1 hi with h | rfl
    · obtain ⟨h1, h2⟩ := ih h
      refine ⟨by rw [qkT]; omega, ?_⟩
      rw [if_pos (show off d i + k < (plI d n).length from h1), h2]
    · refine ⟨by rw [qkT]; omega, ?_⟩
      rw [if_neg (by unfold off; omega), show off d i + k - (plI d i).length = k by unfold off; omega]
      exact qow hk
theorem qkb {d : ql} {i k : Nat} (hi : i < d.Instances.length) (hk : k < (gt d.Instances i).Nets.length) : off d i + k < (places d).length ∧ gt (places d) (off d i + k) = place1 d i k := by
  obtain ⟨h1, h2⟩ := qr7 hi hk
  refine ⟨by rw [qiS]; omega, ?_⟩
  unfold places
  rw [qlr, if_pos (show off d i + k < (plI d d.Instances.length).length from h1), h2]
theorem qnm {d : ql} {i : Nat} (hi : i < d.Ports.length) : off d d.Instances.length + i < (places d).length ∧ gt (places d) (off d d.Instances.length + i) = place2 d i := by
  refine ⟨by rw [qiS]; omega, ?_⟩
  unfold places
  rw [qlr, if_neg (by unfold off; omega), show off d d.Instances.length + i - (plI d d.Instances.length).length = i by unfold off; omega]
  exact qow hi
theorem qpV {d : ql} {n j : Nat} (hj : j < off d n) : ∃ i k, i < n ∧ k < (gt d.Instances i).Nets.length ∧ j = off d i + k := by
  induction n with
  | zero => exact absurd hj (Nat.not_lt_zero _)
  | succ n ih =>
    by_cases h : j < off d n
    · obtain ⟨i, k, h1, h2, h3⟩ := ih h
      exact ⟨i, k, by omega, h2, h3⟩
    · rw [qkT] at hj
      exact ⟨n, j - off d n, by omega, by omega, by omega⟩
/-- Every place is a pin of an instance or a port. -/
theorem qg2 {d : ql} {j : Nat} (hj : j < (places d).length) :
    (∃ i k, i < d.Instances.length ∧ k < (gt d.Instances i).Nets.length ∧ j = off d i + k ∧ gt (places d) j = place1 d i k) ∨
    (∃ i, i < d.Ports.length ∧ j = off d d.Instances.length + i ∧ gt (places d) j = place2 d i) := by
  rw [qiS] at hj
  by_cases h : j < off d d.Instances.length
  · obtain ⟨i, k, h1, h2, rfl⟩ := qpV h
    exact .inl ⟨i, k, h1, h2, rfl, (qkb h1 h2).2⟩
  · refine .inr ⟨j - off d d.Instances.length, by omega, by omega, ?_⟩
    have := (qnm (d := d) (i := j - off d d.Instances.length) (by omega)).2
    rwa [show off d d.Instances.length + (j - off d d.Instances.length) = j by omega] at this

/-! ### Drivers -/

def drvQ (d : ql) (k : Int) (j : Nat) : Bool := ((gt (places d) j).net == k) && (gt (places d) j).drives

theorem qn6 {q : Nat → Bool} {m n : Nat} : cntP q (m + n) = cntP q m + cntP (fun j => q (m + j)) n := by
  induction n with
  | zero => rfl
  | succ n ih =>
    show cntP q (m + n) + (bif q (m + n) then 1 else 0) = cntP q m + (cntP (fun j => q (m + j)) n + (bif q (m + n) then 1 else 0))
    rw [ih]; omega
theorem qp2 {q : Nat → Bool} {n : Nat} {b : Bool} (h : 1 ≤ n) (h1 : ∀ j, j + 1 < n → q j = false) (h2 : q (n - 1) = b) : cntP q n = bif b then 1 else 0 := by
  obtain ⟨m, rfl⟩ : ∃ m, n = m + 1 := ⟨n - 1, by omega⟩
  show cntP q m + (bif q m then 1 else 0) = _
  rw [qnf.2 (fun j hj => h1 j (by omega)), show m = m + 1 - 1 by omega, h2, Nat.zero_add]

theorem qoU {d : ql} {k : Nat} (hs : smallD d) : cntP (drvQ d (k : Int)) (places d).length = drvI d k d.Instances.length + drvP d k d.Ports.length := by
  rw [qiS, qn6]
  congr 1
  · have : ∀ n, n ≤ d.Instances.length → cntP (drvQ d (k : Int)) (off d n) = drvI d k n := by
      intro n
      induction n with
      | zero => intro _; rfl
      | succ n ih =>
        intro hn
        rw [qkT, qn6, ih (by omega), qle]
        congr 1
        have h2 := (hs.nx n (by omega)).1
        refine qp2 (by omega) (fun j hj => ?_) ?_
        · show drvQ d _ (off d n + j) = false
          unfold drvQ
          rw [(qkb (by omega) (by omega)).2]
          unfold place1
          simp; omega
        · show drvQ d _ (off d n + _) = _
          unfold drvQ
          rw [(qkb (by omega) (by omega)).2]
          unfold place1 lastN
          simp; omega
    exact this _ (Nat.le_refl _)
  · refine qpj (fun j hj => ?_)
    show drvQ d _ (off d _ + j) = _
    unfold drvQ
    rw [(qnm hj).2]
    unfold place2
    exact Bool.and_comm _ _

theorem qpA {l : qw} {d : ql} (h : designB l d = true) {k : Nat} (hk : k < d.Nets.length) : cntP (drvQ d (k : Int)) (places d).length = 1 := by
  rw [qoU (qa5 h)]
  unfold designB drvB at h
  simp only [Bool.and_eq_true] at h
  have := qa1.1 h.2.2.2 k hk
  rw [beq_iff_eq] at this
  omega
theorem qou {l : qw} {d : ql} (h : designB l d = true) {i j : Nat} (hi : i < (places d).length) (hj : j < (places d).length) (he : (gt (places d) i).net = (gt (places d) j).net) (h1 : (gt (places d) i).drives = true) (h2 : (gt (places d) j).drives = true) : i = j := by
  obtain ⟨n0, n1⟩ := qjq h hi
  have e := qkF n0
  have := qpA h (k := (gt (places d) i).net.toNat) (by omega)
  refine qn3 (Nat.le_of_eq this) hi hj ?_ ?_
  · unfold drvQ; rw [← e, h1]; simp
  · unfold drvQ; rw [← e, h2, he]; simp
theorem qsf {l : qw} {d : ql} (h : designB l d = true) {k : Int} (h0 : 0 ≤ k) (h1 : k < d.Nets.length) : ∃ j, j < (places d).length ∧ (gt (places d) j).net = k ∧ (gt (places d) j).drives = true := by
  have e := qkF h0
  have := qpA h (k := k.toNat) (by omega)
  have hp : decide (0 < cntP (drvQ d ((k.toNat : Nat) : Int)) (places d).length) = true := by rw [this]; rfl
  rw [qor, Bool.not_eq_true', qjv] at hp
  obtain ⟨j, hj, hq⟩ := hp
  rw [Bool.not_eq_false', ← e] at hq
  unfold drvQ at hq
  simp only [Bool.and_eq_true, beq_iff_eq] at hq
  exact ⟨j, hj, hq.1, hq.2⟩

/-! ### Cells of instances -/

def cellAt (b : qz) (i : Int) : qE := gt b.Library.Cells (gt b.Design.Instances i.toNat).Cell.toNat
theorem qis {l : qw} {d : ql} (h : designB l d = true) {i : Nat} (hi : i < d.Instances.length) :
    (0 ≤ (gt d.Instances i).Cell ∧ (gt d.Instances i).Cell < l.Cells.length) ∧ (gt d.Instances i).Nets.length = (gt l.Cells (gt d.Instances i).Cell.toNat).Pins.length ∧ cellB (gt l.Cells (gt d.Instances i).Cell.toNat) = true := by
  unfold designB libB at h
  simp only [Bool.and_eq_true] at h
  obtain ⟨⟨⟨hc, _⟩, _⟩, hI, _⟩ := h
  rw [qhI, qa1] at hI hc
  have := hI i hi
  unfold instB at this
  simp only [Bool.and_eq_true, qc5, beq_iff_eq] at this
  exact ⟨⟨this.1.1, by omega⟩, by omega, hc _ (by omega)⟩
theorem qoz {c : qE} (h : cellB c = true) {j : Nat} (hj : j < c.Arcs.length) : (1 ≤ (gt c.Arcs j).Kind ∧ (gt c.Arcs j).Kind ≤ 5) ∧ (0 ≤ (gt c.Arcs j).From ∧ (gt c.Arcs j).From < (c.Pins.length : Int) - 1) ∧ (0 ≤ (gt c.Arcs j).To ∧ (gt c.Arcs j).To ≤ (c.Pins.length : Int) - 1) ∧ arcS c.Pins (gt c.Arcs j) = true := by
  unfold cellB at h
  simp only [Bool.and_eq_true] at h
  obtain ⟨_, hp, ⟨ha, _⟩, _, _, hk⟩ := h
  have := qa1.1 ha j hj
  rw [Bool.and_eq_true, qqZ hp (qnh hk)] at this
  have h1 := this.1
  refine ⟨qny h1, ?_⟩
  have h2 := h1
  unfold arcS at h2
  simp only [Bool.and_eq_true, qc5] at h2
  refine ⟨⟨h2.1.1.1, by omega⟩, h2.1.2, h1⟩
theorem qkw {c : qE} (h : cellB c = true) : c.Arcs.length ≤ 8 := by
  unfold cellB at h
  simp only [Bool.and_eq_true, decide_eq_true_eq] at h
  exact h.2.2.1.2
theorem qbT {b : qz} (h : blockB b = true) : designB b.Library b.Design = true := by
  unfold blockB at h; simp only [Bool.and_eq_true] at h; exact h.1.1
end Go.Fw


namespace Go.Fw
open Go Go.Proofs
open Go.RowKit (Below)
set_option maxRecDepth 100000
set_option maxHeartbeats 1600000
def qgJ (n : Nat) (l : qw) (d : ql) (place : Int) : Option (Tl05Place × Bool) :=
 (qfH n l d).bind fun r1 =>
 bif (!r1) then
  some ((⟨0, 0, 0, false⟩ : Tl05Place), false)
 else
  (qc0 n d).bind fun r2 =>
  (qaA n place 0 (W64 ((r2.length : Int) - 1))).bind fun r3 =>
  bif (!r3) then
   some ((⟨0, 0, 0, false⟩ : Tl05Place), false)
  else
   (idx r2 place).bind fun y1 =>
   some (y1, true)

theorem qiW {n : Nat} {w : World} {l : qw} {d : ql} {place : Int} {cs1 : List Value} (ha1 : GoT.R w (old w) l cs1) {cs2 : List Value} (ha2 : GoT.R w (old w) d cs2) {r : (Tl05Place × Bool)} (hF : qgJ n l d place = some r) : RetV Tryz.prog 140 [GoT.v qw cs1, GoT.v ql cs2, .int .i64 place] w r := by
 obtain ⟨p1, k1, rfl, s1⟩ := qbB ha1
 obtain ⟨p2, k2, p3, k3, p4, k4, rfl, s2, s3, s4⟩ := qaz ha2
 refine qf Tryz.func140 rfl (m := 27) rfl rfl (fun h => ?_)
 rw [qgJ] at hF
 refine zSR (qP h rfl rfl ?_)
 intro w1 bb1 h
 refine qP h rfl rfl ?_
 intro w2 bb2 h
 refine qT qc h rfl rfl rfl ?_
 intro w3 bb3 h
 refine zp1 rfl (zNSSR (zl 2 0 h rfl (zl 1 0 h rfl ?_)))
 obtain ⟨r1, hr1, hF⟩ := qd hF
 refine qm r1 h call136 (qi6 (h.old ha1) (h.old ha2) hr1) rfl rfl rfl rfl ?_
 intro w4 h
 refine zp1 rfl (qb ?_)
 refine qp rfl hF ?_ ?_ <;> intro hF
 ·refine zSR (r_v (qeM qc [] [] rfl rfl rfl rfl rfl rfl rfl rfl) rfl (zs 0 h rfl ?_))
  intro w5 h
  refine zp1 rfl (qb ?_)
  obtain rfl := qj hF
  exact qad qc (ρ := (Tl05Place × Bool)) [GoT.v Tl05Place [.int .i64 0, .int .i64 0, .int .i64 0, .bool false], GoT.v Bool [.bool false]] h ⟨⟨_, _, _, rfl, rfl, h.box 0 rfl, rfl⟩, rfl, trivial⟩ (PV.done h (qe6 h (qas (S := fun _ => False) (qgB (⟨0, 0, 0, false⟩ : Tl05Place))) (qai (qas (S := fun _ => False) rfl)) (by rfl)))
 refine zKSR (zl 1 0 h rfl ?_)
 obtain ⟨r2, hr2, hF⟩ := qd hF
 refine qap r2 h call124 (qeO (h.old ha2) hr2) rfl rfl rfl rfl ?_
 intro w6 S1 p5 k5 h
 refine zp1 rfl (zNSSR (zp4 rfl ?_))
 obtain ⟨r3, hr3, hF⟩ := qd hF
 refine qm r3 h call77 (qal hr3) rfl rfl rfl rfl ?_
 intro w7 h
 refine zp1 rfl (qb ?_)
 refine qp rfl hF ?_ ?_ <;> intro hF
 ·refine zSR (r_v (qeM qc [] [] rfl rfl rfl rfl rfl rfl rfl rfl) rfl (zs 1 h rfl ?_))
  intro w8 h
  replace h : SH _ _ [Ch.own S1 (r2 : List Tl05Place) [.slice p5 r2.length k5], Ch.box bb3 [.int .i64 0, .int .i64 0, .int .i64 0, .bool false] 202, Ch.box bb2 [.slice p2 d.Instances.length k2, .slice p3 d.Nets.length k3, .slice p4 d.Ports.length k4] 47, Ch.box bb1 [.slice p1 l.Cells.length k1] 43] := h
  refine zp1 rfl (qb ?_)
  obtain rfl := qj hF
  exact qad qc (ρ := (Tl05Place × Bool)) [GoT.v Tl05Place [.int .i64 0, .int .i64 0, .int .i64 0, .bool false], GoT.v Bool [.bool false]] h ⟨⟨_, _, _, rfl, rfl, h.box 1 rfl, rfl⟩, rfl, trivial⟩ (PV.done h (qe6 h (qas (S := fun _ => False) (qgB (⟨0, 0, 0, false⟩ : Tl05Place))) (qai (qas (S := fun _ => False) rfl)) (by rfl)))
 refine zKSR (zp2 rfl ?_)
 obtain ⟨y1, hy1, hF⟩ := qd hF
 have he1 := qg hy1
 obtain ⟨b1, o_1, q1, cs3, hp1, hq1, -, hr4, hc3⟩ := (h.sl 0 rfl).1.at hy1
 obtain rfl := qcA hr4
 refine zx hp1 hq1 ⟨he1.1, qa8 he1.2.1 (h.sl 0 rfl).2⟩ rfl (zc 0 hc3 rfl (zs 1 h rfl ?_))
 intro w9 h
 refine zp1 rfl (qb ?_)
 obtain rfl := qj hF
 exact qad qc (ρ := (Tl05Place × Bool)) [GoT.v Tl05Place [.int .i64 y1.instance_, .int .i64 y1.pin, .int .i64 y1.net, .bool y1.drives], GoT.v Bool [.bool true]] h ⟨⟨_, _, _, rfl, rfl, h.box 1 rfl, rfl⟩, rfl, trivial⟩ (PV.done h (qe6 h (qas (S := fun _ => False) (qgB y1)) (qai (qas (S := fun _ => False) rfl)) (by rfl)))

def qfB (n : Nat) (l : qw) (d : ql) (place : Int) : Option Int :=
 (qgJ n l d place).bind fun o => match o with
  | (r2, r3) =>
   bif (!r3) then
    some (-1)
   else
    some r2.net

theorem qkK {n : Nat} {w : World} {l : qw} {d : ql} {place : Int} {cs1 : List Value} (ha1 : GoT.R w (old w) l cs1) {cs2 : List Value} (ha2 : GoT.R w (old w) d cs2) {r : Int} (hF : qfB n l d place = some r) : RetV Tryz.prog 141 [GoT.v qw cs1, GoT.v ql cs2, .int .i64 place] w r := by
 obtain ⟨p1, k1, rfl, s1⟩ := qbB ha1
 obtain ⟨p2, k2, p3, k3, p4, k4, rfl, s2, s3, s4⟩ := qaz ha2
 refine qf Tryz.func141 rfl (m := 20) rfl rfl (fun h => ?_)
 rw [qfB] at hF
 refine zSR (qP h rfl rfl ?_)
 intro w1 bb1 h
 refine qP h rfl rfl ?_
 intro w2 bb2 h
 refine zp1 rfl (zNSR (zl 1 0 h rfl (zl 0 0 h rfl (zp1 rfl ?_))))
 obtain ⟨r1, hr1, hF⟩ := qd hF
 obtain ⟨r2, r3⟩ := r1
 refine qie (r2, r3) h call140 (qiW (h.old ha1) (h.old ha2) hr1) rfl rfl rfl rfl ?_
 intro w3 S1 us1 hv1 hr2
 obtain ⟨S2, S3, cs3, us2, rfl, hv2, hr3⟩ := hv1.cons hr2
 obtain rfl := qcA (hv2.sh.own 0 rfl)
 obtain ⟨rfl, h⟩ := hv2.lastB hr3
 refine zp3 rfl (qT qc h rfl rfl rfl ?_)
 intro w4 bb3 h
 refine zs 0 h rfl ?_
 intro w5 h
 refine zp1 rfl (zNSSR (zp2 rfl (qb ?_)))
 refine qp rfl hF ?_ ?_ <;> intro hF
 ·exact zSR (zp1 rfl (qb (qar qc h hF ⟨rfl, trivial⟩)))
 exact zKSR (zp1 rfl (zl 0 2 h rfl (zp1 rfl (qb (qar qc h hF ⟨rfl, trivial⟩)))))

def qbV (net : Int) (r1 : (List Tl05Place)) : Nat → Int → Option (Flow Int Int)
 | 0, _ => none
 | n + 1, i1 =>
  bif decide (i1 < (r1.length : Int)) then
   (idx r1 i1).bind fun y1 =>
   bif (y1.net == net) then
    (idx r1 i1).bind fun y2 =>
    bif y2.drives then
     some (.ret i1)
    else
     qbV net r1 n (W64 (i1 + 1))
   else
    qbV net r1 n (W64 (i1 + 1))
  else
   some (.nxt i1)

def qf3 (n : Nat) (d : ql) (net : Int) : Option Int :=
 (qc0 n d).bind fun r1 =>
 (qbV net r1 n 0).bind fun o => match o with
 | .ret r => some r
 | .nxt _ =>
  some (-1)

theorem qk7 {n : Nat} {w : World} {d : ql} {net : Int} {cs1 : List Value} (ha1 : GoT.R w (old w) d cs1) {r : Int} (hF : qf3 n d net = some r) : RetV Tryz.prog 142 [GoT.v ql cs1, .int .i64 net] w r := by
 obtain ⟨p1, k1, p2, k2, p3, k3, rfl, s1, s2, s3⟩ := qaz ha1
 refine qf Tryz.func142 rfl (m := 30) rfl rfl (fun h => ?_)
 rw [qf3] at hF
 refine zSR (qP h rfl rfl ?_)
 intro w1 bb1 h
 refine zp1 rfl (zNSR (zl 0 0 h rfl ?_))
 obtain ⟨r1, hr1, hF⟩ := qd hF
 refine qap r1 h call124 (qeO (h.old ha1) hr1) rfl rfl rfl rfl ?_
 intro w2 S1 p4 k4 h
 refine zp1 rfl (zNSSR (zp1 rfl (qb ?_)))
 obtain ⟨o1, hF, hK1⟩ := qd hF
 refine qA ?_
 replace h := h.pick [0] rfl
 refine qW [(1, _), (5, _), (6, _)] ⟨rfl, rfl, rfl, trivial⟩ ?_
 refine qG (fun m e w' => ∃ (i1 : Int), qbV net r1 m i1 = some o1 ∧ e = [(1, .int .i64 net), (5, .slice p4 r1.length k4), (6, .int .i64 i1)] ∧ SH w w' [Ch.own S1 (r1 : List Tl05Place) [.slice p4 r1.length k4]]) n ⟨_, hF, rfl, h⟩ ?_
 rintro m1 e1 w3 ⟨i1, hF, rfl, h⟩
 rcases m1 with _ | m1
 ·rw [qbV] at hF
  cases hF
 rw [qbV] at hF
 refine zSSR (zp4 rfl (qb ?_))
 refine qp rfl hF ?_ ?_ <;> intro hF
 ·refine zKSBSR (zp2 rfl ?_)
  obtain ⟨y1, hy1, hF⟩ := qd hF
  have he1 := qg hy1
  obtain ⟨b1, o_1, q1, cs2, hp1, hq1, -, hr2, hc2⟩ := (h.sl 0 rfl).1.at hy1
  obtain rfl := qcA hr2
  refine zx hp1 hq1 ⟨he1.1, qa8 he1.2.1 (h.sl 0 rfl).2⟩ rfl (zp1 rfl (zc 2 hc2 rfl (zp3 rfl ?_)))
  by_cases hc3 : (y1.net == net) = true
  ·replace hF := bifT hc3 hF
   refine qC hc3 (t := 22) rfl (qa rfl (zp1 rfl (qa rfl (zp1 rfl (qa rfl ?_)))))
   obtain ⟨y2, hy2, hF⟩ := qd hF
   have he2 := qg hy2
   obtain ⟨b2, o_2, q2, cs3, hp2, hq2, -, hr3, hc4⟩ := (h.sl 0 rfl).1.at hy2
   obtain rfl := qcA hr3
   refine zx hp2 hq2 ⟨he2.1, qa8 he2.2.1 (h.sl 0 rfl).2⟩ rfl (qa rfl (zp1 rfl (qa rfl (zc 3 hc4 rfl (zp1 rfl (qb ?_))))))
   refine qp rfl hF ?_ ?_ <;> intro hF
   ·refine zSR (zp2 rfl (qb ?_))
    obtain rfl := qj hF; replace hF := hK1
    exact qar qc h hF ⟨rfl, trivial⟩
   exact zKER (zp3 rfl (qb (qy m1 [(1, _), (5, _), (6, _)] (Nat.lt_succ_self m1) ⟨rfl, rfl, rfl, trivial⟩ ⟨_, hF, rfl, h⟩)))
  replace hc3 := zb hc3
  replace hF := bifF hc3 hF
  refine qD hc3 (t := 22) rfl (zn5 rfl (zp1 rfl (qb (qcG rfl rfl (zKER ?_)))))
  exact zp3 rfl (qb (qy m1 [(1, _), (5, _), (6, _)] (Nat.lt_succ_self m1) ⟨rfl, rfl, rfl, trivial⟩ ⟨_, hF, rfl, h⟩))
 refine qF rfl ?_
 obtain rfl := qj hF; replace hF := hK1
 exact zSR (zp1 rfl (qb (qar qc h hF ⟨rfl, trivial⟩)))

def qfn (_ : Nat) (b : qz) (a_instance : Int) : Option qE :=
 (idx b.Design.Instances a_instance).bind fun y1 =>
 (idx b.Library.Cells y1.Cell).bind fun y2 =>
 some y2

theorem qjC {n : Nat} {w : World} {A : Nat → Prop} (hA : ∀ b, A b → old w b) {b : qz} {a_instance : Int} {cs1 : List Value} (ha1 : GoT.R w A b cs1) {r : qE} (hF : qfn n b a_instance = some r) : RetG Tryz.prog 144 [GoT.v qz cs1, .int .i64 a_instance] w A r := by
 obtain ⟨p1, k1, p2, k2, p3, k3, p4, k4, p5, k5, rfl, s1, s2, s3, s4, s5⟩ := qat ha1
 have hg := Rg.start hA
 refine qiP Tryz.func144 rfl (m := 17) rfl rfl (fun h => ?_)
 rw [qfn] at hF
 refine zSR (qP h rfl rfl ?_)
 intro w1 bb1 h
 refine qT qc h rfl rfl rfl ?_
 intro w2 bb2 h
 refine zNS ?_
 refine qfO [] (fun w' => SH w w' [Ch.box bb1 [.slice p1 b.Library.Cells.length k1, .slice p2 b.Design.Instances.length k2, .slice p3 b.Design.Nets.length k3, .slice p4 b.Design.Ports.length k4, .slice p5 b.Wires.length k5] 50]) rfl 13 rfl #[ff, ff, ff, ff, ff, ff, ff, ff, ff, ff, ff, ff, ff] (by kernel_rfl) (fun w3 hb => ?_)
 replace h := h.ext hb
 clear hb
 refine qk 0 rfl #[tt, ff, ff, ff, ff, ff, ff, ff, ff, ff, ff, ff, ff] (by kernel_rfl) (by kernel_rfl) (fun w' hw => v_p qc rfl w') (h.pick [1] rfl) rfl ?_
 refine qk 1 rfl #[tt, tt, ff, ff, ff, ff, ff, ff, ff, ff, ff, ff, ff] (by kernel_rfl) (by kernel_rfl) (fun w' hw => v_p qc rfl w') (h.pick [1] rfl) rfl ?_
 refine qk 2 rfl #[tt, tt, tt, ff, ff, ff, ff, ff, ff, ff, ff, ff, ff] (by kernel_rfl) (by kernel_rfl) (fun w' hw => qbE qc (hw.box 0 rfl) (j := 0) rfl rfl rfl) (h.pick [1] rfl) rfl ?_
 refine qk 3 rfl #[tt, tt, tt, tt, ff, ff, ff, ff, ff, ff, ff, ff, ff] (by kernel_rfl) (by kernel_rfl) (fun w' hw => v_p qc rfl w') (h.pick [1] rfl) rfl ?_
 refine qk 4 rfl #[tt, tt, tt, tt, tt, ff, ff, ff, ff, ff, ff, ff, ff] (by kernel_rfl) (by kernel_rfl) (fun w' hw => v_p qc rfl w') (h.pick [1] rfl) rfl ?_
 refine qk 5 rfl #[tt, tt, tt, tt, tt, tt, ff, ff, ff, ff, ff, ff, ff] (by kernel_rfl) (by kernel_rfl) (fun w' hw => qbE qc (hw.box 0 rfl) (j := 1) rfl rfl rfl) (h.pick [1] rfl) rfl ?_
 refine qk 6 rfl #[tt, tt, tt, tt, tt, tt, tt, ff, ff, ff, ff, ff, ff] (by kernel_rfl) (by kernel_rfl) (fun w' hw => v_p qc rfl w') (h.pick [1] rfl) rfl ?_
 obtain ⟨y1, hy1, hF⟩ := qd hF
 have he1 := qg hy1
 obtain ⟨b1, o_1, q1, cs2, hp1, hq1, -, hr1, hc1⟩ := s2.at hy1
 obtain ⟨p6, k6, rfl, s6⟩ := qab hr1
 refine qk 7 rfl #[tt, tt, tt, tt, tt, tt, tt, tt, ff, ff, ff, ff, ff] (by kernel_rfl) (by kernel_rfl) (fun w' hw => qfA qc hp1 hq1 ⟨he1.1, he1.2.1⟩ rfl rfl rfl rfl rfl rfl) (h.pick [1] rfl) rfl ?_
 refine qk 8 rfl #[tt, tt, tt, tt, tt, tt, tt, tt, tt, ff, ff, ff, ff] (by kernel_rfl) (by kernel_rfl) (fun w' hw => v_p qc rfl w') (h.pick [1] rfl) rfl ?_
 refine qk 9 rfl #[tt, tt, tt, tt, tt, tt, tt, tt, tt, tt, ff, ff, ff] (by kernel_rfl) (by kernel_rfl) (fun w' hw => qbE qc (hc1.below hw.below) (j := 1) rfl rfl rfl) (h.pick [1] rfl) rfl ?_
 obtain ⟨y2, hy2, hF⟩ := qd hF
 have he2 := qg hy2
 obtain ⟨b2, o_2, q2, cs3, hp2, hq2, -, hr2, hc2⟩ := s1.at hy2
 obtain ⟨p7, k7, p8, k8, p9, k9, rfl, s7, s8, s9⟩ := qaa hr2
 refine qk 10 rfl #[tt, tt, tt, tt, tt, tt, tt, tt, tt, tt, tt, ff, ff] (by kernel_rfl) (by kernel_rfl) (fun w' hw => qfA qc hp2 hq2 ⟨he2.1, he2.2.1⟩ rfl rfl rfl rfl rfl rfl) (h.pick [1] rfl) rfl ?_
 refine qk 11 rfl #[tt, tt, tt, tt, tt, tt, tt, tt, tt, tt, tt, tt, ff] (by kernel_rfl) (by kernel_rfl) (fun w' hw => qbE qc (hc2.below hw.below) (j := 0) rfl rfl rfl) (h.pick [1] rfl) rfl ?_
 refine qax 12 rfl #[tt, tt, tt, tt, tt, tt, tt, tt, tt, tt, tt, tt, tt] (by kernel_rfl) (by kernel_rfl) ?_
 refine zs 0 h rfl ?_
 intro w4 h
 replace h : SH _ _ [Ch.box bb2 [.string y2.Name, .int .i64 y2.Kind, .slice p7 y2.Pins.length k7, .slice p8 y2.Arcs.length k8, .slice p9 y2.Truth.length k9, .int .i64 y2.Leak, .int .i64 y2.Energy] 183, Ch.box bb1 [.slice p1 b.Library.Cells.length k1, .slice p2 b.Design.Instances.length k2, .slice p3 b.Design.Nets.length k3, .slice p4 b.Design.Ports.length k4, .slice p5 b.Wires.length k5] 50] := h
 refine qao (fun _ => (h.pick [1] rfl)) ?_
 refine qdn (by kernel_rfl) ?_
 obtain rfl := qj hF
 have hv1 : GoRs.Rs (ρ := qE) h.wc (reg A w h.wc) y2 [GoT.v qE [.string y2.Name, .int .i64 y2.Kind, .slice p7 y2.Pins.length k7, .slice p8 y2.Arcs.length k8, .slice p9 y2.Truth.length k9, .int .i64 y2.Leak, .int .i64 y2.Energy]] := ⟨_, rfl, (hg.outR h (qgW y2 (hg.inS h s7) (hg.inS h s8) (hg.inS h s9)))⟩
 exact qkH qc (ρ := qE) (r := y2) [GoT.v qE [.string y2.Name, .int .i64 y2.Kind, .slice p7 y2.Pins.length k7, .slice p8 y2.Arcs.length k8, .slice p9 y2.Truth.length k9, .int .i64 y2.Leak, .int .i64 y2.Energy]] h ⟨⟨_, _, _, rfl, rfl, h.box 0 rfl, rfl⟩, trivial⟩ hv1

def qgx (n : Nat) (b : qz) (place : Int) : Option Bool :=
 (qgJ n (⟨b.Library.Cells⟩ : qw) (⟨b.Design.Instances, b.Design.Nets, b.Design.Ports⟩ : ql) place).bind fun o => match o with
  | (r2, _) =>
   bif decide (r2.instance_ ≥ 0) then
    (qfn n b r2.instance_).bind fun r4 =>
    (idx r4.Pins r2.pin).bind fun y1 =>
    some y1.Clock
   else
    some false

theorem qlq {n : Nat} {w : World} {b : qz} {place : Int} {cs1 : List Value} (ha1 : GoT.R w (old w) b cs1) {r : Bool} (hF : qgx n b place = some r) : RetV Tryz.prog 143 [GoT.v qz cs1, .int .i64 place] w r := by
 obtain ⟨p1, k1, p2, k2, p3, k3, p4, k4, p5, k5, rfl, s1, s2, s3, s4, s5⟩ := qat ha1
 refine qf Tryz.func143 rfl (m := 31) rfl rfl (fun h => ?_)
 rw [qgx] at hF
 refine zSR (qP h rfl rfl ?_)
 intro w1 bb1 h
 refine zp1 rfl (zNSR (zp1 rfl (zl 0 0 h rfl (zp1 rfl (zl 0 1 h rfl (zp1 rfl ?_))))))
 obtain ⟨r1, hr1, hF⟩ := qd hF
 obtain ⟨r2, r3⟩ := r1
 refine qie (r2, r3) h call140 (qiW (qdx (⟨b.Library.Cells⟩ : qw) (h.oldS s1)) (qbf (⟨b.Design.Instances, b.Design.Nets, b.Design.Ports⟩ : ql) (h.oldS s2) (h.oldS s3) (h.oldS s4)) hr1) rfl rfl rfl rfl ?_
 intro w2 S1 us1 hv1 hr2
 obtain ⟨S2, S3, cs2, us2, rfl, hv2, hr3⟩ := hv1.cons hr2
 obtain rfl := qcA (hv2.sh.own 0 rfl)
 obtain ⟨rfl, h⟩ := hv2.lastB hr3
 refine zp3 rfl (qT qc h rfl rfl rfl ?_)
 intro w3 bb2 h
 refine zs 0 h rfl ?_
 intro w4 h
 refine zp1 rfl (zNS ?_)
 refine qfO [] (fun w' => SH w w' [Ch.box bb2 [.int .i64 r2.instance_, .int .i64 r2.pin, .int .i64 r2.net, .bool r2.drives] 202, Ch.box bb1 [.slice p1 b.Library.Cells.length k1, .slice p2 b.Design.Instances.length k2, .slice p3 b.Design.Nets.length k3, .slice p4 b.Design.Ports.length k4, .slice p5 b.Wires.length k5] 50]) rfl 16 rfl #[ff, ff, ff, ff, ff, ff, ff, ff, ff, ff, ff, ff, ff, ff, ff, ff] (by kernel_rfl) (fun w5 hb => ?_)
 replace h := h.ext hb
 clear hb
 refine qk 0 rfl #[tt, ff, ff, ff, ff, ff, ff, ff, ff, ff, ff, ff, ff, ff, ff, ff] (by kernel_rfl) (by kernel_rfl) (fun w' hw => v_p qc rfl w') (h.pick [0, 2] rfl) rfl ?_
 refine qk 1 rfl #[tt, tt, ff, ff, ff, ff, ff, ff, ff, ff, ff, ff, ff, ff, ff, ff] (by kernel_rfl) (by kernel_rfl) (fun w' hw => qbE qc (hw.box 0 rfl) (j := 0) rfl rfl rfl) (h.pick [0, 2] rfl) rfl ?_
 refine qk 2 rfl #[tt, tt, tt, ff, ff, ff, ff, ff, ff, ff, ff, ff, ff, ff, ff, ff] (by kernel_rfl) (by kernel_rfl) (fun w' hw => v_p qc rfl w') (h.pick [0, 2] rfl) rfl ?_
 refine qk 3 rfl #[tt, tt, tt, tt, ff, ff, ff, ff, ff, ff, ff, ff, ff, ff, ff, ff] (by kernel_rfl) (by kernel_rfl) (fun w' hw => v_p qc rfl w') (h.pick [0, 2] rfl) rfl ?_
 by_cases hc1 : (decide (r2.instance_ ≥ 0)) = true
 ·replace hF := bifT hc1 hF
  refine qoY hc1 (t := 19) rfl ?_
  refine qcS 4 rfl (by kernel_rfl) #[tt, tt, tt, tt, tt, ff, ff, ff, ff, ff, ff, ff, ff, ff, ff, ff] (by kernel_rfl) (by kernel_rfl) (fun w' hw => qbE qc (hw.box 1 rfl) (j := 0) rfl rfl rfl) (h.pick [0, 2] rfl) rfl ?_
  refine qcS 5 rfl (by kernel_rfl) #[tt, tt, tt, tt, tt, tt, ff, ff, ff, ff, ff, ff, ff, ff, ff, ff] (by kernel_rfl) (by kernel_rfl) (fun w' hw => v_p qc rfl w') (h.pick [0, 2] rfl) rfl ?_
  refine qcS 6 rfl (by kernel_rfl) #[tt, tt, tt, tt, tt, tt, tt, ff, ff, ff, ff, ff, ff, ff, ff, ff] (by kernel_rfl) (by kernel_rfl) (fun w' hw => qbE qc (hw.box 0 rfl) (j := 0) rfl rfl rfl) (h.pick [0, 2] rfl) rfl ?_
  refine qcS 9 rfl (by kernel_rfl) #[tt, tt, tt, tt, tt, tt, tt, ff, ff, tt, ff, ff, ff, ff, ff, ff] (by kernel_rfl) (by kernel_rfl) (fun w' hw => v_p qc rfl w') (h.pick [0, 2] rfl) rfl ?_
  refine qcS 10 rfl (by kernel_rfl) #[tt, tt, tt, tt, tt, tt, tt, ff, ff, tt, tt, ff, ff, ff, ff, ff] (by kernel_rfl) (by kernel_rfl) (fun w' hw => qbE qc (hw.box 0 rfl) (j := 1) rfl rfl rfl) (h.pick [0, 2] rfl) rfl ?_
  refine qax 7 rfl #[tt, tt, tt, tt, tt, tt, tt, tt, ff, tt, tt, ff, ff, ff, ff, ff] (by kernel_rfl) (by kernel_rfl) ?_
  refine qa rfl ?_
  have hg1 : Rg (old w) w (old w) w := .start (fun _ h => h)
  obtain ⟨r4, hr5, hF⟩ := qd hF
  refine ql9 r4 hg1 h call144 (qjC (hg1.atB h) (hg1.inBR h ha1) hr5) rfl rfl rfl rfl ?_
  intro w6 us3 S5 h hv4
  obtain ⟨cs3, rfl, hr6⟩ := qly hv4
  have hr7 := hr6
  obtain ⟨p6, k6, p7, k7, p8, k8, rfl, s6, s7, s8⟩ := qaa hr6
  replace h := h.grpAdd 0 rfl hr7
  refine qao (fun _ => (h.pick [1, 3] rfl)) ?_
  refine qcS 8 rfl (by kernel_rfl) #[tt, tt, tt, tt, tt, tt, tt, tt, tt, tt, tt, ff, ff, ff, ff, ff] (by kernel_rfl) (by kernel_rfl) (fun w' hw => v_p qc rfl w') (h.pick [1, 3] rfl) rfl ?_
  obtain ⟨y1, hy1, hF⟩ := qd hF
  have he1 := qg hy1
  obtain ⟨b1, o_1, q1, cs4, hp1, hq1, -, hr8, hc2⟩ := (qhM (h.grp 0 0 rfl rfl)).1.1.at hy1
  obtain rfl := qbx hr8
  refine qcS 11 rfl (by kernel_rfl) #[tt, tt, tt, tt, tt, tt, tt, tt, tt, tt, tt, tt, ff, ff, ff, ff] (by kernel_rfl) (by kernel_rfl) (fun w' hw => qfA qc hp1 hq1 ⟨he1.1, qa8 he1.2.1 (qhM (h.grp 0 0 rfl rfl)).1.2⟩ rfl rfl rfl rfl rfl rfl) (h.pick [1, 3] rfl) rfl ?_
  refine qcS 12 rfl (by kernel_rfl) #[tt, tt, tt, tt, tt, tt, tt, tt, tt, tt, tt, tt, tt, ff, ff, ff] (by kernel_rfl) (by kernel_rfl) (fun w' hw => v_p qc rfl w') (h.pick [1, 3] rfl) rfl ?_
  refine qax 13 rfl #[tt, tt, tt, tt, tt, tt, tt, tt, tt, tt, tt, tt, tt, tt, ff, ff] (by kernel_rfl) (by kernel_rfl) ?_
  refine qa rfl (zc 3 hc2 rfl ?_)
  refine qao (fun _ => (h.pick [1, 3] rfl)) ?_
  refine qk 14 rfl #[tt, tt, tt, tt, tt, tt, tt, tt, tt, tt, tt, tt, tt, tt, tt, ff] (by kernel_rfl) (by kernel_rfl) (fun w' hw => v_p qc rfl w') (h.pick [1, 3] rfl) rfl ?_
  refine qk 15 rfl #[tt, tt, tt, tt, tt, tt, tt, tt, tt, tt, tt, tt, tt, tt, tt, tt] (by kernel_rfl) (by kernel_rfl) (fun w' hw => v_p qc rfl w') (h.pick [1, 3] rfl) rfl ?_
  refine qdn (by kernel_rfl) ?_
  replace h := h.pick [1, 2, 3] rfl
  exact qx qc h hF ⟨rfl, trivial⟩
 replace hc1 := zb hc1
 replace hF := bifF hc1 hF
 refine qpk hc1 (t := 19) rfl ?_
 refine qcT 4 rfl (by kernel_rfl) rfl #[tt, tt, tt, tt, tt, ff, ff, ff, ff, ff, ff, ff, ff, ff, ff, ff] (by kernel_rfl) (by kernel_rfl) (h.pick [0, 2] rfl) rfl ?_
 refine qcT 5 rfl (by kernel_rfl) rfl #[tt, tt, tt, tt, tt, tt, ff, ff, ff, ff, ff, ff, ff, ff, ff, ff] (by kernel_rfl) (by kernel_rfl) (h.pick [0, 2] rfl) rfl ?_
 refine qcT 6 rfl (by kernel_rfl) rfl #[tt, tt, tt, tt, tt, tt, tt, ff, ff, ff, ff, ff, ff, ff, ff, ff] (by kernel_rfl) (by kernel_rfl) (h.pick [0, 2] rfl) rfl ?_
 refine qcT 7 rfl (by kernel_rfl) rfl #[tt, tt, tt, tt, tt, tt, tt, tt, ff, ff, ff, ff, ff, ff, ff, ff] (by kernel_rfl) (by kernel_rfl) (h.pick [0, 2] rfl) rfl ?_
 refine qcT 8 rfl (by kernel_rfl) rfl #[tt, tt, tt, tt, tt, tt, tt, tt, tt, ff, ff, ff, ff, ff, ff, ff] (by kernel_rfl) (by kernel_rfl) (h.pick [0, 2] rfl) rfl ?_
 refine qcT 9 rfl (by kernel_rfl) rfl #[tt, tt, tt, tt, tt, tt, tt, tt, tt, tt, ff, ff, ff, ff, ff, ff] (by kernel_rfl) (by kernel_rfl) (h.pick [0, 2] rfl) rfl ?_
 refine qcT 10 rfl (by kernel_rfl) rfl #[tt, tt, tt, tt, tt, tt, tt, tt, tt, tt, tt, ff, ff, ff, ff, ff] (by kernel_rfl) (by kernel_rfl) (h.pick [0, 2] rfl) rfl ?_
 refine qcT 11 rfl (by kernel_rfl) rfl #[tt, tt, tt, tt, tt, tt, tt, tt, tt, tt, tt, tt, ff, ff, ff, ff] (by kernel_rfl) (by kernel_rfl) (h.pick [0, 2] rfl) rfl ?_
 refine qcT 12 rfl (by kernel_rfl) rfl #[tt, tt, tt, tt, tt, tt, tt, tt, tt, tt, tt, tt, tt, ff, ff, ff] (by kernel_rfl) (by kernel_rfl) (h.pick [0, 2] rfl) rfl ?_
 refine qcT 13 rfl (by kernel_rfl) rfl #[tt, tt, tt, tt, tt, tt, tt, tt, tt, tt, tt, tt, tt, tt, ff, ff] (by kernel_rfl) (by kernel_rfl) (h.pick [0, 2] rfl) rfl ?_
 refine qk 14 rfl #[tt, tt, tt, tt, tt, tt, tt, tt, tt, tt, tt, tt, tt, tt, tt, ff] (by kernel_rfl) (by kernel_rfl) (fun w' hw => v_p qc rfl w') (h.pick [0, 2] rfl) rfl ?_
 refine qk 15 rfl #[tt, tt, tt, tt, tt, tt, tt, tt, tt, tt, tt, tt, tt, tt, tt, tt] (by kernel_rfl) (by kernel_rfl) (fun w' hw => v_p qc rfl w') (h.pick [0, 2] rfl) rfl ?_
 refine qdn (by kernel_rfl) ?_
 exact qx qc h hF ⟨rfl, trivial⟩

def qcF (a_instance : Int) (pin : Int) (r1 : (List Tl05Place)) : Nat → Int → Option (Flow Int Int)
 | 0, _ => none
 | n + 1, i1 =>
  bif decide (i1 < (r1.length : Int)) then
   (idx r1 i1).bind fun y1 =>
   bif (y1.instance_ == a_instance) then
    (idx r1 i1).bind fun y2 =>
    bif (y2.pin == pin) then
     some (.ret i1)
    else
     qcF a_instance pin r1 n (W64 (i1 + 1))
   else
    qcF a_instance pin r1 n (W64 (i1 + 1))
  else
   some (.nxt i1)

def qgj (n : Nat) (d : ql) (a_instance : Int) (pin : Int) : Option Int :=
 (qc0 n d).bind fun r1 =>
 (qcF a_instance pin r1 n 0).bind fun o => match o with
 | .ret r => some r
 | .nxt _ =>
  some (-1)

theorem qlN {n : Nat} {w : World} {d : ql} {a_instance : Int} {pin : Int} {cs1 : List Value} (ha1 : GoT.R w (old w) d cs1) {r : Int} (hF : qgj n d a_instance pin = some r) : RetV Tryz.prog 145 [GoT.v ql cs1, .int .i64 a_instance, .int .i64 pin] w r := by
 obtain ⟨p1, k1, p2, k2, p3, k3, rfl, s1, s2, s3⟩ := qaz ha1
 refine qf Tryz.func145 rfl (m := 34) rfl rfl (fun h => ?_)
 rw [qgj] at hF
 refine zSR (qP h rfl rfl ?_)
 intro w1 bb1 h
 refine zp1 rfl (zNSR (zl 0 0 h rfl ?_))
 obtain ⟨r1, hr1, hF⟩ := qd hF
 refine qap r1 h call124 (qeO (h.old ha1) hr1) rfl rfl rfl rfl ?_
 intro w2 S1 p4 k4 h
 refine zp1 rfl (zNSSR (zp1 rfl (qb ?_)))
 obtain ⟨o1, hF, hK1⟩ := qd hF
 refine qA ?_
 replace h := h.pick [0] rfl
 refine qW [(1, _), (2, _), (7, _), (8, _)] ⟨rfl, rfl, rfl, rfl, trivial⟩ ?_
 refine qG (fun m e w' => ∃ (i1 : Int), qcF a_instance pin r1 m i1 = some o1 ∧ e = [(1, .int .i64 a_instance), (2, .int .i64 pin), (7, .slice p4 r1.length k4), (8, .int .i64 i1)] ∧ SH w w' [Ch.own S1 (r1 : List Tl05Place) [.slice p4 r1.length k4]]) n ⟨_, hF, rfl, h⟩ ?_
 rintro m1 e1 w3 ⟨i1, hF, rfl, h⟩
 rcases m1 with _ | m1
 ·rw [qcF] at hF
  cases hF
 rw [qcF] at hF
 refine zSSR (zp4 rfl (qb ?_))
 refine qp rfl hF ?_ ?_ <;> intro hF
 ·refine zKSBSR (zp2 rfl ?_)
  obtain ⟨y1, hy1, hF⟩ := qd hF
  have he1 := qg hy1
  obtain ⟨b1, o_1, q1, cs2, hp1, hq1, -, hr2, hc2⟩ := (h.sl 0 rfl).1.at hy1
  obtain rfl := qcA hr2
  refine zx hp1 hq1 ⟨he1.1, qa8 he1.2.1 (h.sl 0 rfl).2⟩ rfl (zp1 rfl (zc 0 hc2 rfl (zp3 rfl ?_)))
  by_cases hc3 : (y1.instance_ == a_instance) = true
  ·replace hF := bifT hc3 hF
   refine qC hc3 (t := 24) rfl (qa rfl (zp1 rfl (qa rfl (zp1 rfl (qa rfl ?_)))))
   obtain ⟨y2, hy2, hF⟩ := qd hF
   have he2 := qg hy2
   obtain ⟨b2, o_2, q2, cs3, hp2, hq2, -, hr3, hc4⟩ := (h.sl 0 rfl).1.at hy2
   obtain rfl := qcA hr3
   refine zx hp2 hq2 ⟨he2.1, qa8 he2.2.1 (h.sl 0 rfl).2⟩ rfl (qa rfl (zp1 rfl (qa rfl (zc 1 hc4 rfl (qa rfl (zp1 rfl (qa rfl (zp2 rfl (qb ?_)))))))))
   refine qp rfl hF ?_ ?_ <;> intro hF
   ·refine zSR (zp2 rfl (qb ?_))
    obtain rfl := qj hF; replace hF := hK1
    exact qar qc h hF ⟨rfl, trivial⟩
   exact zKER (zp3 rfl (qb (qy m1 [(1, _), (2, _), (7, _), (8, _)] (Nat.lt_succ_self m1) ⟨rfl, rfl, rfl, rfl, trivial⟩ ⟨_, hF, rfl, h⟩)))
  replace hc3 := zb hc3
  replace hF := bifF hc3 hF
  refine qD hc3 (t := 24) rfl (zn5 rfl (zn2 rfl (zp1 rfl (qb (qcG rfl rfl (qd1 ?_))))))
  exact qfP (qB (zp3 rfl (qb (qy m1 [(1, _), (2, _), (7, _), (8, _)] (Nat.lt_succ_self m1) ⟨rfl, rfl, rfl, rfl, trivial⟩ ⟨_, hF, rfl, h⟩))))
 refine qF rfl ?_
 obtain rfl := qj hF; replace hF := hK1
 exact zSR (zp1 rfl (qb (qar qc h hF ⟨rfl, trivial⟩)))

def qbL (a_0 : qz) (r6 : (List Int)) : Nat → (List Int) → Int → Option ((List Int) × Int)
 | 0, _, _ => none
 | n + 1, x1, i1 =>
  bif decide (i1 < (r6.length : Int)) then
   (idx r6 i1).bind fun y1 =>
   (qgx n a_0 y1).bind fun r7 =>
   bif (!r7) then
    (idx r6 i1).bind fun y2 =>
    (appS x1 ([y2] : List Int)).bind fun x2 =>
    qbL a_0 r6 n x2 (W64 (i1 + 1))
   else
    qbL a_0 r6 n x1 (W64 (i1 + 1))
  else
   some (x1, i1)

def qcK (a_0 : qz) (r2 : Tl05Place) (r8 : qE) : Nat → Int → Option (Flow (List Int) Int)
 | 0, _ => none
 | n + 1, i2 =>
  bif decide (i2 < (r8.Arcs.length : Int)) then
   (
    (idx r8.Arcs i2).bind fun y3 =>
    bif (y3.From == r2.pin) then
     (idx r8.Arcs i2).bind fun y4 =>
     some (decide (y4.Kind ≤ 3))
    else
     some false).bind fun b3 =>
   bif b3 then
    (qgj n (⟨a_0.Design.Instances, a_0.Design.Nets, a_0.Design.Ports⟩ : ql) r2.instance_ (W64 ((r8.Pins.length : Int) - 1))).bind fun r9 =>
    some (.ret ([r9] : List Int))
   else
    qcK a_0 r2 r8 n (W64 (i2 + 1))
  else
   some (.nxt i2)

def qgC (n : Nat) (a_0 : qz) (a_1 : Int) : Option (List Int) :=
 (qgJ n (⟨a_0.Library.Cells⟩ : qw) (⟨a_0.Design.Instances, a_0.Design.Nets, a_0.Design.Ports⟩ : ql) a_1).bind fun o => match o with
  | (r2, _) =>
   (qfB n (⟨a_0.Library.Cells⟩ : qw) (⟨a_0.Design.Instances, a_0.Design.Nets, a_0.Design.Ports⟩ : ql) a_1).bind fun r4 =>
   (qf3 n (⟨a_0.Design.Instances, a_0.Design.Nets, a_0.Design.Ports⟩ : ql) r4).bind fun r5 =>
   bif (r5 == a_1) then
    (qfL n (⟨a_0.Design.Instances, a_0.Design.Nets, a_0.Design.Ports⟩ : ql) r4).bind fun r6 =>
    (qbL a_0 r6 n ([] : List Int) 0).bind fun o => match o with
    | (x1, _) =>
     some x1
   else
    bif decide (r2.instance_ < 0) then
     some ([] : List Int)
    else
     (qfn n a_0 r2.instance_).bind fun r8 =>
     (qcK a_0 r2 r8 n 0).bind fun o => match o with
     | .ret r => some r
     | .nxt _ =>
      some ([] : List Int)

theorem qlc {n : Nat} {w : World} {a_0 : qz} {a_1 : Int} {cs1 : List Value} (ha1 : GoT.R w (old w) a_0 cs1) {r : (List Int)} (hF : qgC n a_0 a_1 = some r) : RetV Tryz.prog 106 [GoT.v qz cs1, .int .i64 a_1] w r := by
 obtain ⟨p1, k1, p2, k2, p3, k3, p4, k4, p5, k5, rfl, s1, s2, s3, s4, s5⟩ := qat ha1
 refine qf Tryz.func106 rfl (m := 104) rfl rfl (fun h => ?_)
 rw [qgC] at hF
 refine zSR (qP h rfl rfl ?_)
 intro w1 bb1 h
 refine zp1 rfl (zNSR (qaN qc [] _ ([] : List Int) h rfl rfl rfl rfl rfl rfl rfl rfl rfl trivial rfl ?_))
 intro w2 p6 S1 h
 refine zp1 rfl (zNSR (zp1 rfl (zl 1 0 h rfl (zp1 rfl (zl 1 1 h rfl (zp1 rfl ?_))))))
 obtain ⟨r1, hr1, hF⟩ := qd hF
 obtain ⟨r2, r3⟩ := r1
 refine qie (r2, r3) h call140 (qiW (qdx (⟨a_0.Library.Cells⟩ : qw) (h.oldS s1)) (qbf (⟨a_0.Design.Instances, a_0.Design.Nets, a_0.Design.Ports⟩ : ql) (h.oldS s2) (h.oldS s3) (h.oldS s4)) hr1) rfl rfl rfl rfl ?_
 intro w3 S2 us1 hv1 hr2
 obtain ⟨S3, S4, cs2, us2, rfl, hv2, hr3⟩ := hv1.cons hr2
 obtain rfl := qcA (hv2.sh.own 0 rfl)
 obtain ⟨rfl, h⟩ := hv2.lastB hr3
 refine zp3 rfl (qT qc h rfl rfl rfl ?_)
 intro w4 bb2 h
 refine zs 0 h rfl ?_
 intro w5 h
 refine zp1 rfl (zNSR (zp1 rfl (zl 3 0 h rfl (zp1 rfl (zl 3 1 h rfl (zp1 rfl ?_))))))
 obtain ⟨r4, hr5, hF⟩ := qd hF
 refine qN r4 h call141 (qkK (qdx (⟨a_0.Library.Cells⟩ : qw) (h.oldS s1)) (qbf (⟨a_0.Design.Instances, a_0.Design.Nets, a_0.Design.Ports⟩ : ql) (h.oldS s2) (h.oldS s3) (h.oldS s4)) hr5) rfl rfl rfl rfl ?_
 intro w6 h
 refine zp1 rfl (zNSSR (zp1 rfl (zl 3 1 h rfl (zp1 rfl ?_))))
 obtain ⟨r5, hr6, hF⟩ := qd hF
 refine qN r5 h call142 (qk7 (qbf (⟨a_0.Design.Instances, a_0.Design.Nets, a_0.Design.Ports⟩ : ql) (h.oldS s2) (h.oldS s3) (h.oldS s4)) hr6) rfl rfl rfl rfl ?_
 intro w7 h
 refine zp2 rfl (qb ?_)
 refine qp rfl hF ?_ ?_ <;> intro hF
 ·refine zSR (zp1 rfl (zl 3 1 h rfl (zp1 rfl ?_)))
  obtain ⟨r6, hr7, hF⟩ := qd hF
  refine qap r6 h call138 (qje (qbf (⟨a_0.Design.Instances, a_0.Design.Nets, a_0.Design.Ports⟩ : ql) (h.oldS s2) (h.oldS s3) (h.oldS s4)) hr7) rfl rfl rfl rfl ?_
  intro w8 S6 p7 k6 h
  refine zp1 rfl (zNSSR (zp1 rfl (qb ?_)))
  obtain ⟨o1, hF, hK1⟩ := qd hF
  refine qA ?_
  replace h := h.pick [0, 3, 4] rfl
  refine qW [(2, _), (5, _), (9, _), (10, _)] ⟨rfl, rfl, rfl, rfl, trivial⟩ ?_
  refine qG (fun m e w' => ∃ (S7 : Nat → Prop) (p8 : Option Addr) (ln1 : Nat) (k7 : Nat) (x1 : (List Int)) (i1 : Int), qbL a_0 r6 m x1 i1 = some o1 ∧ e = [(2, .pointer (some ⟨bb1, 0, none⟩)), (5, .slice p8 ln1 k7), (9, .slice p7 r6.length k6), (10, .int .i64 i1)] ∧ SH w w' [Ch.own S6 (r6 : List Int) [.slice p7 r6.length k6], Ch.own S7 (x1 : List Int) [.slice p8 ln1 k7], Ch.box bb1 [.slice p1 a_0.Library.Cells.length k1, .slice p2 a_0.Design.Instances.length k2, .slice p3 a_0.Design.Nets.length k3, .slice p4 a_0.Design.Ports.length k4, .slice p5 a_0.Wires.length k5] 50]) n ⟨_, _, _, _, _, _, hF, rfl, h⟩ ?_
  rintro m1 e1 w9 ⟨S7, p8, ln1, k7, x1, i1, hF, rfl, h⟩
  obtain rfl := (h.sl 1 rfl).2
  rcases m1 with _ | m1
  ·rw [qbL] at hF
   cases hF
  rw [qbL] at hF
  refine zSSR (zp4 rfl (qb ?_))
  refine qp rfl hF ?_ ?_ <;> intro hF
  ·refine zKSB (qbl ?_)
   refine qb3 rfl (by kernel_rfl) ?_
   refine zdl 2 0 h rfl ?_
   refine zd2 rfl ?_
   obtain ⟨y1, hy1, hF⟩ := qd hF
   have he1 := qg hy1
   obtain ⟨b1, o_1, q1, cs3, hp1, hq1, -, hr8, hc3⟩ := (h.sl 0 rfl).1.at hy1
   obtain rfl := hr8
   refine zdx hp1 hq1 ⟨he1.1, qa8 he1.2.1 (h.sl 0 rfl).2⟩ rfl ?_
   refine zdc 0 hc3 rfl ?_
   obtain ⟨r7, hr9, hF⟩ := qd hF
   refine qb7 r7 (vsB _) call143 (fun _ hb => qlq ((h.ext hb).old ha1) hr9) rfl rfl rfl rfl ?_
   refine zd1 rfl ?_
   refine qaR (fun w10 hb => ?_)
   replace h := h.ext hb
   clear hb
   refine qp rfl hF ?_ ?_ <;> intro hF
   ·refine qB (zp3 rfl ?_)
    obtain ⟨y2, hy2, hF⟩ := qd hF
    have he2 := qg hy2
    obtain ⟨b2, o_2, q2, cs4, hp2, hq2, -, hr10, hc5⟩ := (h.sl 0 rfl).1.at hy2
    obtain rfl := hr10
    refine zx hp2 hq2 ⟨he2.1, qa8 he2.2.1 (h.sl 0 rfl).2⟩ rfl (zc 0 hc5 rfl (qaN qc [.tmp 56] _ ([y2] : List Int) h rfl rfl rfl rfl rfl rfl rfl rfl rfl ⟨rfl, trivial⟩ rfl ?_))
    intro w11 p9 S8 h
    obtain ⟨x2, hx1, hF⟩ := qd hF
    obtain ⟨g1, hx1⟩ := qbm hx1
    refine qeC qc 2 h rfl (h.sl 0 rfl).1 (h.sl 0 rfl).2 rfl rfl rfl rfl rfl rfl rfl rfl rfl g1 hx1 rfl ?_
    intro w12 p10 k8 S9 h
    refine zp1 rfl (zNER (zp3 rfl (qb ?_)))
    replace h := h.pick [1, 2, 3] rfl
    exact qy m1 [(2, _), (5, _), (9, _), (10, _)] (Nat.lt_succ_self m1) ⟨rfl, rfl, rfl, rfl, trivial⟩ ⟨_, _, _, _, _, _, hF, rfl, h⟩
   exact zKER (zp3 rfl (qb (qy m1 [(2, _), (5, _), (9, _), (10, _)] (Nat.lt_succ_self m1) ⟨rfl, rfl, rfl, rfl, trivial⟩ ⟨_, _, _, _, _, _, hF, rfl, h⟩)))
  refine qF rfl ?_
  obtain rfl := qj hF; replace hF := hK1
  refine zSR (zp2 rfl (qb ?_))
  obtain rfl := qj hF
  exact qad qc (ρ := (List Int)) [GoT.v (List Int) [.slice p8 x1.length k7]] h ⟨rfl, trivial⟩ (PV.done h (qai (qaB 1 h rfl)))
 refine zKSSR (zp1 rfl (zl 0 0 h rfl (zp1 rfl (qb ?_))))
 refine qp rfl hF ?_ ?_ <;> intro hF
 ·refine zSR (zp2 rfl (qb ?_))
  obtain rfl := qj hF
  exact qad qc (ρ := (List Int)) [GoT.v (List Int) [.slice p6 0 0]] h ⟨rfl, trivial⟩ (PV.done h (qai (qaB 2 h rfl)))
 refine zKSR (zl 3 0 h rfl (zp1 rfl (zl 0 0 h rfl ?_)))
 have hg1 : Rg (old w) w (old w) w := .start (fun _ h => h)
 obtain ⟨r8, hr11, hF⟩ := qd hF
 refine ql9 r8 hg1 h call144 (qjC (hg1.atB h) (hg1.inBR h ha1) hr11) rfl rfl rfl rfl ?_
 intro w13 us3 S10 h hv4
 obtain ⟨cs5, rfl, hr12⟩ := qly hv4
 have hr13 := hr12
 obtain ⟨p11, k9, p12, k10, p13, k11, rfl, s6, s7, s8⟩ := qaa hr12
 replace h := h.grpAdd 0 rfl hr13
 refine qT qc h rfl rfl rfl ?_
 intro w14 bb3 h
 refine zs 0 h rfl ?_
 intro w15 h
 replace h : SH _ _ [Ch.box bb3 [.string r8.Name, .int .i64 r8.Kind, .slice p11 r8.Pins.length k9, .slice p12 r8.Arcs.length k10, .slice p13 r8.Truth.length k11, .int .i64 r8.Leak, .int .i64 r8.Energy] 183, Ch.grp (old w) S10 [fct (r8 : qE) [.string r8.Name, .int .i64 r8.Kind, .slice p11 r8.Pins.length k9, .slice p12 r8.Arcs.length k10, .slice p13 r8.Truth.length k11, .int .i64 r8.Leak, .int .i64 r8.Energy]], Ch.box bb2 [.int .i64 r2.instance_, .int .i64 r2.pin, .int .i64 r2.net, .bool r2.drives] 202, Ch.own S3 (r2 : Tl05Place) [.int .i64 r2.instance_, .int .i64 r2.pin, .int .i64 r2.net, .bool r2.drives], Ch.own S1 (([] : List Int) : List Int) [.slice p6 0 0], Ch.box bb1 [.slice p1 a_0.Library.Cells.length k1, .slice p2 a_0.Design.Instances.length k2, .slice p3 a_0.Design.Nets.length k3, .slice p4 a_0.Design.Ports.length k4, .slice p5 a_0.Wires.length k5] 50] := h
 refine zNSSR (zp1 rfl (qb ?_))
 obtain ⟨o2, hF, hK2⟩ := qd hF
 refine qA ?_
 replace h := h.pick [0, 1, 2, 4, 5] rfl
 refine qW [(2, _), (5, _), (6, _), (11, _), (12, _)] ⟨rfl, rfl, rfl, rfl, rfl, trivial⟩ ?_
 refine qG (fun m e w' => ∃ (i2 : Int), qcK a_0 r2 r8 m i2 = some o2 ∧ e = [(2, .pointer (some ⟨bb1, 0, none⟩)), (5, .slice p6 0 0), (6, .pointer (some ⟨bb2, 0, none⟩)), (11, .pointer (some ⟨bb3, 0, none⟩)), (12, .int .i64 i2)] ∧ SH w w' [Ch.box bb3 [.string r8.Name, .int .i64 r8.Kind, .slice p11 r8.Pins.length k9, .slice p12 r8.Arcs.length k10, .slice p13 r8.Truth.length k11, .int .i64 r8.Leak, .int .i64 r8.Energy] 183, Ch.grp (old w) S10 [fct (r8 : qE) [.string r8.Name, .int .i64 r8.Kind, .slice p11 r8.Pins.length k9, .slice p12 r8.Arcs.length k10, .slice p13 r8.Truth.length k11, .int .i64 r8.Leak, .int .i64 r8.Energy]], Ch.box bb2 [.int .i64 r2.instance_, .int .i64 r2.pin, .int .i64 r2.net, .bool r2.drives] 202, Ch.own S1 (([] : List Int) : List Int) [.slice p6 0 0], Ch.box bb1 [.slice p1 a_0.Library.Cells.length k1, .slice p2 a_0.Design.Instances.length k2, .slice p3 a_0.Design.Nets.length k3, .slice p4 a_0.Design.Ports.length k4, .slice p5 a_0.Wires.length k5] 50]) n ⟨_, hF, rfl, h⟩ ?_
 rintro m2 e2 w16 ⟨i2, hF, rfl, h⟩
 rcases m2 with _ | m2
 ·rw [qcK] at hF
  cases hF
 rw [qcK] at hF
 refine zSSR (zp2 rfl (zl 0 3 h rfl (zp2 rfl (qb ?_))))
 refine qp rfl hF ?_ ?_ <;> intro hF
 ·refine zKSB (qbl ?_)
  obtain ⟨KF1, hKF1, o3, hF, hK3⟩ := bindE hF
  refine qdR (fun e w' => ∃ (b3 : Bool), KF1 b3 = some o2 ∧ e = [(2, .pointer (some ⟨bb1, 0, none⟩)), (5, .slice p6 0 0), (6, .pointer (some ⟨bb2, 0, none⟩)), (11, .pointer (some ⟨bb3, 0, none⟩)), (12, .int .i64 i2), (92, .bool b3)] ∧ SH w w' [Ch.box bb3 [.string r8.Name, .int .i64 r8.Kind, .slice p11 r8.Pins.length k9, .slice p12 r8.Arcs.length k10, .slice p13 r8.Truth.length k11, .int .i64 r8.Leak, .int .i64 r8.Energy] 183, Ch.grp (old w) S10 [fct (r8 : qE) [.string r8.Name, .int .i64 r8.Kind, .slice p11 r8.Pins.length k9, .slice p12 r8.Arcs.length k10, .slice p13 r8.Truth.length k11, .int .i64 r8.Leak, .int .i64 r8.Energy]], Ch.box bb2 [.int .i64 r2.instance_, .int .i64 r2.pin, .int .i64 r2.net, .bool r2.drives] 202, Ch.own S1 (([] : List Int) : List Int) [.slice p6 0 0], Ch.box bb1 [.slice p1 a_0.Library.Cells.length k1, .slice p2 a_0.Design.Instances.length k2, .slice p3 a_0.Design.Nets.length k3, .slice p4 a_0.Design.Ports.length k4, .slice p5 a_0.Wires.length k5] 50]) ?_ ?_
  ·refine qb3 rfl (by kernel_rfl) ?_
   refine zd1 rfl ?_
   refine zdl 0 3 h rfl ?_
   refine zd1 rfl ?_
   obtain ⟨y3, hy3, hF⟩ := qd hF
   have he3 := qg hy3
   obtain ⟨b4, o_3, q3, cs6, hp3, hq3, -, hr15, hc9⟩ := (qhM (h.grpS 1 0 rfl rfl)).2.1.1.at hy3
   have hr16 := hr15
   obtain ⟨p15, k12, p16, k13, rfl, s9, s10⟩ := qaD hr15
   replace h := h.grpAdd 1 rfl hr16
   refine zdx hp3 hq3 ⟨he3.1, qa8 he3.2.1 (qhM (h.grpS 1 1 rfl rfl)).2.1.2⟩ rfl ?_
   refine zd1 rfl ?_
   refine zdc 1 hc9 rfl ?_
   refine zd1 rfl ?_
   refine zdl 2 1 h rfl ?_
   refine zd2 rfl ?_
   by_cases hc10 : (y3.From == r2.pin) = true
   ·replace hF := bifT hc10 hF
    refine qch hc10 (t := 84) rfl (qh rfl (zd1 rfl (qh rfl ?_)))
    refine zdl 0 3 h rfl ?_
    refine qh rfl (zd1 rfl (qh rfl ?_))
    obtain ⟨y4, hy4, hF⟩ := qd hF
    have he4 := qg hy4
    obtain ⟨b5, o_4, q4, cs7, hp4, hq4, -, hr17, hc11⟩ := (qhM (h.grpS 1 1 rfl rfl)).2.1.1.at hy4
    have hr18 := hr17
    obtain ⟨p17, k14, p18, k15, rfl, s11, s12⟩ := qaD hr17
    replace h := h.grpAdd 1 rfl hr18
    refine zdx hp4 hq4 ⟨he4.1, qa8 he4.2.1 (qhM (h.grpS 1 2 rfl rfl)).2.1.2⟩ rfl ?_
    refine qh rfl (zd1 rfl (qh rfl ?_))
    refine zdc 0 hc11 rfl ?_
    refine qh rfl (zd2 rfl ?_)
    refine qaR (fun w19 hb => ?_)
    replace h := h.ext hb
    clear hb
    replace h := h.grpKeep [2] 1 rfl
    obtain rfl := qj hF
    exact qu [(2, _), (5, _), (6, _), (11, _), (12, _), (92, _)] ⟨rfl, rfl, rfl, rfl, rfl, rfl, trivial⟩ ⟨_, hK3, rfl, h⟩
   replace hc10 := zb hc10
   replace hF := bifF hc10 hF
   refine qci hc10 (t := 84) rfl (qi rfl rfl rfl (qi rfl rfl rfl (qi rfl rfl rfl (qi rfl rfl rfl (qi rfl rfl rfl (qi rfl rfl rfl (qi rfl rfl rfl (zd1 rfl ?_))))))))
   refine qaR (fun w20 hb => ?_)
   replace h := h.ext hb
   clear hb
   replace h := h.grpKeep [1] 1 rfl
   obtain rfl := qj hF
   exact qu [(2, _), (5, _), (6, _), (11, _), (12, _), (92, _)] ⟨rfl, rfl, rfl, rfl, rfl, rfl, trivial⟩ ⟨_, hK3, rfl, h⟩
  rintro e3 w21 ⟨b3, hF, rfl, h⟩
  subst hKF1
  refine qp rfl hF ?_ ?_ <;> intro hF
  ·refine zSR (zp1 rfl (zl 4 1 h rfl (zp1 rfl (zl 2 0 h rfl (zp1 rfl (zl 0 2 h rfl (zp2 rfl ?_)))))))
   obtain ⟨r9, hr14, hF⟩ := qd hF
   refine qN r9 h call145 (qlN (qbf (⟨a_0.Design.Instances, a_0.Design.Nets, a_0.Design.Ports⟩ : ql) (h.oldS (s2.mono hg1.old)) (h.oldS (s3.mono hg1.old)) (h.oldS (s4.mono hg1.old))) hr14) rfl rfl rfl rfl ?_
   intro w17 h
   refine qaN qc [.tmp 101] _ ([r9] : List Int) h rfl rfl rfl rfl rfl rfl rfl rfl rfl ⟨rfl, trivial⟩ rfl ?_
   intro w18 p14 S11 h
   refine zp1 rfl (qb ?_)
   replace h := h.pick [0, 1, 3, 4, 5] rfl
   obtain rfl := qj hF; replace hF := hK2
   obtain rfl := qj hF
   exact qad qc (ρ := (List Int)) [GoT.v (List Int) [.slice p14 1 1]] h ⟨rfl, trivial⟩ (PV.done h (qai (qaB 0 h rfl)))
  exact zKER (zp3 rfl (qb (qy m2 [(2, _), (5, _), (6, _), (11, _), (12, _)] (Nat.lt_succ_self m2) ⟨rfl, rfl, rfl, rfl, rfl, trivial⟩ ⟨_, hF, rfl, h⟩)))
 refine qF rfl ?_
 obtain rfl := qj hF; replace hF := hK2
 refine zSR (zp2 rfl (qb ?_))
 replace h := h.pick [0, 2, 3, 4] rfl
 obtain rfl := qj hF
 exact qad qc (ρ := (List Int)) [GoT.v (List Int) [.slice p6 0 0]] h ⟨rfl, trivial⟩ (PV.done h (qai (qaB 2 h rfl)))

def qdz (_ : Nat) (a : qah) : Option (List qX) :=
 bif (a.Kind == 2) then
  some ([(⟨0, 0⟩ : qX), (⟨0, 1⟩ : qX)] : List qX)
 else
  bif (a.Kind == 3) then
   some ([(⟨1, 0⟩ : qX), (⟨1, 1⟩ : qX)] : List qX)
  else
   bif (a.Kind != 1) then
    some []
   else
    bif (a.Sense == 1) then
     some ([(⟨0, 0⟩ : qX), (⟨1, 1⟩ : qX)] : List qX)
    else
     bif (a.Sense == 2) then
      some ([(⟨0, 1⟩ : qX), (⟨1, 0⟩ : qX)] : List qX)
     else
      some ([(⟨0, 0⟩ : qX), (⟨0, 1⟩ : qX), (⟨1, 0⟩ : qX), (⟨1, 1⟩ : qX)] : List qX)

theorem qji {n : Nat} {w : World} {a : qah} {cs1 : List Value} (ha1 : GoT.R w (old w) a cs1) {r : (List qX)} (hF : qdz n a = some r) : RetV Tryz.prog 186 [GoT.v qah cs1] w r := by
 obtain ⟨p1, k1, p2, k2, rfl, s1, s2⟩ := qaD ha1
 refine qf Tryz.func186 rfl (m := 44) rfl rfl (fun h => ?_)
 rw [qdz] at hF
 refine zSR (qP h rfl rfl ?_)
 intro w1 bb1 h
 refine zp1 rfl (zNSR (r_v (qfD qc [0, 1] [.const (.int .i64 (0)), .const (.int .i64 (0))] rfl rfl rfl rfl rfl rfl rfl rfl rfl) rfl (r_v (qfD qc [0, 1] [.const (.int .i64 (1)), .const (.int .i64 (1))] rfl rfl rfl rfl rfl rfl rfl rfl rfl) rfl (qaN qc [.tmp 5, .tmp 6] _ ([(⟨0, 0⟩ : qX), (⟨1, 1⟩ : qX)] : List qX) h rfl rfl rfl rfl rfl rfl rfl rfl rfl ⟨(qdf (⟨0, 0⟩ : qX)), (qdf (⟨1, 1⟩ : qX)), trivial⟩ rfl ?_))))
 intro w2 p3 S1 h
 refine zp1 rfl (zNSR (r_v (qfD qc [0, 1] [.const (.int .i64 (0)), .const (.int .i64 (1))] rfl rfl rfl rfl rfl rfl rfl rfl rfl) rfl (r_v (qfD qc [0, 1] [.const (.int .i64 (1)), .const (.int .i64 (0))] rfl rfl rfl rfl rfl rfl rfl rfl rfl) rfl (qaN qc [.tmp 8, .tmp 9] _ ([(⟨0, 1⟩ : qX), (⟨1, 0⟩ : qX)] : List qX) h rfl rfl rfl rfl rfl rfl rfl rfl rfl ⟨(qdf (⟨0, 1⟩ : qX)), (qdf (⟨1, 0⟩ : qX)), trivial⟩ rfl ?_))))
 intro w3 p4 S2 h
 refine zp1 rfl (zNSB (zSR (zp1 rfl (zl 2 0 h rfl (zp2 rfl (qb ?_))))))
 refine qp rfl hF ?_ ?_ <;> intro hF
 ·refine zSR (r_v (qfD qc [0, 1] [.const (.int .i64 (0)), .const (.int .i64 (0))] rfl rfl rfl rfl rfl rfl rfl rfl rfl) rfl (r_v (qfD qc [0, 1] [.const (.int .i64 (0)), .const (.int .i64 (1))] rfl rfl rfl rfl rfl rfl rfl rfl rfl) rfl (qaN qc [.tmp 15, .tmp 16] _ ([(⟨0, 0⟩ : qX), (⟨0, 1⟩ : qX)] : List qX) h rfl rfl rfl rfl rfl rfl rfl rfl rfl ⟨(qdf (⟨0, 0⟩ : qX)), (qdf (⟨0, 1⟩ : qX)), trivial⟩ rfl ?_)))
  intro w4 p5 S3 h
  refine zp1 rfl (qb ?_)
  obtain rfl := qj hF
  exact qad qc (ρ := (List qX)) [GoT.v (List qX) [.slice p5 2 2]] h ⟨rfl, trivial⟩ (PV.done h (qai (qaB 0 h rfl)))
 refine zSR (zp1 rfl (zl 2 0 h rfl (zp2 rfl (qb ?_))))
 refine qp rfl hF ?_ ?_ <;> intro hF
 ·refine zSR (r_v (qfD qc [0, 1] [.const (.int .i64 (1)), .const (.int .i64 (0))] rfl rfl rfl rfl rfl rfl rfl rfl rfl) rfl (r_v (qfD qc [0, 1] [.const (.int .i64 (1)), .const (.int .i64 (1))] rfl rfl rfl rfl rfl rfl rfl rfl rfl) rfl (qaN qc [.tmp 22, .tmp 23] _ ([(⟨1, 0⟩ : qX), (⟨1, 1⟩ : qX)] : List qX) h rfl rfl rfl rfl rfl rfl rfl rfl rfl ⟨(qdf (⟨1, 0⟩ : qX)), (qdf (⟨1, 1⟩ : qX)), trivial⟩ rfl ?_)))
  intro w5 p6 S4 h
  refine zp1 rfl (qb ?_)
  obtain rfl := qj hF
  exact qad qc (ρ := (List qX)) [GoT.v (List qX) [.slice p6 2 2]] h ⟨rfl, trivial⟩ (PV.done h (qai (qaB 0 h rfl)))
 refine zSR (zp1 rfl (zl 2 0 h rfl (zp2 rfl (qb ?_))))
 refine qp rfl hF ?_ ?_ <;> intro hF
 ·refine zSR (zp1 rfl (qb ?_))
  obtain rfl := qj hF
  exact qad qc (ρ := (List qX)) [GoT.v (List qX) [.slice none 0 0]] h ⟨rfl, trivial⟩ (PV.done h (qai qnP))
 refine zSR (zp1 rfl (zl 2 3 h rfl (zp2 rfl (qb ?_))))
 refine qp rfl hF ?_ ?_ <;> intro hF
 ·refine zSR (zp2 rfl (qb ?_))
  obtain rfl := qj hF
  exact qad qc (ρ := (List qX)) [GoT.v (List qX) [.slice p3 2 2]] h ⟨rfl, trivial⟩ (PV.done h (qai (qaB 1 h rfl)))
 refine zSR (zp1 rfl (zl 2 3 h rfl (zp2 rfl (qb ?_))))
 refine qp rfl hF ?_ ?_ <;> intro hF
 ·refine zSR (zp2 rfl (qb ?_))
  obtain rfl := qj hF
  exact qad qc (ρ := (List qX)) [GoT.v (List qX) [.slice p4 2 2]] h ⟨rfl, trivial⟩ (PV.done h (qai (qaB 0 h rfl)))
 refine zKE (zSR (r_v (qfD qc [0, 1] [.const (.int .i64 (0)), .const (.int .i64 (0))] rfl rfl rfl rfl rfl rfl rfl rfl rfl) rfl (r_v (qfD qc [0, 1] [.const (.int .i64 (0)), .const (.int .i64 (1))] rfl rfl rfl rfl rfl rfl rfl rfl rfl) rfl (r_v (qfD qc [0, 1] [.const (.int .i64 (1)), .const (.int .i64 (0))] rfl rfl rfl rfl rfl rfl rfl rfl rfl) rfl (r_v (qfD qc [0, 1] [.const (.int .i64 (1)), .const (.int .i64 (1))] rfl rfl rfl rfl rfl rfl rfl rfl rfl) rfl (qaN qc [.tmp 39, .tmp 40, .tmp 41, .tmp 42] _ ([(⟨0, 0⟩ : qX), (⟨0, 1⟩ : qX), (⟨1, 0⟩ : qX), (⟨1, 1⟩ : qX)] : List qX) h rfl rfl rfl rfl rfl rfl rfl rfl rfl ⟨(qdf (⟨0, 0⟩ : qX)), (qdf (⟨0, 1⟩ : qX)), (qdf (⟨1, 0⟩ : qX)), (qdf (⟨1, 1⟩ : qX)), trivial⟩ rfl ?_))))))
 intro w6 p7 S5 h
 refine zp1 rfl (qb ?_)
 obtain rfl := qj hF
 exact qad qc (ρ := (List qX)) [GoT.v (List qX) [.slice p7 4 4]] h ⟨rfl, trivial⟩ (PV.done h (qai (qaB 0 h rfl)))

def qbe (first : Int) (i1 : Int) (y2 : qah) (r1 : (List qX)) : Nat → (List qbs) → Int → Option ((List qbs) × Int)
 | 0, _, _ => none
 | n + 1, x2, i2 =>
  bif decide (i2 < (r1.length : Int)) then
   (idx r1 i2).bind fun y3 =>
   (appS x2 ([(⟨W64 ((W64 (2 * (W64 (first + y2.From)))) + y3.e0), W64 ((W64 (2 * (W64 (first + y2.To)))) + y3.e1), 1, i1⟩ : qbs)] : List qbs)).bind fun x3 =>
   qbe first i1 y2 r1 n x3 (W64 (i2 + 1))
  else
   some (x2, i2)

def qbj (first : Int) (y1 : qE) : Nat → (List qbs) → Int → Option ((List qbs) × Int)
 | 0, _, _ => none
 | n + 1, x1, i1 =>
  bif decide (i1 < (y1.Arcs.length : Int)) then
   (idx y1.Arcs i1).bind fun y2 =>
   (qdz n y2).bind fun r1 =>
   (qbe first i1 y2 r1 n x1 0).bind fun o => match o with
   | (x2, _) =>
    qbj first y1 n x2 (W64 (i1 + 1))
  else
   some (x1, i1)

def qdB (n : Nat) (b : qz) (x : qr) (first : Int) : Option (List qbs) :=
 (idx b.Library.Cells x.Cell).bind fun y1 =>
 (qbj first y1 n ([] : List qbs) 0).bind fun o => match o with
 | (x1, _) =>
  some x1

theorem qjk {n : Nat} {w : World} {b : qz} {x : qr} {first : Int} {cs1 : List Value} (ha1 : GoT.R w (old w) b cs1) {cs2 : List Value} (ha2 : GoT.R w (old w) x cs2) {r : (List qbs)} (hF : qdB n b x first = some r) : RetV Tryz.prog 150 [GoT.v qz cs1, GoT.v qr cs2, .int .i64 first] w r := by
 obtain ⟨p1, k1, p2, k2, p3, k3, p4, k4, p5, k5, rfl, s1, s2, s3, s4, s5⟩ := qat ha1
 obtain ⟨p6, k6, rfl, s6⟩ := qab ha2
 refine qf Tryz.func150 rfl (m := 57) rfl rfl (fun h => ?_)
 rw [qdB] at hF
 refine zSR (qP h rfl rfl ?_)
 intro w1 bb1 h
 refine qP h rfl rfl ?_
 intro w2 bb2 h
 refine zp1 rfl (zNSR (zp1 rfl (zNSSR (zp2 rfl (zl 1 0 h rfl ?_)))))
 refine zp1 rfl (zl 0 1 h rfl ?_)
 obtain ⟨y1, hy1, hF⟩ := qd hF
 have he1 := qg hy1
 obtain ⟨b1, o_1, q1, cs3, hp1, hq1, -, hr1, hc1⟩ := s1.at hy1
 obtain ⟨p7, k7, p8, k8, p9, k9, rfl, s7, s8, s9⟩ := qaa hr1
 refine zxe hp1 hq1 he1 rfl (zp1 rfl (zc 3 (hc1.below h.below) rfl (zp2 rfl (qb ?_))))
 replace h := h.nil (α := qbs)
 obtain ⟨o1, hF, hK1⟩ := qd hF
 refine qA ?_
 replace h := h.pick [0] rfl
 refine qW [(2, _), (7, _), (19, _), (20, _), (21, _)] ⟨rfl, rfl, rfl, rfl, rfl, trivial⟩ ?_
 refine qG (fun m e w' => ∃ (S1 : Nat → Prop) (p10 : Option Addr) (ln1 : Nat) (k10 : Nat) (x1 : (List qbs)) (i1 : Int), qbj first y1 m x1 i1 = some o1 ∧ e = [(2, .int .i64 first), (7, .slice p10 ln1 k10), (19, .slice p8 y1.Arcs.length k8), (20, .int .i64 (y1.Arcs.length : Int)), (21, .int .i64 i1)] ∧ SH w w' [Ch.own S1 (x1 : List qbs) [.slice p10 ln1 k10]]) n ⟨_, _, _, _, _, _, hF, rfl, h⟩ ?_
 rintro m1 e1 w3 ⟨S1, p10, ln1, k10, x1, i1, hF, rfl, h⟩
 obtain rfl := (h.sl 0 rfl).2
 rcases m1 with _ | m1
 ·rw [qbj] at hF
  cases hF
 rw [qbj] at hF
 refine zSR (zp1 rfl (zNS ?_))
 refine qp rfl hF ?_ ?_ <;> intro hF
 ·refine zKSBSR (zp1 rfl ?_)
  obtain ⟨y2, hy2, hF⟩ := qd hF
  have he2 := qg hy2
  obtain ⟨b2, o_2, q2, cs4, hp2, hq2, -, hr2, hc3⟩ := s8.at hy2
  obtain ⟨p11, k11, p12, k12, rfl, s10, s11⟩ := qaD hr2
  refine zxe hp2 hq2 he2 rfl (zc 0 (hc3.below h.below) rfl (qT qc h rfl rfl rfl ?_))
  intro w4 bb3 h
  refine zp1 rfl (zs 0 h rfl ?_)
  intro w5 h
  replace h : SH _ _ [Ch.box bb3 [.int .i64 y2.Kind, .int .i64 y2.From, .int .i64 y2.To, .int .i64 y2.Sense, .slice p11 y2.Delay.length k11, .slice p12 y2.Slew.length k12] 211, Ch.own S1 (x1 : List qbs) [.slice p10 x1.length k10]] := h
  refine zNSR (zl 0 0 h rfl ?_)
  obtain ⟨r1, hr3, hF⟩ := qd hF
  refine qap r1 h call186 (qji (qf5 y2 (h.oldS s10) (h.oldS s11)) hr3) rfl rfl rfl rfl ?_
  intro w6 S2 p13 k13 h
  refine zp2 rfl (qb ?_)
  obtain ⟨o2, hF, hK2⟩ := qd hF
  refine qA (qW [(2, _), (7, _), (8, _), (9, _), (19, _), (20, _), (21, _), (27, _), (28, _), (29, _)] ⟨rfl, rfl, rfl, rfl, rfl, rfl, rfl, rfl, rfl, rfl, trivial⟩ ?_)
  refine qG (fun m e w' => ∃ (S3 : Nat → Prop) (p14 : Option Addr) (ln2 : Nat) (k14 : Nat) (x2 : (List qbs)) (i2 : Int), qbe first i1 y2 r1 m x2 i2 = some o2 ∧ e = [(2, .int .i64 first), (7, .slice p14 ln2 k14), (8, .int .i64 i1), (9, .pointer (some ⟨bb3, 0, none⟩)), (19, .slice p8 y1.Arcs.length k8), (20, .int .i64 (y1.Arcs.length : Int)), (21, .int .i64 i1), (27, .slice p13 r1.length k13), (28, .int .i64 (r1.length : Int)), (29, .int .i64 i2)] ∧ SH w w' [Ch.own S2 (r1 : List qX) [.slice p13 r1.length k13], Ch.box bb3 [.int .i64 y2.Kind, .int .i64 y2.From, .int .i64 y2.To, .int .i64 y2.Sense, .slice p11 y2.Delay.length k11, .slice p12 y2.Slew.length k12] 211, Ch.own S3 (x2 : List qbs) [.slice p14 ln2 k14]]) m1 ⟨_, _, _, _, _, _, hF, rfl, h⟩ ?_
  rintro m2 e2 w7 ⟨S3, p14, ln2, k14, x2, i2, hF, rfl, h⟩
  obtain rfl := (h.sl 2 rfl).2
  rcases m2 with _ | m2
  ·rw [qbe] at hF
   cases hF
  rw [qbe] at hF
  refine zSR (zp1 rfl (zNS ?_))
  refine qp rfl hF ?_ ?_ <;> intro hF
  ·refine zKSBSR ?_
   obtain ⟨y3, hy3, hF⟩ := qd hF
   have he3 := qg hy3
   obtain ⟨b3, o_3, q3, cs5, hp3, hq3, -, hr4, hc5⟩ := (h.sl 0 rfl).1.at hy3
   obtain rfl := qnQ hr4
   refine zx hp3 hq3 ⟨he3.1, qa8 he3.2.1 (h.sl 0 rfl).2⟩ rfl (zc 0 hc5 rfl (qT qc h rfl rfl rfl ?_))
   intro w8 bb4 h
   refine zs 0 h rfl ?_
   intro w9 h
   refine qb (qB (zp3 rfl (zl 2 1 h rfl (zp2 rfl ?_))))
   refine r_v (qr4 (iv := 0) qc rfl rfl (by decide) ⟨rfl, rfl⟩ rfl rfl) rfl ?_
   refine zl 0 0 h rfl (zp3 rfl (zl 2 2 h rfl (zp2 rfl ?_)))
   refine r_v (qr4 (iv := 1) qc rfl rfl (by decide) ⟨rfl, rfl⟩ rfl rfl) rfl ?_
   refine zl 0 1 h rfl (zp2 rfl (r_v (qeM qc [0, 1, 2, 3] [.tmp 41, .tmp 49, .const (.int .i64 (1)), .tmp 50] rfl rfl rfl rfl rfl rfl rfl rfl) rfl (qaN qc [.tmp 51] _ ([(⟨W64 ((W64 (2 * (W64 (first + y2.From)))) + y3.e0), W64 ((W64 (2 * (W64 (first + y2.To)))) + y3.e1), 1, i1⟩ : qbs)] : List qbs) h rfl rfl rfl rfl rfl rfl rfl rfl rfl ⟨(qnC (⟨W64 ((W64 (2 * (W64 (first + y2.From)))) + y3.e0), W64 ((W64 (2 * (W64 (first + y2.To)))) + y3.e1), 1, i1⟩ : qbs)), trivial⟩ rfl ?_)))
   intro w10 p15 S4 h
   obtain ⟨x3, hx1, hF⟩ := qd hF
   obtain ⟨g1, hx1⟩ := qbm hx1
   refine qeC qc 4 h rfl (h.sl 0 rfl).1 (h.sl 0 rfl).2 rfl rfl rfl rfl rfl rfl rfl rfl rfl g1 hx1 rfl ?_
   intro w11 p16 k15 S5 h
   refine zp1 rfl (zNER (zp2 rfl (qb ?_)))
   replace h := h.pick [2, 3, 4] rfl
   exact qy m2 [(2, _), (7, _), (8, _), (9, _), (19, _), (20, _), (21, _), (27, _), (28, _), (29, _)] (Nat.lt_succ_self m2) ⟨rfl, rfl, rfl, rfl, rfl, rfl, rfl, rfl, rfl, rfl, trivial⟩ ⟨_, _, _, _, _, _, hF, rfl, h⟩
  refine qF rfl ?_
  obtain rfl := qj hF; replace hF := hK2
  refine qfP (qB (zp2 rfl (qb ?_)))
  replace h := h.pick [2] rfl
  exact qy m1 [(2, _), (7, _), (19, _), (20, _), (21, _)] (Nat.lt_succ_self m1) ⟨rfl, rfl, rfl, rfl, rfl, trivial⟩ ⟨_, _, _, _, _, _, hF, rfl, h⟩
 refine qF rfl ?_
 obtain rfl := qj hF; replace hF := hK1
 refine zSR (zp2 rfl (qb ?_))
 obtain rfl := qj hF
 exact qad qc (ρ := (List qbs)) [GoT.v (List qbs) [.slice p10 x1.length k10]] h ⟨rfl, trivial⟩ (PV.done h (qai (qaB 0 h rfl)))

def qgM (_ : Nat) (s : (List Int)) : Option (List Int) :=
 appS ([] : List Int) s

theorem qjD {n : Nat} {w : World} {s : (List Int)} {cs1 : List Value} (ha1 : GoT.R w (old w) s cs1) {r : (List Int)} (hF : qgM n s = some r) : RetV Tryz.prog 97 [GoT.v (List Int) cs1] w r := by
 obtain ⟨p, k, rfl, s1⟩ := ha1
 obtain ⟨g1, hx⟩ := qbm (show appS ([] : List Int) s = some r from hF)
 cases p with
 | none =>
  obtain rfl := qqp s1
  obtain rfl : [] = r := hx
  refine qf Tryz.func97 rfl (m := 8) rfl rfl (fun h => ?_)
  refine zSR (zp1 rfl (zNSSR (zp1 rfl (r_v (qoB qc rfl rfl rfl rfl rfl) rfl (qb (qez rfl rfl (qbl ?_)))))))
  exact qB (zp1 rfl (qb (qad qc (ρ := (List Int)) [GoT.v (List Int) [.slice none 0 0]] h ⟨rfl, trivial⟩ (PV.done h (qai qnP)))))
 | some a =>
  refine qf Tryz.func97 rfl (m := 8) rfl rfl (fun h => ?_)
  refine zSR (zp1 rfl (zNSSR (zp1 rfl (r_v (qoB qc rfl rfl rfl rfl rfl) rfl (qb (qcG rfl rfl (qd1 ?_)))))))
  refine zSR (qaN qc [] _ ([] : List Int) h rfl rfl rfl rfl rfl rfl rfl rfl rfl trivial rfl ?_)
  intro w1 p1 S1 h
  refine zp1 rfl (qqH qc 0 h rfl (h.oldS s1) rfl rfl rfl rfl rfl rfl rfl rfl rfl rfl g1 rfl ?_)
  intro w2 p2 k2 S2 h
  rw [hx] at h
  exact zp1 rfl (qb (qad qc (ρ := (List Int)) [GoT.v (List Int) [.slice p2 (([] : List Int).length + s.length) k2]] h ⟨rfl, trivial⟩ (PV.done h (qai (qaB 0 h rfl)))))

def qaP (net : Int) (r1 : (List Tplace)) : Nat → (List Int) → Int → Option ((List Int) × Int)
 | 0, _, _ => none
 | n + 1, x1, i1 =>
  bif decide (i1 < (r1.length : Int)) then
   (idx r1 i1).bind fun y1 =>
   bif (y1.net == net) then
    bif (!y1.drives) then
     (appS x1 ([i1] : List Int)).bind fun x2 =>
     qaP net r1 n x2 (W64 (i1 + 1))
    else
     qaP net r1 n x1 (W64 (i1 + 1))
   else
    qaP net r1 n x1 (W64 (i1 + 1))
  else
   some (x1, i1)

def qeN (n : Nat) (d : ql) (net : Int) : Option (List Int) :=
 (qb5 n d).bind fun r1 =>
 (qaP net r1 n ([] : List Int) 0).bind fun o => match o with
 | (x1, _) =>
  some x1

theorem qjW {n : Nat} {w : World} {d : ql} {net : Int} {cs1 : List Value} (ha1 : GoT.R w (old w) d cs1) {r : (List Int)} (hF : qeN n d net = some r) : RetV Tryz.prog 187 [GoT.v ql cs1, .int .i64 net] w r := by
 obtain ⟨p1, k1, p2, k2, p3, k3, rfl, s1, s2, s3⟩ := qaz ha1
 refine qf Tryz.func187 rfl (m := 31) rfl rfl (fun h => ?_)
 rw [qeN] at hF
 refine zSR (qP h rfl rfl ?_)
 intro w1 bb1 h
 refine zp1 rfl (zNSR (zp1 rfl (zNSSR (zl 0 0 h rfl ?_))))
 obtain ⟨r1, hr1, hF⟩ := qd hF
 refine qap r1 h call148 (qex (h.old ha1) hr1) rfl rfl rfl rfl ?_
 intro w2 S1 p4 k4 h
 refine zp2 rfl (qb ?_)
 replace h := h.nil (α := Int)
 obtain ⟨o1, hF, hK1⟩ := qd hF
 refine qA ?_
 replace h := h.pick [0, 1] rfl
 refine qW [(1, _), (5, _), (9, _), (10, _), (11, _)] ⟨rfl, rfl, rfl, rfl, rfl, trivial⟩ ?_
 refine qG (fun m e w' => ∃ (S2 : Nat → Prop) (p5 : Option Addr) (ln1 : Nat) (k5 : Nat) (x1 : (List Int)) (i1 : Int), qaP net r1 m x1 i1 = some o1 ∧ e = [(1, .int .i64 net), (5, .slice p5 ln1 k5), (9, .slice p4 r1.length k4), (10, .int .i64 (r1.length : Int)), (11, .int .i64 i1)] ∧ SH w w' [Ch.own S2 (x1 : List Int) [.slice p5 ln1 k5], Ch.own S1 (r1 : List Tplace) [.slice p4 r1.length k4]]) n ⟨_, _, _, _, _, _, hF, rfl, h⟩ ?_
 rintro m1 e1 w3 ⟨S2, p5, ln1, k5, x1, i1, hF, rfl, h⟩
 obtain rfl := (h.sl 0 rfl).2
 rcases m1 with _ | m1
 ·rw [qaP] at hF
  cases hF
 rw [qaP] at hF
 refine zSR (zp1 rfl (zNS ?_))
 refine qp rfl hF ?_ ?_ <;> intro hF
 ·refine zKSBSR (zp1 rfl ?_)
  obtain ⟨y1, hy1, hF⟩ := qd hF
  have he1 := qg hy1
  obtain ⟨b1, o_1, q1, cs2, hp1, hq1, -, hr2, hc2⟩ := (h.sl 1 rfl).1.at hy1
  obtain rfl := qdE hr2
  refine zx hp1 hq1 ⟨he1.1, qa8 he1.2.1 (h.sl 1 rfl).2⟩ rfl (zc 0 hc2 rfl (qT qc h rfl rfl rfl ?_))
  intro w4 bb2 h
  refine zp1 rfl (zs 0 h rfl ?_)
  intro w5 h
  replace h : SH _ _ [Ch.box bb2 [.int .i64 y1.instance_, .int .i64 y1.pin, .int .i64 y1.net, .bool y1.drives] 156, Ch.own S2 (x1 : List Int) [.slice p5 x1.length k5], Ch.own S1 (r1 : List Tplace) [.slice p4 r1.length k4]] := h
  refine zNSR (zp1 rfl (zl 0 2 h rfl (zp3 rfl ?_)))
  by_cases hc3 : (y1.net == net) = true
  ·replace hF := bifT hc3 hF
   refine qC hc3 (t := 20) rfl (qa rfl (zp1 rfl (qa rfl (zl 0 3 h rfl (qa rfl (zp2 rfl (qb ?_)))))))
   refine qp rfl hF ?_ ?_ <;> intro hF
   ·refine qB (zp2 rfl (qaN qc [.tmp 26] _ ([i1] : List Int) h rfl rfl rfl rfl rfl rfl rfl rfl rfl ⟨rfl, trivial⟩ rfl ?_))
    intro w6 p6 S3 h
    obtain ⟨x2, hx1, hF⟩ := qd hF
    obtain ⟨g1, hx1⟩ := qbm hx1
    refine qeC qc 2 h rfl (h.sl 0 rfl).1 (h.sl 0 rfl).2 rfl rfl rfl rfl rfl rfl rfl rfl rfl g1 hx1 rfl ?_
    intro w7 p7 k6 S4 h
    refine zp1 rfl (zNER (zp2 rfl (qb ?_)))
    replace h := h.pick [2, 3] rfl
    exact qy m1 [(1, _), (5, _), (9, _), (10, _), (11, _)] (Nat.lt_succ_self m1) ⟨rfl, rfl, rfl, rfl, rfl, trivial⟩ ⟨_, _, _, _, _, _, hF, rfl, h⟩
   refine zKER (zp2 rfl (qb ?_))
   replace h := h.pick [1, 2] rfl
   exact qy m1 [(1, _), (5, _), (9, _), (10, _), (11, _)] (Nat.lt_succ_self m1) ⟨rfl, rfl, rfl, rfl, rfl, trivial⟩ ⟨_, _, _, _, _, _, hF, rfl, h⟩
  replace hc3 := zb hc3
  replace hF := bifF hc3 hF
  refine qD hc3 (t := 20) rfl (zn3 rfl (zp1 rfl (qb (qcG rfl rfl (zKER (zp2 rfl ?_))))))
  refine qb ?_
  replace h := h.pick [1, 2] rfl
  exact qy m1 [(1, _), (5, _), (9, _), (10, _), (11, _)] (Nat.lt_succ_self m1) ⟨rfl, rfl, rfl, rfl, rfl, trivial⟩ ⟨_, _, _, _, _, _, hF, rfl, h⟩
 refine qF rfl ?_
 obtain rfl := qj hF; replace hF := hK1
 refine zSR (zp2 rfl (qb ?_))
 obtain rfl := qj hF
 exact qad qc (ρ := (List Int)) [GoT.v (List Int) [.slice p5 x1.length k5]] h ⟨rfl, trivial⟩ (PV.done h (qai (qaB 0 h rfl)))

def qeK (_ : Nat) (d : ql) (l : qw) (p : Tplace) : Option Int :=
 bif decide (p.instance_ < 0) then
  some 0
 else
  (idx d.Instances p.instance_).bind fun y1 =>
  (idx l.Cells y1.Cell).bind fun y2 =>
  (idx y2.Pins p.pin).bind fun y3 =>
  some y3.Cap

theorem qj2 {n : Nat} {w : World} {d : ql} {l : qw} {p : Tplace} {cs1 : List Value} (ha1 : GoT.R w (old w) d cs1) {cs2 : List Value} (ha2 : GoT.R w (old w) l cs2) {cs3 : List Value} (ha3 : GoT.R w (old w) p cs3) {r : Int} (hF : qeK n d l p = some r) : RetV Tryz.prog 188 [GoT.v ql cs1, GoT.v qw cs2, GoT.v Tplace cs3] w r := by
 obtain ⟨p1, k1, p2, k2, p3, k3, rfl, s1, s2, s3⟩ := qaz ha1
 obtain ⟨p4, k4, rfl, s4⟩ := qbB ha2
 obtain rfl := qdE ha3
 refine qf Tryz.func188 rfl (m := 27) rfl rfl (fun h => ?_)
 rw [qeK] at hF
 refine zSR (qP h rfl rfl ?_)
 intro w1 bb1 h
 refine qP h rfl rfl ?_
 intro w2 bb2 h
 refine qP h rfl rfl ?_
 intro w3 bb3 h
 refine zp1 rfl (zNSSR (zp1 rfl (zl 0 0 h rfl (zp1 rfl (qb ?_)))))
 refine qp rfl hF ?_ ?_ <;> intro hF
 ·exact zSR (zp1 rfl (qb (qar qc h hF ⟨rfl, trivial⟩)))
 refine zKS ?_
 refine qb3 rfl (by kernel_rfl) ?_
 refine zd1 rfl ?_
 refine zdl 1 0 h rfl ?_
 refine zd1 rfl ?_
 refine zdl 2 0 h rfl ?_
 refine zd1 rfl ?_
 refine zdl 0 0 h rfl ?_
 obtain ⟨y1, hy1, hF⟩ := qd hF
 have he1 := qg hy1
 obtain ⟨b1, o_1, q1, cs4, hp1, hq1, -, hr1, hc2⟩ := s1.at hy1
 obtain ⟨p5, k5, rfl, s5⟩ := qab hr1
 refine zdxe hp1 hq1 he1 rfl ?_
 refine zd1 rfl ?_
 refine zdc 1 (hc2.below h.below) rfl ?_
 obtain ⟨y2, hy2, hF⟩ := qd hF
 have he2 := qg hy2
 obtain ⟨b2, o_2, q2, cs5, hp2, hq2, -, hr2, hc3⟩ := s4.at hy2
 obtain ⟨p6, k6, p7, k7, p8, k8, rfl, s6, s7, s8⟩ := qaa hr2
 refine zdxe hp2 hq2 he2 rfl ?_
 refine zd1 rfl ?_
 refine zdc 2 (hc3.below h.below) rfl ?_
 refine zd1 rfl ?_
 refine zdl 0 1 h rfl ?_
 obtain ⟨y3, hy3, hF⟩ := qd hF
 have he3 := qg hy3
 obtain ⟨b3, o_3, q3, cs6, hp3, hq3, -, hr3, hc4⟩ := s6.at hy3
 obtain rfl := qbx hr3
 refine zdxe hp3 hq3 he3 rfl ?_
 refine zd1 rfl ?_
 refine zdc 2 (hc4.below h.below) rfl ?_
 refine zd1 rfl ?_
 refine qaR (fun w4 hb => ?_)
 replace h := h.ext hb
 clear hb
 exact qar qc h hF ⟨rfl, trivial⟩

def qbh (y1 : qaj) : Nat → (List Int) → Int → Option ((List Int) × Int)
 | 0, _, _ => none
 | n + 1, x2, i2 =>
  bif decide (i2 > 0) then
   (idx y1.Parent i2).bind fun y7 =>
   (idx x2 y7).bind fun y8 =>
   (idx x2 i2).bind fun y9 =>
   (idx x2 y7).bind fun _ =>
   qbh y1 n (setS x2 y7 (W64 (y8 + y9))) (W64 (i2 - 1))
  else
   some (x2, i2)

def qbg (a_0 : qz) (y1 : qaj) (r2 : (List Tplace)) (r3 : (List Int)) : Nat → (List Int) → Int → Option ((List Int) × Int)
 | 0, _, _ => none
 | n + 1, x1, i1 =>
  bif decide (i1 < (r3.length : Int)) then
   (idx r3 i1).bind fun y2 =>
   (idx y1.Sink i1).bind fun y3 =>
   (idx x1 y3).bind fun y4 =>
   (idx r2 y2).bind fun y5 =>
   (qeK n (⟨a_0.Design.Instances, a_0.Design.Nets, a_0.Design.Ports⟩ : ql) (⟨a_0.Library.Cells⟩ : qw) y5).bind fun r4 =>
   (idx x1 y3).bind fun _ =>
   qbg a_0 y1 r2 r3 n (setS x1 y3 (W64 (y4 + r4))) (W64 (i1 + 1))
  else
   some (x1, i1)

def qcM (n : Nat) (a_0 : qz) (a_1 : Int) : Option (List Int) :=
 (idx a_0.Wires a_1).bind fun y1 =>
 (qgM n y1.Cap).bind fun r1 =>
 (qb5 n (⟨a_0.Design.Instances, a_0.Design.Nets, a_0.Design.Ports⟩ : ql)).bind fun r2 =>
 (qeN n (⟨a_0.Design.Instances, a_0.Design.Nets, a_0.Design.Ports⟩ : ql) a_1).bind fun r3 =>
 (qbg a_0 y1 r2 r3 n r1 0).bind fun o => match o with
 | (x1, _) =>
  (qbh y1 n x1 (W64 ((r1.length : Int) - 1))).bind fun o => match o with
  | (x2, _) =>
   some x2

theorem qfh {n : Nat} {w : World} {a_0 : qz} {a_1 : Int} {cs1 : List Value} (ha1 : GoT.R w (old w) a_0 cs1) {r : (List Int)} (hF : qcM n a_0 a_1 = some r) : RetV Tryz.prog 151 [GoT.v qz cs1, .int .i64 a_1] w r := by
 obtain ⟨p1, k1, p2, k2, p3, k3, p4, k4, p5, k5, rfl, s1, s2, s3, s4, s5⟩ := qat ha1
 refine qf Tryz.func151 rfl (m := 74) rfl rfl (fun h => ?_)
 rw [qcM] at hF
 refine zSR (qP h rfl rfl ?_)
 intro w1 bb1 h
 refine zp1 rfl (zNSR (zp1 rfl (zl 0 4 h rfl (zp1 rfl ?_))))
 obtain ⟨y1, hy1, hF⟩ := qd hF
 have he1 := qg hy1
 obtain ⟨b1, o_1, q1, cs2, hp1, hq1, -, hr1, hc1⟩ := s5.at hy1
 obtain ⟨p6, k6, p7, k7, p8, k8, p9, k9, rfl, s6, s7, s8, s9⟩ := qbU hr1
 refine zxe hp1 hq1 he1 rfl (zc 0 (hc1.below h.below) rfl (qT qc h rfl rfl rfl ?_))
 intro w2 bb2 h
 refine zs 0 h rfl ?_
 intro w3 h
 refine zNSR (zp1 rfl (zl 0 2 h rfl ?_))
 obtain ⟨r1, hr2, hF⟩ := qd hF
 refine qap r1 h call97 (qjD ⟨_, _, rfl, (h.oldS s8)⟩ hr2) rfl rfl rfl rfl ?_
 intro w4 S1 p10 k10 h
 refine zp1 rfl (zNSR (zp1 rfl (zl 2 1 h rfl ?_)))
 obtain ⟨r2, hr3, hF⟩ := qd hF
 refine qap r2 h call148 (qex (qbf (⟨a_0.Design.Instances, a_0.Design.Nets, a_0.Design.Ports⟩ : ql) (h.oldS s2) (h.oldS s3) (h.oldS s4)) hr3) rfl rfl rfl rfl ?_
 intro w5 S2 p11 k11 h
 refine zp1 rfl (zNSSR (zp1 rfl (zl 3 1 h rfl (zp1 rfl ?_))))
 obtain ⟨r3, hr4, hF⟩ := qd hF
 refine qap r3 h call187 (qjW (qbf (⟨a_0.Design.Instances, a_0.Design.Nets, a_0.Design.Ports⟩ : ql) (h.oldS s2) (h.oldS s3) (h.oldS s4)) hr4) rfl rfl rfl rfl ?_
 intro w6 S3 p12 k12 h
 refine zp2 rfl (qb ?_)
 obtain ⟨o1, hF, hK1⟩ := qd hF
 refine qA (qW [(2, _), (5, _), (6, _), (7, _), (25, _), (26, _), (27, _)] ⟨rfl, rfl, rfl, rfl, rfl, rfl, rfl, trivial⟩ ?_)
 refine qG (fun m e w' => ∃ (x1 : (List Int)) (i1 : Int), qbg a_0 y1 r2 r3 m x1 i1 = some o1 ∧ e = [(2, .pointer (some ⟨bb1, 0, none⟩)), (5, .pointer (some ⟨bb2, 0, none⟩)), (6, .slice p10 r1.length k10), (7, .slice p11 r2.length k11), (25, .slice p12 r3.length k12), (26, .int .i64 (r3.length : Int)), (27, .int .i64 i1)] ∧ SH w w' [Ch.own S3 (r3 : List Int) [.slice p12 r3.length k12], Ch.own S2 (r2 : List Tplace) [.slice p11 r2.length k11], Ch.own S1 (x1 : List Int) [.slice p10 r1.length k10], Ch.box bb2 [.slice p6 y1.Parent.length k6, .slice p7 y1.Res.length k7, .slice p8 y1.Cap.length k8, .slice p9 y1.Sink.length k9] 130, Ch.box bb1 [.slice p1 a_0.Library.Cells.length k1, .slice p2 a_0.Design.Instances.length k2, .slice p3 a_0.Design.Nets.length k3, .slice p4 a_0.Design.Ports.length k4, .slice p5 a_0.Wires.length k5] 50]) n ⟨_, _, hF, rfl, h⟩ ?_
 rintro m1 e1 w7 ⟨x1, i1, hF, rfl, h⟩
 rcases m1 with _ | m1
 ·rw [qbg] at hF
  cases hF
 rw [qbg] at hF
 refine zSR (zp1 rfl (zNS ?_))
 refine qp rfl hF ?_ ?_ <;> intro hF
 ·refine zKSBSR (zp1 rfl ?_)
  obtain ⟨y2, hy2, hF⟩ := qd hF
  have he2 := qg hy2
  obtain ⟨b2, o_2, q2, cs3, hp2, hq2, -, hr5, hc3⟩ := (h.sl 0 rfl).1.at hy2
  obtain rfl := hr5
  refine zx hp2 hq2 ⟨he2.1, qa8 he2.2.1 (h.sl 0 rfl).2⟩ rfl (zc 0 hc3 rfl (zp2 rfl (qb ?_)))
  refine qfO [19] (fun w' => SH w w' [Ch.own S2 (r2 : List Tplace) [.slice p11 r2.length k11], Ch.own S1 (x1 : List Int) [.slice p10 r1.length k10], Ch.box bb2 [.slice p6 y1.Parent.length k6, .slice p7 y1.Res.length k7, .slice p8 y1.Cap.length k8, .slice p9 y1.Sink.length k9] 130, Ch.box bb1 [.slice p1 a_0.Library.Cells.length k1, .slice p2 a_0.Design.Instances.length k2, .slice p3 a_0.Design.Nets.length k3, .slice p4 a_0.Design.Ports.length k4, .slice p5 a_0.Wires.length k5] 50]) rfl 20 rfl #[ff, ff, ff, ff, ff, ff, ff, ff, ff, ff, ff, ff, ff, ff, ff, ff, ff, ff, ff, ff] (by kernel_rfl) (fun w8 hb => ?_)
  replace h := h.ext hb
  clear hb
  refine qk 0 rfl #[tt, ff, ff, ff, ff, ff, ff, ff, ff, ff, ff, ff, ff, ff, ff, ff, ff, ff, ff, ff] (by kernel_rfl) (by kernel_rfl) (fun w' hw => v_p qc rfl w') (h.pick [1, 2, 3, 4] rfl) rfl ?_
  refine qk 1 rfl #[tt, tt, ff, ff, ff, ff, ff, ff, ff, ff, ff, ff, ff, ff, ff, ff, ff, ff, ff, ff] (by kernel_rfl) (by kernel_rfl) (fun w' hw => v_p qc rfl w') (h.pick [1, 2, 3, 4] rfl) rfl ?_
  refine qk 2 rfl #[tt, tt, tt, ff, ff, ff, ff, ff, ff, ff, ff, ff, ff, ff, ff, ff, ff, ff, ff, ff] (by kernel_rfl) (by kernel_rfl) (fun w' hw => qbE qc (hw.box 2 rfl) (j := 3) rfl rfl rfl) (h.pick [1, 2, 3, 4] rfl) rfl ?_
  refine qk 3 rfl #[tt, tt, tt, tt, ff, ff, ff, ff, ff, ff, ff, ff, ff, ff, ff, ff, ff, ff, ff, ff] (by kernel_rfl) (by kernel_rfl) (fun w' hw => v_p qc rfl w') (h.pick [1, 2, 3, 4] rfl) rfl ?_
  obtain ⟨y3, hy3, hF⟩ := qd hF
  have he3 := qg hy3
  obtain ⟨b3, o_3, q3, cs4, hp3, hq3, -, hr6, hc4⟩ := s9.at hy3
  obtain rfl := hr6
  refine qk 4 rfl #[tt, tt, tt, tt, tt, ff, ff, ff, ff, ff, ff, ff, ff, ff, ff, ff, ff, ff, ff, ff] (by kernel_rfl) (by kernel_rfl) (fun w' hw => qfA qc hp3 hq3 ⟨he3.1, he3.2.1⟩ rfl rfl rfl rfl rfl rfl) (h.pick [1, 2, 3, 4] rfl) rfl ?_
  refine qk 5 rfl #[tt, tt, tt, tt, tt, tt, ff, ff, ff, ff, ff, ff, ff, ff, ff, ff, ff, ff, ff, ff] (by kernel_rfl) (by kernel_rfl) (fun w' hw => qbE qc (hc4.below hw.below) (j := 0) rfl rfl rfl) (h.pick [1, 2, 3, 4] rfl) rfl ?_
  obtain ⟨y4, hy4, hF⟩ := qd hF
  have he4 := qg hy4
  obtain ⟨b4, o_4, q4, cs5, hp4, hq4, -, hr7, hc5⟩ := (h.sl 2 rfl).1.at hy4
  obtain rfl := hr7
  refine qk 6 rfl #[tt, tt, tt, tt, tt, tt, tt, ff, ff, ff, ff, ff, ff, ff, ff, ff, ff, ff, ff, ff] (by kernel_rfl) (by kernel_rfl) (fun w' hw => qfA qc hp4 hq4 ⟨he4.1, qa8 he4.2.1 (h.sl 2 rfl).2⟩ rfl rfl rfl rfl rfl rfl) (h.pick [1, 2, 3, 4] rfl) rfl ?_
  refine qk 7 rfl #[tt, tt, tt, tt, tt, tt, tt, tt, ff, ff, ff, ff, ff, ff, ff, ff, ff, ff, ff, ff] (by kernel_rfl) (by kernel_rfl) (fun w' hw => qbE qc (qhB (w1 := w) (S1 := fun _ => False) hw 1 rfl hy4 hp4 hq4 rfl) (j := 0) rfl rfl rfl) (h.pick [1, 2, 3, 4] rfl) rfl ?_
  refine qk 8 rfl #[tt, tt, tt, tt, tt, tt, tt, tt, tt, ff, ff, ff, ff, ff, ff, ff, ff, ff, ff, ff] (by kernel_rfl) (by kernel_rfl) (fun w' hw => v_p qc rfl w') (h.pick [1, 2, 3, 4] rfl) rfl ?_
  refine qk 9 rfl #[tt, tt, tt, tt, tt, tt, tt, tt, tt, tt, ff, ff, ff, ff, ff, ff, ff, ff, ff, ff] (by kernel_rfl) (by kernel_rfl) (fun w' hw => qbE qc (hw.box 3 rfl) (j := 1) rfl rfl rfl) (h.pick [1, 2, 3, 4] rfl) rfl ?_
  refine qk 10 rfl #[tt, tt, tt, tt, tt, tt, tt, tt, tt, tt, tt, ff, ff, ff, ff, ff, ff, ff, ff, ff] (by kernel_rfl) (by kernel_rfl) (fun w' hw => v_p qc rfl w') (h.pick [1, 2, 3, 4] rfl) rfl ?_
  refine qk 11 rfl #[tt, tt, tt, tt, tt, tt, tt, tt, tt, tt, tt, tt, ff, ff, ff, ff, ff, ff, ff, ff] (by kernel_rfl) (by kernel_rfl) (fun w' hw => qbE qc (hw.box 3 rfl) (j := 0) rfl rfl rfl) (h.pick [1, 2, 3, 4] rfl) rfl ?_
  refine qk 12 rfl #[tt, tt, tt, tt, tt, tt, tt, tt, tt, tt, tt, tt, tt, ff, ff, ff, ff, ff, ff, ff] (by kernel_rfl) (by kernel_rfl) (fun w' hw => v_p qc rfl w') (h.pick [1, 2, 3, 4] rfl) rfl ?_
  refine qk 13 rfl #[tt, tt, tt, tt, tt, tt, tt, tt, tt, tt, tt, tt, tt, tt, ff, ff, ff, ff, ff, ff] (by kernel_rfl) (by kernel_rfl) (fun w' hw => v_p qc rfl w') (h.pick [1, 2, 3, 4] rfl) rfl ?_
  obtain ⟨y5, hy5, hF⟩ := qd hF
  have he5 := qg hy5
  obtain ⟨b5, o_5, q5, cs6, hp5, hq5, -, hr8, hc6⟩ := (h.sl 1 rfl).1.at hy5
  obtain rfl := qdE hr8
  refine qk 14 rfl #[tt, tt, tt, tt, tt, tt, tt, tt, tt, tt, tt, tt, tt, tt, tt, ff, ff, ff, ff, ff] (by kernel_rfl) (by kernel_rfl) (fun w' hw => qfA qc hp5 hq5 ⟨he5.1, qa8 he5.2.1 (h.sl 1 rfl).2⟩ rfl rfl rfl rfl rfl rfl) (h.pick [1, 2, 3, 4] rfl) rfl ?_
  refine qk 15 rfl #[tt, tt, tt, tt, tt, tt, tt, tt, tt, tt, tt, tt, tt, tt, tt, tt, ff, ff, ff, ff] (by kernel_rfl) (by kernel_rfl) (fun w' hw => qbE qc (qhB hw 0 rfl hy5 hp5 hq5 (qhK (w := w) (S := fun _ => False) y5)) (j := 0) rfl rfl rfl) (h.pick [1, 2, 3, 4] rfl) rfl ?_
  refine qax 16 rfl #[tt, tt, tt, tt, tt, tt, tt, tt, tt, tt, tt, tt, tt, tt, tt, tt, tt, ff, ff, ff] (by kernel_rfl) (by kernel_rfl) ?_
  obtain ⟨r4, hr9, hF⟩ := qd hF
  refine qN r4 h call188 (qj2 (qbf (⟨a_0.Design.Instances, a_0.Design.Nets, a_0.Design.Ports⟩ : ql) (h.oldS s2) (h.oldS s3) (h.oldS s4)) (qdx (⟨a_0.Library.Cells⟩ : qw) (h.oldS s1)) (qhK y5) hr9) rfl rfl rfl rfl ?_
  intro w9 h
  refine qao (fun _ => (h.pick [1, 2, 3, 4] rfl)) ?_
  refine qk 17 rfl #[tt, tt, tt, tt, tt, tt, tt, tt, tt, tt, tt, tt, tt, tt, tt, tt, tt, tt, ff, ff] (by kernel_rfl) (by kernel_rfl) (fun w' hw => v_p qc rfl w') (h.pick [1, 2, 3, 4] rfl) rfl ?_
  obtain ⟨y6, hy6, hF⟩ := qd hF
  have he6 := qg hy6
  obtain ⟨b6, o_6, q6, cs7, hp6, hq6, -, hr10, hc7⟩ := (h.sl 2 rfl).1.at hy6
  obtain rfl := hr10
  refine qk 18 rfl #[tt, tt, tt, tt, tt, tt, tt, tt, tt, tt, tt, tt, tt, tt, tt, tt, tt, tt, tt, ff] (by kernel_rfl) (by kernel_rfl) (fun w' hw => qfA qc hp6 hq6 ⟨he6.1, qa8 he6.2.1 (h.sl 2 rfl).2⟩ rfl rfl rfl rfl rfl rfl) (h.pick [1, 2, 3, 4] rfl) rfl ?_
  refine qax 19 rfl #[tt, tt, tt, tt, tt, tt, tt, tt, tt, tt, tt, tt, tt, tt, tt, tt, tt, tt, tt, tt] (by kernel_rfl) (by kernel_rfl) ?_
  refine qfQ qc 2 0 (W64 (y4 + r4)) h rfl hy6 hp6 hq6 rfl hc7 rfl rfl rfl rfl rfl rfl rfl ?_
  intro w10 h
  refine qao (fun hs => absurd (hs 19 (by decide)) (by decide)) ?_
  refine qdn (by kernel_rfl) ?_
  exact qfP (qB (zp2 rfl (qb (qy m1 [(2, _), (5, _), (6, _), (7, _), (25, _), (26, _), (27, _)] (Nat.lt_succ_self m1) ⟨rfl, rfl, rfl, rfl, rfl, rfl, rfl, trivial⟩ ⟨_, _, hF, rfl, h⟩))))
 refine qF rfl ?_
 obtain rfl := qj hF; replace hF := hK1
 refine zSSR (zp4 rfl (qb ?_))
 obtain ⟨o2, hF, hK2⟩ := qd hF
 refine qA ?_
 replace h := h.pick [2, 3] rfl
 refine qW [(5, _), (6, _), (10, _)] ⟨rfl, rfl, rfl, trivial⟩ ?_
 refine qG (fun m e w' => ∃ (x2 : (List Int)) (i2 : Int), qbh y1 m x2 i2 = some o2 ∧ e = [(5, .pointer (some ⟨bb2, 0, none⟩)), (6, .slice p10 r1.length k10), (10, .int .i64 i2)] ∧ SH w w' [Ch.own S1 (x2 : List Int) [.slice p10 r1.length k10], Ch.box bb2 [.slice p6 y1.Parent.length k6, .slice p7 y1.Res.length k7, .slice p8 y1.Cap.length k8, .slice p9 y1.Sink.length k9] 130]) n ⟨_, _, hF, rfl, h⟩ ?_
 rintro m2 e2 w11 ⟨x2, i2, hF, rfl, h⟩
 rcases m2 with _ | m2
 ·rw [qbh] at hF
  cases hF
 rw [qbh] at hF
 refine zSSR (zp2 rfl (qb ?_))
 refine qp rfl hF ?_ ?_ <;> intro hF
 ·refine zKSB ?_
  refine qfO [14] (fun w' => SH w w' [Ch.own S1 (x2 : List Int) [.slice p10 r1.length k10], Ch.box bb2 [.slice p6 y1.Parent.length k6, .slice p7 y1.Res.length k7, .slice p8 y1.Cap.length k8, .slice p9 y1.Sink.length k9] 130]) rfl 15 rfl #[ff, ff, ff, ff, ff, ff, ff, ff, ff, ff, ff, ff, ff, ff, ff] (by kernel_rfl) (fun w12 hb => ?_)
  replace h := h.ext hb
  clear hb
  refine qk 0 rfl #[tt, ff, ff, ff, ff, ff, ff, ff, ff, ff, ff, ff, ff, ff, ff] (by kernel_rfl) (by kernel_rfl) (fun w' hw => v_p qc rfl w') (h.pick [0, 1] rfl) rfl ?_
  refine qk 1 rfl #[tt, tt, ff, ff, ff, ff, ff, ff, ff, ff, ff, ff, ff, ff, ff] (by kernel_rfl) (by kernel_rfl) (fun w' hw => v_p qc rfl w') (h.pick [0, 1] rfl) rfl ?_
  refine qk 2 rfl #[tt, tt, tt, ff, ff, ff, ff, ff, ff, ff, ff, ff, ff, ff, ff] (by kernel_rfl) (by kernel_rfl) (fun w' hw => qbE qc (hw.box 1 rfl) (j := 0) rfl rfl rfl) (h.pick [0, 1] rfl) rfl ?_
  refine qk 3 rfl #[tt, tt, tt, tt, ff, ff, ff, ff, ff, ff, ff, ff, ff, ff, ff] (by kernel_rfl) (by kernel_rfl) (fun w' hw => v_p qc rfl w') (h.pick [0, 1] rfl) rfl ?_
  obtain ⟨y7, hy7, hF⟩ := qd hF
  have he7 := qg hy7
  obtain ⟨b7, o_7, q7, cs8, hp7, hq7, -, hr11, hc9⟩ := s6.at hy7
  obtain rfl := hr11
  refine qk 4 rfl #[tt, tt, tt, tt, tt, ff, ff, ff, ff, ff, ff, ff, ff, ff, ff] (by kernel_rfl) (by kernel_rfl) (fun w' hw => qfA qc hp7 hq7 ⟨he7.1, he7.2.1⟩ rfl rfl rfl rfl rfl rfl) (h.pick [0, 1] rfl) rfl ?_
  refine qk 5 rfl #[tt, tt, tt, tt, tt, tt, ff, ff, ff, ff, ff, ff, ff, ff, ff] (by kernel_rfl) (by kernel_rfl) (fun w' hw => qbE qc (hc9.below hw.below) (j := 0) rfl rfl rfl) (h.pick [0, 1] rfl) rfl ?_
  obtain ⟨y8, hy8, hF⟩ := qd hF
  have he8 := qg hy8
  obtain ⟨b8, o_8, q8, cs9, hp8, hq8, -, hr12, hc10⟩ := (h.sl 0 rfl).1.at hy8
  obtain rfl := hr12
  refine qk 6 rfl #[tt, tt, tt, tt, tt, tt, tt, ff, ff, ff, ff, ff, ff, ff, ff] (by kernel_rfl) (by kernel_rfl) (fun w' hw => qfA qc hp8 hq8 ⟨he8.1, qa8 he8.2.1 (h.sl 0 rfl).2⟩ rfl rfl rfl rfl rfl rfl) (h.pick [0, 1] rfl) rfl ?_
  refine qk 7 rfl #[tt, tt, tt, tt, tt, tt, tt, tt, ff, ff, ff, ff, ff, ff, ff] (by kernel_rfl) (by kernel_rfl) (fun w' hw => qbE qc (qhB (w1 := w) (S1 := fun _ => False) hw 0 rfl hy8 hp8 hq8 rfl) (j := 0) rfl rfl rfl) (h.pick [0, 1] rfl) rfl ?_
  refine qk 8 rfl #[tt, tt, tt, tt, tt, tt, tt, tt, tt, ff, ff, ff, ff, ff, ff] (by kernel_rfl) (by kernel_rfl) (fun w' hw => v_p qc rfl w') (h.pick [0, 1] rfl) rfl ?_
  refine qk 9 rfl #[tt, tt, tt, tt, tt, tt, tt, tt, tt, tt, ff, ff, ff, ff, ff] (by kernel_rfl) (by kernel_rfl) (fun w' hw => v_p qc rfl w') (h.pick [0, 1] rfl) rfl ?_
  obtain ⟨y9, hy9, hF⟩ := qd hF
  have he9 := qg hy9
  obtain ⟨b9, o_9, q9, cs10, hp9, hq9, -, hr13, hc11⟩ := (h.sl 0 rfl).1.at hy9
  obtain rfl := hr13
  refine qk 10 rfl #[tt, tt, tt, tt, tt, tt, tt, tt, tt, tt, tt, ff, ff, ff, ff] (by kernel_rfl) (by kernel_rfl) (fun w' hw => qfA qc hp9 hq9 ⟨he9.1, qa8 he9.2.1 (h.sl 0 rfl).2⟩ rfl rfl rfl rfl rfl rfl) (h.pick [0, 1] rfl) rfl ?_
  refine qk 11 rfl #[tt, tt, tt, tt, tt, tt, tt, tt, tt, tt, tt, tt, ff, ff, ff] (by kernel_rfl) (by kernel_rfl) (fun w' hw => qbE qc (qhB (w1 := w) (S1 := fun _ => False) hw 0 rfl hy9 hp9 hq9 rfl) (j := 0) rfl rfl rfl) (h.pick [0, 1] rfl) rfl ?_
  refine qk 12 rfl #[tt, tt, tt, tt, tt, tt, tt, tt, tt, tt, tt, tt, tt, ff, ff] (by kernel_rfl) (by kernel_rfl) (fun w' hw => v_p qc rfl w') (h.pick [0, 1] rfl) rfl ?_
  obtain ⟨y10, hy10, hF⟩ := qd hF
  have he10 := qg hy10
  obtain ⟨b10, o_10, q10, cs11, hp10, hq10, -, hr14, hc12⟩ := (h.sl 0 rfl).1.at hy10
  obtain rfl := hr14
  refine qk 13 rfl #[tt, tt, tt, tt, tt, tt, tt, tt, tt, tt, tt, tt, tt, tt, ff] (by kernel_rfl) (by kernel_rfl) (fun w' hw => qfA qc hp10 hq10 ⟨he10.1, qa8 he10.2.1 (h.sl 0 rfl).2⟩ rfl rfl rfl rfl rfl rfl) (h.pick [0, 1] rfl) rfl ?_
  refine qax 14 rfl #[tt, tt, tt, tt, tt, tt, tt, tt, tt, tt, tt, tt, tt, tt, tt] (by kernel_rfl) (by kernel_rfl) ?_
  refine qfQ qc 0 0 (W64 (y8 + y9)) h rfl hy10 hp10 hq10 rfl hc12 rfl rfl rfl rfl rfl rfl rfl ?_
  intro w13 h
  refine qao (fun hs => absurd (hs 14 (by decide)) (by decide)) ?_
  refine qdn (by kernel_rfl) ?_
  exact qfP (qB (zp3 rfl (qb (qy m2 [(5, _), (6, _), (10, _)] (Nat.lt_succ_self m2) ⟨rfl, rfl, rfl, trivial⟩ ⟨_, _, hF, rfl, h⟩))))
 refine qF rfl ?_
 obtain rfl := qj hF; replace hF := hK2
 refine zSR (zp2 rfl (qb ?_))
 obtain rfl := qj hF
 exact qad qc (ρ := (List Int)) [GoT.v (List Int) [.slice p10 r1.length k10]] h ⟨rfl, trivial⟩ (PV.done h (qai (qaB 0 h rfl)))

def qa3 (y1 : qaj) (r1 : (List Int)) (x1 : (List Int)) : Nat → (List Int) → Int → Option ((List Int) × Int)
 | 0, _, _ => none
 | n + 1, x2, i1 =>
  bif decide (i1 < (x1.length : Int)) then
   (idx y1.Parent i1).bind fun y2 =>
   (idx x2 y2).bind fun y3 =>
   (idx y1.Res i1).bind fun y4 =>
   (idx r1 i1).bind fun y5 =>
   (idx x2 i1).bind fun _ =>
   qa3 y1 r1 x1 n (setS x2 i1 (W64 (y3 + (W64 (y4 * y5))))) (W64 (i1 + 1))
  else
   some (x2, i1)

def qey (n : Nat) (b : qz) (net : Int) : Option (List Int) :=
 (idx b.Wires net).bind fun y1 =>
 (qcM n b net).bind fun r1 =>
 (mkS (r1.length : Int) (0 : Int)).bind fun x1 =>
 (qa3 y1 r1 x1 n x1 1).bind fun o => match o with
 | (x2, _) =>
  some x2

theorem qiV {n : Nat} {w : World} {b : qz} {net : Int} {cs1 : List Value} (ha1 : GoT.R w (old w) b cs1) {r : (List Int)} (hF : qey n b net = some r) : RetV Tryz.prog 189 [GoT.v qz cs1, .int .i64 net] w r := by
 obtain ⟨p1, k1, p2, k2, p3, k3, p4, k4, p5, k5, rfl, s1, s2, s3, s4, s5⟩ := qat ha1
 refine qf Tryz.func189 rfl (m := 49) rfl rfl (fun h => ?_)
 rw [qey] at hF
 refine zSR (qP h rfl rfl ?_)
 intro w1 bb1 h
 refine zp1 rfl (zNS ?_)
 refine qfO [] (fun w' => SH w w' [Ch.box bb1 [.slice p1 b.Library.Cells.length k1, .slice p2 b.Design.Instances.length k2, .slice p3 b.Design.Nets.length k3, .slice p4 b.Design.Ports.length k4, .slice p5 b.Wires.length k5] 50]) rfl 11 rfl #[ff, ff, ff, ff, ff, ff, ff, ff, ff, ff, ff] (by kernel_rfl) (fun w2 hb => ?_)
 replace h := h.ext hb
 clear hb
 refine qk 0 rfl #[tt, ff, ff, ff, ff, ff, ff, ff, ff, ff, ff] (by kernel_rfl) (by kernel_rfl) (fun w' hw => v_p qc rfl w') (h.pick [0] rfl) rfl ?_
 refine qk 1 rfl #[tt, tt, ff, ff, ff, ff, ff, ff, ff, ff, ff] (by kernel_rfl) (by kernel_rfl) (fun w' hw => qbE qc (hw.box 0 rfl) (j := 4) rfl rfl rfl) (h.pick [0] rfl) rfl ?_
 refine qk 2 rfl #[tt, tt, tt, ff, ff, ff, ff, ff, ff, ff, ff] (by kernel_rfl) (by kernel_rfl) (fun w' hw => v_p qc rfl w') (h.pick [0] rfl) rfl ?_
 obtain ⟨y1, hy1, hF⟩ := qd hF
 have he1 := qg hy1
 obtain ⟨b1, o_1, q1, cs2, hp1, hq1, -, hr1, hc1⟩ := s5.at hy1
 obtain ⟨p6, k6, p7, k7, p8, k8, p9, k9, rfl, s6, s7, s8, s9⟩ := qbU hr1
 refine qk 3 rfl #[tt, tt, tt, tt, ff, ff, ff, ff, ff, ff, ff] (by kernel_rfl) (by kernel_rfl) (fun w' hw => qfA qc hp1 hq1 ⟨he1.1, he1.2.1⟩ rfl rfl rfl rfl rfl rfl) (h.pick [0] rfl) rfl ?_
 refine qk 4 rfl #[tt, tt, tt, tt, tt, ff, ff, ff, ff, ff, ff] (by kernel_rfl) (by kernel_rfl) (fun w' hw => qbE qc (hc1.below hw.below) (j := 0) rfl rfl rfl) (h.pick [0] rfl) rfl ?_
 refine qk 5 rfl #[tt, tt, tt, tt, tt, tt, ff, ff, ff, ff, ff] (by kernel_rfl) (by kernel_rfl) (fun w' hw => qbE qc (hw.box 0 rfl) (j := 0) rfl rfl rfl) (h.pick [0] rfl) rfl ?_
 refine qk 6 rfl #[tt, tt, tt, tt, tt, tt, tt, ff, ff, ff, ff] (by kernel_rfl) (by kernel_rfl) (fun w' hw => v_p qc rfl w') (h.pick [0] rfl) rfl ?_
 obtain ⟨r1, hr2, hF⟩ := qd hF
 refine qpB (fun e w' => ∃ (bb8 : Nat) (S7 : Nat → Prop) (p16 : Option Addr) (k16 : Nat), e = [(5, .pointer (some ⟨bb8, 0, none⟩)), (6, .slice p16 r1.length k16)] ∧ SH w w' [Ch.box bb8 [.slice p6 y1.Parent.length k6, .slice p7 y1.Res.length k7, .slice p8 y1.Cap.length k8, .slice p9 y1.Sink.length k9] 130, Ch.own S7 (r1 : List Int) [.slice p16 r1.length k16], Ch.box bb1 [.slice p1 b.Library.Cells.length k1, .slice p2 b.Design.Instances.length k2, .slice p3 b.Design.Nets.length k3, .slice p4 b.Design.Ports.length k4, .slice p5 b.Wires.length k5] 50]) 0 #[tt, tt, tt, tt, tt, tt, tt, tt, tt, tt, tt] ?_ ?_
 ·intro K
  refine qr3 7 8 rfl rfl #[tt, tt, tt, tt, tt, tt, tt, tt, ff, ff, ff] #[tt, tt, tt, tt, tt, tt, tt, ff, tt, ff, ff] (by kernel_rfl) (by kernel_rfl) (by kernel_rfl) ?_ ?_
  ·refine qap r1 h call151 (qfh (h.old ha1) hr2) rfl rfl rfl rfl ?_
   intro w13 S5 p14 k14 h
   refine qao (fun _ => (h.pick [1] rfl)) ?_
   refine qax 8 rfl #[tt, tt, tt, tt, tt, tt, tt, tt, tt, ff, ff] (by kernel_rfl) (by kernel_rfl) ?_
   refine qT qc h rfl rfl rfl ?_
   intro w14 bb6 h
   refine qao (fun _ => (h.pick [2] rfl)) ?_
   refine qax 9 rfl #[tt, tt, tt, tt, tt, tt, tt, tt, tt, tt, ff] (by kernel_rfl) (by kernel_rfl) ?_
   refine zs 0 h rfl ?_
   intro w15 h
   refine qao (fun _ => (h.pick [2] rfl)) ?_
   refine qk 10 rfl #[tt, tt, tt, tt, tt, tt, tt, tt, tt, tt, tt] (by kernel_rfl) (by kernel_rfl) (fun w' hw => v_p qc rfl w') (h.pick [2] rfl) rfl ?_
   exact qpG [(5, _), (6, _)] ⟨rfl, rfl, trivial⟩ (K _ _ ⟨_, _, _, _, rfl, h⟩)
  refine qT qc h rfl rfl rfl ?_
  intro w16 bb7 h
  refine qao (fun _ => (h.pick [1] rfl)) ?_
  refine qax 7 rfl #[tt, tt, tt, tt, tt, tt, tt, tt, tt, ff, ff] (by kernel_rfl) (by kernel_rfl) ?_
  refine qap r1 h call151 (qfh (h.old ha1) hr2) rfl rfl rfl rfl ?_
  intro w17 S6 p15 k15 h
  refine qao (fun _ => (h.pick [2] rfl)) ?_
  refine qax 9 rfl #[tt, tt, tt, tt, tt, tt, tt, tt, tt, tt, ff] (by kernel_rfl) (by kernel_rfl) ?_
  refine zs 1 h rfl ?_
  intro w18 h
  replace h : SH _ _ [Ch.own S6 (r1 : List Int) [.slice p15 r1.length k15], Ch.box bb7 [.slice p6 y1.Parent.length k6, .slice p7 y1.Res.length k7, .slice p8 y1.Cap.length k8, .slice p9 y1.Sink.length k9] 130, Ch.box bb1 [.slice p1 b.Library.Cells.length k1, .slice p2 b.Design.Instances.length k2, .slice p3 b.Design.Nets.length k3, .slice p4 b.Design.Ports.length k4, .slice p5 b.Wires.length k5] 50] := h
  refine qao (fun _ => (h.pick [2] rfl)) ?_
  refine qk 10 rfl #[tt, tt, tt, tt, tt, tt, tt, tt, tt, tt, tt] (by kernel_rfl) (by kernel_rfl) (fun w' hw => v_p qc rfl w') (h.pick [2] rfl) rfl ?_
  replace h := h.pick [1, 0, 2] rfl
  exact qpG [(5, _), (6, _)] ⟨rfl, rfl, trivial⟩ (K _ _ ⟨_, _, _, _, rfl, h⟩)
 rintro e2 w19 ⟨bb8, S7, p16, k16, rfl, h⟩
 refine qdn (by kernel_rfl) ?_
 refine zSR (zp2 rfl ?_)
 obtain ⟨x1, hx1, hF⟩ := qd hF
 obtain ⟨g1, g2, hx1⟩ := qdH hx1
 refine qeJ qc Int h rfl rfl rfl rfl rfl rfl rfl rfl rfl g1 g2 hx1 rfl ?_
 intro w20 S8 p17 h
 refine zp1 rfl (zNSSR (zp1 rfl (qb ?_)))
 obtain ⟨o1, hF, hK1⟩ := qd hF
 refine qA ?_
 replace h := h.pick [0, 1, 2] rfl
 refine qW [(5, _), (6, _), (7, _), (8, _)] ⟨rfl, rfl, rfl, rfl, trivial⟩ ?_
 refine qG (fun m e w' => ∃ (x2 : (List Int)) (i1 : Int), qa3 y1 r1 x1 m x2 i1 = some o1 ∧ e = [(5, .pointer (some ⟨bb8, 0, none⟩)), (6, .slice p16 r1.length k16), (7, .slice p17 x1.length x1.length), (8, .int .i64 i1)] ∧ SH w w' [Ch.own S8 (x2 : List Int) [.slice p17 x1.length x1.length], Ch.box bb8 [.slice p6 y1.Parent.length k6, .slice p7 y1.Res.length k7, .slice p8 y1.Cap.length k8, .slice p9 y1.Sink.length k9] 130, Ch.own S7 (r1 : List Int) [.slice p16 r1.length k16]]) n ⟨_, _, hF, rfl, h⟩ ?_
 rintro m1 e3 w21 ⟨x2, i1, hF, rfl, h⟩
 rcases m1 with _ | m1
 ·rw [qa3] at hF
  cases hF
 rw [qa3] at hF
 refine zSSR (zp4 rfl (qb ?_))
 refine qp rfl hF ?_ ?_ <;> intro hF
 ·refine zKSB ?_
  refine qfO [22] (fun w' => SH w w' [Ch.own S8 (x2 : List Int) [.slice p17 x1.length x1.length], Ch.box bb8 [.slice p6 y1.Parent.length k6, .slice p7 y1.Res.length k7, .slice p8 y1.Cap.length k8, .slice p9 y1.Sink.length k9] 130, Ch.own S7 (r1 : List Int) [.slice p16 r1.length k16]]) rfl 23 rfl #[ff, ff, ff, ff, ff, ff, ff, ff, ff, ff, ff, ff, ff, ff, ff, ff, ff, ff, ff, ff, ff, ff, ff] (by kernel_rfl) (fun w22 hb => ?_)
  replace h := h.ext hb
  clear hb
  refine qk 0 rfl #[tt, ff, ff, ff, ff, ff, ff, ff, ff, ff, ff, ff, ff, ff, ff, ff, ff, ff, ff, ff, ff, ff, ff] (by kernel_rfl) (by kernel_rfl) (fun w' hw => v_p qc rfl w') (h.pick [0, 1, 2] rfl) rfl ?_
  refine qk 1 rfl #[tt, tt, ff, ff, ff, ff, ff, ff, ff, ff, ff, ff, ff, ff, ff, ff, ff, ff, ff, ff, ff, ff, ff] (by kernel_rfl) (by kernel_rfl) (fun w' hw => v_p qc rfl w') (h.pick [0, 1, 2] rfl) rfl ?_
  refine qk 2 rfl #[tt, tt, tt, ff, ff, ff, ff, ff, ff, ff, ff, ff, ff, ff, ff, ff, ff, ff, ff, ff, ff, ff, ff] (by kernel_rfl) (by kernel_rfl) (fun w' hw => v_p qc rfl w') (h.pick [0, 1, 2] rfl) rfl ?_
  refine qk 3 rfl #[tt, tt, tt, tt, ff, ff, ff, ff, ff, ff, ff, ff, ff, ff, ff, ff, ff, ff, ff, ff, ff, ff, ff] (by kernel_rfl) (by kernel_rfl) (fun w' hw => v_p qc rfl w') (h.pick [0, 1, 2] rfl) rfl ?_
  refine qk 4 rfl #[tt, tt, tt, tt, tt, ff, ff, ff, ff, ff, ff, ff, ff, ff, ff, ff, ff, ff, ff, ff, ff, ff, ff] (by kernel_rfl) (by kernel_rfl) (fun w' hw => qbE qc (hw.box 1 rfl) (j := 0) rfl rfl rfl) (h.pick [0, 1, 2] rfl) rfl ?_
  refine qk 5 rfl #[tt, tt, tt, tt, tt, tt, ff, ff, ff, ff, ff, ff, ff, ff, ff, ff, ff, ff, ff, ff, ff, ff, ff] (by kernel_rfl) (by kernel_rfl) (fun w' hw => v_p qc rfl w') (h.pick [0, 1, 2] rfl) rfl ?_
  obtain ⟨y2, hy2, hF⟩ := qd hF
  have he2 := qg hy2
  obtain ⟨b2, o_2, q2, cs3, hp2, hq2, -, hr3, hc3⟩ := s6.at hy2
  obtain rfl := hr3
  refine qk 6 rfl #[tt, tt, tt, tt, tt, tt, tt, ff, ff, ff, ff, ff, ff, ff, ff, ff, ff, ff, ff, ff, ff, ff, ff] (by kernel_rfl) (by kernel_rfl) (fun w' hw => qfA qc hp2 hq2 ⟨he2.1, he2.2.1⟩ rfl rfl rfl rfl rfl rfl) (h.pick [0, 1, 2] rfl) rfl ?_
  refine qk 7 rfl #[tt, tt, tt, tt, tt, tt, tt, tt, ff, ff, ff, ff, ff, ff, ff, ff, ff, ff, ff, ff, ff, ff, ff] (by kernel_rfl) (by kernel_rfl) (fun w' hw => qbE qc (hc3.below hw.below) (j := 0) rfl rfl rfl) (h.pick [0, 1, 2] rfl) rfl ?_
  obtain ⟨y3, hy3, hF⟩ := qd hF
  have he3 := qg hy3
  obtain ⟨b3, o_3, q3, cs4, hp3, hq3, -, hr4, hc4⟩ := (h.sl 0 rfl).1.at hy3
  obtain rfl := hr4
  refine qk 8 rfl #[tt, tt, tt, tt, tt, tt, tt, tt, tt, ff, ff, ff, ff, ff, ff, ff, ff, ff, ff, ff, ff, ff, ff] (by kernel_rfl) (by kernel_rfl) (fun w' hw => qfA qc hp3 hq3 ⟨he3.1, qa8 he3.2.1 (h.sl 0 rfl).2⟩ rfl rfl rfl rfl rfl rfl) (h.pick [0, 1, 2] rfl) rfl ?_
  refine qk 9 rfl #[tt, tt, tt, tt, tt, tt, tt, tt, tt, tt, ff, ff, ff, ff, ff, ff, ff, ff, ff, ff, ff, ff, ff] (by kernel_rfl) (by kernel_rfl) (fun w' hw => qbE qc (qhB (w1 := w) (S1 := fun _ => False) hw 0 rfl hy3 hp3 hq3 rfl) (j := 0) rfl rfl rfl) (h.pick [0, 1, 2] rfl) rfl ?_
  refine qk 10 rfl #[tt, tt, tt, tt, tt, tt, tt, tt, tt, tt, tt, ff, ff, ff, ff, ff, ff, ff, ff, ff, ff, ff, ff] (by kernel_rfl) (by kernel_rfl) (fun w' hw => v_p qc rfl w') (h.pick [0, 1, 2] rfl) rfl ?_
  refine qk 11 rfl #[tt, tt, tt, tt, tt, tt, tt, tt, tt, tt, tt, tt, ff, ff, ff, ff, ff, ff, ff, ff, ff, ff, ff] (by kernel_rfl) (by kernel_rfl) (fun w' hw => qbE qc (hw.box 1 rfl) (j := 1) rfl rfl rfl) (h.pick [0, 1, 2] rfl) rfl ?_
  refine qk 12 rfl #[tt, tt, tt, tt, tt, tt, tt, tt, tt, tt, tt, tt, tt, ff, ff, ff, ff, ff, ff, ff, ff, ff, ff] (by kernel_rfl) (by kernel_rfl) (fun w' hw => v_p qc rfl w') (h.pick [0, 1, 2] rfl) rfl ?_
  obtain ⟨y4, hy4, hF⟩ := qd hF
  have he4 := qg hy4
  obtain ⟨b4, o_4, q4, cs5, hp4, hq4, -, hr5, hc5⟩ := s7.at hy4
  obtain rfl := hr5
  refine qk 13 rfl #[tt, tt, tt, tt, tt, tt, tt, tt, tt, tt, tt, tt, tt, tt, ff, ff, ff, ff, ff, ff, ff, ff, ff] (by kernel_rfl) (by kernel_rfl) (fun w' hw => qfA qc hp4 hq4 ⟨he4.1, he4.2.1⟩ rfl rfl rfl rfl rfl rfl) (h.pick [0, 1, 2] rfl) rfl ?_
  refine qk 14 rfl #[tt, tt, tt, tt, tt, tt, tt, tt, tt, tt, tt, tt, tt, tt, tt, ff, ff, ff, ff, ff, ff, ff, ff] (by kernel_rfl) (by kernel_rfl) (fun w' hw => qbE qc (hc5.below hw.below) (j := 0) rfl rfl rfl) (h.pick [0, 1, 2] rfl) rfl ?_
  refine qk 15 rfl #[tt, tt, tt, tt, tt, tt, tt, tt, tt, tt, tt, tt, tt, tt, tt, tt, ff, ff, ff, ff, ff, ff, ff] (by kernel_rfl) (by kernel_rfl) (fun w' hw => v_p qc rfl w') (h.pick [0, 1, 2] rfl) rfl ?_
  refine qk 16 rfl #[tt, tt, tt, tt, tt, tt, tt, tt, tt, tt, tt, tt, tt, tt, tt, tt, tt, ff, ff, ff, ff, ff, ff] (by kernel_rfl) (by kernel_rfl) (fun w' hw => v_p qc rfl w') (h.pick [0, 1, 2] rfl) rfl ?_
  obtain ⟨y5, hy5, hF⟩ := qd hF
  have he5 := qg hy5
  obtain ⟨b5, o_5, q5, cs6, hp5, hq5, -, hr6, hc6⟩ := (h.sl 2 rfl).1.at hy5
  obtain rfl := hr6
  refine qk 17 rfl #[tt, tt, tt, tt, tt, tt, tt, tt, tt, tt, tt, tt, tt, tt, tt, tt, tt, tt, ff, ff, ff, ff, ff] (by kernel_rfl) (by kernel_rfl) (fun w' hw => qfA qc hp5 hq5 ⟨he5.1, qa8 he5.2.1 (h.sl 2 rfl).2⟩ rfl rfl rfl rfl rfl rfl) (h.pick [0, 1, 2] rfl) rfl ?_
  refine qk 18 rfl #[tt, tt, tt, tt, tt, tt, tt, tt, tt, tt, tt, tt, tt, tt, tt, tt, tt, tt, tt, ff, ff, ff, ff] (by kernel_rfl) (by kernel_rfl) (fun w' hw => qbE qc (qhB (w1 := w) (S1 := fun _ => False) hw 2 rfl hy5 hp5 hq5 rfl) (j := 0) rfl rfl rfl) (h.pick [0, 1, 2] rfl) rfl ?_
  refine qk 19 rfl #[tt, tt, tt, tt, tt, tt, tt, tt, tt, tt, tt, tt, tt, tt, tt, tt, tt, tt, tt, tt, ff, ff, ff] (by kernel_rfl) (by kernel_rfl) (fun w' hw => v_p qc rfl w') (h.pick [0, 1, 2] rfl) rfl ?_
  refine qk 20 rfl #[tt, tt, tt, tt, tt, tt, tt, tt, tt, tt, tt, tt, tt, tt, tt, tt, tt, tt, tt, tt, tt, ff, ff] (by kernel_rfl) (by kernel_rfl) (fun w' hw => v_p qc rfl w') (h.pick [0, 1, 2] rfl) rfl ?_
  obtain ⟨y6, hy6, hF⟩ := qd hF
  have he6 := qg hy6
  obtain ⟨b6, o_6, q6, cs7, hp6, hq6, -, hr7, hc7⟩ := (h.sl 0 rfl).1.at hy6
  obtain rfl := hr7
  refine qk 21 rfl #[tt, tt, tt, tt, tt, tt, tt, tt, tt, tt, tt, tt, tt, tt, tt, tt, tt, tt, tt, tt, tt, tt, ff] (by kernel_rfl) (by kernel_rfl) (fun w' hw => qfA qc hp6 hq6 ⟨he6.1, qa8 he6.2.1 (h.sl 0 rfl).2⟩ rfl rfl rfl rfl rfl rfl) (h.pick [0, 1, 2] rfl) rfl ?_
  refine qax 22 rfl #[tt, tt, tt, tt, tt, tt, tt, tt, tt, tt, tt, tt, tt, tt, tt, tt, tt, tt, tt, tt, tt, tt, tt] (by kernel_rfl) (by kernel_rfl) ?_
  refine qfQ qc 0 0 (W64 (y3 + (W64 (y4 * y5)))) h rfl hy6 hp6 hq6 rfl hc7 rfl rfl rfl rfl rfl rfl rfl ?_
  intro w23 h
  refine qao (fun hs => absurd (hs 22 (by decide)) (by decide)) ?_
  refine qdn (by kernel_rfl) ?_
  exact qfP (qB (zp3 rfl (qb (qy m1 [(5, _), (6, _), (7, _), (8, _)] (Nat.lt_succ_self m1) ⟨rfl, rfl, rfl, rfl, trivial⟩ ⟨_, _, hF, rfl, h⟩))))
 refine qF rfl ?_
 obtain rfl := qj hF; replace hF := hK1
 refine zSR (zp2 rfl (qb ?_))
 obtain rfl := qj hF
 exact qad qc (ρ := (List Int)) [GoT.v (List Int) [.slice p17 x1.length x1.length]] h ⟨rfl, trivial⟩ (PV.done h (qai (qaB 0 h rfl)))

def qaX (r1 : (List Int)) (y1 : qaj) : Nat → (List Int) → Int → Option ((List Int) × Int)
 | 0, _, _ => none
 | n + 1, x1, i1 =>
  bif decide (i1 < (y1.Sink.length : Int)) then
   (idx y1.Sink i1).bind fun y2 =>
   (idx r1 y2).bind fun y3 =>
   (appS x1 ([y3] : List Int)).bind fun x2 =>
   qaX r1 y1 n x2 (W64 (i1 + 1))
  else
   some (x1, i1)

def qc9 (n : Nat) (b : qz) (net : Int) : Option (List Int) :=
 (qey n b net).bind fun r1 =>
 (idx b.Wires net).bind fun y1 =>
 (qaX r1 y1 n ([] : List Int) 0).bind fun o => match o with
 | (x1, _) =>
  some x1

theorem qiH {n : Nat} {w : World} {b : qz} {net : Int} {cs1 : List Value} (ha1 : GoT.R w (old w) b cs1) {r : (List Int)} (hF : qc9 n b net = some r) : RetV Tryz.prog 152 [GoT.v qz cs1, .int .i64 net] w r := by
 obtain ⟨p1, k1, p2, k2, p3, k3, p4, k4, p5, k5, rfl, s1, s2, s3, s4, s5⟩ := qat ha1
 refine qf Tryz.func152 rfl (m := 32) rfl rfl (fun h => ?_)
 rw [qc9] at hF
 refine zSR (qP h rfl rfl ?_)
 intro w1 bb1 h
 refine zp1 rfl (zNSR (zl 0 0 h rfl (zp1 rfl ?_)))
 obtain ⟨r1, hr1, hF⟩ := qd hF
 refine qap r1 h call189 (qiV (h.old ha1) hr1) rfl rfl rfl rfl ?_
 intro w2 S1 p6 k6 h
 refine zp1 rfl (zNSR (zp1 rfl (zNSSR (zp1 rfl (zl 1 4 h rfl (zp1 rfl ?_))))))
 obtain ⟨y1, hy1, hF⟩ := qd hF
 have he1 := qg hy1
 obtain ⟨b1, o_1, q1, cs2, hp1, hq1, -, hr2, hc1⟩ := s5.at hy1
 obtain ⟨p7, k7, p8, k8, p9, k9, p10, k10, rfl, s6, s7, s8, s9⟩ := qbU hr2
 refine zxe hp1 hq1 he1 rfl (zp1 rfl (zc 3 (hc1.below h.below) rfl (zp2 rfl (qb ?_))))
 replace h := h.nil (α := Int)
 obtain ⟨o1, hF, hK1⟩ := qd hF
 refine qA ?_
 replace h := h.pick [0, 1] rfl
 refine qW [(5, _), (6, _), (17, _), (18, _), (19, _)] ⟨rfl, rfl, rfl, rfl, rfl, trivial⟩ ?_
 refine qG (fun m e w' => ∃ (S2 : Nat → Prop) (p11 : Option Addr) (ln1 : Nat) (k11 : Nat) (x1 : (List Int)) (i1 : Int), qaX r1 y1 m x1 i1 = some o1 ∧ e = [(5, .slice p6 r1.length k6), (6, .slice p11 ln1 k11), (17, .slice p10 y1.Sink.length k10), (18, .int .i64 (y1.Sink.length : Int)), (19, .int .i64 i1)] ∧ SH w w' [Ch.own S2 (x1 : List Int) [.slice p11 ln1 k11], Ch.own S1 (r1 : List Int) [.slice p6 r1.length k6]]) n ⟨_, _, _, _, _, _, hF, rfl, h⟩ ?_
 rintro m1 e1 w3 ⟨S2, p11, ln1, k11, x1, i1, hF, rfl, h⟩
 obtain rfl := (h.sl 0 rfl).2
 rcases m1 with _ | m1
 ·rw [qaX] at hF
  cases hF
 rw [qaX] at hF
 refine zSR (zp1 rfl (zNS ?_))
 refine qp rfl hF ?_ ?_ <;> intro hF
 ·refine zKSBSR ?_
  obtain ⟨y2, hy2, hF⟩ := qd hF
  have he2 := qg hy2
  obtain ⟨b2, o_2, q2, cs3, hp2, hq2, -, hr3, hc3⟩ := s9.at hy2
  obtain rfl := hr3
  refine zxe hp2 hq2 he2 rfl (zc 0 (hc3.below h.below) rfl (zp1 rfl (qb (qB (zp3 rfl ?_)))))
  obtain ⟨y3, hy3, hF⟩ := qd hF
  have he3 := qg hy3
  obtain ⟨b3, o_3, q3, cs4, hp3, hq3, -, hr4, hc4⟩ := (h.sl 1 rfl).1.at hy3
  obtain rfl := hr4
  refine zx hp3 hq3 ⟨he3.1, qa8 he3.2.1 (h.sl 1 rfl).2⟩ rfl (zc 0 hc4 rfl (qaN qc [.tmp 27] _ ([y3] : List Int) h rfl rfl rfl rfl rfl rfl rfl rfl rfl ⟨rfl, trivial⟩ rfl ?_))
  intro w4 p12 S3 h
  obtain ⟨x2, hx1, hF⟩ := qd hF
  obtain ⟨g1, hx1⟩ := qbm hx1
  refine qeC qc 1 h rfl (h.sl 0 rfl).1 (h.sl 0 rfl).2 rfl rfl rfl rfl rfl rfl rfl rfl rfl g1 hx1 rfl ?_
  intro w5 p13 k12 S4 h
  refine zp1 rfl (zNER (zp2 rfl (qb ?_)))
  replace h := h.pick [1, 2] rfl
  exact qy m1 [(5, _), (6, _), (17, _), (18, _), (19, _)] (Nat.lt_succ_self m1) ⟨rfl, rfl, rfl, rfl, rfl, trivial⟩ ⟨_, _, _, _, _, _, hF, rfl, h⟩
 refine qF rfl ?_
 obtain rfl := qj hF; replace hF := hK1
 refine zSR (zp2 rfl (qb ?_))
 obtain rfl := qj hF
 exact qad qc (ρ := (List Int)) [GoT.v (List Int) [.slice p11 x1.length k11]] h ⟨rfl, trivial⟩ (PV.done h (qai (qaB 0 h rfl)))

def qcD (x6 : (List Int)) (i4 : Int) (i5 : Int) (y7 : Int) : Nat → (List qbs) → Int → Option ((List qbs) × Int)
 | 0, _, _ => none
 | n + 1, x14, i6 =>
  bif decide (i6 < 2) then
   (idx x6 i4).bind fun y8 =>
   (appS x14 ([(⟨W64 ((W64 (2 * y8)) + i6), W64 ((W64 (2 * y7)) + i6), 2, i5⟩ : qbs)] : List qbs)).bind fun x15 =>
   qcD x6 i4 i5 y7 n x15 (W64 (i6 + 1))
  else
   some (x14, i6)

def qcC (x6 : (List Int)) (i4 : Int) (y6 : (List Int)) : Nat → (List qbs) → Int → Option ((List qbs) × Int)
 | 0, _, _ => none
 | n + 1, x13, i5 =>
  bif decide (i5 < (y6.length : Int)) then
   (idx y6 i5).bind fun y7 =>
   (qcD x6 i4 i5 y7 n x13 0).bind fun o => match o with
   | (x14, _) =>
    qcC x6 i4 y6 n x14 (W64 (i5 + 1))
  else
   some (x13, i5)

def qdk (a_0 : qz) (x5 : (List (List Int))) (x6 : (List Int)) : Nat → (List (List Int)) → (List Int) → (List qbs) → Int → Option ((List (List Int)) × (List Int) × (List qbs) × Int)
 | 0, _, _, _, _ => none
 | n + 1, x8, x9, x10, i4 =>
  bif decide (i4 < (a_0.Wires.length : Int)) then
   (qcM n a_0 i4).bind fun r4 =>
   (idx r4 0).bind fun y5 =>
   (appS x9 ([y5] : List Int)).bind fun x11 =>
   (qc9 n a_0 i4).bind fun r5 =>
   (appS x8 ([r5] : List (List Int))).bind fun x12 =>
   (idx x5 i4).bind fun y6 =>
   (qcC x6 i4 y6 n x10 0).bind fun o => match o with
   | (x13, _) =>
    qdk a_0 x5 x6 n x12 x11 x13 (W64 (i4 + 1))
  else
   some (x8, x9, x10, i4)

def qcb (r1 : (List Tplace)) : Nat → (List (List Int)) → (List Int) → Int → Option ((List (List Int)) × (List Int) × Int)
 | 0, _, _, _ => none
 | n + 1, x5, x6, i3 =>
  bif decide (i3 < (r1.length : Int)) then
   (idx r1 i3).bind fun y2 =>
   bif y2.drives then
    (idx x6 y2.net).bind fun _ =>
    qcb r1 n x5 (setS x6 y2.net i3) (W64 (i3 + 1))
   else
    (idx x5 y2.net).bind fun y4 =>
    (appS y4 ([i3] : List Int)).bind fun x7 =>
    qcb r1 n (setS x5 y2.net x7) x6 (W64 (i3 + 1))
  else
   some (x5, x6, i3)

def qdi (a_0 : qz) : Nat → (List qbs) → Int → Int → Option ((List qbs) × Int × Int)
 | 0, _, _, _ => none
 | n + 1, x1, i1, i2 =>
  bif decide (i2 < (a_0.Design.Instances.length : Int)) then
   (idx a_0.Design.Instances i2).bind fun y1 =>
   (qdB n a_0 y1 i1).bind fun r2 =>
   (appS x1 r2).bind fun x2 =>
   (qan n y1.Nets).bind fun r3 =>
   qdi a_0 n x2 (W64 (i1 + r3)) (W64 (i2 + 1))
  else
   some (x1, i1, i2)

def qhk (n : Nat) (a_0 : qz) : Option (Option Tview) :=
 (qb5 n (⟨a_0.Design.Instances, a_0.Design.Nets, a_0.Design.Ports⟩ : ql)).bind fun r1 =>
 (qdi a_0 n ([] : List qbs) 0 0).bind fun o => match o with
 | (x1, _, _) =>
  (mkS (a_0.Wires.length : Int) (0 : Int)).bind fun x3 =>
  (mkS (a_0.Wires.length : Int) ([] : (List Int))).bind fun x4 =>
  (qcb r1 n x4 x3 0).bind fun o => match o with
  | (x5, x6, _) =>
   (qdk a_0 x5 x6 n ([] : List (List Int)) ([] : List Int) x1 0).bind fun o => match o with
   | (x8, x9, x10, _) =>
    some (some (⟨(⟨(⟨a_0.Library.Cells⟩ : qw), (⟨a_0.Design.Instances, a_0.Design.Nets, a_0.Design.Ports⟩ : ql), a_0.Wires⟩ : qz), r1, x10, x9, x8, []⟩ : Tview))

theorem qlT {n : Nat} {w : World} {A : Nat → Prop} (hA : ∀ b, A b → old w b) {a_0 : qz} {cs1 : List Value} (ha1 : GoT.R w A a_0 cs1) {r : (Option Tview)} (hF : qhk n a_0 = some r) : RetG Tryz.prog 109 [GoT.v qz cs1] w A r := by
 obtain ⟨p1, k1, p2, k2, p3, k3, p4, k4, p5, k5, rfl, s1, s2, s3, s4, s5⟩ := qat ha1
 have hg := Rg.start hA
 refine qiP Tryz.func109 rfl (m := 156) rfl rfl (fun h => ?_)
 rw [qhk] at hF
 refine zSR (qP h rfl rfl ?_)
 intro w1 bb1 h
 refine zp1 rfl (zNS ?_)
 refine qfO [] (fun w' => SH w w' [Ch.box bb1 [.slice p1 a_0.Library.Cells.length k1, .slice p2 a_0.Design.Instances.length k2, .slice p3 a_0.Design.Nets.length k3, .slice p4 a_0.Design.Ports.length k4, .slice p5 a_0.Wires.length k5] 50]) rfl 7 rfl #[ff, ff, ff, ff, ff, ff, ff] (by kernel_rfl) (fun w2 hb => ?_)
 replace h := h.ext hb
 clear hb
 refine qk 0 rfl #[tt, ff, ff, ff, ff, ff, ff] (by kernel_rfl) (by kernel_rfl) (fun w' hw => qbE qc (hw.box 0 rfl) (j := 0) rfl rfl rfl) (h.pick [0] rfl) rfl ?_
 refine qk 1 rfl #[tt, tt, ff, ff, ff, ff, ff] (by kernel_rfl) (by kernel_rfl) (fun w' hw => v_p qc rfl w') (h.pick [0] rfl) rfl ?_
 refine qk 2 rfl #[tt, tt, tt, ff, ff, ff, ff] (by kernel_rfl) (by kernel_rfl) (fun w' hw => qbE qc (hw.box 0 rfl) (j := 1) rfl rfl rfl) (h.pick [0] rfl) rfl ?_
 refine qax 3 rfl #[tt, tt, tt, tt, ff, ff, ff] (by kernel_rfl) (by kernel_rfl) ?_
 obtain ⟨r1, hr1, hF⟩ := qd hF
 refine qap r1 h call148 (qex (qbf (⟨a_0.Design.Instances, a_0.Design.Nets, a_0.Design.Ports⟩ : ql) (h.oldS (s2.mono hg.old)) (h.oldS (s3.mono hg.old)) (h.oldS (s4.mono hg.old))) hr1) rfl rfl rfl rfl ?_
 intro w3 S1 p6 k6 h
 refine qao (fun _ => (h.pick [1] rfl)) ?_
 refine qk 4 rfl #[tt, tt, tt, tt, tt, ff, ff] (by kernel_rfl) (by kernel_rfl) (fun w' hw => qeM qc [0, 1] [.tmp 15, .tmp 18] rfl rfl rfl rfl rfl rfl rfl rfl) (h.pick [1] rfl) rfl ?_
 refine qax 5 rfl #[tt, tt, tt, tt, tt, tt, ff] (by kernel_rfl) (by kernel_rfl) ?_
 refine qP h rfl rfl ?_
 intro w4 bb2 h
 refine qao (fun _ => (h.pick [2] rfl)) ?_
 refine qk 6 rfl #[tt, tt, tt, tt, tt, tt, tt] (by kernel_rfl) (by kernel_rfl) (fun w' hw => v_p qc rfl w') (h.pick [2] rfl) rfl ?_
 refine qdn (by kernel_rfl) ?_
 refine zSR (zp1 rfl (zNSSR (zp2 rfl (zl 2 1 h rfl (zp2 rfl ?_)))))
 refine qb ?_
 replace h := h.nil (α := qbs)
 obtain ⟨o1, hF, hK1⟩ := qd hF
 refine qA (qW [(1, _), (3, _), (4, _), (23, _), (24, _), (25, _)] ⟨rfl, rfl, rfl, rfl, rfl, rfl, trivial⟩ ?_)
 refine qG (fun m e w' => ∃ (S2 : Nat → Prop) (p7 : Option Addr) (ln1 : Nat) (k7 : Nat) (x1 : (List qbs)) (i1 : Int) (i2 : Int), qdi a_0 m x1 i1 i2 = some o1 ∧ e = [(1, .pointer (some ⟨bb1, 0, none⟩)), (3, .pointer (some ⟨bb2, 0, none⟩)), (4, .int .i64 i1), (23, .slice p2 a_0.Design.Instances.length k2), (24, .int .i64 (a_0.Design.Instances.length : Int)), (25, .int .i64 i2)] ∧ SH w w' [Ch.own S2 (x1 : List qbs) [.slice p7 ln1 k7], Ch.box bb2 [.slice p1 a_0.Library.Cells.length k1, .slice p2 a_0.Design.Instances.length k2, .slice p3 a_0.Design.Nets.length k3, .slice p4 a_0.Design.Ports.length k4, .slice p5 a_0.Wires.length k5, .slice p6 r1.length k6, .slice p7 ln1 k7, .slice none 0 0, .slice none 0 0, .slice none 0 0] 160, Ch.own S1 (r1 : List Tplace) [.slice p6 r1.length k6], Ch.box bb1 [.slice p1 a_0.Library.Cells.length k1, .slice p2 a_0.Design.Instances.length k2, .slice p3 a_0.Design.Nets.length k3, .slice p4 a_0.Design.Ports.length k4, .slice p5 a_0.Wires.length k5] 50]) n ⟨_, _, _, _, _, _, _, hF, rfl, h⟩ ?_
 rintro m1 e1 w5 ⟨S2, p7, ln1, k7, x1, i1, i2, hF, rfl, h⟩
 obtain rfl := (h.sl 0 rfl).2
 rcases m1 with _ | m1
 ·rw [qdi] at hF
  cases hF
 rw [qdi] at hF
 refine zSR (zp1 rfl (zNS ?_))
 refine qp rfl hF ?_ ?_ <;> intro hF
 ·refine zKSBSR ?_
  obtain ⟨y1, hy1, hF⟩ := qd hF
  have he1 := qg hy1
  obtain ⟨b1, o_1, q1, cs2, hp1, hq1, -, hr2, hc2⟩ := s2.at hy1
  obtain ⟨p8, k8, rfl, s6⟩ := qab hr2
  refine zxe hp1 hq1 he1 rfl (zc 0 (hc2.below h.below) rfl (qT qc h rfl rfl rfl ?_))
  intro w6 bb3 h
  refine zs 0 h rfl ?_
  intro w7 h
  replace h : SH _ _ [Ch.box bb3 [.string y1.Name, .int .i64 y1.Cell, .slice p8 y1.Nets.length k8] 185, Ch.own S2 (x1 : List qbs) [.slice p7 x1.length k7], Ch.box bb2 [.slice p1 a_0.Library.Cells.length k1, .slice p2 a_0.Design.Instances.length k2, .slice p3 a_0.Design.Nets.length k3, .slice p4 a_0.Design.Ports.length k4, .slice p5 a_0.Wires.length k5, .slice p6 r1.length k6, .slice p7 x1.length k7, .slice none 0 0, .slice none 0 0, .slice none 0 0] 160, Ch.own S1 (r1 : List Tplace) [.slice p6 r1.length k6], Ch.box bb1 [.slice p1 a_0.Library.Cells.length k1, .slice p2 a_0.Design.Instances.length k2, .slice p3 a_0.Design.Nets.length k3, .slice p4 a_0.Design.Ports.length k4, .slice p5 a_0.Wires.length k5] 50] := h
  refine zNS ?_
  refine qfO [12] (fun w' => SH w w' [Ch.box bb3 [.string y1.Name, .int .i64 y1.Cell, .slice p8 y1.Nets.length k8] 185, Ch.box bb2 [.slice p1 a_0.Library.Cells.length k1, .slice p2 a_0.Design.Instances.length k2, .slice p3 a_0.Design.Nets.length k3, .slice p4 a_0.Design.Ports.length k4, .slice p5 a_0.Wires.length k5, .slice p6 r1.length k6, .slice p7 x1.length k7, .slice none 0 0, .slice none 0 0, .slice none 0 0] 160, Ch.box bb1 [.slice p1 a_0.Library.Cells.length k1, .slice p2 a_0.Design.Instances.length k2, .slice p3 a_0.Design.Nets.length k3, .slice p4 a_0.Design.Ports.length k4, .slice p5 a_0.Wires.length k5] 50]) rfl 13 rfl #[ff, ff, ff, ff, ff, ff, ff, ff, ff, ff, ff, ff, ff] (by kernel_rfl) (fun w8 hb => ?_)
  replace h := h.ext hb
  clear hb
  refine qk 0 rfl #[tt, ff, ff, ff, ff, ff, ff, ff, ff, ff, ff, ff, ff] (by kernel_rfl) (by kernel_rfl) (fun w' hw => v_p qc rfl w') (h.pick [0, 2, 4] rfl) rfl ?_
  refine qk 1 rfl #[tt, tt, ff, ff, ff, ff, ff, ff, ff, ff, ff, ff, ff] (by kernel_rfl) (by kernel_rfl) (fun w' hw => v_p qc rfl w') (h.pick [0, 2, 4] rfl) rfl ?_
  refine qk 2 rfl #[tt, tt, tt, ff, ff, ff, ff, ff, ff, ff, ff, ff, ff] (by kernel_rfl) (by kernel_rfl) (fun w' hw => v_p qc rfl w') (h.pick [0, 2, 4] rfl) rfl ?_
  refine qk 3 rfl #[tt, tt, tt, tt, ff, ff, ff, ff, ff, ff, ff, ff, ff] (by kernel_rfl) (by kernel_rfl) (fun w' hw => v_p qc rfl w') (h.pick [0, 2, 4] rfl) rfl ?_
  refine qk 4 rfl #[tt, tt, tt, tt, tt, ff, ff, ff, ff, ff, ff, ff, ff] (by kernel_rfl) (by kernel_rfl) (fun w' hw => qbE qc (hw.box 1 rfl) (j := 6) rfl rfl rfl) (h.pick [0, 2, 4] rfl) rfl ?_
  refine qk 5 rfl #[tt, tt, tt, tt, tt, tt, ff, ff, ff, ff, ff, ff, ff] (by kernel_rfl) (by kernel_rfl) (fun w' hw => qbE qc (hw.box 2 rfl) (j := 0) rfl rfl rfl) (h.pick [0, 2, 4] rfl) rfl ?_
  refine qk 6 rfl #[tt, tt, tt, tt, tt, tt, tt, ff, ff, ff, ff, ff, ff] (by kernel_rfl) (by kernel_rfl) (fun w' hw => qbE qc (hw.box 0 rfl) (j := 0) rfl rfl rfl) (h.pick [0, 2, 4] rfl) rfl ?_
  refine qk 7 rfl #[tt, tt, tt, tt, tt, tt, tt, tt, ff, ff, ff, ff, ff] (by kernel_rfl) (by kernel_rfl) (fun w' hw => v_p qc rfl w') (h.pick [0, 2, 4] rfl) rfl ?_
  refine qax 8 rfl #[tt, tt, tt, tt, tt, tt, tt, tt, tt, ff, ff, ff, ff] (by kernel_rfl) (by kernel_rfl) ?_
  obtain ⟨r2, hr3, hF⟩ := qd hF
  refine qap r2 h call150 (qjk (h.old (GoT.mono ha1 hg.old)) (qfI y1 (h.oldS (s6.mono hg.old))) hr3) rfl rfl rfl rfl ?_
  intro w9 S3 p9 k9 h
  refine qao (fun _ => (h.pick [1, 3, 5] rfl)) ?_
  refine qax 9 rfl #[tt, tt, tt, tt, tt, tt, tt, tt, tt, tt, ff, ff, ff] (by kernel_rfl) (by kernel_rfl) ?_
  obtain ⟨x2, hx1, hF⟩ := qd hF
  obtain ⟨g1, hx1⟩ := qbm hx1
  refine qeC qc 2 h rfl (h.sl 0 rfl).1 (h.sl 0 rfl).2 rfl rfl rfl rfl rfl rfl rfl rfl rfl g1 hx1 rfl ?_
  intro w10 p10 k10 S4 h
  refine qao (fun _ => (h.pick [1, 3, 5] rfl)) ?_
  refine qax 10 rfl #[tt, tt, tt, tt, tt, tt, tt, tt, tt, tt, tt, ff, ff] (by kernel_rfl) (by kernel_rfl) ?_
  refine zp1 rfl ?_
  refine qao (fun _ => (h.pick [1, 3, 5] rfl)) ?_
  refine qk 11 rfl #[tt, tt, tt, tt, tt, tt, tt, tt, tt, tt, tt, tt, ff] (by kernel_rfl) (by kernel_rfl) (fun w' hw => v_p qc rfl w') (h.pick [1, 3, 5] rfl) rfl ?_
  refine qax 12 rfl #[tt, tt, tt, tt, tt, tt, tt, tt, tt, tt, tt, tt, tt] (by kernel_rfl) (by kernel_rfl) ?_
  refine zs 3 h rfl ?_
  intro w11 h
  replace h : SH _ _ [Ch.own S3 (r2 : List qbs) [.slice p9 r2.length k9], Ch.box bb3 [.string y1.Name, .int .i64 y1.Cell, .slice p8 y1.Nets.length k8] 185, Ch.own S4 (x2 : List qbs) [.slice p10 x2.length k10], Ch.box bb2 [.slice p1 a_0.Library.Cells.length k1, .slice p2 a_0.Design.Instances.length k2, .slice p3 a_0.Design.Nets.length k3, .slice p4 a_0.Design.Ports.length k4, .slice p5 a_0.Wires.length k5, .slice p6 r1.length k6, .slice p10 x2.length k10, .slice none 0 0, .slice none 0 0, .slice none 0 0] 160, Ch.own S1 (r1 : List Tplace) [.slice p6 r1.length k6], Ch.box bb1 [.slice p1 a_0.Library.Cells.length k1, .slice p2 a_0.Design.Instances.length k2, .slice p3 a_0.Design.Nets.length k3, .slice p4 a_0.Design.Ports.length k4, .slice p5 a_0.Wires.length k5] 50] := h
  refine qao (fun hs => absurd (hs 12 (by decide)) (by decide)) ?_
  refine qdn (by kernel_rfl) ?_
  refine qB (zp2 rfl (zl 1 2 h rfl ?_))
  obtain ⟨r3, hr4, hF⟩ := qd hF
  refine qN r3 h call87 (qbo ⟨_, _, rfl, (h.oldS (s6.mono hg.old))⟩ hr4) rfl rfl rfl rfl ?_
  intro w12 h
  refine zp2 rfl (zNER (zp2 rfl (qb ?_)))
  replace h := h.pick [2, 3, 4, 5] rfl
  exact qy m1 [(1, _), (3, _), (4, _), (23, _), (24, _), (25, _)] (Nat.lt_succ_self m1) ⟨rfl, rfl, rfl, rfl, rfl, rfl, trivial⟩ ⟨_, _, _, _, _, _, _, hF, rfl, h⟩
 refine qF rfl ?_
 obtain rfl := qj hF; replace hF := hK1
 refine zSR (zp1 rfl (zl 3 4 h rfl (zp1 rfl ?_)))
 obtain ⟨x3, hx2, hF⟩ := qd hF
 obtain ⟨g2, g3, hx2⟩ := qdH hx2
 refine qeJ qc Int h rfl rfl rfl rfl rfl rfl rfl rfl rfl g2 g3 hx2 rfl ?_
 intro w13 S5 p11 h
 refine zp1 rfl (zNSR (zp1 rfl (zl 4 4 h rfl (zp1 rfl ?_))))
 obtain ⟨x4, hx3, hF⟩ := qd hF
 obtain ⟨g4, g5, hx3⟩ := qdH hx3
 refine qeJ qc (List Int) h rfl rfl rfl rfl rfl rfl rfl rfl rfl g4 g5 hx3 rfl ?_
 intro w14 S6 p12 h
 refine zp1 rfl (zNSSR (zp3 rfl (zl 3 5 h rfl (zp2 rfl (qb ?_)))))
 obtain ⟨o2, hF, hK2⟩ := qd hF
 refine qA (qW [(1, _), (3, _), (7, _), (8, _), (58, _), (59, _), (60, _)] ⟨rfl, rfl, rfl, rfl, rfl, rfl, rfl, trivial⟩ ?_)
 refine qG (fun m e w' => ∃ (S7 : Nat → Prop) (x5 : (List (List Int))) (x6 : (List Int)) (i3 : Int), qcb r1 m x5 x6 i3 = some o2 ∧ e = [(1, .pointer (some ⟨bb1, 0, none⟩)), (3, .pointer (some ⟨bb2, 0, none⟩)), (7, .slice p11 x3.length x3.length), (8, .slice p12 x4.length x4.length), (58, .slice p6 r1.length k6), (59, .int .i64 (r1.length : Int)), (60, .int .i64 i3)] ∧ SH w w' [Ch.own S7 (x5 : List (List Int)) [.slice p12 x4.length x4.length], Ch.own S5 (x6 : List Int) [.slice p11 x3.length x3.length], Ch.own S2 (x1 : List qbs) [.slice p7 x1.length k7], Ch.box bb2 [.slice p1 a_0.Library.Cells.length k1, .slice p2 a_0.Design.Instances.length k2, .slice p3 a_0.Design.Nets.length k3, .slice p4 a_0.Design.Ports.length k4, .slice p5 a_0.Wires.length k5, .slice p6 r1.length k6, .slice p7 x1.length k7, .slice none 0 0, .slice none 0 0, .slice none 0 0] 160, Ch.own S1 (r1 : List Tplace) [.slice p6 r1.length k6], Ch.box bb1 [.slice p1 a_0.Library.Cells.length k1, .slice p2 a_0.Design.Instances.length k2, .slice p3 a_0.Design.Nets.length k3, .slice p4 a_0.Design.Ports.length k4, .slice p5 a_0.Wires.length k5] 50]) n ⟨_, _, _, _, hF, rfl, h⟩ ?_
 rintro m2 e2 w15 ⟨S7, x5, x6, i3, hF, rfl, h⟩
 rcases m2 with _ | m2
 ·rw [qcb] at hF
  cases hF
 rw [qcb] at hF
 refine zSR (zp1 rfl (zNS ?_))
 refine qp rfl hF ?_ ?_ <;> intro hF
 ·refine zKSBSR (zp1 rfl ?_)
  obtain ⟨y2, hy2, hF⟩ := qd hF
  have he2 := qg hy2
  obtain ⟨b2, o_2, q2, cs3, hp2, hq2, -, hr5, hc4⟩ := (h.sl 4 rfl).1.at hy2
  obtain rfl := qdE hr5
  refine zx hp2 hq2 ⟨he2.1, qa8 he2.2.1 (h.sl 4 rfl).2⟩ rfl (zc 0 hc4 rfl (qT qc h rfl rfl rfl ?_))
  intro w16 bb4 h
  refine zp1 rfl (zs 0 h rfl ?_)
  intro w17 h
  refine zNSR (zp1 rfl (zl 0 3 h rfl (qb ?_)))
  refine qp rfl hF ?_ ?_ <;> intro hF
  ·refine qB (zp2 rfl (zl 0 2 h rfl (zp1 rfl ?_)))
   obtain ⟨y3, hy3, hF⟩ := qd hF
   have he3 := qg hy3
   obtain ⟨b3, o_3, q3, cs4, hp3, hq3, -, hr6, hc6⟩ := (h.sl 2 rfl).1.at hy3
   obtain rfl := hr6
   refine zx hp3 hq3 ⟨he3.1, qa8 he3.2.1 (h.sl 2 rfl).2⟩ rfl (qfQ qc 2 0 i3 h rfl hy3 hp3 hq3 rfl hc6 rfl rfl rfl rfl rfl rfl rfl ?_)
   intro w18 h
   refine zNER (zp2 rfl (qb ?_))
   replace h := h.pick [1, 2, 3, 4, 5, 6] rfl
   exact qy m2 [(1, _), (3, _), (7, _), (8, _), (58, _), (59, _), (60, _)] (Nat.lt_succ_self m2) ⟨rfl, rfl, rfl, rfl, rfl, rfl, rfl, trivial⟩ ⟨_, _, _, _, hF, rfl, h⟩
  obtain ⟨y4, hy4, hF⟩ := qd hF
  have he4 := qg hy4
  replace h := h.pick [1, 0, 2, 3, 4, 5, 6] rfl
  obtain ⟨S8, S9, cs5, h⟩ := h.take hy4
  obtain ⟨p13, k11, rfl, -⟩ := h.own 0 rfl
  refine qfO [12] (fun w' => SH w w' [Ch.hole S9 (x5 : List (List Int)) p12 x4.length x4.length (y2.net).toNat [.slice p13 y4.length k11], Ch.box bb4 [.int .i64 y2.instance_, .int .i64 y2.pin, .int .i64 y2.net, .bool y2.drives] 156]) rfl 13 rfl #[ff, ff, ff, ff, ff, ff, ff, ff, ff, ff, ff, ff, ff] (by kernel_rfl) (fun w19 hb => ?_)
  replace h := h.ext hb
  clear hb
  refine qk 0 rfl #[tt, ff, ff, ff, ff, ff, ff, ff, ff, ff, ff, ff, ff] (by kernel_rfl) (by kernel_rfl) (fun w' hw => v_p qc rfl w') (h.pick [1, 2] rfl) rfl ?_
  refine qk 1 rfl #[tt, tt, ff, ff, ff, ff, ff, ff, ff, ff, ff, ff, ff] (by kernel_rfl) (by kernel_rfl) (fun w' hw => v_p qc rfl w') (h.pick [1, 2] rfl) rfl ?_
  refine qk 2 rfl #[tt, tt, tt, ff, ff, ff, ff, ff, ff, ff, ff, ff, ff] (by kernel_rfl) (by kernel_rfl) (fun w' hw => qbE qc (hw.box 1 rfl) (j := 2) rfl rfl rfl) (h.pick [1, 2] rfl) rfl ?_
  refine qk 3 rfl #[tt, tt, tt, tt, ff, ff, ff, ff, ff, ff, ff, ff, ff] (by kernel_rfl) (by kernel_rfl) (fun w' hw => v_p qc rfl w') (h.pick [1, 2] rfl) rfl ?_
  refine qk 4 rfl #[tt, tt, tt, tt, tt, ff, ff, ff, ff, ff, ff, ff, ff] (by kernel_rfl) (by kernel_rfl) (fun w' hw => v_p qc rfl w') (h.pick [1, 2] rfl) rfl ?_
  refine qk 5 rfl #[tt, tt, tt, tt, tt, tt, ff, ff, ff, ff, ff, ff, ff] (by kernel_rfl) (by kernel_rfl) (fun w' hw => qbE qc (hw.box 1 rfl) (j := 2) rfl rfl rfl) (h.pick [1, 2] rfl) rfl ?_
  obtain ⟨b4, hp4, -, -, hl2⟩ := h.holeAt 1 rfl
  obtain ⟨q4, hq4⟩ : ∃ q, q = 0 + (y2.net).toNat * GoT.k (List Int) := ⟨_, rfl⟩
  refine qk 6 rfl #[tt, tt, tt, tt, tt, tt, tt, ff, ff, ff, ff, ff, ff] (by kernel_rfl) (by kernel_rfl) (fun w' hw => qfA qc hp4 hq4 ⟨he4.1, qa8 he4.2.1 hl2⟩ rfl rfl rfl rfl rfl rfl) (h.pick [1, 2] rfl) rfl ?_
  refine qk 7 rfl #[tt, tt, tt, tt, tt, tt, tt, tt, ff, ff, ff, ff, ff] (by kernel_rfl) (by kernel_rfl) (fun w' hw => qbE qc (qoK hw 0 rfl hp4 hq4) (j := 0) rfl rfl rfl) (h.pick [1, 2] rfl) rfl ?_
  refine qk 8 rfl #[tt, tt, tt, tt, tt, tt, tt, tt, tt, ff, ff, ff, ff] (by kernel_rfl) (by kernel_rfl) (fun w' hw => v_p qc rfl w') (h.pick [1, 2] rfl) rfl ?_
  refine qax 9 rfl #[tt, tt, tt, tt, tt, tt, tt, tt, tt, tt, ff, ff, ff] (by kernel_rfl) (by kernel_rfl) ?_
  refine qaN qc [.tmp 80] _ ([i3] : List Int) h rfl rfl rfl rfl rfl rfl rfl rfl rfl ⟨rfl, trivial⟩ rfl ?_
  intro w20 p14 S10 h
  refine qao (fun _ => (h.pick [2, 3] rfl)) ?_
  refine qax 10 rfl #[tt, tt, tt, tt, tt, tt, tt, tt, tt, tt, tt, ff, ff] (by kernel_rfl) (by kernel_rfl) ?_
  obtain ⟨x7, hx4, hF⟩ := qd hF
  obtain ⟨g6, hx4⟩ := qbm hx4
  refine qeC qc 1 h rfl (h.sl 0 rfl).1 (h.sl 0 rfl).2 rfl rfl rfl rfl rfl rfl rfl rfl rfl g6 hx4 rfl ?_
  intro w21 p15 k12 S11 h
  refine qao (fun _ => (h.pick [2, 3] rfl)) ?_
  obtain ⟨b5, hp5, -, -, hl4⟩ := h.holeAt 2 rfl
  obtain ⟨q5, hq5⟩ : ∃ q, q = 0 + (y2.net).toNat * GoT.k (List Int) := ⟨_, rfl⟩
  refine qk 11 rfl #[tt, tt, tt, tt, tt, tt, tt, tt, tt, tt, tt, tt, ff] (by kernel_rfl) (by kernel_rfl) (fun w' hw => qfA qc hp5 hq5 ⟨he4.1, qa8 he4.2.1 hl4⟩ rfl rfl rfl rfl rfl rfl) (h.pick [2, 3] rfl) rfl ?_
  refine qax 12 rfl #[tt, tt, tt, tt, tt, tt, tt, tt, tt, tt, tt, tt, tt] (by kernel_rfl) (by kernel_rfl) ?_
  refine qqT qc 2 0 h rfl hp5 hq5 rfl rfl rfl rfl rfl rfl ?_
  intro w22 h
  refine qao (fun hs => absurd (hs 12 (by decide)) (by decide)) ?_
  refine qdn (by kernel_rfl) ?_
  refine qfP (qB (zp2 rfl (qb ?_)))
  replace h := h.pick [1, 2, 0, 3, 4, 5, 6, 7, 8] rfl
  replace h := h.put
  obtain ⟨S12, h⟩ := qsc (S := _) h
  replace h := h.pick [0, 3, 4, 5, 6, 7] rfl
  exact qy m2 [(1, _), (3, _), (7, _), (8, _), (58, _), (59, _), (60, _)] (Nat.lt_succ_self m2) ⟨rfl, rfl, rfl, rfl, rfl, rfl, rfl, trivial⟩ ⟨_, _, _, _, hF, rfl, h⟩
 refine qF rfl ?_
 obtain rfl := qj hF; replace hF := hK2
 refine zSSR (zp1 rfl (zl 5 4 h rfl (zp2 rfl (qb ?_))))
 replace h := h.nil (α := Int)
 replace h := h.nil (α := (List Int))
 obtain ⟨o3, hF, hK3⟩ := qd hF
 refine qA (qW [(1, _), (3, _), (7, _), (8, _), (87, _), (88, _)] ⟨rfl, rfl, rfl, rfl, rfl, rfl, trivial⟩ ?_)
 refine qG (fun m e w' => ∃ (S13 : Nat → Prop) (p16 : Option Addr) (ln2 : Nat) (k13 : Nat) (x8 : (List (List Int))) (S14 : Nat → Prop) (p17 : Option Addr) (ln3 : Nat) (k14 : Nat) (x9 : (List Int)) (S15 : Nat → Prop) (p18 : Option Addr) (ln4 : Nat) (k15 : Nat) (x10 : (List qbs)) (i4 : Int), qdk a_0 x5 x6 m x8 x9 x10 i4 = some o3 ∧ e = [(1, .pointer (some ⟨bb1, 0, none⟩)), (3, .pointer (some ⟨bb2, 0, none⟩)), (7, .slice p11 x3.length x3.length), (8, .slice p12 x4.length x4.length), (87, .int .i64 (a_0.Wires.length : Int)), (88, .int .i64 i4)] ∧ SH w w' [Ch.own S13 (x8 : List (List Int)) [.slice p16 ln2 k13], Ch.own S14 (x9 : List Int) [.slice p17 ln3 k14], Ch.own S7 (x5 : List (List Int)) [.slice p12 x4.length x4.length], Ch.own S5 (x6 : List Int) [.slice p11 x3.length x3.length], Ch.own S15 (x10 : List qbs) [.slice p18 ln4 k15], Ch.box bb2 [.slice p1 a_0.Library.Cells.length k1, .slice p2 a_0.Design.Instances.length k2, .slice p3 a_0.Design.Nets.length k3, .slice p4 a_0.Design.Ports.length k4, .slice p5 a_0.Wires.length k5, .slice p6 r1.length k6, .slice p18 ln4 k15, .slice p17 ln3 k14, .slice p16 ln2 k13, .slice none 0 0] 160, Ch.own S1 (r1 : List Tplace) [.slice p6 r1.length k6], Ch.box bb1 [.slice p1 a_0.Library.Cells.length k1, .slice p2 a_0.Design.Instances.length k2, .slice p3 a_0.Design.Nets.length k3, .slice p4 a_0.Design.Ports.length k4, .slice p5 a_0.Wires.length k5] 50]) n ⟨_, _, _, _, _, _, _, _, _, _, _, _, _, _, _, _, hF, rfl, h⟩ ?_
 rintro m3 e3 w23 ⟨S13, p16, ln2, k13, x8, S14, p17, ln3, k14, x9, S15, p18, ln4, k15, x10, i4, hF, rfl, h⟩
 obtain rfl := (h.sl 0 rfl).2
 obtain rfl := (h.sl 1 rfl).2
 obtain rfl := (h.sl 4 rfl).2
 rcases m3 with _ | m3
 ·rw [qdk] at hF
  cases hF
 rw [qdk] at hF
 refine zSR (zp1 rfl (zNS ?_))
 refine qp rfl hF ?_ ?_ <;> intro hF
 ·refine zKSBSR (zp2 rfl (zNS ?_))
  refine qfO [14] (fun w' => SH w w' [Ch.box bb2 [.slice p1 a_0.Library.Cells.length k1, .slice p2 a_0.Design.Instances.length k2, .slice p3 a_0.Design.Nets.length k3, .slice p4 a_0.Design.Ports.length k4, .slice p5 a_0.Wires.length k5, .slice p6 r1.length k6, .slice p18 x10.length k15, .slice p17 x9.length k14, .slice p16 x8.length k13, .slice none 0 0] 160, Ch.box bb1 [.slice p1 a_0.Library.Cells.length k1, .slice p2 a_0.Design.Instances.length k2, .slice p3 a_0.Design.Nets.length k3, .slice p4 a_0.Design.Ports.length k4, .slice p5 a_0.Wires.length k5] 50]) rfl 15 rfl #[ff, ff, ff, ff, ff, ff, ff, ff, ff, ff, ff, ff, ff, ff, ff] (by kernel_rfl) (fun w24 hb => ?_)
  replace h := h.ext hb
  clear hb
  refine qk 0 rfl #[tt, ff, ff, ff, ff, ff, ff, ff, ff, ff, ff, ff, ff, ff, ff] (by kernel_rfl) (by kernel_rfl) (fun w' hw => v_p qc rfl w') (h.pick [5, 7] rfl) rfl ?_
  refine qk 1 rfl #[tt, tt, ff, ff, ff, ff, ff, ff, ff, ff, ff, ff, ff, ff, ff] (by kernel_rfl) (by kernel_rfl) (fun w' hw => v_p qc rfl w') (h.pick [5, 7] rfl) rfl ?_
  refine qk 2 rfl #[tt, tt, tt, ff, ff, ff, ff, ff, ff, ff, ff, ff, ff, ff, ff] (by kernel_rfl) (by kernel_rfl) (fun w' hw => v_p qc rfl w') (h.pick [5, 7] rfl) rfl ?_
  refine qk 3 rfl #[tt, tt, tt, tt, ff, ff, ff, ff, ff, ff, ff, ff, ff, ff, ff] (by kernel_rfl) (by kernel_rfl) (fun w' hw => v_p qc rfl w') (h.pick [5, 7] rfl) rfl ?_
  refine qk 4 rfl #[tt, tt, tt, tt, tt, ff, ff, ff, ff, ff, ff, ff, ff, ff, ff] (by kernel_rfl) (by kernel_rfl) (fun w' hw => qbE qc (hw.box 0 rfl) (j := 7) rfl rfl rfl) (h.pick [5, 7] rfl) rfl ?_
  refine qk 5 rfl #[tt, tt, tt, tt, tt, tt, ff, ff, ff, ff, ff, ff, ff, ff, ff] (by kernel_rfl) (by kernel_rfl) (fun w' hw => qbE qc (hw.box 1 rfl) (j := 0) rfl rfl rfl) (h.pick [5, 7] rfl) rfl ?_
  refine qk 6 rfl #[tt, tt, tt, tt, tt, tt, tt, ff, ff, ff, ff, ff, ff, ff, ff] (by kernel_rfl) (by kernel_rfl) (fun w' hw => v_p qc rfl w') (h.pick [5, 7] rfl) rfl ?_
  refine qax 7 rfl #[tt, tt, tt, tt, tt, tt, tt, tt, ff, ff, ff, ff, ff, ff, ff] (by kernel_rfl) (by kernel_rfl) ?_
  obtain ⟨r4, hr7, hF⟩ := qd hF
  refine qap r4 h call151 (qfh (h.old (GoT.mono ha1 hg.old)) hr7) rfl rfl rfl rfl ?_
  intro w25 S16 p19 k16 h
  refine qao (fun _ => (h.pick [6, 8] rfl)) ?_
  obtain ⟨y5, hy5, hF⟩ := qd hF
  have he5 := qg hy5
  obtain ⟨b6, o_4, q6, cs6, hp6, hq6, -, hr8, hc8⟩ := (h.sl 0 rfl).1.at hy5
  obtain rfl := hr8
  refine qk 8 rfl #[tt, tt, tt, tt, tt, tt, tt, tt, tt, ff, ff, ff, ff, ff, ff] (by kernel_rfl) (by kernel_rfl) (fun w' hw => qfA qc hp6 hq6 ⟨he5.1, qa8 he5.2.1 (h.sl 0 rfl).2⟩ rfl rfl rfl rfl rfl rfl) (h.pick [6, 8] rfl) rfl ?_
  refine qax 9 rfl #[tt, tt, tt, tt, tt, tt, tt, tt, tt, tt, ff, ff, ff, ff, ff] (by kernel_rfl) (by kernel_rfl) ?_
  refine zc 0 hc8 rfl ?_
  refine qao (fun _ => (h.pick [6, 8] rfl)) ?_
  refine qax 10 rfl #[tt, tt, tt, tt, tt, tt, tt, tt, tt, tt, tt, ff, ff, ff, ff] (by kernel_rfl) (by kernel_rfl) ?_
  refine qaN qc [.tmp 100] _ ([y5] : List Int) h rfl rfl rfl rfl rfl rfl rfl rfl rfl ⟨rfl, trivial⟩ rfl ?_
  intro w26 p20 S17 h
  refine qao (fun _ => (h.pick [7, 9] rfl)) ?_
  refine qax 11 rfl #[tt, tt, tt, tt, tt, tt, tt, tt, tt, tt, tt, tt, ff, ff, ff] (by kernel_rfl) (by kernel_rfl) ?_
  obtain ⟨x11, hx5, hF⟩ := qd hF
  obtain ⟨g7, hx5⟩ := qbm hx5
  refine qeC qc 3 h rfl (h.sl 0 rfl).1 (h.sl 0 rfl).2 rfl rfl rfl rfl rfl rfl rfl rfl rfl g7 hx5 rfl ?_
  intro w27 p21 k17 S18 h
  refine qao (fun _ => (h.pick [7, 9] rfl)) ?_
  refine qax 12 rfl #[tt, tt, tt, tt, tt, tt, tt, tt, tt, tt, tt, tt, tt, ff, ff] (by kernel_rfl) (by kernel_rfl) ?_
  refine zp1 rfl ?_
  refine qao (fun _ => (h.pick [7, 9] rfl)) ?_
  refine qk 13 rfl #[tt, tt, tt, tt, tt, tt, tt, tt, tt, tt, tt, tt, tt, tt, ff] (by kernel_rfl) (by kernel_rfl) (fun w' hw => v_p qc rfl w') (h.pick [7, 9] rfl) rfl ?_
  refine qax 14 rfl #[tt, tt, tt, tt, tt, tt, tt, tt, tt, tt, tt, tt, tt, tt, tt] (by kernel_rfl) (by kernel_rfl) ?_
  refine zs 7 h rfl ?_
  intro w28 h
  refine qao (fun hs => absurd (hs 14 (by decide)) (by decide)) ?_
  refine qdn (by kernel_rfl) ?_
  refine qbl ?_
  refine qfO [12] (fun w' => SH w w' [Ch.box bb2 [.slice p1 a_0.Library.Cells.length k1, .slice p2 a_0.Design.Instances.length k2, .slice p3 a_0.Design.Nets.length k3, .slice p4 a_0.Design.Ports.length k4, .slice p5 a_0.Wires.length k5, .slice p6 r1.length k6, .slice p18 x10.length k15, .slice p21 x11.length k17, .slice p16 x8.length k13, .slice none 0 0] 160, Ch.box bb1 [.slice p1 a_0.Library.Cells.length k1, .slice p2 a_0.Design.Instances.length k2, .slice p3 a_0.Design.Nets.length k3, .slice p4 a_0.Design.Ports.length k4, .slice p5 a_0.Wires.length k5] 50]) rfl 13 rfl #[ff, ff, ff, ff, ff, ff, ff, ff, ff, ff, ff, ff, ff] (by kernel_rfl) (fun w29 hb => ?_)
  replace h := h.ext hb
  clear hb
  refine qk 0 rfl #[tt, ff, ff, ff, ff, ff, ff, ff, ff, ff, ff, ff, ff] (by kernel_rfl) (by kernel_rfl) (fun w' hw => v_p qc rfl w') (h.pick [7, 9] rfl) rfl ?_
  refine qk 1 rfl #[tt, tt, ff, ff, ff, ff, ff, ff, ff, ff, ff, ff, ff] (by kernel_rfl) (by kernel_rfl) (fun w' hw => v_p qc rfl w') (h.pick [7, 9] rfl) rfl ?_
  refine qk 2 rfl #[tt, tt, tt, ff, ff, ff, ff, ff, ff, ff, ff, ff, ff] (by kernel_rfl) (by kernel_rfl) (fun w' hw => v_p qc rfl w') (h.pick [7, 9] rfl) rfl ?_
  refine qk 3 rfl #[tt, tt, tt, tt, ff, ff, ff, ff, ff, ff, ff, ff, ff] (by kernel_rfl) (by kernel_rfl) (fun w' hw => v_p qc rfl w') (h.pick [7, 9] rfl) rfl ?_
  refine qk 4 rfl #[tt, tt, tt, tt, tt, ff, ff, ff, ff, ff, ff, ff, ff] (by kernel_rfl) (by kernel_rfl) (fun w' hw => qbE qc (hw.box 0 rfl) (j := 8) rfl rfl rfl) (h.pick [7, 9] rfl) rfl ?_
  refine qk 5 rfl #[tt, tt, tt, tt, tt, tt, ff, ff, ff, ff, ff, ff, ff] (by kernel_rfl) (by kernel_rfl) (fun w' hw => qbE qc (hw.box 1 rfl) (j := 0) rfl rfl rfl) (h.pick [7, 9] rfl) rfl ?_
  refine qk 6 rfl #[tt, tt, tt, tt, tt, tt, tt, ff, ff, ff, ff, ff, ff] (by kernel_rfl) (by kernel_rfl) (fun w' hw => v_p qc rfl w') (h.pick [7, 9] rfl) rfl ?_
  refine qax 7 rfl #[tt, tt, tt, tt, tt, tt, tt, tt, ff, ff, ff, ff, ff] (by kernel_rfl) (by kernel_rfl) ?_
  obtain ⟨r5, hr9, hF⟩ := qd hF
  refine qap r5 h call152 (qiH (h.old (GoT.mono ha1 hg.old)) hr9) rfl rfl rfl rfl ?_
  intro w30 S19 p22 k18 h
  refine qao (fun _ => (h.pick [8, 10] rfl)) ?_
  refine qax 8 rfl #[tt, tt, tt, tt, tt, tt, tt, tt, tt, ff, ff, ff, ff] (by kernel_rfl) (by kernel_rfl) ?_
  refine qpY qc [.tmp 112] _ ([r5] : List (List Int)) [1, 2, 3, 4, 5, 6, 7, 8, 9, 10] h rfl rfl rfl rfl rfl rfl rfl rfl rfl (qrj (qaB 0 h rfl) qrL rfl) rfl rfl ?_
  intro w31 p23 S20 h
  refine qao (fun _ => (h.pick [8, 10] rfl)) ?_
  refine qax 9 rfl #[tt, tt, tt, tt, tt, tt, tt, tt, tt, tt, ff, ff, ff] (by kernel_rfl) (by kernel_rfl) ?_
  obtain ⟨x12, hx6, hF⟩ := qd hF
  obtain ⟨g8, hx6⟩ := qbm hx6
  replace h := h.pick [0, 3, 1, 2, 4, 5, 6, 7, 8, 9, 10] rfl
  refine qrH qc h rfl rfl rfl rfl rfl rfl rfl rfl rfl g8 hx6 rfl ?_
  intro w32 p24 k19 S21 h
  refine qao (fun _ => (h.pick [7, 9] rfl)) ?_
  refine qax 10 rfl #[tt, tt, tt, tt, tt, tt, tt, tt, tt, tt, tt, ff, ff] (by kernel_rfl) (by kernel_rfl) ?_
  refine zp1 rfl ?_
  refine qao (fun _ => (h.pick [7, 9] rfl)) ?_
  refine qk 11 rfl #[tt, tt, tt, tt, tt, tt, tt, tt, tt, tt, tt, tt, ff] (by kernel_rfl) (by kernel_rfl) (fun w' hw => v_p qc rfl w') (h.pick [7, 9] rfl) rfl ?_
  refine qax 12 rfl #[tt, tt, tt, tt, tt, tt, tt, tt, tt, tt, tt, tt, tt] (by kernel_rfl) (by kernel_rfl) ?_
  refine zs 7 h rfl ?_
  intro w33 h
  refine qao (fun hs => absurd (hs 12 (by decide)) (by decide)) ?_
  refine qdn (by kernel_rfl) ?_
  refine zSR (zp2 rfl ?_)
  obtain ⟨y6, hy6, hF⟩ := qd hF
  have he6 := qg hy6
  replace h := h.lrn0 4 rfl
  obtain ⟨b7, o_5, q7, cs7, hp7, hq7, -, hr10, hc9⟩ := (qif (h.lrnO 4 rfl)).1.at hy6
  have hr11 := hr10
  obtain ⟨p25, k20, rfl, s7⟩ := hr10
  replace h := h.lrnAdd 4 rfl hr11
  refine zx hp7 hq7 ⟨he6.1, qa8 he6.2.1 (qif (h.lrnO 4 rfl)).2⟩ rfl (zc 0 hc9 rfl (zp2 rfl (qb ?_)))
  obtain ⟨o4, hF, hK4⟩ := qd hF
  refine qA ?_
  replace h := h.pick [0, 3, 4, 5, 6, 7, 8, 9] rfl
  refine qW [(1, _), (3, _), (7, _), (8, _), (11, _), (87, _), (88, _), (120, _), (121, _), (122, _)] ⟨rfl, rfl, rfl, rfl, rfl, rfl, rfl, rfl, rfl, rfl, trivial⟩ ?_
  refine qG (fun m e w' => ∃ (S22 : Nat → Prop) (p26 : Option Addr) (ln5 : Nat) (k21 : Nat) (x13 : (List qbs)) (i5 : Int), qcC x6 i4 y6 m x13 i5 = some o4 ∧ e = [(1, .pointer (some ⟨bb1, 0, none⟩)), (3, .pointer (some ⟨bb2, 0, none⟩)), (7, .slice p11 x3.length x3.length), (8, .slice p12 x4.length x4.length), (11, .int .i64 i4), (87, .int .i64 (a_0.Wires.length : Int)), (88, .int .i64 i4), (120, .slice p25 y6.length k20), (121, .int .i64 (y6.length : Int)), (122, .int .i64 i5)] ∧ SH w w' [Ch.own S21 (x12 : List (List Int)) [.slice p24 x12.length k19], Ch.own S18 (x11 : List Int) [.slice p21 x11.length k17], Ch.lrn S7 (x5 : List (List Int)) [.slice p12 x4.length x4.length] [fct (y6 : (List Int)) [.slice p25 y6.length k20]], Ch.own S5 (x6 : List Int) [.slice p11 x3.length x3.length], Ch.own S22 (x13 : List qbs) [.slice p26 ln5 k21], Ch.box bb2 [.slice p1 a_0.Library.Cells.length k1, .slice p2 a_0.Design.Instances.length k2, .slice p3 a_0.Design.Nets.length k3, .slice p4 a_0.Design.Ports.length k4, .slice p5 a_0.Wires.length k5, .slice p6 r1.length k6, .slice p26 ln5 k21, .slice p21 x11.length k17, .slice p24 x12.length k19, .slice none 0 0] 160, Ch.own S1 (r1 : List Tplace) [.slice p6 r1.length k6], Ch.box bb1 [.slice p1 a_0.Library.Cells.length k1, .slice p2 a_0.Design.Instances.length k2, .slice p3 a_0.Design.Nets.length k3, .slice p4 a_0.Design.Ports.length k4, .slice p5 a_0.Wires.length k5] 50]) m3 ⟨_, _, _, _, _, _, hF, rfl, h⟩ ?_
  rintro m4 e4 w34 ⟨S22, p26, ln5, k21, x13, i5, hF, rfl, h⟩
  obtain rfl := (h.sl 4 rfl).2
  rcases m4 with _ | m4
  ·rw [qcC] at hF
   cases hF
  rw [qcC] at hF
  refine zSR (zp1 rfl (zNS ?_))
  refine qp rfl hF ?_ ?_ <;> intro hF
  ·refine zKSBSR (zp1 rfl ?_)
   obtain ⟨y7, hy7, hF⟩ := qd hF
   have he7 := qg hy7
   obtain ⟨b8, o_6, q8, cs8, hp8, hq8, -, hr12, hc11⟩ := (qif (GoT.mono (h.lrnS 2 0 rfl rfl) (h.lrnB 2 rfl))).1.at hy7
   obtain rfl := hr12
   refine zx hp8 hq8 ⟨he7.1, qa8 he7.2.1 (qif (GoT.mono (h.lrnS 2 0 rfl rfl) (h.lrnB 2 rfl))).2⟩ rfl (zc 0 hc11 rfl (zp2 rfl (zNSR (zp1 rfl (qb ?_)))))
   obtain ⟨o5, hF, hK5⟩ := qd hF
   refine qA (qW [(1, _), (3, _), (7, _), (8, _), (11, _), (12, _), (13, _), (87, _), (88, _), (120, _), (121, _), (122, _), (127, _)] ⟨rfl, rfl, rfl, rfl, rfl, rfl, rfl, rfl, rfl, rfl, rfl, rfl, rfl, trivial⟩ ?_)
   refine qG (fun m e w' => ∃ (S23 : Nat → Prop) (p27 : Option Addr) (ln6 : Nat) (k22 : Nat) (x14 : (List qbs)) (i6 : Int), qcD x6 i4 i5 y7 m x14 i6 = some o5 ∧ e = [(1, .pointer (some ⟨bb1, 0, none⟩)), (3, .pointer (some ⟨bb2, 0, none⟩)), (7, .slice p11 x3.length x3.length), (8, .slice p12 x4.length x4.length), (11, .int .i64 i4), (12, .int .i64 i5), (13, .int .i64 y7), (87, .int .i64 (a_0.Wires.length : Int)), (88, .int .i64 i4), (120, .slice p25 y6.length k20), (121, .int .i64 (y6.length : Int)), (122, .int .i64 i5), (127, .int .i64 i6)] ∧ SH w w' [Ch.own S21 (x12 : List (List Int)) [.slice p24 x12.length k19], Ch.own S18 (x11 : List Int) [.slice p21 x11.length k17], Ch.lrn S7 (x5 : List (List Int)) [.slice p12 x4.length x4.length] [fct (y6 : (List Int)) [.slice p25 y6.length k20]], Ch.own S5 (x6 : List Int) [.slice p11 x3.length x3.length], Ch.own S23 (x14 : List qbs) [.slice p27 ln6 k22], Ch.box bb2 [.slice p1 a_0.Library.Cells.length k1, .slice p2 a_0.Design.Instances.length k2, .slice p3 a_0.Design.Nets.length k3, .slice p4 a_0.Design.Ports.length k4, .slice p5 a_0.Wires.length k5, .slice p6 r1.length k6, .slice p27 ln6 k22, .slice p21 x11.length k17, .slice p24 x12.length k19, .slice none 0 0] 160, Ch.own S1 (r1 : List Tplace) [.slice p6 r1.length k6], Ch.box bb1 [.slice p1 a_0.Library.Cells.length k1, .slice p2 a_0.Design.Instances.length k2, .slice p3 a_0.Design.Nets.length k3, .slice p4 a_0.Design.Ports.length k4, .slice p5 a_0.Wires.length k5] 50]) m4 ⟨_, _, _, _, _, _, hF, rfl, h⟩ ?_
   rintro m5 e5 w35 ⟨S23, p27, ln6, k22, x14, i6, hF, rfl, h⟩
   obtain rfl := (h.sl 4 rfl).2
   rcases m5 with _ | m5
   ·rw [qcD] at hF
    cases hF
   rw [qcD] at hF
   refine zSR (zp1 rfl (zNS ?_))
   refine qp rfl hF ?_ ?_ <;> intro hF
   ·refine zKSBSR (zp2 rfl (qb ?_))
    refine qfO [22] (fun w' => SH w w' [Ch.own S5 (x6 : List Int) [.slice p11 x3.length x3.length], Ch.box bb2 [.slice p1 a_0.Library.Cells.length k1, .slice p2 a_0.Design.Instances.length k2, .slice p3 a_0.Design.Nets.length k3, .slice p4 a_0.Design.Ports.length k4, .slice p5 a_0.Wires.length k5, .slice p6 r1.length k6, .slice p27 x14.length k22, .slice p21 x11.length k17, .slice p24 x12.length k19, .slice none 0 0] 160]) rfl 23 rfl #[ff, ff, ff, ff, ff, ff, ff, ff, ff, ff, ff, ff, ff, ff, ff, ff, ff, ff, ff, ff, ff, ff, ff] (by kernel_rfl) (fun w36 hb => ?_)
    replace h := h.ext hb
    clear hb
    refine qk 0 rfl #[tt, ff, ff, ff, ff, ff, ff, ff, ff, ff, ff, ff, ff, ff, ff, ff, ff, ff, ff, ff, ff, ff, ff] (by kernel_rfl) (by kernel_rfl) (fun w' hw => v_p qc rfl w') (h.pick [3, 5] rfl) rfl ?_
    refine qk 1 rfl #[tt, tt, ff, ff, ff, ff, ff, ff, ff, ff, ff, ff, ff, ff, ff, ff, ff, ff, ff, ff, ff, ff, ff] (by kernel_rfl) (by kernel_rfl) (fun w' hw => v_p qc rfl w') (h.pick [3, 5] rfl) rfl ?_
    refine qk 2 rfl #[tt, tt, tt, ff, ff, ff, ff, ff, ff, ff, ff, ff, ff, ff, ff, ff, ff, ff, ff, ff, ff, ff, ff] (by kernel_rfl) (by kernel_rfl) (fun w' hw => v_p qc rfl w') (h.pick [3, 5] rfl) rfl ?_
    refine qk 3 rfl #[tt, tt, tt, tt, ff, ff, ff, ff, ff, ff, ff, ff, ff, ff, ff, ff, ff, ff, ff, ff, ff, ff, ff] (by kernel_rfl) (by kernel_rfl) (fun w' hw => v_p qc rfl w') (h.pick [3, 5] rfl) rfl ?_
    refine qk 4 rfl #[tt, tt, tt, tt, tt, ff, ff, ff, ff, ff, ff, ff, ff, ff, ff, ff, ff, ff, ff, ff, ff, ff, ff] (by kernel_rfl) (by kernel_rfl) (fun w' hw => qbE qc (hw.box 1 rfl) (j := 6) rfl rfl rfl) (h.pick [3, 5] rfl) rfl ?_
    refine qk 5 rfl #[tt, tt, tt, tt, tt, tt, ff, ff, ff, ff, ff, ff, ff, ff, ff, ff, ff, ff, ff, ff, ff, ff, ff] (by kernel_rfl) (by kernel_rfl) (fun w' hw => v_p qc rfl w') (h.pick [3, 5] rfl) rfl ?_
    refine qk 6 rfl #[tt, tt, tt, tt, tt, tt, tt, ff, ff, ff, ff, ff, ff, ff, ff, ff, ff, ff, ff, ff, ff, ff, ff] (by kernel_rfl) (by kernel_rfl) (fun w' hw => v_p qc rfl w') (h.pick [3, 5] rfl) rfl ?_
    obtain ⟨y8, hy8, hF⟩ := qd hF
    have he8 := qg hy8
    obtain ⟨b9, o_7, q9, cs9, hp9, hq9, -, hr13, hc13⟩ := (h.sl 3 rfl).1.at hy8
    obtain rfl := hr13
    refine qk 7 rfl #[tt, tt, tt, tt, tt, tt, tt, tt, ff, ff, ff, ff, ff, ff, ff, ff, ff, ff, ff, ff, ff, ff, ff] (by kernel_rfl) (by kernel_rfl) (fun w' hw => qfA qc hp9 hq9 ⟨he8.1, qa8 he8.2.1 (h.sl 3 rfl).2⟩ rfl rfl rfl rfl rfl rfl) (h.pick [3, 5] rfl) rfl ?_
    refine qk 8 rfl #[tt, tt, tt, tt, tt, tt, tt, tt, tt, ff, ff, ff, ff, ff, ff, ff, ff, ff, ff, ff, ff, ff, ff] (by kernel_rfl) (by kernel_rfl) (fun w' hw => qbE qc (qhB (w1 := w) (S1 := fun _ => False) hw 0 rfl hy8 hp9 hq9 rfl) (j := 0) rfl rfl rfl) (h.pick [3, 5] rfl) rfl ?_
    refine qk 9 rfl #[tt, tt, tt, tt, tt, tt, tt, tt, tt, tt, ff, ff, ff, ff, ff, ff, ff, ff, ff, ff, ff, ff, ff] (by kernel_rfl) (by kernel_rfl) (fun w' hw => v_p qc rfl w') (h.pick [3, 5] rfl) rfl ?_
    refine qk 10 rfl #[tt, tt, tt, tt, tt, tt, tt, tt, tt, tt, tt, ff, ff, ff, ff, ff, ff, ff, ff, ff, ff, ff, ff] (by kernel_rfl) (by kernel_rfl) (fun w' hw => v_p qc rfl w') (h.pick [3, 5] rfl) rfl ?_
    refine qk 11 rfl #[tt, tt, tt, tt, tt, tt, tt, tt, tt, tt, tt, tt, ff, ff, ff, ff, ff, ff, ff, ff, ff, ff, ff] (by kernel_rfl) (by kernel_rfl) (fun w' hw => v_p qc rfl w') (h.pick [3, 5] rfl) rfl ?_
    refine qk 12 rfl #[tt, tt, tt, tt, tt, tt, tt, tt, tt, tt, tt, tt, tt, ff, ff, ff, ff, ff, ff, ff, ff, ff, ff] (by kernel_rfl) (by kernel_rfl) (fun w' hw => v_p qc rfl w') (h.pick [3, 5] rfl) rfl ?_
    refine qk 13 rfl #[tt, tt, tt, tt, tt, tt, tt, tt, tt, tt, tt, tt, tt, tt, ff, ff, ff, ff, ff, ff, ff, ff, ff] (by kernel_rfl) (by kernel_rfl) (fun w' hw => v_p qc rfl w') (h.pick [3, 5] rfl) rfl ?_
    refine qk 14 rfl #[tt, tt, tt, tt, tt, tt, tt, tt, tt, tt, tt, tt, tt, tt, tt, ff, ff, ff, ff, ff, ff, ff, ff] (by kernel_rfl) (by kernel_rfl) (fun w' hw => v_p qc rfl w') (h.pick [3, 5] rfl) rfl ?_
    refine qk 15 rfl #[tt, tt, tt, tt, tt, tt, tt, tt, tt, tt, tt, tt, tt, tt, tt, tt, ff, ff, ff, ff, ff, ff, ff] (by kernel_rfl) (by kernel_rfl) (fun w' hw => v_p qc rfl w') (h.pick [3, 5] rfl) rfl ?_
    refine qk 16 rfl #[tt, tt, tt, tt, tt, tt, tt, tt, tt, tt, tt, tt, tt, tt, tt, tt, tt, ff, ff, ff, ff, ff, ff] (by kernel_rfl) (by kernel_rfl) (fun w' hw => v_p qc rfl w') (h.pick [3, 5] rfl) rfl ?_
    refine qk 17 rfl #[tt, tt, tt, tt, tt, tt, tt, tt, tt, tt, tt, tt, tt, tt, tt, tt, tt, tt, ff, ff, ff, ff, ff] (by kernel_rfl) (by kernel_rfl) (fun w' hw => qeM qc [0, 1, 2, 3] [.tmp 141, .tmp 145, .const (.int .i64 (2)), .tmp 146] rfl rfl rfl rfl rfl rfl rfl rfl) (h.pick [3, 5] rfl) rfl ?_
    refine qax 18 rfl #[tt, tt, tt, tt, tt, tt, tt, tt, tt, tt, tt, tt, tt, tt, tt, tt, tt, tt, tt, ff, ff, ff, ff] (by kernel_rfl) (by kernel_rfl) ?_
    refine qaN qc [.tmp 147] _ ([(⟨W64 ((W64 (2 * y8)) + i6), W64 ((W64 (2 * y7)) + i6), 2, i5⟩ : qbs)] : List qbs) h rfl rfl rfl rfl rfl rfl rfl rfl rfl ⟨(qnC (⟨W64 ((W64 (2 * y8)) + i6), W64 ((W64 (2 * y7)) + i6), 2, i5⟩ : qbs)), trivial⟩ rfl ?_
    intro w37 p28 S24 h
    refine qao (fun _ => (h.pick [4, 6] rfl)) ?_
    refine qax 19 rfl #[tt, tt, tt, tt, tt, tt, tt, tt, tt, tt, tt, tt, tt, tt, tt, tt, tt, tt, tt, tt, ff, ff, ff] (by kernel_rfl) (by kernel_rfl) ?_
    obtain ⟨x15, hx7, hF⟩ := qd hF
    obtain ⟨g9, hx7⟩ := qbm hx7
    refine qeC qc 5 h rfl (h.sl 0 rfl).1 (h.sl 0 rfl).2 rfl rfl rfl rfl rfl rfl rfl rfl rfl g9 hx7 rfl ?_
    intro w38 p29 k23 S25 h
    refine qao (fun _ => (h.pick [4, 6] rfl)) ?_
    refine qax 20 rfl #[tt, tt, tt, tt, tt, tt, tt, tt, tt, tt, tt, tt, tt, tt, tt, tt, tt, tt, tt, tt, tt, ff, ff] (by kernel_rfl) (by kernel_rfl) ?_
    refine zp1 rfl ?_
    refine qao (fun _ => (h.pick [4, 6] rfl)) ?_
    refine qk 21 rfl #[tt, tt, tt, tt, tt, tt, tt, tt, tt, tt, tt, tt, tt, tt, tt, tt, tt, tt, tt, tt, tt, tt, ff] (by kernel_rfl) (by kernel_rfl) (fun w' hw => v_p qc rfl w') (h.pick [4, 6] rfl) rfl ?_
    refine qax 22 rfl #[tt, tt, tt, tt, tt, tt, tt, tt, tt, tt, tt, tt, tt, tt, tt, tt, tt, tt, tt, tt, tt, tt, tt] (by kernel_rfl) (by kernel_rfl) ?_
    refine zs 6 h rfl ?_
    intro w39 h
    refine qao (fun hs => absurd (hs 22 (by decide)) (by decide)) ?_
    refine qdn (by kernel_rfl) ?_
    refine qfP (qB (zp2 rfl (qb ?_)))
    replace h := h.pick [1, 2, 3, 4, 5, 6, 7, 8] rfl
    exact qy m5 [(1, _), (3, _), (7, _), (8, _), (11, _), (12, _), (13, _), (87, _), (88, _), (120, _), (121, _), (122, _), (127, _)] (Nat.lt_succ_self m5) ⟨rfl, rfl, rfl, rfl, rfl, rfl, rfl, rfl, rfl, rfl, rfl, rfl, rfl, trivial⟩ ⟨_, _, _, _, _, _, hF, rfl, h⟩
   refine qF rfl ?_
   obtain rfl := qj hF; replace hF := hK5
   exact qfP (qB (zp2 rfl (qb (qy m4 [(1, _), (3, _), (7, _), (8, _), (11, _), (87, _), (88, _), (120, _), (121, _), (122, _)] (Nat.lt_succ_self m4) ⟨rfl, rfl, rfl, rfl, rfl, rfl, rfl, rfl, rfl, rfl, trivial⟩ ⟨_, _, _, _, _, _, hF, rfl, h⟩))))
  refine qF rfl ?_
  obtain rfl := qj hF; replace hF := hK4
  refine qfP (qB (zp2 rfl (qb ?_)))
  replace h := h.unlrn 2 rfl
  exact qy m3 [(1, _), (3, _), (7, _), (8, _), (87, _), (88, _)] (Nat.lt_succ_self m3) ⟨rfl, rfl, rfl, rfl, rfl, rfl, trivial⟩ ⟨_, _, _, _, _, _, _, _, _, _, _, _, _, _, _, _, hF, rfl, h⟩
 refine qF rfl ?_
 obtain rfl := qj hF; replace hF := hK3
 refine zSR (zp2 rfl (qb ?_))
 obtain rfl := qj hF
 have hv1 : GoRs.Rs (ρ := (Option Tview)) h.wc (reg A w h.wc) (some (⟨(⟨(⟨a_0.Library.Cells⟩ : qw), (⟨a_0.Design.Instances, a_0.Design.Nets, a_0.Design.Ports⟩ : ql), a_0.Wires⟩ : qz), r1, x10, x9, x8, []⟩ : Tview)) [GoT.v (Option Tview) [.pointer (some ⟨bb2, 0, none⟩)]] := ⟨_, rfl, (hg.outR h (Rg.boxR (x := (⟨(⟨(⟨a_0.Library.Cells⟩ : qw), (⟨a_0.Design.Instances, a_0.Design.Nets, a_0.Design.Ports⟩ : ql), a_0.Wires⟩ : qz), r1, x10, x9, x8, []⟩ : Tview)) 5 h rfl (⟨[.slice p1 a_0.Library.Cells.length k1, .slice p2 a_0.Design.Instances.length k2, .slice p3 a_0.Design.Nets.length k3, .slice p4 a_0.Design.Ports.length k4, .slice p5 a_0.Wires.length k5], [.slice p6 r1.length k6, .slice p18 x10.length k15, .slice p17 x9.length k14, .slice p16 x8.length k13, .slice none 0 0], rfl, ⟨[.slice p1 a_0.Library.Cells.length k1], [.slice p2 a_0.Design.Instances.length k2, .slice p3 a_0.Design.Nets.length k3, .slice p4 a_0.Design.Ports.length k4, .slice p5 a_0.Wires.length k5], rfl, ⟨_, _, rfl, (hg.inS h s1)⟩, ⟨[.slice p2 a_0.Design.Instances.length k2, .slice p3 a_0.Design.Nets.length k3, .slice p4 a_0.Design.Ports.length k4], [.slice p5 a_0.Wires.length k5], rfl, ⟨[.slice p2 a_0.Design.Instances.length k2], [.slice p3 a_0.Design.Nets.length k3, .slice p4 a_0.Design.Ports.length k4], rfl, ⟨_, _, rfl, (hg.inS h s2)⟩, ⟨[.slice p3 a_0.Design.Nets.length k3], [.slice p4 a_0.Design.Ports.length k4], rfl, ⟨_, _, rfl, (hg.inS h s3)⟩, ⟨_, _, rfl, (hg.inS h s4)⟩⟩⟩, ⟨_, _, rfl, (hg.inS h s5)⟩⟩⟩, ⟨[.slice p6 r1.length k6], [.slice p18 x10.length k15, .slice p17 x9.length k14, .slice p16 x8.length k13, .slice none 0 0], rfl, (Rg.ownR 6 h rfl), ⟨[.slice p18 x10.length k15], [.slice p17 x9.length k14, .slice p16 x8.length k13, .slice none 0 0], rfl, (Rg.ownR 4 h rfl), ⟨[.slice p17 x9.length k14], [.slice p16 x8.length k13, .slice none 0 0], rfl, (Rg.ownR 1 h rfl), ⟨[.slice p16 x8.length k13], [.slice none 0 0], rfl, (Rg.ownR 0 h rfl), ⟨_, _, rfl, qrQ⟩⟩⟩⟩⟩⟩)))⟩
 exact qkH qc (ρ := (Option Tview)) (r := (some (⟨(⟨(⟨a_0.Library.Cells⟩ : qw), (⟨a_0.Design.Instances, a_0.Design.Nets, a_0.Design.Ports⟩ : ql), a_0.Wires⟩ : qz), r1, x10, x9, x8, []⟩ : Tview))) [GoT.v (Option Tview) [.pointer (some ⟨bb2, 0, none⟩)]] h ⟨rfl, trivial⟩ hv1

def qdD (_ : Nat) (v : (Option Tview)) (p : Tplace) : Option Bool :=
 bif decide (p.instance_ ≥ 0) then
  (v).bind fun y1 =>
  (idx y1.Block.Design.Instances p.instance_).bind fun y2 =>
  (idx y1.Block.Library.Cells y2.Cell).bind fun y3 =>
  (idx y3.Pins p.pin).bind fun y4 =>
  some y4.Clock
 else
  some false

theorem qi3 {n : Nat} {w : World} {v : (Option Tview)} {p : Tplace} {cs1 : List Value} (ha1 : GoT.R w (old w) v cs1) {cs2 : List Value} (ha2 : GoT.R w (old w) p cs2) {r : Bool} (hF : qdD n v p = some r) : RetV Tryz.prog 158 [GoT.v (Option Tview) cs1, GoT.v Tplace cs2] w r := by
 obtain ⟨p1, rfl, s1⟩ := qhb ha1
 obtain rfl := qdE ha2
 refine qf Tryz.func158 rfl (m := 35) rfl rfl (fun h => ?_)
 rw [qdD] at hF
 refine zSR (qP h rfl rfl ?_)
 intro w1 bb1 h
 refine zp1 rfl (zNS ?_)
 refine qb3 rfl (by kernel_rfl) ?_
 refine zd1 rfl ?_
 refine zdl 0 0 h rfl ?_
 refine zd2 rfl ?_
 by_cases hc1 : (decide (p.instance_ ≥ 0)) = true
 ·replace hF := bifT hc1 hF
  refine qch hc1 (t := 8) rfl (qh rfl (zd1 rfl (qh rfl ?_)))
  obtain ⟨y1, hy1, hF⟩ := qd hF
  obtain ⟨b1, o_1, cs3, rfl, -, hr1, hc2⟩ := PtR.get s1 hy1
  obtain ⟨p2, k1, p3, k2, p4, k3, p5, k4, p6, k5, p7, k6, p8, k7, p9, k8, p10, k9, p11, k10, rfl, s2, s3, s4, s5, s6, s7, s8, s9, s10, s11⟩ := qjA hr1
  refine zd1 rfl (qh rfl (zd1 rfl (qh rfl (zd1 rfl (qh rfl (zd1 rfl (qh rfl ?_)))))))
  refine zdc 0 (hc2.below h.below) rfl ?_
  refine qh rfl (zd1 rfl (qh rfl (zd1 rfl (qh rfl (zd1 rfl (qh rfl (zd1 rfl (qh rfl (zd1 rfl (qh rfl ?_))))))))))
  refine zdc 1 (hc2.below h.below) rfl ?_
  refine qh rfl (zd1 rfl (qh rfl ?_))
  refine zdl 0 0 h rfl ?_
  refine qh rfl ?_
  obtain ⟨y2, hy2, hF⟩ := qd hF
  have he1 := qg hy2
  obtain ⟨b2, o_2, q1, cs4, hp1, hq1, -, hr2, hc3⟩ := s3.at hy2
  obtain ⟨p12, k11, rfl, s12⟩ := qab hr2
  refine zdxe hp1 hq1 he1 rfl ?_
  refine qh rfl (zd1 rfl (qh rfl ?_))
  refine zdc 1 (hc3.below h.below) rfl ?_
  refine qh rfl ?_
  obtain ⟨y3, hy3, hF⟩ := qd hF
  have he2 := qg hy3
  obtain ⟨b3, o_3, q2, cs5, hp2, hq2, -, hr3, hc4⟩ := s2.at hy3
  obtain ⟨p13, k12, p14, k13, p15, k14, rfl, s13, s14, s15⟩ := qaa hr3
  refine zdxe hp2 hq2 he2 rfl ?_
  refine qh rfl (zd1 rfl (qh rfl ?_))
  refine zdc 2 (hc4.below h.below) rfl ?_
  refine qh rfl (zd1 rfl (qh rfl ?_))
  refine zdl 0 1 h rfl ?_
  refine qh rfl ?_
  obtain ⟨y4, hy4, hF⟩ := qd hF
  have he3 := qg hy4
  obtain ⟨b4, o_4, q3, cs6, hp3, hq3, -, hr4, hc5⟩ := s13.at hy4
  obtain rfl := qbx hr4
  refine zdxe hp3 hq3 he3 rfl ?_
  refine qh rfl (zd1 rfl (qh rfl ?_))
  refine zdc 3 (hc5.below h.below) rfl ?_
  refine zd2 rfl ?_
  refine qaR (fun w2 hb => ?_)
  replace h := h.ext hb
  clear hb
  exact qx qc h hF ⟨rfl, trivial⟩
 replace hc1 := zb hc1
 replace hF := bifF hc1 hF
 refine qci hc1 (t := 8) rfl (qi rfl rfl rfl (qi rfl rfl rfl (qi rfl rfl rfl (qi rfl rfl rfl (qi rfl rfl rfl (qi rfl rfl rfl (qi rfl rfl rfl (qi rfl rfl rfl (qi rfl rfl rfl (qi rfl rfl rfl (qi rfl rfl rfl ?_)))))))))))
 refine qi rfl rfl rfl (qi rfl rfl rfl (qi rfl rfl rfl (qi rfl rfl rfl (qi rfl rfl rfl (qi rfl rfl rfl (qi rfl rfl rfl (qi rfl rfl rfl (qi rfl rfl rfl (qi rfl rfl rfl (qi rfl rfl rfl (qi rfl rfl rfl ?_)))))))))))
 refine qi rfl rfl rfl (qi rfl rfl rfl (zd2 rfl ?_))
 refine qaR (fun w3 hb => ?_)
 replace h := h.ext hb
 clear hb
 exact qx qc h hF ⟨rfl, trivial⟩

def qeY (_ : Nat) (b : qz) (a_instance : Int) : Option qE :=
 (idx b.Design.Instances a_instance).bind fun y1 =>
 (idx b.Library.Cells y1.Cell).bind fun y2 =>
 some y2

theorem qh6 {n : Nat} {w : World} {A : Nat → Prop} (hA : ∀ b, A b → old w b) {b : qz} {a_instance : Int} {cs1 : List Value} (ha1 : GoT.R w A b cs1) {r : qE} (hF : qeY n b a_instance = some r) : RetG Tryz.prog 159 [GoT.v qz cs1, .int .i64 a_instance] w A r := by
 obtain ⟨p1, k1, p2, k2, p3, k3, p4, k4, p5, k5, rfl, s1, s2, s3, s4, s5⟩ := qat ha1
 have hg := Rg.start hA
 refine qiP Tryz.func159 rfl (m := 17) rfl rfl (fun h => ?_)
 rw [qeY] at hF
 refine zSR (qP h rfl rfl ?_)
 intro w1 bb1 h
 refine qT qc h rfl rfl rfl ?_
 intro w2 bb2 h
 refine zNS ?_
 refine qfO [] (fun w' => SH w w' [Ch.box bb1 [.slice p1 b.Library.Cells.length k1, .slice p2 b.Design.Instances.length k2, .slice p3 b.Design.Nets.length k3, .slice p4 b.Design.Ports.length k4, .slice p5 b.Wires.length k5] 50]) rfl 13 rfl #[ff, ff, ff, ff, ff, ff, ff, ff, ff, ff, ff, ff, ff] (by kernel_rfl) (fun w3 hb => ?_)
 replace h := h.ext hb
 clear hb
 refine qk 0 rfl #[tt, ff, ff, ff, ff, ff, ff, ff, ff, ff, ff, ff, ff] (by kernel_rfl) (by kernel_rfl) (fun w' hw => v_p qc rfl w') (h.pick [1] rfl) rfl ?_
 refine qk 1 rfl #[tt, tt, ff, ff, ff, ff, ff, ff, ff, ff, ff, ff, ff] (by kernel_rfl) (by kernel_rfl) (fun w' hw => v_p qc rfl w') (h.pick [1] rfl) rfl ?_
 refine qk 2 rfl #[tt, tt, tt, ff, ff, ff, ff, ff, ff, ff, ff, ff, ff] (by kernel_rfl) (by kernel_rfl) (fun w' hw => qbE qc (hw.box 0 rfl) (j := 0) rfl rfl rfl) (h.pick [1] rfl) rfl ?_
 refine qk 3 rfl #[tt, tt, tt, tt, ff, ff, ff, ff, ff, ff, ff, ff, ff] (by kernel_rfl) (by kernel_rfl) (fun w' hw => v_p qc rfl w') (h.pick [1] rfl) rfl ?_
 refine qk 4 rfl #[tt, tt, tt, tt, tt, ff, ff, ff, ff, ff, ff, ff, ff] (by kernel_rfl) (by kernel_rfl) (fun w' hw => v_p qc rfl w') (h.pick [1] rfl) rfl ?_
 refine qk 5 rfl #[tt, tt, tt, tt, tt, tt, ff, ff, ff, ff, ff, ff, ff] (by kernel_rfl) (by kernel_rfl) (fun w' hw => qbE qc (hw.box 0 rfl) (j := 1) rfl rfl rfl) (h.pick [1] rfl) rfl ?_
 refine qk 6 rfl #[tt, tt, tt, tt, tt, tt, tt, ff, ff, ff, ff, ff, ff] (by kernel_rfl) (by kernel_rfl) (fun w' hw => v_p qc rfl w') (h.pick [1] rfl) rfl ?_
 obtain ⟨y1, hy1, hF⟩ := qd hF
 have he1 := qg hy1
 obtain ⟨b1, o_1, q1, cs2, hp1, hq1, -, hr1, hc1⟩ := s2.at hy1
 obtain ⟨p6, k6, rfl, s6⟩ := qab hr1
 refine qk 7 rfl #[tt, tt, tt, tt, tt, tt, tt, tt, ff, ff, ff, ff, ff] (by kernel_rfl) (by kernel_rfl) (fun w' hw => qfA qc hp1 hq1 ⟨he1.1, he1.2.1⟩ rfl rfl rfl rfl rfl rfl) (h.pick [1] rfl) rfl ?_
 refine qk 8 rfl #[tt, tt, tt, tt, tt, tt, tt, tt, tt, ff, ff, ff, ff] (by kernel_rfl) (by kernel_rfl) (fun w' hw => v_p qc rfl w') (h.pick [1] rfl) rfl ?_
 refine qk 9 rfl #[tt, tt, tt, tt, tt, tt, tt, tt, tt, tt, ff, ff, ff] (by kernel_rfl) (by kernel_rfl) (fun w' hw => qbE qc (hc1.below hw.below) (j := 1) rfl rfl rfl) (h.pick [1] rfl) rfl ?_
 obtain ⟨y2, hy2, hF⟩ := qd hF
 have he2 := qg hy2
 obtain ⟨b2, o_2, q2, cs3, hp2, hq2, -, hr2, hc2⟩ := s1.at hy2
 obtain ⟨p7, k7, p8, k8, p9, k9, rfl, s7, s8, s9⟩ := qaa hr2
 refine qk 10 rfl #[tt, tt, tt, tt, tt, tt, tt, tt, tt, tt, tt, ff, ff] (by kernel_rfl) (by kernel_rfl) (fun w' hw => qfA qc hp2 hq2 ⟨he2.1, he2.2.1⟩ rfl rfl rfl rfl rfl rfl) (h.pick [1] rfl) rfl ?_
 refine qk 11 rfl #[tt, tt, tt, tt, tt, tt, tt, tt, tt, tt, tt, tt, ff] (by kernel_rfl) (by kernel_rfl) (fun w' hw => qbE qc (hc2.below hw.below) (j := 0) rfl rfl rfl) (h.pick [1] rfl) rfl ?_
 refine qax 12 rfl #[tt, tt, tt, tt, tt, tt, tt, tt, tt, tt, tt, tt, tt] (by kernel_rfl) (by kernel_rfl) ?_
 refine zs 0 h rfl ?_
 intro w4 h
 replace h : SH _ _ [Ch.box bb2 [.string y2.Name, .int .i64 y2.Kind, .slice p7 y2.Pins.length k7, .slice p8 y2.Arcs.length k8, .slice p9 y2.Truth.length k9, .int .i64 y2.Leak, .int .i64 y2.Energy] 183, Ch.box bb1 [.slice p1 b.Library.Cells.length k1, .slice p2 b.Design.Instances.length k2, .slice p3 b.Design.Nets.length k3, .slice p4 b.Design.Ports.length k4, .slice p5 b.Wires.length k5] 50] := h
 refine qao (fun _ => (h.pick [1] rfl)) ?_
 refine qdn (by kernel_rfl) ?_
 obtain rfl := qj hF
 have hv1 : GoRs.Rs (ρ := qE) h.wc (reg A w h.wc) y2 [GoT.v qE [.string y2.Name, .int .i64 y2.Kind, .slice p7 y2.Pins.length k7, .slice p8 y2.Arcs.length k8, .slice p9 y2.Truth.length k9, .int .i64 y2.Leak, .int .i64 y2.Energy]] := ⟨_, rfl, (hg.outR h (qgW y2 (hg.inS h s7) (hg.inS h s8) (hg.inS h s9)))⟩
 exact qkH qc (ρ := qE) (r := y2) [GoT.v qE [.string y2.Name, .int .i64 y2.Kind, .slice p7 y2.Pins.length k7, .slice p8 y2.Arcs.length k8, .slice p9 y2.Truth.length k9, .int .i64 y2.Leak, .int .i64 y2.Energy]] h ⟨⟨_, _, _, rfl, rfl, h.box 0 rfl, rfl⟩, trivial⟩ hv1

def qhj (_ : Nat) (a : qah) : Option Bool :=
 bif (a.Kind == 1) then
  some true
 else
  bif (a.Kind == 2) then
   some true
  else
   some (a.Kind == 3)

theorem qkN {n : Nat} {w : World} {a : qah} {cs1 : List Value} (ha1 : GoT.R w (old w) a cs1) {r : Bool} (hF : qhj n a = some r) : RetV Tryz.prog 162 [GoT.v qah cs1] w r := by
 obtain ⟨p1, k1, p2, k2, rfl, s1, s2⟩ := qaD ha1
 refine qf Tryz.func162 rfl (m := 16) rfl rfl (fun h => ?_)
 rw [qhj] at hF
 refine zSR (qP h rfl rfl ?_)
 intro w1 bb1 h
 refine zp1 rfl (zNSR (zp1 rfl (zl 0 0 h rfl (zp2 rfl ?_))))
 by_cases hc1 : (a.Kind == 1) = true
 ·replace hF := bifT hc1 hF
  refine qC hc1 (t := 6) rfl (zn3 rfl (zp2 rfl (zn3 rfl (zp2 rfl (qb ?_)))))
  exact qx qc h hF ⟨rfl, trivial⟩
 replace hc1 := zb hc1
 replace hF := bifF hc1 hF
 refine qD hc1 (t := 6) rfl (qa rfl (zp1 rfl (qa rfl (zl 0 0 h rfl (qa rfl (zp3 rfl ?_))))))
 by_cases hc2 : (a.Kind == 2) = true
 ·replace hF := bifT hc2 hF
  exact qC hc2 (t := 11) rfl (zn3 rfl (zp2 rfl (qb (qx qc h hF ⟨rfl, trivial⟩))))
 replace hc2 := zb hc2
 replace hF := bifF hc2 hF
 exact qD hc2 (t := 11) rfl (qa rfl (zp1 rfl (qa rfl (zl 0 0 h rfl (qa rfl (zp3 rfl (qb (qx qc h hF ⟨rfl, trivial⟩))))))))

def qcY (n : Nat) (a : qah) (v0 : Tplace) : Option Bool :=
 (qhj n a).bind fun r1 =>
 bif r1 then
  some (a.From == v0.pin)
 else
  some false

theorem qiI {n : Nat} {w : World} {a : qah} {v0 : Tplace} {cs1 : List Value} (ha1 : GoT.R w (old w) a cs1) {p3 : Option Addr} (ha2 : GoT.R w (old w) (some v0) [.pointer p3]) {r : Bool} (hF : qcY n a v0 = some r) : RetV Tryz.prog 161 [GoT.v qah cs1, .pointer p3] w r := by
 obtain ⟨p1, k1, p2, k2, rfl, s1, s2⟩ := qaD ha1
 obtain ⟨b1, o_1, cs2, rfl, -, hr1, hc1⟩ := PtR.get ha2 rfl
 obtain rfl := qdE hr1
 refine qf Tryz.func161 rfl (m := 13) rfl rfl (fun h => ?_)
 rw [qcY] at hF
 refine zSR (qP h rfl rfl ?_)
 intro w1 bb1 h
 refine zp1 rfl (zNSR (zl 0 0 h rfl ?_))
 obtain ⟨r1, hr2, hF⟩ := qd hF
 refine qm r1 h call162 (qkN (h.old ha1) hr2) rfl rfl rfl rfl ?_
 intro w2 h
 refine zp1 rfl ?_
 by_cases hc2 : r1 = true
 ·replace hF := bifT hc2 hF
  refine qC hc2 (t := 6) rfl (qa rfl (zp1 rfl (qa rfl (zl 0 1 h rfl (qa rfl (zp1 rfl (qa rfl (zc 1 (hc1.below h.below) rfl (qa rfl (zp2 rfl ?_))))))))))
  exact zp1 rfl (qb (qx qc h hF ⟨rfl, trivial⟩))
 replace hc2 := zb hc2
 replace hF := bifF hc2 hF
 exact qD hc2 (t := 6) rfl (zn5 rfl (zp2 rfl (qb (qx qc h hF ⟨rfl, trivial⟩))))

def qK (s : (List qah)) (f_0 : Tplace) : Nat → Int → Option (Flow Int Int)
 | 0, _ => none
 | n + 1, i1 =>
  bif decide (i1 < (s.length : Int)) then
   (idx s i1).bind fun y1 =>
   (qcY n y1 f_0).bind fun r1 =>
   bif r1 then
    some (.ret i1)
   else
    qK s f_0 n (W64 (i1 + 1))
  else
   some (.nxt i1)

def qaE (n : Nat) (s : (List qah)) (f_0 : Tplace) : Option Int :=
 (qK s f_0 n 0).bind fun o => match o with
 | .ret r => some r
 | .nxt _ =>
  some (-1)

theorem qeb {n : Nat} {w : World} {s : (List qah)} {f_0 : Tplace} {cs1 : List Value} (ha1 : GoT.R w (old w) s cs1) {p2 : Option Addr} (ha2 : GoT.R w (old w) (some f_0) [.pointer p2]) {r : Int} (hF : qaE n s f_0 = some r) : RetV Tryz.prog 191 [GoT.v (List qah) cs1, .func (.func 161) #[] #[.pointer p2]] w r := by
 obtain ⟨p1, k1, rfl, s1⟩ := ha1
 obtain ⟨b1, o_1, cs2, rfl, -, hr1, hc1⟩ := PtR.get ha2 rfl
 obtain rfl := qdE hr1
 refine qf Tryz.func191 rfl (m := 19) rfl rfl (fun h => ?_)
 rw [qaE] at hF
 refine zSR (zp1 rfl (zNSSR (zp3 rfl (qb ?_))))
 obtain ⟨o1, hF, hK1⟩ := qd hF
 refine qA (qW [(0, _), (1, _), (7, _), (8, _)] ⟨rfl, rfl, rfl, rfl, trivial⟩ ?_)
 refine qG (fun m e w' => ∃ (i1 : Int), qK s f_0 m i1 = some o1 ∧ e = [(0, .slice p1 s.length k1), (1, .func (.func 161) #[] #[.pointer (some ⟨b1, o_1, none⟩)]), (7, .int .i64 (s.length : Int)), (8, .int .i64 i1)] ∧ SH w w' []) n ⟨_, hF, rfl, h⟩ ?_
 rintro m1 e1 w1 ⟨i1, hF, rfl, h⟩
 rcases m1 with _ | m1
 ·rw [qK] at hF
  cases hF
 rw [qK] at hF
 refine zSR (zp1 rfl (zNS ?_))
 refine qp rfl hF ?_ ?_ <;> intro hF
 ·refine zKSBSR (zp2 rfl (zNSR (zp2 rfl ?_)))
  refine zp1 rfl ?_
  obtain ⟨y1, hy1, hF⟩ := qd hF
  have he1 := qg hy1
  obtain ⟨b2, o_2, q1, cs3, hp1, hq1, -, hr2, hc3⟩ := s1.at hy1
  obtain ⟨p3, k2, p4, k3, rfl, s2, s3⟩ := qaD hr2
  refine zxe hp1 hq1 he1 rfl (zc 0 (hc3.below h.below) rfl ?_)
  obtain ⟨r1, hr3, hF⟩ := qd hF
  refine qm r1 h call161 (qiI (qf5 y1 (h.oldS s2) (h.oldS s3)) (h.old ha2) hr3) rfl rfl rfl rfl ?_
  intro w2 h
  refine qb ?_
  refine qp rfl hF ?_ ?_ <;> intro hF
  ·refine zSR (zp2 rfl (qb ?_))
   obtain rfl := qj hF; replace hF := hK1
   exact qar qc h hF ⟨rfl, trivial⟩
  exact zKER (zp2 rfl (qb (qy m1 [(0, _), (1, _), (7, _), (8, _)] (Nat.lt_succ_self m1) ⟨rfl, rfl, rfl, rfl, trivial⟩ ⟨_, hF, rfl, h⟩)))
 refine qF rfl ?_
 obtain rfl := qj hF; replace hF := hK1
 exact zSR (zp1 rfl (qb (qar qc h hF ⟨rfl, trivial⟩)))

def qac (n : Nat) (s : (List qah)) (f_0 : Tplace) : Option Bool :=
 (qaE n s f_0).bind fun r1 =>
 some (decide (r1 ≥ 0))

theorem qd0 {n : Nat} {w : World} {s : (List qah)} {f_0 : Tplace} {cs1 : List Value} (ha1 : GoT.R w (old w) s cs1) {p2 : Option Addr} (ha2 : GoT.R w (old w) (some f_0) [.pointer p2]) {r : Bool} (hF : qac n s f_0 = some r) : RetV Tryz.prog 160 [GoT.v (List qah) cs1, .func (.func 161) #[] #[.pointer p2]] w r := by
 obtain ⟨p1, k1, rfl, s1⟩ := ha1
 obtain ⟨b1, o_1, cs2, rfl, -, hr1, hc1⟩ := PtR.get ha2 rfl
 obtain rfl := qdE hr1
 refine qf Tryz.func160 rfl (m := 9) rfl rfl (fun h => ?_)
 rw [qac] at hF
 refine zSR (zp1 rfl (zNSR (zp2 rfl ?_)))
 obtain ⟨r1, hr2, hF⟩ := qd hF
 refine qN r1 h call191 (qeb ⟨_, _, rfl, (h.oldS s1)⟩ (h.old ha2) hr2) rfl rfl rfl rfl ?_
 intro w1 h
 exact zp2 rfl (qb (qx qc h hF ⟨rfl, trivial⟩))

end Go.Fw


namespace Go.Fw
open Go Go.Proofs
open Go.RowKit (Below)
set_option maxRecDepth 100000
set_option maxHeartbeats 1600000
def qam (a_0 : (Option Tview)) (y1 : Tview) (y2 : Tplace) : Nat → (List Int) → Int → Option ((List Int) × Int)
 | 0, _, _ => none
 | n + 1, x1, i1 =>
  bif decide (i1 < (y1.places.length : Int)) then
   (idx y1.places i1).bind fun y3 =>
   bif (y3.net == y2.net) then
    bif (!y3.drives) then
     (qdD n a_0 y3).bind fun r1 =>
     bif (!r1) then
      (appS x1 ([i1] : List Int)).bind fun x2 =>
      qam a_0 y1 y2 n x2 (W64 (i1 + 1))
     else
      qam a_0 y1 y2 n x1 (W64 (i1 + 1))
    else
     qam a_0 y1 y2 n x1 (W64 (i1 + 1))
   else
    qam a_0 y1 y2 n x1 (W64 (i1 + 1))
  else
   some (x1, i1)

def qdO (n : Nat) (a_0 : (Option Tview)) (a_1 : Int) : Option (List Int) :=
 (a_0).bind fun y1 =>
 (idx y1.places a_1).bind fun y2 =>
 bif y2.drives then
  (qam a_0 y1 y2 n ([] : List Int) 0).bind fun o => match o with
  | (x1, _) =>
   some x1
 else
  bif decide (y2.instance_ < 0) then
   some []
  else
   (qeY n (⟨(⟨y1.Block.Library.Cells⟩ : qw), (⟨y1.Block.Design.Instances, y1.Block.Design.Nets, y1.Block.Design.Ports⟩ : ql), y1.Block.Wires⟩ : qz) y2.instance_).bind fun r2 =>
   (qac n r2.Arcs y2).bind fun r3 =>
   bif r3 then
    (qcj n r2).bind fun r4 =>
    some ([W64 ((W64 (a_1 - y2.pin)) + r4)] : List Int)
   else
    some []

theorem qi8 {n : Nat} {w : World} {a_0 : (Option Tview)} {a_1 : Int} {cs1 : List Value} (ha1 : GoT.R w (old w) a_0 cs1) {r : (List Int)} (hF : qdO n a_0 a_1 = some r) : RetV Tryz.prog 115 [GoT.v (Option Tview) cs1, .int .i64 a_1] w r := by
 obtain ⟨p1, rfl, s1⟩ := qhb ha1
 refine qf Tryz.func115 rfl (m := 73) rfl rfl (fun h => ?_)
 rw [qdO] at hF
 refine zSR (zp1 rfl (zNSR (zp1 rfl ?_)))
 obtain ⟨y1, hy1, hF⟩ := qd hF
 obtain ⟨b1, o_1, cs2, rfl, -, hr1, hc1⟩ := PtR.get s1 hy1
 obtain ⟨p2, k1, p3, k2, p4, k3, p5, k4, p6, k5, p7, k6, p8, k7, p9, k8, p10, k9, p11, k10, rfl, s2, s3, s4, s5, s6, s7, s8, s9, s10, s11⟩ := qjA hr1
 refine zp2 rfl (zc 5 (hc1.below h.below) rfl (zp1 rfl ?_))
 obtain ⟨y2, hy2, hF⟩ := qd hF
 have he1 := qg hy2
 obtain ⟨b2, o_2, q1, cs3, hp1, hq1, -, hr2, hc2⟩ := s7.at hy2
 obtain rfl := qdE hr2
 refine zxe hp1 hq1 he1 rfl (zc 0 (hc2.below h.below) rfl (qT qc h rfl rfl rfl ?_))
 intro w1 bb1 h
 refine zs 0 h rfl ?_
 intro w2 h
 refine zNSR (zp1 rfl (zNSSR (zp1 rfl (zl 0 3 h rfl (qb ?_)))))
 refine qp rfl hF ?_ ?_ <;> intro hF
 ·refine zSSR (zp3 rfl (zc 5 (hc1.below h.below) rfl (zp2 rfl (qb ?_))))
  replace h := h.nil (α := Int)
  obtain ⟨o1, hF, hK1⟩ := qd hF
  refine qA (qW [(0, _), (5, _), (6, _), (22, _), (23, _), (24, _)] ⟨rfl, rfl, rfl, rfl, rfl, rfl, trivial⟩ ?_)
  refine qG (fun m e w' => ∃ (S1 : Nat → Prop) (p12 : Option Addr) (ln1 : Nat) (k11 : Nat) (x1 : (List Int)) (i1 : Int), qam a_0 y1 y2 m x1 i1 = some o1 ∧ e = [(0, .pointer (some ⟨b1, o_1, none⟩)), (5, .pointer (some ⟨bb1, 0, none⟩)), (6, .slice p12 ln1 k11), (22, .slice p7 y1.places.length k6), (23, .int .i64 (y1.places.length : Int)), (24, .int .i64 i1)] ∧ SH w w' [Ch.own S1 (x1 : List Int) [.slice p12 ln1 k11], Ch.box bb1 [.int .i64 y2.instance_, .int .i64 y2.pin, .int .i64 y2.net, .bool y2.drives] 156]) n ⟨_, _, _, _, _, _, hF, rfl, h⟩ ?_
  rintro m1 e1 w3 ⟨S1, p12, ln1, k11, x1, i1, hF, rfl, h⟩
  obtain rfl := (h.sl 0 rfl).2
  rcases m1 with _ | m1
  ·rw [qam] at hF
   cases hF
  rw [qam] at hF
  refine zSR (zp1 rfl (zNS ?_))
  refine qp rfl hF ?_ ?_ <;> intro hF
  ·refine zKSBSR (zp1 rfl ?_)
   obtain ⟨y3, hy3, hF⟩ := qd hF
   have he2 := qg hy3
   obtain ⟨b3, o_3, q2, cs4, hp2, hq2, -, hr3, hc5⟩ := s7.at hy3
   obtain rfl := qdE hr3
   refine zxe hp2 hq2 he2 rfl (zc 0 (hc5.below h.below) rfl (qT qc h rfl rfl rfl ?_))
   intro w4 bb2 h
   refine zp1 rfl (zs 0 h rfl ?_)
   intro w5 h
   refine zNSR (zp1 rfl (zl 0 2 h rfl (zp1 rfl (zl 2 2 h rfl (zp2 rfl ?_)))))
   by_cases hc6 : (y3.net == y2.net) = true
   ·replace hF := bifT hc6 hF
    refine qC hc6 (t := 34) rfl (qa rfl (zp1 rfl (qa rfl (zl 0 3 h rfl (qa rfl (zp3 rfl ?_))))))
    by_cases hc7 : (!y3.drives) = true
    ·replace hF := bifT hc7 hF
     refine qC hc7 (t := 39) rfl (qa rfl (zp1 rfl (qa rfl (zl 0 0 h rfl (qa rfl ?_)))))
     obtain ⟨r1, hr4, hF⟩ := qd hF
     refine qm r1 h call158 (qi3 (h.old s1) (qhK y3) hr4) rfl rfl rfl rfl ?_
     intro w6 h
     refine qa rfl (zp2 rfl (qb ?_))
     refine qp rfl hF ?_ ?_ <;> intro hF
     ·refine qB (zp2 rfl (qaN qc [.tmp 46] _ ([i1] : List Int) h rfl rfl rfl rfl rfl rfl rfl rfl rfl ⟨rfl, trivial⟩ rfl ?_))
      intro w7 p13 S2 h
      obtain ⟨x2, hx1, hF⟩ := qd hF
      obtain ⟨g1, hx1⟩ := qbm hx1
      refine qeC qc 2 h rfl (h.sl 0 rfl).1 (h.sl 0 rfl).2 rfl rfl rfl rfl rfl rfl rfl rfl rfl g1 hx1 rfl ?_
      intro w8 p14 k12 S3 h
      refine zp1 rfl (zNER (zp2 rfl (qb ?_)))
      replace h := h.pick [2, 3] rfl
      exact qy m1 [(0, _), (5, _), (6, _), (22, _), (23, _), (24, _)] (Nat.lt_succ_self m1) ⟨rfl, rfl, rfl, rfl, rfl, rfl, trivial⟩ ⟨_, _, _, _, _, _, hF, rfl, h⟩
     refine zKER (zp2 rfl (qb ?_))
     replace h := h.pick [1, 2] rfl
     exact qy m1 [(0, _), (5, _), (6, _), (22, _), (23, _), (24, _)] (Nat.lt_succ_self m1) ⟨rfl, rfl, rfl, rfl, rfl, rfl, trivial⟩ ⟨_, _, _, _, _, _, hF, rfl, h⟩
    replace hc7 := zb hc7
    replace hF := bifF hc7 hF
    refine qD hc7 (t := 39) rfl (zn4 rfl (zp1 rfl (qb (qcG rfl rfl (zKER (zp1 rfl ?_))))))
    refine zp1 rfl (qb ?_)
    replace h := h.pick [1, 2] rfl
    exact qy m1 [(0, _), (5, _), (6, _), (22, _), (23, _), (24, _)] (Nat.lt_succ_self m1) ⟨rfl, rfl, rfl, rfl, rfl, rfl, trivial⟩ ⟨_, _, _, _, _, _, hF, rfl, h⟩
   replace hc6 := zb hc6
   replace hF := bifF hc6 hF
   refine qD hc6 (t := 34) rfl (zn3 rfl (zp2 rfl (zn4 rfl (zp1 rfl (qb ?_)))))
   refine qcG rfl rfl (zKER (zp2 rfl (qb ?_)))
   replace h := h.pick [1, 2] rfl
   exact qy m1 [(0, _), (5, _), (6, _), (22, _), (23, _), (24, _)] (Nat.lt_succ_self m1) ⟨rfl, rfl, rfl, rfl, rfl, rfl, trivial⟩ ⟨_, _, _, _, _, _, hF, rfl, h⟩
  refine qF rfl ?_
  obtain rfl := qj hF; replace hF := hK1
  refine zSR (zp2 rfl (qb ?_))
  obtain rfl := qj hF
  exact qad qc (ρ := (List Int)) [GoT.v (List Int) [.slice p12 x1.length k11]] h ⟨rfl, trivial⟩ (PV.done h (qai (qaB 0 h rfl)))
 refine zKSSR (zp1 rfl (zl 0 0 h rfl (zp1 rfl (qb ?_))))
 refine qp rfl hF ?_ ?_ <;> intro hF
 ·refine zSR (zp1 rfl (qb ?_))
  obtain rfl := qj hF
  exact qad qc (ρ := (List Int)) [GoT.v (List Int) [.slice none 0 0]] h ⟨rfl, trivial⟩ (PV.done h (qai qnP))
 refine zKS ?_
 refine qfO [] (fun w' => SH w w' [Ch.box bb1 [.int .i64 y2.instance_, .int .i64 y2.pin, .int .i64 y2.net, .bool y2.drives] 156]) rfl 9 rfl #[ff, ff, ff, ff, ff, ff, ff, ff, ff] (by kernel_rfl) (fun w9 hb => ?_)
 replace h := h.ext hb
 clear hb
 refine qk 0 rfl #[tt, ff, ff, ff, ff, ff, ff, ff, ff] (by kernel_rfl) (by kernel_rfl) (fun w' hw => v_p qc rfl w') (h.pick [0] rfl) rfl ?_
 refine qk 1 rfl #[tt, tt, ff, ff, ff, ff, ff, ff, ff] (by kernel_rfl) (by kernel_rfl) (fun w' hw => v_p qc rfl w') (h.pick [0] rfl) rfl ?_
 refine qk 2 rfl #[tt, tt, tt, ff, ff, ff, ff, ff, ff] (by kernel_rfl) (by kernel_rfl) (fun w' hw => v_p qc rfl w') (h.pick [0] rfl) rfl ?_
 refine qk 3 rfl #[tt, tt, tt, tt, ff, ff, ff, ff, ff] (by kernel_rfl) (by kernel_rfl) (fun w' hw => qbE qc (hc1.below hw.below) (j := 0) rfl rfl rfl) (h.pick [0] rfl) rfl ?_
 refine qk 4 rfl #[tt, tt, tt, tt, tt, ff, ff, ff, ff] (by kernel_rfl) (by kernel_rfl) (fun w' hw => v_p qc rfl w') (h.pick [0] rfl) rfl ?_
 refine qk 5 rfl #[tt, tt, tt, tt, tt, tt, ff, ff, ff] (by kernel_rfl) (by kernel_rfl) (fun w' hw => qbE qc (hw.box 0 rfl) (j := 0) rfl rfl rfl) (h.pick [0] rfl) rfl ?_
 obtain ⟨r2, hr5, hF⟩ := qd hF
 refine qpB (fun e w' => ∃ (bb9 : Nat) (p33 : Option Addr) (k31 : Nat) (p34 : Option Addr) (k32 : Nat) (p35 : Option Addr) (k33 : Nat) (S10 : Nat → Prop), e = [(1, .int .i64 a_1), (5, .pointer (some ⟨bb1, 0, none⟩)), (9, .pointer (some ⟨bb9, 0, none⟩))] ∧ SH w w' [Ch.box bb9 [.string r2.Name, .int .i64 r2.Kind, .slice p33 r2.Pins.length k31, .slice p34 r2.Arcs.length k32, .slice p35 r2.Truth.length k33, .int .i64 r2.Leak, .int .i64 r2.Energy] 183, Ch.grp (old w) S10 [fct (r2 : qE) [.string r2.Name, .int .i64 r2.Kind, .slice p33 r2.Pins.length k31, .slice p34 r2.Arcs.length k32, .slice p35 r2.Truth.length k33, .int .i64 r2.Leak, .int .i64 r2.Energy]], Ch.box bb1 [.int .i64 y2.instance_, .int .i64 y2.pin, .int .i64 y2.net, .bool y2.drives] 156]) 0 #[tt, tt, tt, tt, tt, tt, tt, tt, tt] ?_ ?_
 ·intro K
  refine qr3 6 7 rfl rfl #[tt, tt, tt, tt, tt, tt, tt, ff, ff] #[tt, tt, tt, tt, tt, tt, ff, tt, ff] (by kernel_rfl) (by kernel_rfl) (by kernel_rfl) ?_ ?_
  ·have hg4 : Rg (old w) w (old w) w := .start (fun _ h => h)
   refine ql9 r2 hg4 h call159 (qh6 (hg4.atB h) (qmI (⟨(⟨y1.Block.Library.Cells⟩ : qw), (⟨y1.Block.Design.Instances, y1.Block.Design.Nets, y1.Block.Design.Ports⟩ : ql), y1.Block.Wires⟩ : qz) (hg4.inBS h s2) (hg4.inBS h s3) (hg4.inBS h s4) (hg4.inBS h s5) (hg4.inBS h s6)) hr5) rfl rfl rfl rfl ?_
   intro w20 us4 S8 h hv4
   obtain ⟨cs8, rfl, hr12⟩ := qly hv4
   have hr13 := hr12
   obtain ⟨p27, k25, p28, k26, p29, k27, rfl, s21, s22, s23⟩ := qaa hr12
   replace h := h.grpAdd 0 rfl hr13
   refine qao (fun _ => (h.pick [1] rfl)) ?_
   refine qax 7 rfl #[tt, tt, tt, tt, tt, tt, tt, tt, ff] (by kernel_rfl) (by kernel_rfl) ?_
   refine qT qc h rfl rfl rfl ?_
   intro w21 bb7 h
   refine qao (fun _ => (h.pick [2] rfl)) ?_
   refine qax 8 rfl #[tt, tt, tt, tt, tt, tt, tt, tt, tt] (by kernel_rfl) (by kernel_rfl) ?_
   refine zs 0 h rfl ?_
   intro w22 h
   replace h : SH _ _ [Ch.box bb7 [.string r2.Name, .int .i64 r2.Kind, .slice p27 r2.Pins.length k25, .slice p28 r2.Arcs.length k26, .slice p29 r2.Truth.length k27, .int .i64 r2.Leak, .int .i64 r2.Energy] 183, Ch.grp (old w) S8 [fct (r2 : qE) [.string r2.Name, .int .i64 r2.Kind, .slice p27 r2.Pins.length k25, .slice p28 r2.Arcs.length k26, .slice p29 r2.Truth.length k27, .int .i64 r2.Leak, .int .i64 r2.Energy]], Ch.box bb1 [.int .i64 y2.instance_, .int .i64 y2.pin, .int .i64 y2.net, .bool y2.drives] 156] := h
   refine qao (fun _ => (h.pick [2] rfl)) ?_
   exact qpG [(1, _), (5, _), (9, _)] ⟨rfl, rfl, rfl, trivial⟩ (K _ _ ⟨_, _, _, _, _, _, _, _, rfl, h⟩)
  refine qT qc h rfl rfl rfl ?_
  intro w23 bb8 h
  refine qao (fun _ => (h.pick [1] rfl)) ?_
  refine qax 6 rfl #[tt, tt, tt, tt, tt, tt, tt, tt, ff] (by kernel_rfl) (by kernel_rfl) ?_
  have hg5 : Rg (old w) w (old w) w := .start (fun _ h => h)
  refine ql9 r2 hg5 h call159 (qh6 (hg5.atB h) (qmI (⟨(⟨y1.Block.Library.Cells⟩ : qw), (⟨y1.Block.Design.Instances, y1.Block.Design.Nets, y1.Block.Design.Ports⟩ : ql), y1.Block.Wires⟩ : qz) (hg5.inBS h s2) (hg5.inBS h s3) (hg5.inBS h s4) (hg5.inBS h s5) (hg5.inBS h s6)) hr5) rfl rfl rfl rfl ?_
  intro w24 us5 S9 h hv5
  obtain ⟨cs9, rfl, hr14⟩ := qly hv5
  have hr15 := hr14
  obtain ⟨p30, k28, p31, k29, p32, k30, rfl, s24, s25, s26⟩ := qaa hr14
  replace h := h.grpAdd 0 rfl hr15
  refine qao (fun _ => (h.pick [2] rfl)) ?_
  refine qax 8 rfl #[tt, tt, tt, tt, tt, tt, tt, tt, tt] (by kernel_rfl) (by kernel_rfl) ?_
  refine zs 1 h rfl ?_
  intro w25 h
  refine qao (fun _ => (h.pick [2] rfl)) ?_
  replace h := h.pick [1, 0, 2] rfl
  exact qpG [(1, _), (5, _), (9, _)] ⟨rfl, rfl, rfl, trivial⟩ (K _ _ ⟨_, _, _, _, _, _, _, _, rfl, h⟩)
 rintro e3 w26 ⟨bb9, p33, k31, p34, k32, p35, k33, S10, rfl, h⟩
 refine qdn (by kernel_rfl) ?_
 refine zSSR (zp1 rfl (zl 0 3 h rfl (zp1 rfl ?_)))
 obtain ⟨r3, hr16, hF⟩ := qd hF
 refine qm r3 h call160 (qd0 ⟨_, _, rfl, (qhM (h.grp 1 0 rfl rfl)).2.1.1⟩ (qh8 (x := y2) 2 h rfl (qhK y2)) hr16) rfl rfl rfl rfl ?_
 intro w27 h
 refine qb ?_
 refine qp rfl hF ?_ ?_ <;> intro hF
 ·refine qbl ?_
  refine qfO [] (fun w' => SH w w' [Ch.box bb9 [.string r2.Name, .int .i64 r2.Kind, .slice p33 r2.Pins.length k31, .slice p34 r2.Arcs.length k32, .slice p35 r2.Truth.length k33, .int .i64 r2.Leak, .int .i64 r2.Energy] 183, Ch.box bb1 [.int .i64 y2.instance_, .int .i64 y2.pin, .int .i64 y2.net, .bool y2.drives] 156]) rfl 9 rfl #[ff, ff, ff, ff, ff, ff, ff, ff, ff] (by kernel_rfl) (fun w28 hb => ?_)
  replace h := h.ext hb
  clear hb
  refine qk 0 rfl #[tt, ff, ff, ff, ff, ff, ff, ff, ff] (by kernel_rfl) (by kernel_rfl) (fun w' hw => v_p qc rfl w') (h.pick [0, 2] rfl) rfl ?_
  refine qk 1 rfl #[tt, tt, ff, ff, ff, ff, ff, ff, ff] (by kernel_rfl) (by kernel_rfl) (fun w' hw => v_p qc rfl w') (h.pick [0, 2] rfl) rfl ?_
  refine qk 2 rfl #[tt, tt, tt, ff, ff, ff, ff, ff, ff] (by kernel_rfl) (by kernel_rfl) (fun w' hw => qbE qc (hw.box 1 rfl) (j := 1) rfl rfl rfl) (h.pick [0, 2] rfl) rfl ?_
  refine qk 3 rfl #[tt, tt, tt, tt, ff, ff, ff, ff, ff] (by kernel_rfl) (by kernel_rfl) (fun w' hw => v_p qc rfl w') (h.pick [0, 2] rfl) rfl ?_
  refine qk 4 rfl #[tt, tt, tt, tt, tt, ff, ff, ff, ff] (by kernel_rfl) (by kernel_rfl) (fun w' hw => qbE qc (hw.box 0 rfl) (j := 0) rfl rfl rfl) (h.pick [0, 2] rfl) rfl ?_
  refine qax 5 rfl #[tt, tt, tt, tt, tt, tt, ff, ff, ff] (by kernel_rfl) (by kernel_rfl) ?_
  obtain ⟨r4, hr17, hF⟩ := qd hF
  refine qN r4 h call163 (qe5 (h.grp 1 0 rfl rfl) hr17) rfl rfl rfl rfl ?_
  intro w29 h
  refine qao (fun _ => (h.pick [0, 2] rfl)) ?_
  refine qk 6 rfl #[tt, tt, tt, tt, tt, tt, tt, ff, ff] (by kernel_rfl) (by kernel_rfl) (fun w' hw => v_p qc rfl w') (h.pick [0, 2] rfl) rfl ?_
  refine qax 7 rfl #[tt, tt, tt, tt, tt, tt, tt, tt, ff] (by kernel_rfl) (by kernel_rfl) ?_
  refine qaN qc [.tmp 71] _ ([W64 ((W64 (a_1 - y2.pin)) + r4)] : List Int) h rfl rfl rfl rfl rfl rfl rfl rfl rfl ⟨rfl, trivial⟩ rfl ?_
  intro w30 p36 S11 h
  refine qao (fun _ => (h.pick [1, 3] rfl)) ?_
  refine qk 8 rfl #[tt, tt, tt, tt, tt, tt, tt, tt, tt] (by kernel_rfl) (by kernel_rfl) (fun w' hw => v_p qc rfl w') (h.pick [1, 3] rfl) rfl ?_
  refine qdn (by kernel_rfl) ?_
  replace h := h.pick [0, 1, 3] rfl
  obtain rfl := qj hF
  exact qad qc (ρ := (List Int)) [GoT.v (List Int) [.slice p36 1 1]] h ⟨rfl, trivial⟩ (PV.done h (qai (qaB 0 h rfl)))
 refine zKSR (zp1 rfl (qb ?_))
 replace h := h.pick [0, 2] rfl
 obtain rfl := qj hF
 exact qad qc (ρ := (List Int)) [GoT.v (List Int) [.slice none 0 0]] h ⟨rfl, trivial⟩ (PV.done h (qai qnP))

end Go.Fw


namespace Go.Fw
open Go
set_option maxRecDepth 100000

theorem qnl {d : ql} {k : Int} {n i : Nat} (hi : i < (sinksL d k n).length) : ∃ y : Nat, y < n ∧ idx (sinksL d k n) (i : Int) = some (y : Int) ∧ snkQ d k y = true := by
  rw [qgN hi]
  have hm : (sinksL d k n)[i] ∈ sinksL d k n := List.getElem_mem hi
  generalize (sinksL d k n)[i] = z at hm
  unfold sinksL at hm
  obtain ⟨y, hy, rfl⟩ := List.mem_map.1 hm
  obtain ⟨h1, h2⟩ := List.mem_filter.1 hy
  exact ⟨y, List.mem_range.1 h1, rfl, h2⟩

theorem qmX {d : ql} {k : Int} (h : smallD d) : Ev (fun n => qeN n d k) (sinksL d k (places d).length) := by
  have hl := qcq h
  have hL : Ev (fun n => qaP k (places d) n ([] : List Int) 0) (sinksL d k (places d).length, ((places d).length : Int)) := by
    refine loopF (Lf := qaP k (places d)) (S := fun j => sinksL d k j) (len := (places d).length) (fun n => ?_) (fun j hj X hX => ?_)
    · simp only [qaP, qv (Nat.le_refl _), cond_false]
    · have hc : (sinksL d k j).length + [(j : Int)].length ≤ 2147483648 := by
        rw [qfm]
        have : cntP (snkQ d k) j ≤ j := qeR
        simp; omega
      simp only [qaP, qt hj, cond_true, qaq hj, Option.bind_some, qq (show j < 9223372036854775807 by omega)]
      rw [qiM] at hX
      unfold snkQ at hX
      cases h1 : ((gt (places d) j).net == k)
      · rw [h1] at hX
        simp only [Bool.false_and, cond_false, List.append_nil] at hX ⊢
        exact hX
      · cases h2 : (gt (places d) j).drives
        · rw [h1, h2] at hX
          simp only [Bool.not_false, Bool.and_self, cond_true, qdS hc, Option.bind_some] at hX ⊢
          exact hX
        · rw [h1, h2] at hX
          simp only [Bool.not_true, Bool.and_false, cond_false, List.append_nil, cond_true] at hX ⊢
          exact hX
  unfold qeN
  exact Ev.bind (qka h) (Ev.bind hL .done)

/-- What a valid block says of a wire. -/
structure wireOk (b : qz) (i : Nat) : Prop where
  lo : 1 ≤ (gt b.Wires i).Parent.length
  hi : (gt b.Wires i).Parent.length ≤ 8
  res : (gt b.Wires i).Res.length = (gt b.Wires i).Parent.length
  cap : (gt b.Wires i).Cap.length = (gt b.Wires i).Parent.length
  par : ∀ j, 0 < j → j < (gt b.Wires i).Parent.length → 0 ≤ at0 (gt b.Wires i).Parent j ∧ at0 (gt b.Wires i).Parent j < j
  snk : (gt b.Wires i).Sink.length = (sinksL b.Design (i : Int) (places b.Design).length).length
  sin : ∀ j, j < (gt b.Wires i).Sink.length → 0 ≤ at0 (gt b.Wires i).Sink j ∧ at0 (gt b.Wires i).Sink j < (gt b.Wires i).Parent.length
theorem qjU {b : qz} (h : blockB b = true) {i : Nat} (hi : i < b.Wires.length) : wireOk b i := by
  unfold blockB at h
  rw [Bool.and_eq_true, qa1] at h
  have := h.2 i hi
  unfold wireB lenB at this
  simp only [Bool.and_eq_true, decide_eq_true_eq, beq_iff_eq] at this
  obtain ⟨⟨h1, h2⟩, h3, h4, h5, _, _, h6, h7⟩ := this
  refine ⟨h1, h2, by omega, by omega, fun j hj0 hj => ?_, ?_, fun j hj => ?_⟩
  · have := qa1.1 h5 j hj
    unfold treeB at this
    rw [show decide (j = 0) = false by simp; omega] at this
    simp only [cond_false, qc5] at this
    omega
  · rw [qfm]
    unfold snkN at h6
    omega
  · rw [qgu (d := 0), qa1] at h7
    have := h7 j hj
    rw [qc5] at this
    unfold at0
    omega
theorem qpa {b : qz} (h : blockB b = true) : b.Wires.length = b.Design.Nets.length := by
  unfold blockB at h
  simp only [Bool.and_eq_true, beq_iff_eq] at h
  omega

theorem qqu {b : qz} (h : blockB b = true) {j : Nat} (hj : j < (places b.Design).length) : ∃ c, ∀ n, qeK n b.Design b.Library (gt (places b.Design) j) = some c := by
  have hd := qbT h
  rcases qg2 hj with ⟨i, k, hi, hk, _, e⟩ | ⟨i, hi, _, e⟩
  · rw [e]
    obtain ⟨⟨c0, c1⟩, hn, _⟩ := qis hd hi
    refine ⟨(gt (gt b.Library.Cells (gt b.Design.Instances i).Cell.toNat).Pins k).Cap, fun n => ?_⟩
    unfold place1
    simp only [qeK, show decide ((i : Int) < 0) = false by simp, cond_false, qaq hi, Option.bind_some, qfU c0 c1, qaq (show k < (gt b.Library.Cells (gt b.Design.Instances i).Cell.toNat).Pins.length by omega)]
  · rw [e]
    exact ⟨0, fun n => rfl⟩

theorem qkS {b : qz} (h : blockB b = true) {i : Nat} (hi : i < b.Wires.length) : ∃ r : List Int, r.length = (gt b.Wires i).Parent.length ∧ Ev (fun n => qcM n b (i : Int)) r := by
  have hw := qjU h hi
  have hs := qa5 (qbT h)
  have hlo := hw.lo
  have hhi := hw.hi
  have hcap := hw.cap
  have hl := qcq hs
  obtain ⟨x1, i1, e1⟩ := loopE (Lf := qbg b (gt b.Wires i) (places b.Design) (sinksL b.Design (i : Int) (places b.Design).length)) (fin := fun t => (t, ((sinksL b.Design (i : Int) (places b.Design).length).length : Int))) (fun _ t => t.length = (gt b.Wires i).Parent.length) (len := (sinksL b.Design (i : Int) (places b.Design).length).length)
    (fun n t => by simp only [qbg, qv (Nat.le_refl _), cond_false])
    (fun j t hj ht => by
      obtain ⟨y, hy, ey, _⟩ := qnl hj
      obtain ⟨c, hc⟩ := qqu h hy
      have hjs : j < (gt b.Wires i).Sink.length := by rw [hw.snk]; exact hj
      have hsn := hw.sin j hjs
      have hb : j < 9223372036854775807 := by
        rw [qfm] at hj
        have : cntP (snkQ b.Design (i : Int)) (places b.Design).length ≤ (places b.Design).length := qeR
        omega
      refine ⟨setS t (at0 (gt b.Wires i).Sink j) (W64 (gt t (at0 (gt b.Wires i).Sink j).toNat + c)), by rw [qj3]; exact ht, fun X hX => ?_⟩
      simp only [qbg, qt hj, cond_true, ey, Option.bind_some, qbp hjs, qfU hsn.1 (show at0 (gt b.Wires i).Sink j < (t.length : Int) by omega), qaq hy, qq hb]
      exact Ev.bind ⟨0, fun n _ => hc n⟩ hX) 0 (Nat.zero_le _) (gt b.Wires i).Cap hcap
  obtain ⟨x2, i2, e2⟩ := loopDn (Lf := qbh (gt b.Wires i)) (fin := fun t => (t, (0 : Int))) (fun t => t.length = (gt b.Wires i).Parent.length) ((gt b.Wires i).Parent.length - 1)
    (fun n t => by simp only [qbh, show decide ((0 : Int) > 0) = false from rfl, cond_false])
    (fun j t h0 hj ht => by
      have hp := hw.par j h0 (by omega)
      refine ⟨setS t (at0 (gt b.Wires i).Parent j) (W64 (gt t (at0 (gt b.Wires i).Parent j).toNat + gt t j)), by rw [qj3]; exact ht, fun X hX => ?_⟩
      simp only [qbh, show decide ((j : Int) > 0) = true by simp; omega, cond_true, qbp (show j < (gt b.Wires i).Parent.length by omega), Option.bind_some, qfU hp.1 (show at0 (gt b.Wires i).Parent j < (t.length : Int) by omega), qaq (show j < t.length by omega), show (j : Int) - 1 = ((j - 1 : Nat) : Int) by omega, qfi (show -9223372036854775808 ≤ ((j - 1 : Nat) : Int) by omega) (by omega)]
      exact hX) x1 i1
  refine ⟨x2, i2, ?_⟩
  unfold qcM qgM
  rw [qaq hi]
  simp only [Option.bind_some, qdS (show ([] : List Int).length + (gt b.Wires i).Cap.length ≤ 2147483648 by simp; omega), List.nil_append]
  refine Ev.bind (qka hs) (Ev.bind (qmX hs) (Ev.bind e1 ?_))
  rw [qbX (show (gt b.Wires i).Cap.length ≤ 9223372036854775807 by omega), show ((gt b.Wires i).Cap.length : Int) - 1 = (((gt b.Wires i).Parent.length - 1 : Nat) : Int) by omega]
  exact Ev.bind e2 .done

theorem qmo {b : qz} (h : blockB b = true) {i : Nat} (hi : i < b.Wires.length) : ∃ r : List Int, r.length = (gt b.Wires i).Sink.length ∧ Ev (fun n => qc9 n b (i : Int)) r := by
  have hw := qjU h hi
  have hs := qa5 (qbT h)
  have hlo := hw.lo
  have hhi := hw.hi
  have hres := hw.res
  have hl := qcq hs
  have hsl : (gt b.Wires i).Sink.length ≤ 78 := by
    rw [hw.snk, qfm]
    have : cntP (snkQ b.Design (i : Int)) (places b.Design).length ≤ (places b.Design).length := qeR
    omega
  obtain ⟨r1, l1, e1⟩ := qkS h hi
  have hmk : mkS (r1.length : Int) (0 : Int) = some (List.replicate r1.length 0) := qg4 (by omega)
  obtain ⟨x2, i2, e2⟩ := loopE (Lf := qa3 (gt b.Wires i) r1 (List.replicate r1.length 0)) (fin := fun t => (t, (r1.length : Int))) (fun j t => 1 ≤ j ∧ t.length = (gt b.Wires i).Parent.length) (len := r1.length)
    (fun n t => by simp only [qa3, List.length_replicate, qv (Nat.le_refl _), cond_false])
    (fun j t hj ht => by
      obtain ⟨h1, ht⟩ := ht
      have hp := hw.par j (by omega) (by omega)
      refine ⟨setS t (j : Int) (W64 (gt t (at0 (gt b.Wires i).Parent j).toNat + W64 (at0 (gt b.Wires i).Res j * gt r1 j))), ⟨by omega, by rw [qj3]; exact ht⟩, fun X hX => ?_⟩
      simp only [qa3, List.length_replicate, qt hj, cond_true, qbp (show j < (gt b.Wires i).Parent.length by omega), Option.bind_some, qfU hp.1 (show at0 (gt b.Wires i).Parent j < (t.length : Int) by omega), qbp (show j < (gt b.Wires i).Res.length by omega), qaq hj, qaq (show j < t.length by omega), qq (show j < 9223372036854775807 by omega)]
      exact hX) 1 (by omega) (List.replicate r1.length 0) ⟨Nat.le_refl _, by rw [List.length_replicate]; exact l1⟩
  obtain ⟨x3, i3, e3⟩ := loopE (Lf := qaX x2 (gt b.Wires i)) (fin := fun t => (t, ((gt b.Wires i).Sink.length : Int))) (fun j t => t.length = j) (len := (gt b.Wires i).Sink.length)
    (fun n t => by simp only [qaX, qv (Nat.le_refl _), cond_false])
    (fun j t hj ht => by
      have hsn := hw.sin j hj
      have hx2 := i2.2
      refine ⟨t ++ [gt x2 (at0 (gt b.Wires i).Sink j).toNat], by simp [ht], fun X hX => ?_⟩
      simp only [qaX, qt hj, cond_true, qbp hj, Option.bind_some, qfU hsn.1 (show at0 (gt b.Wires i).Sink j < (x2.length : Int) by omega), qdS (show t.length + [gt x2 (at0 (gt b.Wires i).Sink j).toNat].length ≤ 2147483648 by simp; omega), qq (show j < 9223372036854775807 by omega)]
      exact hX) 0 (Nat.zero_le _) [] rfl
  refine ⟨x3, i3, ?_⟩
  unfold qc9 qey
  rw [qaq hi]
  simp only [Option.bind_some]
  refine Ev.bind (b := x2) (Ev.bind e1 ?_) (Ev.bind e3 .done)
  rw [hmk]
  simp only [Option.bind_some]
  exact Ev.bind e2 .done
end Go.Fw


namespace Go.Fw
open Go
set_option maxRecDepth 100000

instance : Inhabited qbs := ⟨⟨0, 0, 0, 0⟩⟩
instance : Inhabited qX := ⟨⟨0, 0⟩⟩

theorem qpH {α : Type} {m : Nat} {z : α} (h : m ≤ 2147483648) : mkS (m : Int) z = some (List.replicate m z) := by
  unfold mkS big
  rw [if_pos ⟨by omega, by omega⟩, Int.toNat_natCast]
theorem qpJ {α : Type} [Inhabited α] {xs : List α} {a k : Nat} {y : α} (h : k ≠ a) : gt (xs.set a y) k = gt xs k := by
  unfold gt
  rw [List.getD_eq_getElem?_getD, List.getElem?_set_ne (by omega), ← List.getD_eq_getElem?_getD]
theorem qn8 {α : Type} [Inhabited α] {xs : List α} {a : Nat} {y : α} (h : a < xs.length) : gt (xs.set a y) a = y := by
  rw [qiF (by rw [List.length_set]; exact h), List.getElem_set_self]
theorem qra {a : qah} : ∃ r : List qX, r.length ≤ 4 ∧ ∀ n, qdz n a = some r := by
  unfold qdz
  simp only [bne, qbA]
  cases (a.Kind == 2)
  · cases (a.Kind == 3)
    · cases (a.Kind == 1)
      · exact ⟨_, by decide, fun _ => rfl⟩
      · cases (a.Sense == 1)
        · cases (a.Sense == 2)
          · exact ⟨[⟨0, 0⟩, ⟨0, 1⟩, ⟨1, 0⟩, ⟨1, 1⟩], by decide, fun _ => rfl⟩
          · exact ⟨[⟨0, 1⟩, ⟨1, 0⟩], by decide, fun _ => rfl⟩
        · exact ⟨[⟨0, 0⟩, ⟨1, 1⟩], by decide, fun _ => rfl⟩
    · exact ⟨[⟨1, 0⟩, ⟨1, 1⟩], by decide, fun _ => rfl⟩
  · exact ⟨[⟨0, 0⟩, ⟨0, 1⟩], by decide, fun _ => rfl⟩

theorem qnN {b : qz} {first : Int} (h : blockB b = true) {i : Nat} (hi : i < b.Design.Instances.length) : ∃ r : List qbs, r.length ≤ 32 ∧ Ev (fun n => qdB n b (gt b.Design.Instances i) first) r := by
  obtain ⟨⟨c0, c1⟩, _, hcb⟩ := qis (qbT h) hi
  have ha := qkw hcb
  obtain ⟨x1, i1, e1⟩ := loopE (Lf := qbj first (gt b.Library.Cells (gt b.Design.Instances i).Cell.toNat)) (fin := fun t => (t, ((gt b.Library.Cells (gt b.Design.Instances i).Cell.toNat).Arcs.length : Int))) (fun j t => t.length ≤ 4 * j) (len := (gt b.Library.Cells (gt b.Design.Instances i).Cell.toNat).Arcs.length)
    (fun n t => by simp only [qbj, qv (Nat.le_refl _), cond_false])
    (fun j t hj ht => by
      obtain ⟨r, hr, er⟩ := qra (a := gt (gt b.Library.Cells (gt b.Design.Instances i).Cell.toNat).Arcs j)
      obtain ⟨x2, i2, e2⟩ := loopE (Lf := qbe first (j : Int) (gt (gt b.Library.Cells (gt b.Design.Instances i).Cell.toNat).Arcs j) r) (fin := fun t => (t, (r.length : Int))) (fun k t' => t'.length = t.length + k) (len := r.length)
        (fun n t => by simp only [qbe, qv (Nat.le_refl _), cond_false])
        (fun k t' hk ht' => ⟨t' ++ [_], by rw [List.length_append, ht', List.length_singleton]; omega, fun X hX => by
          simp only [qbe, qt hk, cond_true, qaq hk, Option.bind_some, qq (show k < 9223372036854775807 by omega)]
          rw [qdS (by rw [List.length_singleton]; omega)]
          exact hX⟩) 0 (Nat.zero_le _) t rfl
      refine ⟨x2, by omega, fun X hX => ?_⟩
      simp only [qbj, qt hj, cond_true, qaq hj, Option.bind_some, er, qq (show j < 9223372036854775807 by omega)]
      exact Ev.bind e2 hX) 0 (Nat.zero_le _) [] (Nat.le_refl _)
  refine ⟨x1, by omega, ?_⟩
  unfold qdB
  rw [qfU c0 c1]
  simp only [Option.bind_some]
  exact Ev.bind e1 .done

theorem qoJ {b : qz} (h : blockB b = true) : ∃ ls lo de, Ev (fun n => qhk n b) (some ⟨b, places b.Design, ls, lo, de, []⟩) := by
  have hd := qbT h
  have hs := qa5 hd
  have hl := qcq hs
  have hni := hs.ni
  have hnn := hs.nn
  have hwl := qpa h
  obtain ⟨⟨x1, z1⟩, i1, e1⟩ := loopE (τ := List qbs × Int) (Lf := fun n t j => qdi b n t.1 t.2 j) (fin := fun t => (t.1, t.2, (b.Design.Instances.length : Int))) (fun j t => t.1.length ≤ 32 * j) (len := b.Design.Instances.length)
    (fun n t => by simp only [qdi, qv (Nat.le_refl _), cond_false])
    (fun j t hj ht => by
      obtain ⟨r, hr, er⟩ := qnN (first := t.2) h hj
      refine ⟨(t.1 ++ r, W64 (t.2 + ((gt b.Design.Instances j).Nets.length : Int))), by rw [List.length_append]; omega, fun X hX => ?_⟩
      simp only [qdi, qt hj, cond_true, qaq hj, Option.bind_some, qan, qq (show j < 9223372036854775807 by omega)]
      have ht' : t.1.length ≤ 32 * j := ht
      refine Ev.bind er ?_
      rw [qdS (show t.1.length + r.length ≤ 2147483648 by omega)]
      exact hX) 0 (Nat.zero_le _) ([], 0) (Nat.le_refl _)
  have hm1 : mkS (b.Wires.length : Int) (0 : Int) = some (List.replicate b.Wires.length 0) := qpH (by omega)
  have hm2 : mkS (b.Wires.length : Int) ([] : List Int) = some (List.replicate b.Wires.length []) := qpH (by omega)
  obtain ⟨⟨x5, x6⟩, ⟨i5, i6, i56⟩, e2⟩ := loopE (τ := List (List Int) × List Int) (Lf := fun n t j => qcb (places b.Design) n t.1 t.2 j) (fin := fun t => (t.1, t.2, ((places b.Design).length : Int))) (fun j t => t.1.length = b.Wires.length ∧ t.2.length = b.Wires.length ∧ ∀ k, (gt t.1 k).length ≤ j) (len := (places b.Design).length)
    (fun n t => by simp only [qcb, qv (Nat.le_refl _), cond_false])
    (fun j t hj ht => by
      obtain ⟨h1, h2, h3⟩ := ht
      obtain ⟨n0, n1⟩ := qjq hd hj
      cases hdr : (gt (places b.Design) j).drives
      · refine ⟨(setS t.1 (gt (places b.Design) j).net (gt t.1 (gt (places b.Design) j).net.toNat ++ [(j : Int)]), t.2), ⟨by rw [qj3]; exact h1, h2, fun k => ?_⟩, fun X hX => ?_⟩
        · show (gt (t.1.set _ _) k).length ≤ j + 1
          by_cases hk : k = (gt (places b.Design) j).net.toNat
          · subst hk
            rw [qn8 (by omega), List.length_append, List.length_singleton]
            have := h3 (gt (places b.Design) j).net.toNat
            omega
          · rw [qpJ hk]
            have := h3 k
            omega
        · have := h3 (gt (places b.Design) j).net.toNat
          simp only [qcb, qt hj, cond_true, qaq hj, Option.bind_some, hdr, cond_false, qfU n0 (show (gt (places b.Design) j).net < (t.1.length : Int) by omega), qq (show j < 9223372036854775807 by omega)]
          rw [qdS (by rw [List.length_singleton]; omega)]
          exact hX
      · refine ⟨(t.1, setS t.2 (gt (places b.Design) j).net (j : Int)), ⟨h1, by rw [qj3]; exact h2, fun k => Nat.le_succ_of_le (h3 k)⟩, fun X hX => ?_⟩
        simp only [qcb, qt hj, cond_true, qaq hj, Option.bind_some, hdr, qfU n0 (show (gt (places b.Design) j).net < (t.2.length : Int) by omega), qq (show j < 9223372036854775807 by omega)]
        exact hX) 0 (Nat.zero_le _) (List.replicate b.Wires.length [], List.replicate b.Wires.length 0) ⟨by simp, by simp, fun k => by
      have : gt (List.replicate b.Wires.length ([] : List Int)) k = [] := by
        unfold gt
        rw [List.getD_eq_getElem?_getD, List.getElem?_replicate]
        by_cases hk : k < b.Wires.length <;> simp [hk] <;> rfl
      rw [this]; exact Nat.le_refl _⟩
  have i5 : x5.length = b.Wires.length := i5
  have i6 : x6.length = b.Wires.length := i6
  have i56 : ∀ k, (gt x5 k).length ≤ (places b.Design).length := i56
  have hL5 : ∀ (i4 i5 y7 : Int) (y8 : Int) (t : List qbs), idx x6 i4 = some y8 → t.length ≤ 1000000 → ∃ t', t'.length = t.length + 2 ∧ Ev (fun n => qcD x6 i4 i5 y7 n t 0) (t', 2) := by
    intro i4 i5 y7 y8 t hy ht
    obtain ⟨t', h1, h2⟩ := loopE (Lf := qcD x6 i4 i5 y7) (fin := fun t => (t, (2 : Int))) (fun k t' => t'.length = t.length + k) (len := 2)
      (fun n t => by simp only [qcD]; rfl)
      (fun k t' hk ht' => ⟨t' ++ [_], by rw [List.length_append, ht', List.length_singleton]; omega, fun X hX => by
        simp only [qcD, show decide ((k : Int) < 2) = true by simp; omega, cond_true, hy, Option.bind_some, qq (show k < 9223372036854775807 by omega)]
        rw [qdS (by rw [List.length_singleton]; omega)]
        exact hX⟩) 0 (Nat.zero_le _) t rfl
    exact ⟨t', h1, h2⟩
  have hL4 : ∀ (i4 y8 : Int) (y6 : List Int) (t : List qbs), idx x6 i4 = some y8 → y6.length ≤ 78 → t.length ≤ 900000 → ∃ t', t'.length = t.length + 2 * y6.length ∧ Ev (fun n => qcC x6 i4 y6 n t 0) (t', (y6.length : Int)) := by
    intro i4 y8 y6 t hy hy6 ht
    obtain ⟨t', h1, h2⟩ := loopE (Lf := qcC x6 i4 y6) (fin := fun t => (t, (y6.length : Int))) (fun k t' => t'.length = t.length + 2 * k) (len := y6.length)
      (fun n t => by simp only [qcC, qv (Nat.le_refl _), cond_false])
      (fun k t' hk ht' => by
        obtain ⟨t2, q1, q2⟩ := hL5 i4 (k : Int) (gt y6 k) y8 t' hy (by omega)
        refine ⟨t2, by omega, fun X hX => ?_⟩
        simp only [qcC, qt hk, cond_true, qaq hk, Option.bind_some, qq (show k < 9223372036854775807 by omega)]
        exact Ev.bind q2 hX) 0 (Nat.zero_le _) t rfl
    exact ⟨t', h1, h2⟩
  obtain ⟨⟨x8, x9, x10⟩, _, e3⟩ := loopE (τ := List (List Int) × List Int × List qbs) (Lf := fun n t j => qdk b x5 x6 n t.1 t.2.1 t.2.2 j) (fin := fun t => (t.1, t.2.1, t.2.2, (b.Wires.length : Int))) (fun j t => t.1.length = j ∧ t.2.1.length = j ∧ t.2.2.length ≤ 448 + 156 * j) (len := b.Wires.length)
    (fun n t => by simp only [qdk, qv (Nat.le_refl _), cond_false])
    (fun j t hj ht => by
      obtain ⟨h1, h2, h3⟩ := ht
      have h1 : t.1.length = j := h1
      have h2 : t.2.1.length = j := h2
      have h3 : t.2.2.length ≤ 448 + 156 * j := h3
      have hw := qjU h hj
      have hlo := hw.lo
      obtain ⟨r4, l4, e4⟩ := qkS h hj
      obtain ⟨r5, l5, e5⟩ := qmo h hj
      have h6 := i56 j
      have hy8 : idx x6 (j : Int) = some (gt x6 j) := qaq (by omega)
      obtain ⟨t', q1, q2⟩ := hL4 (j : Int) (gt x6 j) (gt x5 j) t.2.2 hy8 (by omega) (by omega)
      refine ⟨(t.1 ++ [r5], t.2.1 ++ [gt r4 0], t'), ⟨by simp [h1], by simp [h2], ?_⟩, fun X hX => ?_⟩
      · show t'.length ≤ _
        omega
      · simp only [qdk, qt hj, cond_true, qq (show j < 9223372036854775807 by omega)]
        refine Ev.bind e4 ?_
        rw [show idx r4 (0 : Int) = some (gt r4 0) from qaq (j := 0) (by omega)]
        simp only [Option.bind_some]
        rw [qdS (by rw [List.length_singleton]; omega)]
        simp only [Option.bind_some]
        refine Ev.bind e5 ?_
        rw [qdS (by rw [List.length_singleton]; omega), qaq (show j < x5.length by omega)]
        simp only [Option.bind_some]
        exact Ev.bind q2 hX) 0 (Nat.zero_le _) ([], [], x1) ⟨rfl, rfl, by show x1.length ≤ _; have : x1.length ≤ 32 * b.Design.Instances.length := i1; omega⟩
  refine ⟨x10, x9, x8, ?_⟩
  unfold qhk
  refine Ev.bind (qka hs) (Ev.bind e1 ?_)
  rw [hm1, hm2]
  simp only [Option.bind_some]
  exact Ev.bind e2 (Ev.bind e3 .done)
end Go.Fw


namespace Go.Fw
open Go
set_option maxRecDepth 100000

def clkB (b : qz) (p : Tplace) : Bool := bif decide (p.instance_ ≥ 0) then clkAt (cellAt b p.instance_).Pins p.pin else false

theorem qm3 {b : qz} {V : Tview} {n j : Nat} (h : blockB b = true) (hV : V.Block = b) (hj : j < (places b.Design).length) : qdD n (some V) (gt (places b.Design) j) = some (clkB b (gt (places b.Design) j)) := by
  rcases qg2 hj with ⟨i, k, hi, hk, _, e⟩ | ⟨i, hi, _, e⟩
  · obtain ⟨⟨c0, c1⟩, hn, _⟩ := qis (qbT h) hi
    rw [e]
    unfold place1 clkB clkAt cellAt
    simp only [qdD, show decide ((i : Int) ≥ 0) = true by simp, cond_true, Option.bind_some, hV, qaq hi, qfU c0 c1, qaq (show k < (gt b.Library.Cells (gt b.Design.Instances i).Cell.toNat).Pins.length by omega), Int.toNat_natCast]
  · rw [e]; rfl

theorem qms {b : qz} {j : Nat} (hok : qfG b) (h : blockB b = true) (hj : j < (places b.Design).length) : Ev (fun n => qgJ n b.Library b.Design (j : Int)) (toSp (gt (places b.Design) j), true) := by
  have hd := qbT h
  have hs := qa5 hd
  have hl := qcq hs
  unfold qgJ
  refine Ev.bind (qkO hok.Library hok.Design) (Ev.ff (by rw [hd]; rfl) (Ev.bind (qhC hs) ?_))
  simp only [qer, Option.bind_some, List.length_map, qbX (show (places b.Design).length ≤ 9223372036854775807 by omega)]
  rw [show inI (j : Int) 0 (((places b.Design).length : Int) - 1) = true from qc5.2 ⟨by omega, by omega⟩]
  simp only [Bool.not_true, cond_false]
  rw [qaq (show j < ((places b.Design).map toSp).length by simpa using hj), qla hj]
  exact .done

theorem qn9 {b : qz} {j : Nat} (hok : qfG b) (h : blockB b = true) (hj : j < (places b.Design).length) : Ev (fun n => qgx n b (j : Int)) (clkB b (gt (places b.Design) j)) := by
  unfold qgx
  refine Ev.bind (qms hok h hj) ?_
  rcases qg2 hj with ⟨i, k, hi, hk, _, e⟩ | ⟨i, hi, _, e⟩
  · obtain ⟨⟨c0, c1⟩, hn, _⟩ := qis (qbT h) hi
    rw [e]
    unfold place1 clkB clkAt cellAt toSp
    simp only [qfn, show decide ((i : Int) ≥ 0) = true by simp, cond_true, Option.bind_some, qaq hi, qfU c0 c1, qaq (show k < (gt b.Library.Cells (gt b.Design.Instances i).Cell.toNat).Pins.length by omega), Int.toNat_natCast]
    exact .done
  · rw [e]; exact .done

theorem qm8 {b : qz} {j : Nat} (hok : qfG b) (h : blockB b = true) (hj : j < (places b.Design).length) : Ev (fun n => qfB n b.Library b.Design (j : Int)) (gt (places b.Design) j).net := by
  unfold qfB
  exact Ev.bind (qms hok h hj) .done

theorem qnI {b : qz} {k : Int} (h : blockB b = true) {j : Nat} (hj : j < (places b.Design).length) (hk : (gt (places b.Design) j).net = k) (hdr : (gt (places b.Design) j).drives = true) : Ev (fun n => qf3 n b.Design k) (j : Int) := by
  have hd := qbT h
  have hs := qa5 hd
  have hl := qcq hs
  have e : ixL (fun q : Tl05Place => (q.net == k) && q.drives) ((places b.Design).map toSp) = (j : Int) := by
    refine qqL (by simpa using hj) ?_ (fun i hi hq => ?_)
    · rw [qla hj]
      show (((gt (places b.Design) j).net == k) && (gt (places b.Design) j).drives) = true
      rw [hk, hdr]; simp
    · have hi' : i < (places b.Design).length := by simpa using hi
      rw [qla hi'] at hq
      have hq' : (((gt (places b.Design) i).net == k) && (gt (places b.Design) i).drives) = true := hq
      simp only [Bool.and_eq_true, beq_iff_eq] at hq'
      exact qou hd hi' hj (by rw [hq'.1, hk]) hq'.2 hdr
  unfold qf3
  refine Ev.bind (qhC hs) ?_
  rw [← e]
  exact qei (fin := (((places b.Design).map toSp).length : Int)) (Lf := qbV k ((places b.Design).map toSp)) (pf := fun _ q => some ((q.net == k) && q.drives)) (fun _ _ => .done)
    (fun n => by simp only [qbV, qv (Nat.le_refl _), cond_false])
    (fun n j x hx => by
      have hj := (List.getElem?_eq_some_iff.1 hx).1
      have hj' : j < (places b.Design).length := by simpa using hj
      simp only [qbV, qt hj, cond_true, qaJ hx, Option.bind_some, qq (show j < 9223372036854775807 by omega)]
      cases (x.net == k) <;> cases x.drives <;> rfl)
    (fun n => by congr 1; funext o; cases o <;> rfl)

theorem qoF {b : qz} {i k : Nat} (h : blockB b = true) (hi : i < b.Design.Instances.length) (hk : k < (gt b.Design.Instances i).Nets.length) : Ev (fun n => qgj n b.Design (i : Int) (k : Int)) ((off b.Design i + k : Nat) : Int) := by
  have hd := qbT h
  have hs := qa5 hd
  have hl := qcq hs
  obtain ⟨hj, ej⟩ := qkb hi hk
  have e : ixL (fun q : Tl05Place => (q.instance_ == (i : Int)) && (q.pin == (k : Int))) ((places b.Design).map toSp) = ((off b.Design i + k : Nat) : Int) := by
    refine qqL (by simpa using hj) ?_ (fun m hm hq => ?_)
    · rw [qla hj, ej]
      unfold place1 toSp
      simp
    · have hm' : m < (places b.Design).length := by simpa using hm
      rw [qla hm'] at hq
      rcases qg2 hm' with ⟨i', k', hi', hk', em, e'⟩ | ⟨i', hi', em, e'⟩
      · rw [e'] at hq
        unfold place1 toSp at hq
        simp only [Bool.and_eq_true, beq_iff_eq] at hq
        obtain rfl : i' = i := by omega
        obtain rfl : k' = k := by omega
        exact em
      · rw [e'] at hq
        unfold place2 toSp at hq
        simp only [Bool.and_eq_true, beq_iff_eq] at hq
        omega
  unfold qgj
  refine Ev.bind (qhC hs) ?_
  rw [← e]
  exact qei (fin := (((places b.Design).map toSp).length : Int)) (Lf := qcF (i : Int) (k : Int) ((places b.Design).map toSp)) (pf := fun _ q => some ((q.instance_ == (i : Int)) && (q.pin == (k : Int)))) (fun _ _ => .done)
    (fun n => by simp only [qcF, qv (Nat.le_refl _), cond_false])
    (fun n j x hx => by
      have hj := (List.getElem?_eq_some_iff.1 hx).1
      have hj' : j < (places b.Design).length := by simpa using hj
      simp only [qcF, qt hj, cond_true, qaJ hx, Option.bind_some, qq (show j < 9223372036854775807 by omega)]
      cases (x.instance_ == (i : Int)) <;> cases (x.pin == (k : Int)) <;> rfl)
    (fun n => by congr 1; funext o; cases o <;> rfl)

/-! ### Successors -/

def freeB (b : qz) (y : Int) : Bool := !clkB b (gt (places b.Design) y.toNat)
def dataB (c : qE) (pin : Int) : Bool := c.Arcs.any fun a => (a.From == pin) && decide (a.Kind ≤ 3)
def succL (b : qz) (j : Nat) : List Int :=
  bif (gt (places b.Design) j).drives then (sinksL b.Design (gt (places b.Design) j).net (places b.Design).length).filter (freeB b)
  else bif decide ((gt (places b.Design) j).instance_ < 0) then []
  else bif dataB (cellAt b (gt (places b.Design) j).instance_) (gt (places b.Design) j).pin then [(j : Int) - (gt (places b.Design) j).pin + (((cellAt b (gt (places b.Design) j).instance_).Pins.length : Int) - 1)] else []

theorem qpc {c : qE} {p : Tplace} (hc : cellB c = true) : Ev (fun n => qac n c.Arcs p) (dataB c p.pin) := by
  have ha := qkw hc
  unfold qac
  refine Ev.bind (b := ixL (fun a : qah => (a.From == p.pin) && decide (a.Kind ≤ 3)) c.Arcs) (qei (fin := (c.Arcs.length : Int)) (Lf := qK c.Arcs p) (pf := fun n x => qcY n x p) (fun x hx => ?_)
    (fun n => by simp only [qK, qv (Nat.le_refl _), cond_false])
    (fun n j x hx => by
      have hj := (List.getElem?_eq_some_iff.1 hx).1
      simp only [qK, qt hj, cond_true, qaJ hx, Option.bind_some, qq (show j < 9223372036854775807 by omega)])
    (fun n => by unfold qaE; congr 1; funext o; cases o <;> rfl)) (Ev.now (by rw [qia]; rfl))
  obtain ⟨j, hj, rfl⟩ := List.getElem_of_mem hx
  have hk := (qoz hc hj).1
  rw [qiF hj] at hk
  refine ⟨0, fun n _ => ?_⟩
  have e : decide (c.Arcs[j].Kind ≤ 3) = ((c.Arcs[j].Kind == 1) || ((c.Arcs[j].Kind == 2) || (c.Arcs[j].Kind == 3))) := by
    rw [Bool.eq_iff_iff]; simp; omega
  rw [e]
  unfold qcY qhj
  cases (c.Arcs[j].Kind == 1) <;> cases (c.Arcs[j].Kind == 2) <;> cases (c.Arcs[j].Kind == 3) <;> simp

theorem qmY {b : qz} {V : Tview} {j : Nat} (h : blockB b = true) (hV : V.Block = b) (hP : V.places = places b.Design) (hj : j < (places b.Design).length) : Ev (fun n => qdO n (some V) (j : Int)) (succL b j) := by
  have hd := qbT h
  have hs := qa5 hd
  have hl := qcq hs
  unfold qdO succL
  simp only [Option.bind_some, hP, qaq hj]
  refine Ev.iff (fun _ => ?_) (fun _ => Ev.iff (fun _ => .done) (fun h0 => ?_))
  · have hL : Ev (fun n => qam (some V) V (gt (places b.Design) j) n ([] : List Int) 0) ((sinksL b.Design (gt (places b.Design) j).net (places b.Design).length).filter (freeB b), ((places b.Design).length : Int)) := by
      refine loopF (Lf := qam (some V) V (gt (places b.Design) j)) (S := fun m => (sinksL b.Design (gt (places b.Design) j).net m).filter (freeB b)) (len := (places b.Design).length) (fun n => ?_) (fun m hm X hX => ?_)
      · simp only [qam, hP, qv (Nat.le_refl _), cond_false]
      · have hc : ((sinksL b.Design (gt (places b.Design) j).net m).filter (freeB b)).length + [(m : Int)].length ≤ 2147483648 := by
          have h1 := List.length_filter_le (freeB b) (sinksL b.Design (gt (places b.Design) j).net m)
          rw [qfm] at h1
          have : cntP (snkQ b.Design (gt (places b.Design) j).net) m ≤ m := qeR
          rw [List.length_singleton]; omega
        simp only [qam, hP, qt hm, cond_true, qaq hm, Option.bind_some, qm3 h hV hm, qq (show m < 9223372036854775807 by omega)]
        rw [qiM] at hX
        unfold snkQ at hX
        cases h1 : ((gt (places b.Design) m).net == (gt (places b.Design) j).net)
        · rw [h1] at hX
          simp only [Bool.false_and, cond_false, List.append_nil] at hX ⊢
          exact hX
        · cases h2 : (gt (places b.Design) m).drives
          · rw [h1, h2] at hX
            simp only [Bool.not_false, Bool.and_self, cond_true, List.filter_append] at hX ⊢
            have hf : freeB b (m : Int) = !clkB b (gt (places b.Design) m) := by unfold freeB; rw [Int.toNat_natCast]
            cases h3 : clkB b (gt (places b.Design) m)
            · rw [h3] at hf
              rw [List.filter_cons_of_pos (by rw [hf]; rfl), List.filter_nil] at hX
              simp only [Bool.not_false, cond_true, qdS hc, Option.bind_some]
              exact hX
            · rw [h3] at hf
              rw [List.filter_cons_of_neg (by rw [hf]; decide), List.filter_nil, List.append_nil] at hX
              exact hX
          · rw [h1, h2] at hX
            simp only [Bool.not_true, Bool.and_false, cond_false, List.append_nil, cond_true] at hX ⊢
            exact hX
    exact Ev.bind hL .done
  · rcases qg2 hj with ⟨i, k, hi, hk, ej, e⟩ | ⟨i, hi, _, e⟩
    · obtain ⟨⟨c0, c1⟩, hn, hcb⟩ := qis hd hi
      have hxs := hs.nx i hi
      rw [e]
      have ec : cellAt b (place1 b.Design i k).instance_ = gt b.Library.Cells (gt b.Design.Instances i).Cell.toNat := by
        unfold cellAt place1; rw [Int.toNat_natCast]
      rw [ec]
      have e1 : ∀ n, qeY n V.Block (place1 b.Design i k).instance_ = some (gt b.Library.Cells (gt b.Design.Instances i).Cell.toNat) := by
        intro n
        rw [hV]
        unfold place1
        simp only [qeY, qaq hi, qfU c0 c1, Option.bind_some]
      refine Ev.bind ⟨0, fun n _ => e1 n⟩ (Ev.bind (qpc hcb) (Ev.iff (fun _ => ?_) (fun _ => .done)))
      simp only [qcj, qbG, Option.bind_some]
      refine Ev.now ?_
      have ep : (place1 b.Design i k).pin = (k : Int) := rfl
      rw [ep, qbX (by omega), qfi (show -9223372036854775808 ≤ (j : Int) - (k : Int) by omega) (by omega), qfi (by omega) (by omega)]
    · rw [e] at h0
      exact absurd h0 (by show ¬ decide ((-1 : Int) < 0) = false; decide)

theorem qob {b : qz} {j : Nat} (hok : qfG b) (h : blockB b = true) (hj : j < (places b.Design).length) : Ev (fun n => qgC n b (j : Int)) (succL b j) := by
  have hd := qbT h
  have hs := qa5 hd
  have hl := qcq hs
  obtain ⟨n0, n1⟩ := qjq hd hj
  obtain ⟨jd, hjd, nd, dd⟩ := qsf hd n0 n1
  have hsl : (sinksL b.Design (gt (places b.Design) j).net (places b.Design).length).length ≤ 78 := by
    rw [qfm]
    have : cntP (snkQ b.Design (gt (places b.Design) j).net) (places b.Design).length ≤ (places b.Design).length := qeR
    omega
  unfold qgC
  refine Ev.bind (qms hok h hj) (Ev.bind (qm8 hok h hj) (Ev.bind (qnI h hjd nd dd) ?_))
  have e0 : ((jd : Int) == (j : Int)) = (gt (places b.Design) j).drives := by
    rw [Bool.eq_iff_iff, beq_iff_eq]
    constructor
    · intro e
      obtain rfl : jd = j := by omega
      exact dd
    · intro hdj
      have := qou hd hjd hj nd dd hdj
      omega
  rw [e0]
  unfold succL
  refine Ev.iff (fun _ => ?_) (fun _ => Ev.iff (fun _ => .done) (fun h0 => ?_))
  · refine Ev.bind (qlB hs) ?_
    have hL : Ev (fun n => qbL b (sinksL b.Design (gt (places b.Design) j).net (places b.Design).length) n ([] : List Int) 0) ((sinksL b.Design (gt (places b.Design) j).net (places b.Design).length).filter (freeB b), ((sinksL b.Design (gt (places b.Design) j).net (places b.Design).length).length : Int)) := by
      refine loopF (Lf := qbL b (sinksL b.Design (gt (places b.Design) j).net (places b.Design).length)) (S := fun m => ((sinksL b.Design (gt (places b.Design) j).net (places b.Design).length).take m).filter (freeB b)) (len := (sinksL b.Design (gt (places b.Design) j).net (places b.Design).length).length) (fun n => ?_) (fun m hm X hX => ?_)
      · simp only [qbL, qv (Nat.le_refl _), cond_false, List.take_length]
      · obtain ⟨y, hy, ey, _⟩ := qnl hm
        have hc : (((sinksL b.Design (gt (places b.Design) j).net (places b.Design).length).take m).filter (freeB b)).length + [(y : Int)].length ≤ 2147483648 := by
          have h1 := List.length_filter_le (freeB b) ((sinksL b.Design (gt (places b.Design) j).net (places b.Design).length).take m)
          rw [List.length_take] at h1
          rw [List.length_singleton]; omega
        have eg : (sinksL b.Design (gt (places b.Design) j).net (places b.Design).length)[m] = (y : Int) := by
          rw [qgN hm] at ey; exact Option.some.inj ey
        rw [List.take_succ_eq_append_getElem hm, List.filter_append, eg] at hX
        simp only [qbL, qt hm, cond_true, ey, Option.bind_some, qq (show m < 9223372036854775807 by omega)]
        refine Ev.bind (qn9 hok h hy) ?_
        have hf : freeB b (y : Int) = !clkB b (gt (places b.Design) y) := by unfold freeB; rw [Int.toNat_natCast]
        cases h3 : clkB b (gt (places b.Design) y)
        · rw [h3] at hf
          rw [List.filter_cons_of_pos (by rw [hf]; rfl), List.filter_nil] at hX
          simp only [Bool.not_false, cond_true, qdS hc, Option.bind_some]
          exact hX
        · rw [h3] at hf
          rw [List.filter_cons_of_neg (by rw [hf]; decide), List.filter_nil, List.append_nil] at hX
          exact hX
    exact Ev.bind hL .done
  · rcases qg2 hj with ⟨i, k, hi, hk, ej, e⟩ | ⟨i, hi, _, e⟩
    · obtain ⟨⟨c0, c1⟩, hn, hcb⟩ := qis hd hi
      have hxs := hs.nx i hi
      rw [e]
      have ec : cellAt b (place1 b.Design i k).instance_ = gt b.Library.Cells (gt b.Design.Instances i).Cell.toNat := by
        unfold cellAt place1; rw [Int.toNat_natCast]
      rw [ec]
      have hA := qkw hcb
      have e1 : ∀ n, qfn n b (toSp (place1 b.Design i k)).instance_ = some (gt b.Library.Cells (gt b.Design.Instances i).Cell.toNat) := by
        intro n
        unfold place1 toSp
        simp only [qfn, qaq hi, qfU c0 c1, Option.bind_some]
      have e2 : Ev (fun n => qgj n b.Design (toSp (place1 b.Design i k)).instance_ (W64 (((gt b.Library.Cells (gt b.Design.Instances i).Cell.toNat).Pins.length : Int) - 1))) ((j : Int) - (k : Int) + (((gt b.Library.Cells (gt b.Design.Instances i).Cell.toNat).Pins.length : Int) - 1)) := by
        have := qoF h hi (k := (gt b.Library.Cells (gt b.Design.Instances i).Cell.toNat).Pins.length - 1) (by omega)
        rw [qbX (by omega), show ((gt b.Library.Cells (gt b.Design.Instances i).Cell.toNat).Pins.length : Int) - 1 = (((gt b.Library.Cells (gt b.Design.Instances i).Cell.toNat).Pins.length - 1 : Nat) : Int) by omega]
        refine this.cast ?_
        omega
      have hL2 : Ev (fun n => qcK b (toSp (place1 b.Design i k)) (gt b.Library.Cells (gt b.Design.Instances i).Cell.toNat) n 0) (bif ((gt b.Library.Cells (gt b.Design.Instances i).Cell.toNat).Arcs.all fun a => !((a.From == (k : Int)) && decide (a.Kind ≤ 3))) then .nxt ((gt b.Library.Cells (gt b.Design.Instances i).Cell.toNat).Arcs.length : Int) else .ret [(j : Int) - (k : Int) + (((gt b.Library.Cells (gt b.Design.Instances i).Cell.toNat).Pins.length : Int) - 1)]) :=
        qj1 (fun n => by simp only [qcK, qv (Nat.le_refl _), cond_false]) (fun m hm X hX => by
          simp only [qcK, qt hm, cond_true, qgN hm, Option.bind_some, qq (show m < 9223372036854775807 by omega)]
          rw [show (toSp (place1 b.Design i k)).pin = (k : Int) from rfl]
          refine Ev.bind (b := ((gt b.Library.Cells (gt b.Design.Instances i).Cell.toNat).Arcs[m].From == (k : Int)) && decide ((gt b.Library.Cells (gt b.Design.Instances i).Cell.toNat).Arcs[m].Kind ≤ 3)) (Ev.andP fun _ => .done) ?_
          cases (((gt b.Library.Cells (gt b.Design.Instances i).Cell.toNat).Arcs[m].From == (k : Int)) && decide ((gt b.Library.Cells (gt b.Design.Instances i).Cell.toNat).Arcs[m].Kind ≤ 3))
          · exact hX
          · exact Ev.bind e2 .done)
      refine Ev.bind ⟨0, fun n _ => e1 n⟩ (Ev.bind hL2 ?_)
      have e3 : dataB (gt b.Library.Cells (gt b.Design.Instances i).Cell.toNat) (place1 b.Design i k).pin = !((gt b.Library.Cells (gt b.Design.Instances i).Cell.toNat).Arcs.all fun a => !((a.From == (k : Int)) && decide (a.Kind ≤ 3))) := by
        unfold dataB
        rw [show (place1 b.Design i k).pin = (k : Int) from rfl, Bool.eq_iff_iff]
        simp
      rw [e3, show (place1 b.Design i k).pin = (k : Int) from rfl]
      cases ((gt b.Library.Cells (gt b.Design.Instances i).Cell.toNat).Arcs.all fun a => !((a.From == (k : Int)) && decide (a.Kind ≤ 3))) <;> exact .done
    · rw [e] at h0
      exact absurd h0 (by show ¬ decide ((-1 : Int) < 0) = false; decide)

theorem qnd {b : qz} (h : blockB b = true) {j : Nat} : (succL b j).length ≤ 78 := by
  have hs := qa5 (qbT h)
  have hl := qcq hs
  unfold succL
  cases (gt (places b.Design) j).drives
  · cases decide ((gt (places b.Design) j).instance_ < 0)
    · cases dataB (cellAt b (gt (places b.Design) j).instance_) (gt (places b.Design) j).pin
      · exact Nat.zero_le _
      · show 1 ≤ 78; omega
    · exact Nat.zero_le _
  · have h1 := List.length_filter_le (freeB b) (sinksL b.Design (gt (places b.Design) j).net (places b.Design).length)
    rw [qfm] at h1
    have : cntP (snkQ b.Design (gt (places b.Design) j).net) (places b.Design).length ≤ (places b.Design).length := qeR
    simp only [cond_true]
    omega

def inPl (b : qz) (x : Int) : Bool := inI x 0 (((places b.Design).length : Int) - 1)
end Go.Fw


namespace Go.Fw
open Go Go.Proofs
open Go.RowKit (Below)
set_option maxRecDepth 100000
set_option maxHeartbeats 1600000
def qd7 (n : Nat) (b : qz) : Option Int :=
 (qc0 n (⟨b.Design.Instances, b.Design.Nets, b.Design.Ports⟩ : ql)).bind fun r1 =>
 some (r1.length : Int)

theorem qjc {n : Nat} {w : World} {b : qz} {cs1 : List Value} (ha1 : GoT.R w (old w) b cs1) {r : Int} (hF : qd7 n b = some r) : RetV Tryz.prog 78 [GoT.v qz cs1] w r := by
 obtain ⟨p1, k1, p2, k2, p3, k3, p4, k4, p5, k5, rfl, s1, s2, s3, s4, s5⟩ := qat ha1
 refine qf Tryz.func78 rfl (m := 7) rfl rfl (fun h => ?_)
 rw [qd7] at hF
 refine zSR (qP h rfl rfl ?_)
 intro w1 bb1 h
 refine zp1 rfl (zNSR (zp1 rfl (zl 0 1 h rfl ?_)))
 obtain ⟨r1, hr1, hF⟩ := qd hF
 refine qap r1 h call124 (qeO (qbf (⟨b.Design.Instances, b.Design.Nets, b.Design.Ports⟩ : ql) (h.oldS s2) (h.oldS s3) (h.oldS s4)) hr1) rfl rfl rfl rfl ?_
 intro w2 S1 p6 k6 h
 exact zp2 rfl (qb (qar qc h hF ⟨rfl, trivial⟩))

def qbC (b : qz) (list : (List Int)) (sorted : Bool) : Nat → Int → Option (Flow Bool Int)
 | 0, _ => none
 | n + 1, i1 =>
  bif decide (i1 < (list.length : Int)) then
   (idx list i1).bind fun y1 =>
   (qd7 n b).bind fun r1 =>
   (qaA n y1 0 (W64 (r1 - 1))).bind fun r2 =>
   bif (!r2) then
    some (.ret false)
   else
    bif sorted then
     bif decide (i1 > 0) then
      (idx list (W64 (i1 - 1))).bind fun y2 =>
      (idx list i1).bind fun y3 =>
      bif decide (y2 ≥ y3) then
       some (.ret false)
      else
       qbC b list sorted n (W64 (i1 + 1))
     else
      qbC b list sorted n (W64 (i1 + 1))
    else
     qbC b list sorted n (W64 (i1 + 1))
  else
   some (.nxt i1)

def qeo (n : Nat) (b : qz) (list : (List Int)) (sorted : Bool) : Option Bool :=
 (qbC b list sorted n 0).bind fun o => match o with
 | .ret r => some r
 | .nxt _ =>
  some (decide ((list.length : Int) ≤ 4))

theorem qhv {n : Nat} {w : World} {b : qz} {list : (List Int)} {sorted : Bool} {cs1 : List Value} (ha1 : GoT.R w (old w) b cs1) {cs2 : List Value} (ha2 : GoT.R w (old w) list cs2) {r : Bool} (hF : qeo n b list sorted = some r) : RetV Tryz.prog 139 [GoT.v qz cs1, GoT.v (List Int) cs2, .bool sorted] w r := by
 obtain ⟨p1, k1, p2, k2, p3, k3, p4, k4, p5, k5, rfl, s1, s2, s3, s4, s5⟩ := qat ha1
 obtain ⟨p6, k6, rfl, s6⟩ := ha2
 refine qf Tryz.func139 rfl (m := 45) rfl rfl (fun h => ?_)
 rw [qeo] at hF
 refine zSR (qP h rfl rfl ?_)
 intro w1 bb1 h
 refine zp1 rfl (zNSSR (zp1 rfl (qb ?_)))
 obtain ⟨o1, hF, hK1⟩ := qd hF
 refine qA (qW [(1, _), (2, _), (3, _), (7, _)] ⟨rfl, rfl, rfl, rfl, trivial⟩ ?_)
 refine qG (fun m e w' => ∃ (i1 : Int), qbC b list sorted m i1 = some o1 ∧ e = [(1, .slice p6 list.length k6), (2, .bool sorted), (3, .pointer (some ⟨bb1, 0, none⟩)), (7, .int .i64 i1)] ∧ SH w w' [Ch.box bb1 [.slice p1 b.Library.Cells.length k1, .slice p2 b.Design.Instances.length k2, .slice p3 b.Design.Nets.length k3, .slice p4 b.Design.Ports.length k4, .slice p5 b.Wires.length k5] 50]) n ⟨_, hF, rfl, h⟩ ?_
 rintro m1 e1 w2 ⟨i1, hF, rfl, h⟩
 rcases m1 with _ | m1
 ·rw [qbC] at hF
  cases hF
 rw [qbC] at hF
 refine zSSR (zp4 rfl (qb ?_))
 refine qp rfl hF ?_ ?_ <;> intro hF
 ·refine zKSB (qbl ?_)
  refine qb3 rfl (by kernel_rfl) ?_
  refine zd2 rfl ?_
  obtain ⟨y1, hy1, hF⟩ := qd hF
  have he1 := qg hy1
  obtain ⟨b1, o_1, q1, cs3, hp1, hq1, -, hr1, hc2⟩ := s6.at hy1
  obtain rfl := hr1
  refine zdxe hp1 hq1 he1 rfl ?_
  refine zdc 0 (hc2.below h.below) rfl ?_
  refine zdl 0 0 h rfl ?_
  obtain ⟨r1, hr2, hF⟩ := qd hF
  refine qb7 r1 (vsI _) call78 (fun _ hb => qjc ((h.ext hb).old ha1) hr2) rfl rfl rfl rfl ?_
  refine zd1 rfl ?_
  obtain ⟨r2, hr3, hF⟩ := qd hF
  refine qb7 r2 (vsB _) call77 (fun _ hb => qal  hr3) rfl rfl rfl rfl ?_
  refine zd2 rfl ?_
  by_cases hc3 : (!r2) = true
  ·replace hF := bifT hc3 hF
   refine qch hc3 (t := 23) rfl (qi rfl rfl rfl (qi rfl rfl rfl (qi rfl rfl rfl (qi rfl rfl rfl (qi rfl rfl rfl (qi rfl rfl rfl (qi rfl rfl rfl (qi rfl rfl rfl (qi rfl rfl rfl (qi rfl rfl rfl (qi rfl rfl rfl ?_)))))))))))
   refine qi rfl rfl rfl (qi rfl rfl rfl (qi rfl rfl rfl (qi rfl rfl rfl (qi rfl rfl rfl (qi rfl rfl rfl (zd1 rfl ?_))))))
   refine qaR (fun w3 hb => ?_)
   replace h := h.ext hb
   clear hb
   refine qez rfl rfl (zSR (zp1 rfl (qb ?_)))
   obtain rfl := qj hF; replace hF := hK1
   exact qx qc h hF ⟨rfl, trivial⟩
  replace hc3 := zb hc3
  replace hF := bifF hc3 hF
  refine qci hc3 (t := 23) rfl (qh rfl (zd1 rfl (qh rfl (zd1 rfl ?_))))
  by_cases hc4 : sorted = true
  ·replace hF := bifT hc4 hF
   refine qch hc4 (t := 25) rfl (qh rfl (zd1 rfl (qh rfl (zd1 rfl (qh rfl (zd1 rfl (qh rfl (zd1 rfl ?_))))))))
   by_cases hc5 : (decide (i1 > 0)) = true
   ·replace hF := bifT hc5 hF
    refine qch hc5 (t := 29) rfl (qh rfl (zd1 rfl (qh rfl (zd1 rfl (qh rfl (zd1 rfl (qh rfl ?_)))))))
    obtain ⟨y2, hy2, hF⟩ := qd hF
    have he2 := qg hy2
    obtain ⟨b2, o_2, q2, cs4, hp2, hq2, -, hr4, hc6⟩ := s6.at hy2
    obtain rfl := hr4
    refine zdxe hp2 hq2 he2 rfl ?_
    refine qh rfl ?_
    refine zdc 0 (hc6.below h.below) rfl ?_
    refine qh rfl (zd1 rfl (qh rfl (zd1 rfl (qh rfl ?_))))
    obtain ⟨y3, hy3, hF⟩ := qd hF
    have he3 := qg hy3
    obtain ⟨b3, o_3, q3, cs5, hp3, hq3, -, hr5, hc7⟩ := s6.at hy3
    obtain rfl := hr5
    refine zdxe hp3 hq3 he3 rfl ?_
    refine qh rfl ?_
    refine zdc 0 (hc7.below h.below) rfl ?_
    refine qh rfl (zd1 rfl (qh rfl (zd2 rfl ?_)))
    refine qaR (fun w4 hb => ?_)
    replace h := h.ext hb
    clear hb
    refine qp rfl hF ?_ ?_ <;> intro hF
    ·refine zSR (zp1 rfl (qb ?_))
     obtain rfl := qj hF; replace hF := hK1
     exact qx qc h hF ⟨rfl, trivial⟩
    exact zKER (zp3 rfl (qb (qy m1 [(1, _), (2, _), (3, _), (7, _)] (Nat.lt_succ_self m1) ⟨rfl, rfl, rfl, rfl, trivial⟩ ⟨_, hF, rfl, h⟩)))
   replace hc5 := zb hc5
   replace hF := bifF hc5 hF
   refine qci hc5 (t := 29) rfl (qi rfl rfl rfl (qi rfl rfl rfl (qi rfl rfl rfl (qi rfl rfl rfl (qi rfl rfl rfl (qi rfl rfl rfl (qi rfl rfl rfl (qi rfl rfl rfl (qi rfl rfl rfl (qi rfl rfl rfl (qh rfl ?_)))))))))))
   refine zd2 rfl ?_
   refine qaR (fun w5 hb => ?_)
   replace h := h.ext hb
   clear hb
   exact qcG rfl rfl (zKER (zp3 rfl (qb (qy m1 [(1, _), (2, _), (3, _), (7, _)] (Nat.lt_succ_self m1) ⟨rfl, rfl, rfl, rfl, trivial⟩ ⟨_, hF, rfl, h⟩))))
  replace hc4 := zb hc4
  replace hF := bifF hc4 hF
  refine qci hc4 (t := 25) rfl (qi rfl rfl rfl (qi rfl rfl rfl (qh rfl (zd1 rfl (qh rfl (zd1 rfl (qi rfl rfl rfl (qi rfl rfl rfl (qi rfl rfl rfl (qi rfl rfl rfl (qi rfl rfl rfl ?_)))))))))))
  refine qi rfl rfl rfl (qi rfl rfl rfl (qi rfl rfl rfl (qi rfl rfl rfl (qi rfl rfl rfl (qh rfl (zd2 rfl ?_))))))
  refine qaR (fun w6 hb => ?_)
  replace h := h.ext hb
  clear hb
  exact qcG rfl rfl (zKER (zp3 rfl (qb (qy m1 [(1, _), (2, _), (3, _), (7, _)] (Nat.lt_succ_self m1) ⟨rfl, rfl, rfl, rfl, trivial⟩ ⟨_, hF, rfl, h⟩))))
 refine qF rfl ?_
 obtain rfl := qj hF; replace hF := hK1
 exact zSR (zp4 rfl (qb (qx qc h hF ⟨rfl, trivial⟩)))

def qe8 (n : Nat) (b : qz) (a_e : qe) : Option Bool :=
 (
  (qfv n b).bind fun r4 =>
  bif (!r4) then
   some true
  else
   (qeo n b a_e.From true).bind fun r5 =>
   bif (!r5) then
    some true
   else
    (qeo n b a_e.Through false).bind fun r6 =>
    bif (!r6) then
     some true
    else
     (qeo n b a_e.To true).bind fun r7 =>
     some (!r7)).bind fun b1 =>
 bif b1 then
  some false
 else
  bif (a_e.Kind == 1) then
   some (a_e.Value == 0)
  else
   bif (a_e.Kind == 2) then
    (qaA n a_e.Value 1 10).bind fun r1 =>
    some r1
   else
    bif (a_e.Kind == 3) then
     bif (a_e.Kind == 3) then
      (qaA n a_e.Value 0 1000000000).bind fun r2 =>
      some r2
     else
      some false
    else
     bif (a_e.Kind == 4) then
      (qaA n a_e.Value 0 1000000000).bind fun r3 =>
      some r3
     else
      some false

theorem qko {n : Nat} {w : World} {b : qz} {a_e : qe} {cs1 : List Value} (ha1 : GoT.R w (old w) b cs1) {cs2 : List Value} (ha2 : GoT.R w (old w) a_e cs2) {r : Bool} (hF : qe8 n b a_e = some r) : RetV Tryz.prog 105 [GoT.v qz cs1, GoT.v qe cs2] w r := by
 obtain ⟨p1, k1, p2, k2, p3, k3, p4, k4, p5, k5, rfl, s1, s2, s3, s4, s5⟩ := qat ha1
 obtain ⟨p6, k6, p7, k7, p8, k8, rfl, s6, s7, s8⟩ := qI ha2
 refine qf Tryz.func105 rfl (m := 47) rfl rfl (fun h => ?_)
 rw [qe8] at hF
 refine zSR (qP h rfl rfl ?_)
 intro w1 bb1 h
 refine qP h rfl rfl ?_
 intro w2 bb2 h
 refine zp1 rfl (zNSS ?_)
 obtain ⟨KF1, hKF1, o1, hF, hK1⟩ := bindE hF
 refine qdR (fun e w' => ∃ (b1 : Bool), KF1 b1 = some r ∧ e = [(3, .pointer (some ⟨bb2, 0, none⟩)), (28, .bool b1)] ∧ SH w w' [Ch.box bb2 [.int .i64 a_e.Kind, .int .i64 a_e.Value, .slice p6 a_e.From.length k6, .slice p7 a_e.Through.length k7, .slice p8 a_e.To.length k8] 87]) ?_ ?_
 ·refine qB (zl 1 0 h rfl ?_)
  obtain ⟨r4, hr4, hF⟩ := qd hF
  refine qm r4 h call104 (qic (h.old ha1) hr4) rfl rfl rfl rfl ?_
  intro w6 h
  refine zp2 rfl ?_
  by_cases hc7 : (!r4) = true
  ·replace hF := bifT hc7 hF
   refine qC hc7 (t := 8) rfl (zn5 rfl (zp2 rfl (zn4 rfl ?_)))
   refine zn1 rfl (zp2 rfl (zn5 rfl (zp1 rfl (qb ?_))))
   replace h := h.pick [0] rfl
   obtain rfl := qj hF
   exact qu [(3, _), (28, _)] ⟨rfl, rfl, trivial⟩ ⟨_, hK1, rfl, h⟩
  replace hc7 := zb hc7
  replace hF := bifF hc7 hF
  refine qD hc7 (t := 8) rfl (qa rfl (zl 1 0 h rfl (qa rfl (zp1 rfl (qa rfl (zl 0 2 h rfl (qa rfl ?_)))))))
  obtain ⟨r5, hr5, hF⟩ := qd hF
  refine qm r5 h call139 (qhv (h.old ha1) ⟨_, _, rfl, (h.oldS s6)⟩ hr5) rfl rfl rfl rfl ?_
  intro w7 h
  refine qa rfl (zp3 rfl ?_)
  by_cases hc8 : (!r5) = true
  ·replace hF := bifT hc8 hF
   refine qC hc8 (t := 15) rfl (zn5 rfl (zp2 rfl (zn4 rfl ?_)))
   refine zn1 rfl (zp1 rfl (qb ?_))
   replace h := h.pick [0] rfl
   obtain rfl := qj hF
   exact qu [(3, _), (28, _)] ⟨rfl, rfl, trivial⟩ ⟨_, hK1, rfl, h⟩
  replace hc8 := zb hc8
  replace hF := bifF hc8 hF
  refine qD hc8 (t := 15) rfl (qa rfl (zl 1 0 h rfl (qa rfl (zp1 rfl (qa rfl (zl 0 3 h rfl (qa rfl ?_)))))))
  obtain ⟨r6, hr6, hF⟩ := qd hF
  refine qm r6 h call139 (qhv (h.old ha1) ⟨_, _, rfl, (h.oldS s7)⟩ hr6) rfl rfl rfl rfl ?_
  intro w8 h
  refine qa rfl (zp3 rfl ?_)
  by_cases hc9 : (!r6) = true
  ·replace hF := bifT hc9 hF
   refine qC hc9 (t := 22) rfl (zn5 rfl (zp1 rfl (qb ?_)))
   replace h := h.pick [0] rfl
   obtain rfl := qj hF
   exact qu [(3, _), (28, _)] ⟨rfl, rfl, trivial⟩ ⟨_, hK1, rfl, h⟩
  replace hc9 := zb hc9
  replace hF := bifF hc9 hF
  refine qD hc9 (t := 22) rfl (qa rfl (zl 1 0 h rfl (qa rfl (zp1 rfl (qa rfl (zl 0 4 h rfl (qa rfl ?_)))))))
  obtain ⟨r7, hr7, hF⟩ := qd hF
  refine qm r7 h call139 (qhv (h.old ha1) ⟨_, _, rfl, (h.oldS s8)⟩ hr7) rfl rfl rfl rfl ?_
  intro w9 h
  refine qa rfl (zp2 rfl (qb ?_))
  replace h := h.pick [0] rfl
  obtain rfl := qj hF
  exact qu [(3, _), (28, _)] ⟨rfl, rfl, trivial⟩ ⟨_, hK1, rfl, h⟩
 rintro e1 w10 ⟨b1, hF, rfl, h⟩
 subst hKF1
 refine qp rfl hF ?_ ?_ <;> intro hF
 ·exact zSR (zp1 rfl (qb (qx qc h hF ⟨rfl, trivial⟩)))
 refine zKSSR (zp1 rfl (zl 0 0 h rfl (qb (zBSR (zp2 rfl ?_)))))
 refine qb ?_
 refine qp rfl hF ?_ ?_ <;> intro hF
 ·exact zSR (zp1 rfl (zl 0 1 h rfl (zp2 rfl (qb (qx qc h hF ⟨rfl, trivial⟩)))))
 refine zSR (zp2 rfl (qb ?_))
 refine qp rfl hF ?_ ?_ <;> intro hF
 ·refine zSR (zp1 rfl (zl 0 1 h rfl ?_))
  obtain ⟨r1, hr1, hF⟩ := qd hF
  refine qm r1 h call77 (qal hr1) rfl rfl rfl rfl ?_
  intro w3 h
  exact zp1 rfl (qb (qx qc h hF ⟨rfl, trivial⟩))
 refine zSSR (zp2 rfl (qb ?_))
 refine qp rfl hF ?_ ?_ <;> intro hF
 ·refine qd1 ?_
  refine qp rfl hF ?_ ?_ <;> intro hF
  ·refine zSR (zp1 rfl (zl 0 1 h rfl ?_))
   obtain ⟨r2, hr2, hF⟩ := qd hF
   refine qm r2 h call77 (qal hr2) rfl rfl rfl rfl ?_
   intro w4 h
   exact zp1 rfl (qb (qx qc h hF ⟨rfl, trivial⟩))
  exact zKE (zSR (zp1 rfl (qb (qx qc h hF ⟨rfl, trivial⟩))))
 refine qB (zp2 rfl (qb ?_))
 refine qp rfl hF ?_ ?_ <;> intro hF
 ·refine zSR (zp1 rfl (zl 0 1 h rfl ?_))
  obtain ⟨r3, hr3, hF⟩ := qd hF
  refine qm r3 h call77 (qal hr3) rfl rfl rfl rfl ?_
  intro w5 h
  exact zp1 rfl (qb (qx qc h hF ⟨rfl, trivial⟩))
 exact zKE (zSR (zp1 rfl (qb (qx qc h hF ⟨rfl, trivial⟩))))

def qbq (_ : Nat) (list : (List Tplace)) : Option Int :=
 some (list.length : Int)

theorem qgl {n : Nat} {w : World} {list : (List Tplace)} {cs1 : List Value} (ha1 : GoT.R w (old w) list cs1) {r : Int} (hF : qbq n list = some r) : RetV Tryz.prog 113 [GoT.v (List Tplace) cs1] w r := by
 obtain ⟨p1, k1, rfl, s1⟩ := ha1
 refine qf Tryz.func113 rfl (m := 5) rfl rfl (fun h => ?_)
 rw [qbq] at hF
 exact zSR (zp1 rfl (zNSR (zp3 rfl (qb (qar qc h hF ⟨rfl, trivial⟩)))))

def qg6 (n : Nat) (kind : Int) (value : Int) : Option Bool :=
 bif (kind == 1) then
  some (value == 0)
 else
  bif (kind == 2) then
   (qaY n value 1 10).bind fun r1 =>
   some r1
  else
   bif (kind == 3) then
    bif (kind == 3) then
     (qaY n value 0 1000000000).bind fun r2 =>
     some r2
    else
     some false
   else
    bif (kind == 4) then
     (qaY n value 0 1000000000).bind fun r3 =>
     some r3
    else
     some false

theorem ql1 {n : Nat} {w : World} {kind : Int} {value : Int}  {r : Bool} (hF : qg6 n kind value = some r) : RetV Tryz.prog 153 [.int .i64 kind, .int .i64 value] w r := by
 refine qf Tryz.func153 rfl (m := 19) rfl rfl (fun h => ?_)
 rw [qg6] at hF
 refine zSR (zp1 rfl (zNSSR (zp1 rfl (qb (zBSR ?_)))))
 refine zp2 rfl (qb ?_)
 refine qp rfl hF ?_ ?_ <;> intro hF
 ·exact zSR (zp3 rfl (qb (qx qc h hF ⟨rfl, trivial⟩)))
 refine zSR (zp2 rfl (qb ?_))
 refine qp rfl hF ?_ ?_ <;> intro hF
 ·refine zSR (zp1 rfl ?_)
  obtain ⟨r1, hr1, hF⟩ := qd hF
  refine qm r1 h call86 (qaF hr1) rfl rfl rfl rfl ?_
  intro w1 h
  exact zp1 rfl (qb (qx qc h hF ⟨rfl, trivial⟩))
 refine zSSR (zp2 rfl (qb ?_))
 refine qp rfl hF ?_ ?_ <;> intro hF
 ·refine qd1 ?_
  refine qp rfl hF ?_ ?_ <;> intro hF
  ·refine zSR (zp1 rfl ?_)
   obtain ⟨r2, hr2, hF⟩ := qd hF
   refine qm r2 h call86 (qaF hr2) rfl rfl rfl rfl ?_
   intro w2 h
   exact zp1 rfl (qb (qx qc h hF ⟨rfl, trivial⟩))
  exact zKE (zSR (zp1 rfl (qb (qx qc h hF ⟨rfl, trivial⟩))))
 refine qB (zp2 rfl (qb ?_))
 refine qp rfl hF ?_ ?_ <;> intro hF
 ·refine zSR (zp1 rfl ?_)
  obtain ⟨r3, hr3, hF⟩ := qd hF
  refine qm r3 h call86 (qaF hr3) rfl rfl rfl rfl ?_
  intro w3 h
  exact zp1 rfl (qb (qx qc h hF ⟨rfl, trivial⟩))
 exact zKE (zSR (zp1 rfl (qb (qx qc h hF ⟨rfl, trivial⟩))))

def qag (v : (Option Tview)) (a_e : qe) : Nat → Int → Option (Flow Bool Int)
 | 0, _ => none
 | n + 1, i1 =>
  bif decide (i1 < ((3 : Nat) : Int)) then
   (idx ([a_e.From, a_e.Through, a_e.To] : List (List Int)) i1).bind fun y1 =>
   bif decide ((y1.length : Int) > 4) then
    some (.ret false)
   else
    (v).bind fun y2 =>
    (qbq n y2.places).bind fun r1 =>
    (qby n y1 0 (W64 (r1 - 1))).bind fun r2 =>
    bif (!r2) then
     some (.ret false)
    else
     qag v a_e n (W64 (i1 + 1))
  else
   some (.nxt i1)

def qdm (n : Nat) (v : (Option Tview)) (a_e : qe) : Option Bool :=
 (qag v a_e n 0).bind fun o => match o with
 | .ret r => some r
 | .nxt _ =>
  (qg6 n a_e.Kind a_e.Value).bind fun r3 =>
  bif r3 then
   (qc4 n a_e.From).bind fun r4 =>
   bif r4 then
    (qc4 n a_e.To).bind fun r5 =>
    some r5
   else
    some false
  else
   some false

theorem qiZ {n : Nat} {w : World} {v : (Option Tview)} {a_e : qe} {cs1 : List Value} (ha1 : GoT.R w (old w) v cs1) {cs2 : List Value} (ha2 : GoT.R w (old w) a_e cs2) {r : Bool} (hF : qdm n v a_e = some r) : RetV Tryz.prog 111 [GoT.v (Option Tview) cs1, GoT.v qe cs2] w r := by
 obtain ⟨p1, rfl, s1⟩ := qhb ha1
 obtain ⟨p2, k1, p3, k2, p4, k3, rfl, s2, s3, s4⟩ := qI ha2
 refine qf Tryz.func111 rfl (m := 49) rfl rfl (fun h => ?_)
 rw [qdm] at hF
 refine zSR (qP h rfl rfl ?_)
 intro w1 bb1 h
 refine zp1 rfl (zNSSR (zp1 rfl (zl 0 2 h rfl (zp1 rfl (zl 0 3 h rfl (zp1 rfl (zl 0 4 h rfl (qlo qc [.tmp 8, .tmp 10, .tmp 12] _ ([a_e.From, a_e.Through, a_e.To] : List (List Int)) h rfl rfl rfl rfl rfl rfl rfl rfl rfl ⟨⟨_, _, rfl, s2⟩, ⟨_, _, rfl, s3⟩, ⟨_, _, rfl, s4⟩, trivial⟩ rfl ?_))))))))
 intro w2 p5 S1 h
 refine zp2 rfl (qb ?_)
 obtain ⟨o1, hF, hK1⟩ := qd hF
 refine qA (qW [(0, _), (3, _), (13, _), (14, _), (15, _)] ⟨rfl, rfl, rfl, rfl, rfl, trivial⟩ ?_)
 refine qG (fun m e w' => ∃ (i1 : Int), qag v a_e m i1 = some o1 ∧ e = [(0, .pointer p1), (3, .pointer (some ⟨bb1, 0, none⟩)), (13, .slice p5 3 3), (14, .int .i64 ((3 : Nat) : Int)), (15, .int .i64 i1)] ∧ SH w w' [Ch.rowD w S1 (([a_e.From, a_e.Through, a_e.To] : List (List Int)) : List (List Int)) p5 3, Ch.box bb1 [.int .i64 a_e.Kind, .int .i64 a_e.Value, .slice p2 a_e.From.length k1, .slice p3 a_e.Through.length k2, .slice p4 a_e.To.length k3] 87]) n ⟨_, hF, rfl, h⟩ ?_
 rintro m1 e1 w3 ⟨i1, hF, rfl, h⟩
 rcases m1 with _ | m1
 ·rw [qag] at hF
  cases hF
 rw [qag] at hF
 refine zSR (zp1 rfl (zNS ?_))
 refine qp rfl hF ?_ ?_ <;> intro hF
 ·refine zKSBSR ?_
  obtain ⟨y1, hy1, hF⟩ := qd hF
  have he1 := qg hy1
  obtain ⟨b1, o_1, q1, cs3, hp1, hq1, -, hr1, hc2⟩ := h.atD 0 rfl hy1
  obtain ⟨p6, k4, rfl, s5⟩ := hr1
  refine zxe hp1 hq1 he1 rfl (zc 0 hc2 rfl (zp1 rfl (zNSR (zp4 rfl ?_))))
  by_cases hc3 : (decide ((y1.length : Int) > 4)) = true
  ·replace hF := bifT hc3 hF
   refine qC hc3 (t := 22) rfl (zn5 rfl (zn4 rfl (zp1 rfl (qb ?_))))
   refine qez rfl rfl (zSR (zp1 rfl (qb ?_)))
   obtain rfl := qj hF; replace hF := hK1
   exact qx qc h hF ⟨rfl, trivial⟩
  replace hc3 := zb hc3
  replace hF := bifF hc3 hF
  refine qD hc3 (t := 22) rfl (qa rfl (zp1 rfl (qa rfl (zp1 rfl (qa rfl ?_)))))
  obtain ⟨y2, hy2, hF⟩ := qd hF
  obtain ⟨b2, o_2, cs4, rfl, -, hr2, hc4⟩ := PtR.get s1 hy2
  obtain ⟨p7, k5, p8, k6, p9, k7, p10, k8, p11, k9, p12, k10, p13, k11, p14, k12, p15, k13, p16, k14, rfl, s6, s7, s8, s9, s10, s11, s12, s13, s14, s15⟩ := qjA hr2
  refine zp1 rfl (qa rfl (zp1 rfl (qa rfl (zc 5 (hc4.below h.below) rfl (qa rfl ?_)))))
  obtain ⟨r1, hr3, hF⟩ := qd hF
  refine qN r1 h call113 (qgl ⟨_, _, rfl, (h.oldS s11)⟩ hr3) rfl rfl rfl rfl ?_
  intro w4 h
  refine qa rfl (zp1 rfl (qa rfl ?_))
  obtain ⟨r2, hr4, hF⟩ := qd hF
  refine qm r2 h call112 (qct ⟨_, _, rfl, (h.oldS s5)⟩ hr4) rfl rfl rfl rfl ?_
  intro w5 h
  refine qa rfl (zp2 rfl (qb ?_))
  refine qp rfl hF ?_ ?_ <;> intro hF
  ·refine zSR (zp1 rfl (qb ?_))
   obtain rfl := qj hF; replace hF := hK1
   exact qx qc h hF ⟨rfl, trivial⟩
  exact zKER (zp2 rfl (qb (qy m1 [(0, _), (3, _), (13, _), (14, _), (15, _)] (Nat.lt_succ_self m1) ⟨rfl, rfl, rfl, rfl, rfl, trivial⟩ ⟨_, hF, rfl, h⟩)))
 refine qF rfl ?_
 obtain rfl := qj hF; replace hF := hK1
 refine zSR (zp1 rfl (zl 1 0 h rfl (zp1 rfl (zl 1 1 h rfl ?_))))
 obtain ⟨r3, hr5, hF⟩ := qd hF
 refine qm r3 h call153 (ql1 hr5) rfl rfl rfl rfl ?_
 intro w6 h
 refine zp1 rfl ?_
 by_cases hc6 : r3 = true
 ·replace hF := bifT hc6 hF
  refine qC hc6 (t := 39) rfl (qa rfl (zp1 rfl (qa rfl (zl 1 2 h rfl (qa rfl ?_)))))
  obtain ⟨r4, hr6, hF⟩ := qd hF
  refine qm r4 h call154 (qf1 ⟨_, _, rfl, (h.oldS s2)⟩ hr6) rfl rfl rfl rfl ?_
  intro w7 h
  refine zp2 rfl ?_
  by_cases hc7 : r4 = true
  ·replace hF := bifT hc7 hF
   refine qC hc7 (t := 44) rfl (qa rfl (zp1 rfl (qa rfl (zl 1 4 h rfl (qa rfl ?_)))))
   obtain ⟨r5, hr7, hF⟩ := qd hF
   refine qm r5 h call154 (qf1 ⟨_, _, rfl, (h.oldS s4)⟩ hr7) rfl rfl rfl rfl ?_
   intro w8 h
   exact zp2 rfl (qb (qx qc h hF ⟨rfl, trivial⟩))
  replace hc7 := zb hc7
  replace hF := bifF hc7 hF
  exact qD hc7 (t := 44) rfl (zn3 rfl (zp2 rfl (qb (qx qc h hF ⟨rfl, trivial⟩))))
 replace hc6 := zb hc6
 replace hF := bifF hc6 hF
 refine qD hc6 (t := 39) rfl (zn3 rfl (zp2 rfl (zn3 rfl (zp2 rfl (qb ?_)))))
 exact qx qc h hF ⟨rfl, trivial⟩

def qea (n : Nat) (a : qe) (left : Int) : Option Int :=
 (qbt n a.From left).bind fun r1 =>
 bif decide (r1 < 0) then
  some (-1)
 else
  (qbt n a.Through r1).bind fun r2 =>
  bif decide (r2 < 0) then
   some (-1)
  else
   (qbt n a.To r2).bind fun r3 =>
   bif decide (r3 < 0) then
    some (-1)
   else
    some r3

theorem qks {n : Nat} {w : World} {a : qe} {left : Int} {cs1 : List Value} (ha1 : GoT.R w (old w) a cs1) {r : Int} (hF : qea n a left = some r) : RetV Tryz.prog 40 [GoT.v qe cs1, .int .i64 left] w r := by
 obtain ⟨p1, k1, p2, k2, p3, k3, rfl, s1, s2, s3⟩ := qI ha1
 refine qf Tryz.func40 rfl (m := 24) rfl rfl (fun h => ?_)
 rw [qea] at hF
 refine zSR (qP h rfl rfl ?_)
 intro w1 bb1 h
 refine zp1 rfl (zNSR (zp1 rfl (zl 0 2 h rfl (zp1 rfl ?_))))
 obtain ⟨r1, hr1, hF⟩ := qd hF
 refine qN r1 h call76 (qbn ⟨_, _, rfl, (h.oldS s1)⟩ hr1) rfl rfl rfl rfl ?_
 intro w2 h
 refine zp1 rfl (zNSSR (zp2 rfl (qb ?_)))
 refine qp rfl hF ?_ ?_ <;> intro hF
 ·exact zSR (zp1 rfl (qb (qar qc h hF ⟨rfl, trivial⟩)))
 refine zKSR (zp1 rfl (zl 0 3 h rfl (zp1 rfl ?_)))
 obtain ⟨r2, hr2, hF⟩ := qd hF
 refine qN r2 h call76 (qbn ⟨_, _, rfl, (h.oldS s2)⟩ hr2) rfl rfl rfl rfl ?_
 intro w3 h
 refine zp1 rfl (zNSSR (zp2 rfl (qb ?_)))
 refine qp rfl hF ?_ ?_ <;> intro hF
 ·exact zSR (zp1 rfl (qb (qar qc h hF ⟨rfl, trivial⟩)))
 refine zKSR (zp1 rfl (zl 0 4 h rfl (zp1 rfl ?_)))
 obtain ⟨r3, hr3, hF⟩ := qd hF
 refine qN r3 h call76 (qbn ⟨_, _, rfl, (h.oldS s3)⟩ hr3) rfl rfl rfl rfl ?_
 intro w4 h
 refine zp1 rfl (zNSSR (zp2 rfl (qb ?_)))
 refine qp rfl hF ?_ ?_ <;> intro hF
 ·exact zSR (zp1 rfl (qb (qar qc h hF ⟨rfl, trivial⟩)))
 exact zKSR (zp2 rfl (qb (qar qc h hF ⟨rfl, trivial⟩)))

def qbH (a : (List qe)) : Nat → Int → Int → Option (Flow Int (Int × Int))
 | 0, _, _ => none
 | n + 1, i1, i2 =>
  bif decide (i2 < (a.length : Int)) then
   (idx a i2).bind fun y1 =>
   (qea n y1 i1).bind fun r1 =>
   bif decide (r1 < 0) then
    some (.ret (-1))
   else
    qbH a n r1 (W64 (i2 + 1))
  else
   some (.nxt (i1, i2))

def qfS (n : Nat) (a : (List qe)) (left : Int) : Option Int :=
 bif decide ((W64 (left - (a.length : Int))) < 0) then
  some (-1)
 else
  (qbH a n (W64 (left - (a.length : Int))) 0).bind fun o => match o with
  | .ret r => some r
  | .nxt (i1, _) =>
   some i1

theorem qjY {n : Nat} {w : World} {a : (List qe)} {left : Int} {cs1 : List Value} (ha1 : GoT.R w (old w) a cs1) {r : Int} (hF : qfS n a left = some r) : RetV Tryz.prog 10 [GoT.v (List qe) cs1, .int .i64 left] w r := by
 obtain ⟨p1, k1, rfl, s1⟩ := ha1
 refine qf Tryz.func10 rfl (m := 27) rfl rfl (fun h => ?_)
 rw [qfS] at hF
 refine zSR (zp1 rfl (zNSR (zp5 rfl (qb ?_))))
 refine zSSR (zp2 rfl (qb ?_))
 refine qp rfl hF ?_ ?_ <;> intro hF
 ·exact zSR (zp1 rfl (qb (qar qc h hF ⟨rfl, trivial⟩)))
 refine zKSSR (zp1 rfl (qb ?_))
 obtain ⟨o1, hF, hK1⟩ := qd hF
 refine qA (qW [(0, _), (1, _), (5, _)] ⟨rfl, rfl, rfl, trivial⟩ ?_)
 refine qG (fun m e w' => ∃ (i1 : Int) (i2 : Int), qbH a m i1 i2 = some o1 ∧ e = [(0, .slice p1 a.length k1), (1, .int .i64 i1), (5, .int .i64 i2)] ∧ SH w w' []) n ⟨_, _, hF, rfl, h⟩ ?_
 rintro m1 e1 w1 ⟨i1, i2, hF, rfl, h⟩
 rcases m1 with _ | m1
 ·rw [qbH] at hF
  cases hF
 rw [qbH] at hF
 refine zSSR (zp4 rfl (qb ?_))
 refine qp rfl hF ?_ ?_ <;> intro hF
 ·refine zKSBSR (zp2 rfl ?_)
  obtain ⟨y1, hy1, hF⟩ := qd hF
  have he1 := qg hy1
  obtain ⟨b1, o_1, q1, cs2, hp1, hq1, -, hr1, hc3⟩ := s1.at hy1
  obtain ⟨p2, k2, p3, k3, p4, k4, rfl, s2, s3, s4⟩ := qI hr1
  refine zxe hp1 hq1 he1 rfl (zc 0 (hc3.below h.below) rfl (zp1 rfl ?_))
  obtain ⟨r1, hr2, hF⟩ := qd hF
  refine qN r1 h call40 (qks (qaO y1 (h.oldS s2) (h.oldS s3) (h.oldS s4)) hr2) rfl rfl rfl rfl ?_
  intro w2 h
  refine zp1 rfl (zNSR (zp2 rfl (qb ?_)))
  refine qp rfl hF ?_ ?_ <;> intro hF
  ·refine zSR (zp1 rfl (qb ?_))
   obtain rfl := qj hF; replace hF := hK1
   exact qar qc h hF ⟨rfl, trivial⟩
  exact zKER (zp3 rfl (qb (qy m1 [(0, _), (1, _), (5, _)] (Nat.lt_succ_self m1) ⟨rfl, rfl, rfl, trivial⟩ ⟨_, _, hF, rfl, h⟩)))
 refine qF rfl ?_
 obtain rfl := qj hF; replace hF := hK1
 exact zSR (zp2 rfl (qb (qar qc h hF ⟨rfl, trivial⟩)))

def qec (n : Nat) (a : qe) : Option qe :=
 (qaM n a.From).bind fun r1 =>
 (qaM n a.Through).bind fun r2 =>
 (qaM n a.To).bind fun r3 =>
 some (⟨a.Kind, a.Value, r1, r2, r3⟩ : qe)

theorem qkh {n : Nat} {w : World} {a : qe} {cs1 : List Value} (ha1 : GoT.R w (old w) a cs1) {r : qe} (hF : qec n a = some r) : RetV Tryz.prog 47 [GoT.v qe cs1] w r := by
 obtain ⟨p1, k1, p2, k2, p3, k3, rfl, s1, s2, s3⟩ := qI ha1
 refine qf Tryz.func47 rfl (m := 23) rfl rfl (fun h => ?_)
 rw [qec] at hF
 refine zSR (qP h rfl rfl ?_)
 intro w1 bb1 h
 refine qT qc h rfl rfl rfl ?_
 intro w2 bb2 h
 refine zNSR (qT qc h rfl rfl rfl ?_)
 intro w3 bb3 h
 refine zNSR (zp1 rfl (zl 2 0 h rfl (zp1 rfl (zs 0 h rfl ?_))))
 intro w4 h
 refine zNSR (zp1 rfl (zl 2 1 h rfl (zp1 rfl (zs 0 h rfl ?_))))
 intro w5 h
 replace h : SH _ _ [Ch.box bb3 [.int .i64 a.Kind, .int .i64 a.Value, .slice none 0 0, .slice none 0 0, .slice none 0 0] 87, Ch.box bb2 [.int .i64 0, .int .i64 0, .slice none 0 0, .slice none 0 0, .slice none 0 0] 87, Ch.box bb1 [.int .i64 a.Kind, .int .i64 a.Value, .slice p1 a.From.length k1, .slice p2 a.Through.length k2, .slice p3 a.To.length k3] 80] := h
 refine zNSR (zp1 rfl (zl 2 2 h rfl ?_))
 obtain ⟨r1, hr1, hF⟩ := qd hF
 refine qap r1 h call14 (qaK ⟨_, _, rfl, (h.oldS s1)⟩ hr1) rfl rfl rfl rfl ?_
 intro w6 S1 p4 k4 h
 refine zp1 rfl (zs 1 h rfl ?_)
 intro w7 h
 refine zNSR (zp1 rfl (zl 3 3 h rfl ?_))
 obtain ⟨r2, hr2, hF⟩ := qd hF
 refine qap r2 h call14 (qaK ⟨_, _, rfl, (h.oldS s2)⟩ hr2) rfl rfl rfl rfl ?_
 intro w8 S2 p5 k5 h
 refine zp1 rfl (zs 2 h rfl ?_)
 intro w9 h
 replace h : SH _ _ [Ch.own S2 (r2 : List Int) [.slice p5 r2.length k5], Ch.own S1 (r1 : List Int) [.slice p4 r1.length k4], Ch.box bb3 [.int .i64 a.Kind, .int .i64 a.Value, .slice p4 r1.length k4, .slice p5 r2.length k5, .slice none 0 0] 87, Ch.box bb2 [.int .i64 0, .int .i64 0, .slice none 0 0, .slice none 0 0, .slice none 0 0] 87, Ch.box bb1 [.int .i64 a.Kind, .int .i64 a.Value, .slice p1 a.From.length k1, .slice p2 a.Through.length k2, .slice p3 a.To.length k3] 80] := h
 refine zNSR (zp1 rfl (zl 4 4 h rfl ?_))
 obtain ⟨r3, hr3, hF⟩ := qd hF
 refine qap r3 h call14 (qaK ⟨_, _, rfl, (h.oldS s3)⟩ hr3) rfl rfl rfl rfl ?_
 intro w10 S3 p6 k6 h
 refine zp1 rfl (zs 3 h rfl ?_)
 intro w11 h
 refine zNSR (zl 3 0 h rfl (zs 4 h rfl ?_))
 intro w12 h
 replace h : SH _ _ [Ch.own S3 (r3 : List Int) [.slice p6 r3.length k6], Ch.own S2 (r2 : List Int) [.slice p5 r2.length k5], Ch.own S1 (r1 : List Int) [.slice p4 r1.length k4], Ch.box bb3 [.int .i64 a.Kind, .int .i64 a.Value, .slice p4 r1.length k4, .slice p5 r2.length k5, .slice p6 r3.length k6] 87, Ch.box bb2 [.int .i64 a.Kind, .int .i64 a.Value, .slice p4 r1.length k4, .slice p5 r2.length k5, .slice p6 r3.length k6] 87, Ch.box bb1 [.int .i64 a.Kind, .int .i64 a.Value, .slice p1 a.From.length k1, .slice p2 a.Through.length k2, .slice p3 a.To.length k3] 80] := h
 refine qb ?_
 obtain rfl := qj hF
 exact qad qc (ρ := qe) [GoT.v qe [.int .i64 a.Kind, .int .i64 a.Value, .slice p4 r1.length k4, .slice p5 r2.length k5, .slice p6 r3.length k6]] h ⟨⟨_, _, _, rfl, rfl, h.box 4 rfl, rfl⟩, trivial⟩ (PV.done h (qai (qm2 (⟨a.Kind, a.Value, r1, r2, r3⟩ : qe) h (qas (S := fun _ => False) rfl) (qas (S := fun _ => False) rfl) (qaB 2 h rfl) (qaB 1 h rfl) (qaB 0 h rfl) (by rfl) (by rfl) (by rfl) (by rfl))))

def qb8 (a : (List qe)) : Nat → (List qe) → Int → Option ((List qe) × Int)
 | 0, _, _ => none
 | n + 1, x2, i1 =>
  bif decide (i1 < (a.length : Int)) then
   (idx a i1).bind fun y1 =>
   (qec n y1).bind fun r1 =>
   (idx x2 i1).bind fun _ =>
   qb8 a n (setS x2 i1 r1) (W64 (i1 + 1))
  else
   some (x2, i1)

def qcW (n : Nat) (a : (List qe)) : Option (List qe) :=
 (mkS (a.length : Int) ((⟨0, 0, [], [], []⟩ : qe) : qe)).bind fun x1 =>
 (qb8 a n x1 0).bind fun o => match o with
 | (x2, _) =>
  some x2

theorem qfX {n : Nat} {w : World} {a : (List qe)} {cs1 : List Value} (ha1 : GoT.R w (old w) a cs1) {r : (List qe)} (hF : qcW n a = some r) : RetV Tryz.prog 13 [GoT.v (List qe) cs1] w r := by
 obtain ⟨p1, k1, rfl, s1⟩ := ha1
 refine qf Tryz.func13 rfl (m := 23) rfl rfl (fun h => ?_)
 rw [qcW] at hF
 refine zSR (zp1 rfl (zNSR (zp2 rfl ?_)))
 obtain ⟨x1, hx1, hF⟩ := qd hF
 obtain ⟨g1, g2, hx1⟩ := qdH hx1
 refine qeJ qc qe h rfl rfl rfl rfl rfl rfl rfl rfl rfl g1 g2 hx1 rfl ?_
 intro w1 S1 p2 h
 refine zp1 rfl (zNSSR (zp1 rfl (qb ?_)))
 obtain ⟨o1, hF, hK1⟩ := qd hF
 refine qA (qW [(0, _), (3, _), (4, _)] ⟨rfl, rfl, rfl, trivial⟩ ?_)
 refine qG (fun m e w' => ∃ (S2 : Nat → Prop) (x2 : (List qe)) (i1 : Int), qb8 a m x2 i1 = some o1 ∧ e = [(0, .slice p1 a.length k1), (3, .slice p2 x1.length x1.length), (4, .int .i64 i1)] ∧ SH w w' [Ch.own S2 (x2 : List qe) [.slice p2 x1.length x1.length]]) n ⟨_, _, _, hF, rfl, h⟩ ?_
 rintro m1 e1 w2 ⟨S2, x2, i1, hF, rfl, h⟩
 rcases m1 with _ | m1
 ·rw [qb8] at hF
  cases hF
 rw [qb8] at hF
 refine zSSR (zp4 rfl (qb ?_))
 refine qp rfl hF ?_ ?_ <;> intro hF
 ·refine zKSBR (zp4 rfl ?_)
  obtain ⟨y1, hy1, hF⟩ := qd hF
  have he1 := qg hy1
  obtain ⟨b1, o_1, q1, cs2, hp1, hq1, -, hr1, hc2⟩ := s1.at hy1
  obtain ⟨p3, k2, p4, k3, p5, k4, rfl, s2, s3, s4⟩ := qI hr1
  refine zxe hp1 hq1 he1 rfl (zc 0 (hc2.below h.below) rfl ?_)
  obtain ⟨r1, hr2, hF⟩ := qd hF
  refine qfq r1 h call47 (qkh (qaO y1 (h.oldS s2) (h.oldS s3) (h.oldS s4)) hr2) rfl rfl rfl rfl ?_
  intro w3 S3 cs3 h
  obtain ⟨p6, k5, p7, k6, p8, k7, rfl, -, -, -⟩ := qI (h.own 0 rfl)
  obtain ⟨y2, hy2, hF⟩ := qd hF
  have he2 := qg hy2
  replace h := h.lrn0 1 rfl
  obtain ⟨b2, o_2, q2, cs4, hp2, hq2, -, hr3, hc3⟩ := (qif (h.lrnO 1 rfl)).1.at hy2
  have hr4 := hr3
  obtain ⟨p9, k8, p10, k9, p11, k10, rfl, s8, s9, s10⟩ := qI hr3
  replace h := h.lrnAdd 1 rfl hr4
  refine zx hp2 hq2 ⟨he2.1, qa8 he2.2.1 (qif (h.lrnO 1 rfl)).2⟩ rfl ?_
  replace h := h.unlrn 1 rfl
  refine qi7 qc r1 h hy2 hp2 hq2 rfl rfl rfl rfl rfl ?_
  intro w4 S4 h
  exact zNER (zp3 rfl (qb (qy m1 [(0, _), (3, _), (4, _)] (Nat.lt_succ_self m1) ⟨rfl, rfl, rfl, trivial⟩ ⟨_, _, _, hF, rfl, h⟩)))
 refine qF rfl ?_
 obtain rfl := qj hF; replace hF := hK1
 refine zSR (zp2 rfl (qb ?_))
 obtain rfl := qj hF
 exact qad qc (ρ := (List qe)) [GoT.v (List qe) [.slice p2 x1.length x1.length]] h ⟨rfl, trivial⟩ (PV.done h (qai (qaB 0 h rfl)))

def qef (n : Nat) (a : qe) (b : qe) : Option Bool :=
 bif (a.Kind != b.Kind) then
  some false
 else
  bif (a.Value != b.Value) then
   some false
  else
   (qa4 n a.From b.From).bind fun r1 =>
   bif (!r1) then
    some false
   else
    (qa4 n a.Through b.Through).bind fun r2 =>
    bif (!r2) then
     some false
    else
     (qa4 n a.To b.To).bind fun r3 =>
     bif (!r3) then
      some false
     else
      some true

theorem qkk {n : Nat} {w : World} {a : qe} {b : qe} {cs1 : List Value} (ha1 : GoT.R w (old w) a cs1) {cs2 : List Value} (ha2 : GoT.R w (old w) b cs2) {r : Bool} (hF : qef n a b = some r) : RetV Tryz.prog 54 [GoT.v qe cs1, GoT.v qe cs2] w r := by
 obtain ⟨p1, k1, p2, k2, p3, k3, rfl, s1, s2, s3⟩ := qI ha1
 obtain ⟨p4, k4, p5, k5, p6, k6, rfl, s4, s5, s6⟩ := qI ha2
 refine qf Tryz.func54 rfl (m := 33) rfl rfl (fun h => ?_)
 rw [qef] at hF
 refine zSR (qP h rfl rfl ?_)
 intro w1 bb1 h
 refine qP h rfl rfl ?_
 intro w2 bb2 h
 refine zp1 rfl (zNSSR (zp1 rfl (zl 1 0 h rfl (zp1 rfl (zl 0 0 h rfl (zp1 rfl (qb ?_)))))))
 refine qp rfl hF ?_ ?_ <;> intro hF
 ·exact zSR (zp1 rfl (qb (qx qc h hF ⟨rfl, trivial⟩)))
 refine zKSSR (zp1 rfl (zl 1 1 h rfl (zp1 rfl (zl 0 1 h rfl (zp1 rfl (qb ?_))))))
 refine qp rfl hF ?_ ?_ <;> intro hF
 ·exact zSR (zp1 rfl (qb (qx qc h hF ⟨rfl, trivial⟩)))
 refine zKSSR (zp1 rfl (zl 1 2 h rfl (zp1 rfl (zl 0 2 h rfl ?_))))
 obtain ⟨r1, hr1, hF⟩ := qd hF
 refine qm r1 h call19 (qa7 ⟨_, _, rfl, (h.oldS s1)⟩ ⟨_, _, rfl, (h.oldS s4)⟩ hr1) rfl rfl rfl rfl ?_
 intro w3 h
 refine zp1 rfl (qb ?_)
 refine qp rfl hF ?_ ?_ <;> intro hF
 ·exact zSR (zp1 rfl (qb (qx qc h hF ⟨rfl, trivial⟩)))
 refine zKSSR (zp1 rfl (zl 1 3 h rfl (zp1 rfl (zl 0 3 h rfl ?_))))
 obtain ⟨r2, hr2, hF⟩ := qd hF
 refine qm r2 h call19 (qa7 ⟨_, _, rfl, (h.oldS s2)⟩ ⟨_, _, rfl, (h.oldS s5)⟩ hr2) rfl rfl rfl rfl ?_
 intro w4 h
 refine zp1 rfl (qb ?_)
 refine qp rfl hF ?_ ?_ <;> intro hF
 ·exact zSR (zp1 rfl (qb (qx qc h hF ⟨rfl, trivial⟩)))
 refine zKSSR (zp1 rfl (zl 1 4 h rfl (zp1 rfl (zl 0 4 h rfl ?_))))
 obtain ⟨r3, hr3, hF⟩ := qd hF
 refine qm r3 h call19 (qa7 ⟨_, _, rfl, (h.oldS s3)⟩ ⟨_, _, rfl, (h.oldS s6)⟩ hr3) rfl rfl rfl rfl ?_
 intro w5 h
 refine zp1 rfl (qb ?_)
 refine qp rfl hF ?_ ?_ <;> intro hF
 ·exact zSR (zp1 rfl (qb (qx qc h hF ⟨rfl, trivial⟩)))
 exact zKSR (zp1 rfl (qb (qx qc h hF ⟨rfl, trivial⟩)))

def qb9 (a : (List qe)) (b : (List qe)) : Nat → Int → Option (Flow Bool Int)
 | 0, _ => none
 | n + 1, i1 =>
  bif decide (i1 < (a.length : Int)) then
   (idx a i1).bind fun y1 =>
   (idx b i1).bind fun y2 =>
   (qef n y1 y2).bind fun r1 =>
   bif (!r1) then
    some (.ret false)
   else
    qb9 a b n (W64 (i1 + 1))
  else
   some (.nxt i1)

def qeU (n : Nat) (a : (List qe)) (b : (List qe)) : Option Bool :=
 bif ((a.length : Int) != (b.length : Int)) then
  some false
 else
  (qb9 a b n 0).bind fun o => match o with
  | .ret r => some r
  | .nxt _ =>
   some true

theorem qj6 {n : Nat} {w : World} {a : (List qe)} {b : (List qe)} {cs1 : List Value} (ha1 : GoT.R w (old w) a cs1) {cs2 : List Value} (ha2 : GoT.R w (old w) b cs2) {r : Bool} (hF : qeU n a b = some r) : RetV Tryz.prog 18 [GoT.v (List qe) cs1, GoT.v (List qe) cs2] w r := by
 obtain ⟨p1, k1, rfl, s1⟩ := ha1
 obtain ⟨p2, k2, rfl, s2⟩ := ha2
 refine qf Tryz.func18 rfl (m := 27) rfl rfl (fun h => ?_)
 rw [qeU] at hF
 refine zSR (zp1 rfl (zNSSR (zp5 rfl ?_)))
 refine qb ?_
 refine qp rfl hF ?_ ?_ <;> intro hF
 ·exact zSR (zp1 rfl (qb (qx qc h hF ⟨rfl, trivial⟩)))
 refine zKSSR (zp1 rfl (qb ?_))
 obtain ⟨o1, hF, hK1⟩ := qd hF
 refine qA (qW [(0, _), (1, _), (5, _)] ⟨rfl, rfl, rfl, trivial⟩ ?_)
 refine qG (fun m e w' => ∃ (i1 : Int), qb9 a b m i1 = some o1 ∧ e = [(0, .slice p1 a.length k1), (1, .slice p2 b.length k2), (5, .int .i64 i1)] ∧ SH w w' []) n ⟨_, hF, rfl, h⟩ ?_
 rintro m1 e1 w1 ⟨i1, hF, rfl, h⟩
 rcases m1 with _ | m1
 ·rw [qb9] at hF
  cases hF
 rw [qb9] at hF
 refine zSSR (zp4 rfl (qb ?_))
 refine qp rfl hF ?_ ?_ <;> intro hF
 ·refine zKSB (qbl ?_)
  refine qb3 rfl (by kernel_rfl) ?_
  refine zd2 rfl ?_
  obtain ⟨y1, hy1, hF⟩ := qd hF
  have he1 := qg hy1
  obtain ⟨b1, o_1, q1, cs3, hp1, hq1, -, hr1, hc3⟩ := s1.at hy1
  obtain ⟨p3, k3, p4, k4, p5, k5, rfl, s3, s4, s5⟩ := qI hr1
  refine zdxe hp1 hq1 he1 rfl ?_
  refine zdc 0 (hc3.below h.below) rfl ?_
  refine zd2 rfl ?_
  obtain ⟨y2, hy2, hF⟩ := qd hF
  have he2 := qg hy2
  obtain ⟨b2, o_2, q2, cs4, hp2, hq2, -, hr2, hc4⟩ := s2.at hy2
  obtain ⟨p6, k6, p7, k7, p8, k8, rfl, s6, s7, s8⟩ := qI hr2
  refine zdxe hp2 hq2 he2 rfl ?_
  refine zdc 0 (hc4.below h.below) rfl ?_
  obtain ⟨r1, hr3, hF⟩ := qd hF
  refine qb7 r1 (vsB _) call54 (fun _ hb => qkk (qaO y1 ((h.ext hb).oldS s3) ((h.ext hb).oldS s4) ((h.ext hb).oldS s5)) (qaO y2 ((h.ext hb).oldS s6) ((h.ext hb).oldS s7) ((h.ext hb).oldS s8)) hr3) rfl rfl rfl rfl ?_
  refine zd1 rfl ?_
  refine qaR (fun w2 hb => ?_)
  replace h := h.ext hb
  clear hb
  refine qp rfl hF ?_ ?_ <;> intro hF
  ·refine zSR (zp1 rfl (qb ?_))
   obtain rfl := qj hF; replace hF := hK1
   exact qx qc h hF ⟨rfl, trivial⟩
  exact zKER (zp3 rfl (qb (qy m1 [(0, _), (1, _), (5, _)] (Nat.lt_succ_self m1) ⟨rfl, rfl, rfl, trivial⟩ ⟨_, hF, rfl, h⟩)))
 refine qF rfl ?_
 obtain rfl := qj hF; replace hF := hK1
 exact zSR (zp1 rfl (qb (qx qc h hF ⟨rfl, trivial⟩)))

end Go.Fw
